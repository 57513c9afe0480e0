/- Words and walks that Codec rests on: WorldE, WorldF. -/
import Derived.Test.YtlicefbgcoddbaaWCodec30
import Derived.Test.YtlicefbgcoddbaaWCodec29
/- The empty world: made, compared, read. -/
namespace Go.Proofs.Ytlicefbgcoddbaa
open Go.RowKit

def W0 : Wld := ⟨0, 1, 1, (0, 0), [], [], []⟩
def vW0 : Value := .agg #[.int .i64 0, .int .i64 1, .int .i64 1, .int .i64 0, .int .i64 0, .slice none 0 0, .slice none 0 0, .slice none 0 0]
theorem W0_reads (w : World) : WlS w vW0 W0 := ⟨_, _, _, [], rfl, ⟨Rd.ofOwn (e := 53) (base := 0) (World.ownsRow_nil _ _ _ _), by simp⟩, rfl, Rd.ofOwn (e := 82) (base := 0) (World.ownsRow_nil _ _ _ _), Rd.ofOwn (e := 95) (base := 0) (World.ownsRow_nil _ _ _ _)⟩
theorem WNew_any (w : World) : Calls Try.prog 17 #[] w fun e w' => e = .returned vW0 ∧ Chg [] w w' := by
  go_enter Try.func17, Try.ntmps17
  go_wp2
  refine bodyPost_ret (v := vW0) (by unfold vW0; simp only [results]; go_simp) rfl ⟨rfl, ?_⟩
  exact (Chg.refl [] w).alloc _
theorem EqualB0_any (f : Value) (w : World) : Calls Try.prog 47 #[.slice none 0 0, .slice none 0 0, f] w fun e w' => e = .returned (.bool true) ∧ Chg [] w w' := by
  go_enter Try.func47, Try.ntmps47
  go_wp2
  refine wp_loop_once ?_
  go_wp2
  go_ret
  exact ⟨rfl, Chg.refl _ _⟩
theorem EqualJ0_any (w : World) : Calls Try.prog 49 #[.slice none 0 0, .slice none 0 0] w fun e w' => e = .returned (.bool true) ∧ Chg [] w w' := by
  go_enter Try.func49, Try.ntmps49
  go_wp2
  refine wp_loop_once ?_
  go_wp2
  go_ret
  exact ⟨rfl, Chg.refl _ _⟩
theorem EqualC0_any (w : World) : Calls Try.prog 50 #[.slice none 0 0, .slice none 0 0] w fun e w' => e = .returned (.bool true) ∧ Chg [] w w' := by
  go_enter Try.func50, Try.ntmps50
  go_wp2
  refine wp_loop_once ?_
  go_wp2
  go_ret
  exact ⟨rfl, Chg.refl _ _⟩
theorem Same0_any (w : World) : Calls Try.prog 19 #[vW0, vW0] w fun e w' => e = .returned (.bool true) ∧ Chg [] w w' := by
  unfold vW0
  have hcx := ((Chg.refl [] w).alloc (.cells #[.int .i64 0, .int .i64 1, .int .i64 1, .int .i64 0, .int .i64 0, .slice none 0 0, .slice none 0 0, .slice none 0 0] 65)).alloc (.cells #[.int .i64 0, .int .i64 1, .int .i64 1, .int .i64 0, .int .i64 0, .slice none 0 0, .slice none 0 0, .slice none 0 0] 65)
  have hkx := (Blk.new w #[.int .i64 0, .int .i64 1, .int .i64 1, .int .i64 0, .int .i64 0, .slice none 0 0, .slice none 0 0, .slice none 0 0] 65).alloc (.cells #[.int .i64 0, .int .i64 1, .int .i64 1, .int .i64 0, .int .i64 0, .slice none 0 0, .slice none 0 0, .slice none 0 0] 65)
  have hky := Blk.new (w.alloc (.cells #[.int .i64 0, .int .i64 1, .int .i64 1, .int .i64 0, .int .i64 0, .slice none 0 0, .slice none 0 0, .slice none 0 0] 65)) #[.int .i64 0, .int .i64 1, .int .i64 1, .int .i64 0, .int .i64 0, .slice none 0 0, .slice none 0 0, .slice none 0 0] 65
  rw [World.size_alloc] at hky
  go_enter Try.func19, Try.ntmps19
  go_upto_region 3 with (fail)
  generalize (w.alloc (.cells #[.int .i64 0, .int .i64 1, .int .i64 1, .int .i64 0, .int .i64 0, .slice none 0 0, .slice none 0 0, .slice none 0 0] 65)).alloc (.cells #[.int .i64 0, .int .i64 1, .int .i64 1, .int .i64 0, .int .i64 0, .slice none 0 0, .slice none 0 0, .slice none 0 0] 65) = w0 at *
  generalize w.heap.size + 1 = yb at *
  generalize w.heap.size = xb at *
  have q4 := hkx.cell 5
  have r4 := hky.cell 5
  simp at q4 r4
  go_wp2_with (first
    | (go_at_call 47; refine (EqualB0_any _ _).mono ?_; rintro e w1 ⟨rfl, h1⟩; have q4 := (hkx.k h1).cell 6; have r4 := (hky.k h1).cell 6; simp at q4 r4)
    | (go_at_call 49; refine (EqualJ0_any _).mono ?_; rintro e w2 ⟨rfl, h2⟩; have q4 := ((hkx.k h1).k h2).cell 7; have r4 := ((hky.k h1).k h2).cell 7; simp at q4 r4)
    | (go_at_call 50; refine (EqualC0_any _).mono ?_; rintro e w3 ⟨rfl, h3⟩))
  go_ret
  exact ⟨rfl, ((hcx.k' h1).k' h2).k' h3⟩
theorem SevB0_any (x f : Value) (w : World) : Calls Try.prog 40 #[.agg #[x], .int .i64 0, f] w fun e w' => e = .returned (.slice none 0 0) ∧ Chg [] w w' := by
  go_enter Try.func40, Try.ntmps40
  go_wp2
  refine wp_loop_once ?_
  go_wp2
  go_ret
  exact ⟨rfl, (Chg.refl _ _).alloc _⟩
theorem SevJ0_any (x f : Value) (w : World) : Calls Try.prog 42 #[.agg #[x], .int .i64 0, f] w fun e w' => e = .returned (.slice none 0 0) ∧ Chg [] w w' := by
  go_enter Try.func42, Try.ntmps42
  go_wp2
  refine wp_loop_once ?_
  go_wp2
  go_ret
  exact ⟨rfl, (Chg.refl _ _).alloc _⟩
theorem SevC0_any (x f : Value) (w : World) : Calls Try.prog 44 #[.agg #[x], .int .i64 0, f] w fun e w' => e = .returned (.slice none 0 0) ∧ Chg [] w w' := by
  go_enter Try.func44, Try.ntmps44
  go_wp2
  refine wp_loop_once ?_
  go_wp2
  go_ret
  exact ⟨rfl, (Chg.refl _ _).alloc _⟩
theorem RisB0_any (f : Value) (w : World) : Calls Try.prog 59 #[.slice none 0 0, .int .i64 1, f] w fun e w' => e = .returned (.bool true) ∧ Chg [] w w' := by
  go_enter Try.func59, Try.ntmps59
  go_wp2
  refine wp_loop_once ?_
  go_wp2
  go_ret
  exact ⟨rfl, Chg.refl _ _⟩
theorem RisJ0_any (f : Value) (w : World) : Calls Try.prog 61 #[.slice none 0 0, .int .i64 1, f] w fun e w' => e = .returned (.bool true) ∧ Chg [] w w' := by
  go_enter Try.func61, Try.ntmps61
  go_wp2
  refine wp_loop_once ?_
  go_wp2
  go_ret
  exact ⟨rfl, Chg.refl _ _⟩
end Go.Proofs.Ytlicefbgcoddbaa

/- The bytes of the empty world are read. -/
namespace Go.Proofs.Ytlicefbgcoddbaa
open Go.RowKit

theorem Right0_any (w : World) : Calls Try.prog 46 #[vW0] w fun e w' => e = .returned (.bool true) ∧ Chg [] w w' := by
  unfold vW0
  have hcx := (Chg.refl [] w).alloc (.cells #[.int .i64 0, .int .i64 1, .int .i64 1, .int .i64 0, .int .i64 0, .slice none 0 0, .slice none 0 0, .slice none 0 0] 65)
  have hkx := Blk.new w #[.int .i64 0, .int .i64 1, .int .i64 1, .int .i64 0, .int .i64 0, .slice none 0 0, .slice none 0 0, .slice none 0 0] 65
  go_enter Try.func46, Try.ntmps46
  go_upto_region 1 with (fail)
  generalize w.alloc (.cells #[.int .i64 0, .int .i64 1, .int .i64 1, .int .i64 0, .int .i64 0, .slice none 0 0, .slice none 0 0, .slice none 0 0] 65) = w0 at *
  generalize w.heap.size = xb at *
  have q0 := hkx.cell 0
  have q1 := hkx.cell 1
  have q2 := hkx.cell 2
  have q3 := hkx.cell 3
  have q4 := hkx.cell 4
  have q5 := hkx.cell 5
  have q6 := hkx.cell 6
  have q7 := hkx.cell 7
  simp at q0 q1 q2 q3 q4 q5 q6 q7
  have hc := WWithin_any (0, 0) 17592186044416 ⟨by unfold I64; simp, by unfold I64; simp⟩
  unfold vV at hc
  rw [show nearV (0, 0) 17592186044416 = true from rfl] at hc
  go_upto_region 3 with (go_at_call 56; refine (hc _).mono ?_; rintro e w1 ⟨rfl, h1⟩)
  clear q0 q1 q2 q3 q4 q5 q6 q7
  replace hkx := hkx.k h1
  have q1 := hkx.cell 1
  have q2 := hkx.cell 2
  have q5 := hkx.cell 5
  have q6 := hkx.cell 6
  simp at q1 q2 q5 q6
  go_wp2_with (first
    | (go_at_call 59; refine (RisB0_any _ _).mono ?_; rintro e w2 ⟨rfl, h2⟩; have q2 := (hkx.k h2).cell 2; have q6 := (hkx.k h2).cell 6; simp at q2 q6)
    | (go_at_call 61; refine (RisJ0_any _ _).mono ?_; rintro e w3 ⟨rfl, h3⟩; have q5 := ((hkx.k h2).k h3).cell 5; have q6 := ((hkx.k h2).k h3).cell 6; have q7 := ((hkx.k h2).k h3).cell 7; simp at q5 q6 q7))
  refine wp_loop_once ?_
  go_wp2
  refine wp_loop_once ?_
  go_wp2
  refine wp_loop_once ?_
  go_wp2
  go_ret
  exact ⟨rfl, ((hcx.k' h1).k' h2).k' h3⟩

def z0 : St := (leW W0, false)
def z1 : St := (numR 8 z0).2
def z2 : St := (numR 8 z1).2
def z3 : St := (numR 8 z2).2
def z4 : St := (plR z3).2
def z5 : St := (countR 1024 z4).2
def z6 : St := (countR 1024 z5).2
def z7 : St := (numR 4 z6).2
theorem z0e : (numR 8 z0).1 = 0 := by kernel_rfl
theorem z1e : (numR 8 z1).1 = 1 := by kernel_rfl
theorem z2e : (numR 8 z2).1 = 1 := by kernel_rfl
theorem z3e : (plR z3).1 = (0, 0) := by kernel_rfl
theorem z4e : (countR 1024 z4).1 = 0 := by kernel_rfl
theorem z5e : (countR 1024 z5).1 = 0 := by kernel_rfl
theorem z6e : (numR 4 z6).1 = 0 := by kernel_rfl
theorem z7e : (!z7.2 && z7.1.isEmpty) = true := by kernel_rfl
theorem RdB.lit {base b : Nat} {cur : World} {s : St} (h : RdB base cur b s) (cs : Array Value) (t : TypeId) : RdB base (cur.alloc (.cells cs t)) b s ∧ Blk (cur.alloc (.cells cs t)) cur.heap.size cs t ∧ b < cur.heap.size := by
  obtain ⟨v, h1, h2, h3, h4⟩ := h
  exact ⟨RdB.k ⟨v, h1, h2, h3, h4⟩ ((Chg.refl [] _).alloc _), Blk.new _ _ _, h1.lt⟩
end Go.Proofs.Ytlicefbgcoddbaa
