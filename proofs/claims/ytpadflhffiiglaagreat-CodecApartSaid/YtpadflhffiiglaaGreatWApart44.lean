/- Words and walks that Apart rests on: WorldE, GoodW, Do, Made, WCopy, WorldF. -/
import Derived.Test.YtpadflhffiiglaaGreatWApart40
import Derived.Test.YtpadflhffiiglaaGreatWApart30
import Derived.Test.YtpadflhffiiglaaGreatWApart41
import Derived.Test.YtpadflhffiiglaaGreatWApart34
import Derived.Test.YtpadflhffiiglaaGreatWApart35
/- The empty world: made, compared, read. -/
namespace Go.Proofs.YtpadflhffiiglaaGreat
open Go.RowKit

def W0 : Wld := ⟨0, 1, 1, (0, 0), [], [], []⟩
def vW0 : Value := .agg #[.int .i64 0, .int .i64 1, .int .i64 1, .int .i64 0, .int .i64 0, .slice none 0 0, .slice none 0 0, .slice none 0 0]
theorem W0_reads (w : World) : WlS w vW0 W0 := ⟨_, _, _, [], rfl, ⟨Rd.ofOwn (e := 34) (base := 0) (World.ownsRow_nil _ _ _ _), by simp⟩, rfl, Rd.ofOwn (e := 67) (base := 0) (World.ownsRow_nil _ _ _ _), Rd.ofOwn (e := 70) (base := 0) (World.ownsRow_nil _ _ _ _)⟩
theorem WNew_any (w : World) : Calls Tryz.prog 14 #[] w fun e w' => e = .returned vW0 ∧ Chg [] w w' := by
  go_enter Tryz.func14, Tryz.ntmps14
  go_wp2
  refine bodyPost_ret (v := vW0) (by unfold vW0; simp only [results]; go_simp) rfl ⟨rfl, ?_⟩
  exact (Chg.refl [] w).alloc _
theorem EqualB0_any (f : Value) (w : World) : Calls Tryz.prog 31 #[.slice none 0 0, .slice none 0 0, f] w fun e w' => e = .returned (.bool true) ∧ Chg [] w w' := by
  go_enter Tryz.func31, Tryz.ntmps31
  go_wp2
  refine wp_loop_once ?_
  go_wp2
  go_ret
  exact ⟨rfl, Chg.refl _ _⟩
theorem EqualJ0_any (w : World) : Calls Tryz.prog 33 #[.slice none 0 0, .slice none 0 0] w fun e w' => e = .returned (.bool true) ∧ Chg [] w w' := by
  go_enter Tryz.func33, Tryz.ntmps33
  go_wp2
  refine wp_loop_once ?_
  go_wp2
  go_ret
  exact ⟨rfl, Chg.refl _ _⟩
theorem EqualC0_any (w : World) : Calls Tryz.prog 34 #[.slice none 0 0, .slice none 0 0] w fun e w' => e = .returned (.bool true) ∧ Chg [] w w' := by
  go_enter Tryz.func34, Tryz.ntmps34
  go_wp2
  refine wp_loop_once ?_
  go_wp2
  go_ret
  exact ⟨rfl, Chg.refl _ _⟩
theorem Same0_any (w : World) : Calls Tryz.prog 10 #[vW0, vW0] w fun e w' => e = .returned (.bool true) ∧ Chg [] w w' := by
  unfold vW0
  have hcx := ((Chg.refl [] w).alloc (.cells #[.int .i64 0, .int .i64 1, .int .i64 1, .int .i64 0, .int .i64 0, .slice none 0 0, .slice none 0 0, .slice none 0 0] 42)).alloc (.cells #[.int .i64 0, .int .i64 1, .int .i64 1, .int .i64 0, .int .i64 0, .slice none 0 0, .slice none 0 0, .slice none 0 0] 42)
  have hkx := (Blk.new w #[.int .i64 0, .int .i64 1, .int .i64 1, .int .i64 0, .int .i64 0, .slice none 0 0, .slice none 0 0, .slice none 0 0] 42).alloc (.cells #[.int .i64 0, .int .i64 1, .int .i64 1, .int .i64 0, .int .i64 0, .slice none 0 0, .slice none 0 0, .slice none 0 0] 42)
  have hky := Blk.new (w.alloc (.cells #[.int .i64 0, .int .i64 1, .int .i64 1, .int .i64 0, .int .i64 0, .slice none 0 0, .slice none 0 0, .slice none 0 0] 42)) #[.int .i64 0, .int .i64 1, .int .i64 1, .int .i64 0, .int .i64 0, .slice none 0 0, .slice none 0 0, .slice none 0 0] 42
  rw [World.size_alloc] at hky
  go_enter Tryz.func10, Tryz.ntmps10
  go_upto_region 3 with (fail)
  generalize (w.alloc (.cells #[.int .i64 0, .int .i64 1, .int .i64 1, .int .i64 0, .int .i64 0, .slice none 0 0, .slice none 0 0, .slice none 0 0] 42)).alloc (.cells #[.int .i64 0, .int .i64 1, .int .i64 1, .int .i64 0, .int .i64 0, .slice none 0 0, .slice none 0 0, .slice none 0 0] 42) = w0 at *
  generalize w.heap.size + 1 = yb at *
  generalize w.heap.size = xb at *
  have q4 := hkx.cell 5
  have r4 := hky.cell 5
  simp at q4 r4
  go_wp2_with (first
    | (go_at_call 31; refine (EqualB0_any _ _).mono ?_; rintro e w1 ⟨rfl, h1⟩; have q4 := (hkx.k h1).cell 6; have r4 := (hky.k h1).cell 6; simp at q4 r4)
    | (go_at_call 33; refine (EqualJ0_any _).mono ?_; rintro e w2 ⟨rfl, h2⟩; have q4 := ((hkx.k h1).k h2).cell 7; have r4 := ((hky.k h1).k h2).cell 7; simp at q4 r4)
    | (go_at_call 34; refine (EqualC0_any _).mono ?_; rintro e w3 ⟨rfl, h3⟩))
  go_ret
  exact ⟨rfl, ((hcx.k' h1).k' h2).k' h3⟩
theorem SevB0_any (x f : Value) (w : World) : Calls Tryz.prog 41 #[.agg #[x], .int .i64 0, f] w fun e w' => e = .returned (.slice none 0 0) ∧ Chg [] w w' := by
  go_enter Tryz.func41, Tryz.ntmps41
  go_wp2
  refine wp_loop_once ?_
  go_wp2
  go_ret
  exact ⟨rfl, (Chg.refl _ _).alloc _⟩
theorem SevJ0_any (x f : Value) (w : World) : Calls Tryz.prog 44 #[.agg #[x], .int .i64 0, f] w fun e w' => e = .returned (.slice none 0 0) ∧ Chg [] w w' := by
  go_enter Tryz.func44, Tryz.ntmps44
  go_wp2
  refine wp_loop_once ?_
  go_wp2
  go_ret
  exact ⟨rfl, (Chg.refl _ _).alloc _⟩
theorem SevC0_any (x f : Value) (w : World) : Calls Tryz.prog 46 #[.agg #[x], .int .i64 0, f] w fun e w' => e = .returned (.slice none 0 0) ∧ Chg [] w w' := by
  go_enter Tryz.func46, Tryz.ntmps46
  go_wp2
  refine wp_loop_once ?_
  go_wp2
  go_ret
  exact ⟨rfl, (Chg.refl _ _).alloc _⟩
theorem RisB0_any (f : Value) (w : World) : Calls Tryz.prog 81 #[.slice none 0 0, .int .i64 1, f] w fun e w' => e = .returned (.bool true) ∧ Chg [] w w' := by
  go_enter Tryz.func81, Tryz.ntmps81
  go_wp2
  refine wp_loop_once ?_
  go_wp2
  go_ret
  exact ⟨rfl, Chg.refl _ _⟩
theorem RisJ0_any (f : Value) (w : World) : Calls Tryz.prog 83 #[.slice none 0 0, .int .i64 1, f] w fun e w' => e = .returned (.bool true) ∧ Chg [] w w' := by
  go_enter Tryz.func83, Tryz.ntmps83
  go_wp2
  refine wp_loop_once ?_
  go_wp2
  go_ret
  exact ⟨rfl, Chg.refl _ _⟩
end Go.Proofs.YtpadflhffiiglaaGreat

/- Worlds that may be; what comes and goes leaves such worlds (plain). -/
namespace Go.Proofs.YtpadflhffiiglaaGreat
open Go.RowKit

def ltC (x y : Cnt) : Prop := x.a < y.a ∨ (x.a = y.a ∧ (x.b < y.b ∨ (x.b = y.b ∧ x.key < y.key)))
structure GW (X : Wld) : Prop where
  fit : FitW X
  t : 0 ≤ X.tick ∧ X.tick ≤ 4611686018427387904
  nb : 1 ≤ X.nb ∧ X.nb ≤ 4611686018427387904
  nj : 1 ≤ X.nj ∧ X.nj ≤ 4611686018427387904
  grav : nearV X.grav 17592186044416 = true
  rb : risI (X.bodies.map (·.id))
  rb0 : ∀ x ∈ X.bodies, 1 ≤ x.id ∧ x.id < X.nb
  rj : risI (X.joints.map (·.id))
  rj0 : ∀ x ∈ X.joints, 1 ≤ x.id ∧ x.id < X.nj
  b : ∀ x ∈ X.bodies, rightB x = true
  j : ∀ x ∈ X.joints, rightJ x = true ∧ x.a ∈ X.bodies.map (·.id) ∧ x.b ∈ X.bodies.map (·.id)
  c : ∀ x ∈ X.contacts, x.a < x.b ∧ 0 ≤ x.key ∧ 0 ≤ x.n ∧ x.a ∈ X.bodies.map (·.id) ∧ x.b ∈ X.bodies.map (·.id)
  cs : X.contacts.Pairwise ltC
structure IB (b : Bdy) : Prop where
  pos : IV b.pos
  vel : IV b.vel
  angle : I64 b.angle
  spin : I64 b.spin
  density : I64 b.density
  sr : I64 b.shape.r
  sp : ∀ x ∈ b.shape.p, IV x
structure IJ (j : Jnt) : Prop where
  a : I64 j.a
  b : I64 j.b
  at_ : IV j.at_
  to_ : IV j.to_
  len : I64 j.len
theorem fnd_mem {l : List Int} {x : Int} : (fndI l x).2 = true ↔ x ∈ l := by unfold fndI; split <;> simp_all
theorem ris_snoc {l : List Int} {x : Int} (h : risI l) (hx : ∀ y ∈ l, y < x) : risI (l ++ [x]) := by
  unfold risI at *
  rw [List.pairwise_append]
  exact ⟨h, by simp, fun a ha b hb => by obtain rfl := List.mem_singleton.1 hb; exact hx a ha⟩
theorem stay_sub {α : Type} (p : α → Bool) (l : List α) : (stay p l).Sublist l := List.filter_sublist
theorem mem_stay {α : Type} {p : α → Bool} {l : List α} {x : α} : x ∈ stay p l ↔ x ∈ l ∧ p x = false := by unfold stay; rw [List.mem_filter]; simp
theorem addB_GW {X : Wld} (h : GW X) (b : Bdy) (hb : IB b) : GW (addB X b).1 := by
  unfold addB
  split
  · exact h
  rename_i hr
  split
  · exact h
  rename_i hf
  have hr : rightB b = true := by simpa using hr
  have hn := h.nb
  have hI : I64 X.nb := h.fit.nb
  have hmono : ∀ x ∈ X.bodies.map (·.id), x ∈ (X.bodies ++ [({ b with id := X.nb } : Bdy)]).map Bdy.id := fun x hx => by rw [List.map_append]; exact List.mem_append_left _ hx
  refine ⟨⟨h.fit.tick, ?_, h.fit.nj, h.fit.grav, ?_, h.fit.j, h.fit.c, ?_, h.fit.jl, h.fit.cl⟩, h.t, ⟨by dsimp only; omega, by dsimp only; omega⟩, h.nj, h.grav, ?_, ?_, h.rj, h.rj0, ?_, fun x hx => ⟨(h.j x hx).1, hmono _ (h.j x hx).2.1, hmono _ (h.j x hx).2.2⟩, fun x hx => ⟨(h.c x hx).1, (h.c x hx).2.1, (h.c x hx).2.2.1, hmono _ (h.c x hx).2.2.2.1, hmono _ (h.c x hx).2.2.2.2⟩, h.cs⟩
  · unfold I64 at *; dsimp only; omega
  · intro x hx
    rcases List.mem_append.1 hx with h' | h'
    · exact h.fit.b x h'
    · obtain rfl := List.mem_singleton.1 h'
      exact ⟨hI, hb.pos, hb.vel, hb.angle, hb.spin, hb.density, rightB_s hr, hb.sr, hb.sp⟩
  · dsimp only; rw [List.length_append, List.length_singleton]; omega
  · dsimp only
    rw [List.map_append]
    exact ris_snoc h.rb (fun y hy => by obtain ⟨x, hx, rfl⟩ := List.mem_map.1 hy; exact (h.rb0 x hx).2)
  · intro x hx
    dsimp only at hx ⊢
    rcases List.mem_append.1 hx with h' | h'
    · have := h.rb0 x h'; omega
    · obtain rfl := List.mem_singleton.1 h'
      dsimp only; omega
  · intro x hx
    rcases List.mem_append.1 hx with h' | h'
    · exact h.b x h'
    · obtain rfl := List.mem_singleton.1 h'
      exact hr
theorem addJ_GW {X : Wld} (h : GW X) (j : Jnt) (hj : IJ j) : GW (addJ X j).1 := by
  unfold addJ
  split
  · exact h
  rename_i hr
  split
  · exact h
  rename_i hm
  split
  · exact h
  rename_i hf
  have hr : rightJ j = true := by simpa using hr
  have hma : j.a ∈ X.bodies.map (·.id) := fnd_mem.1 (by cases hq : (fndI (X.bodies.map (·.id)) j.a).2 <;> simp_all)
  have hmb : j.b ∈ X.bodies.map (·.id) := fnd_mem.1 (by cases hq : (fndI (X.bodies.map (·.id)) j.b).2 <;> simp_all)
  have hn := h.nj
  have hI : I64 X.nj := h.fit.nj
  refine ⟨⟨h.fit.tick, h.fit.nb, ?_, h.fit.grav, h.fit.b, ?_, h.fit.c, h.fit.bl, ?_, h.fit.cl⟩, h.t, h.nb, ⟨by dsimp only; omega, by dsimp only; omega⟩, h.grav, h.rb, h.rb0, ?_, ?_, h.b, ?_, h.c, h.cs⟩
  · unfold I64 at *; dsimp only; omega
  · intro x hx
    rcases List.mem_append.1 hx with h' | h'
    · exact h.fit.j x h'
    · obtain rfl := List.mem_singleton.1 h'
      exact ⟨hI, hj.a, hj.b, hj.at_, hj.to_, hj.len⟩
  · dsimp only; rw [List.length_append, List.length_singleton]; omega
  · dsimp only
    rw [List.map_append]
    exact ris_snoc h.rj (fun y hy => by obtain ⟨x, hx, rfl⟩ := List.mem_map.1 hy; exact (h.rj0 x hx).2)
  · intro x hx
    dsimp only at hx ⊢
    rcases List.mem_append.1 hx with h' | h'
    · have := h.rj0 x h'; omega
    · obtain rfl := List.mem_singleton.1 h'
      dsimp only; omega
  · intro x hx
    rcases List.mem_append.1 hx with h' | h'
    · exact h.j x h'
    · obtain rfl := List.mem_singleton.1 h'
      exact ⟨hr, hma, hmb⟩
theorem ids_stay {l : List Bdy} {id x : Int} (h : x ∈ l.map (·.id)) (hne : x ≠ id) : x ∈ (stay (fun b => b.id == id) l).map (·.id) := by
  obtain ⟨b, hb, rfl⟩ := List.mem_map.1 h
  exact List.mem_map.2 ⟨b, mem_stay.2 ⟨hb, by rw [beq_eq_false_iff_ne]; exact hne⟩, rfl⟩
theorem ab_no {a b id : Int} (h : (a == id || b == id) = false) : a ≠ id ∧ b ≠ id := by
  rw [Bool.or_eq_false_iff, beq_eq_false_iff_ne, beq_eq_false_iff_ne] at h
  exact h
theorem remB_GW {X : Wld} (h : GW X) (id : Int) : GW (remB X id).1 := by
  unfold remB
  split
  · exact h
  have hB := stay_sub (fun b : Bdy => b.id == id) X.bodies
  have hJ := stay_sub (fun b : Jnt => b.a == id || b.b == id) X.joints
  have hC := stay_sub (fun b : Cnt => b.a == id || b.b == id) X.contacts
  exact ⟨⟨h.fit.tick, h.fit.nb, h.fit.nj, h.fit.grav, fun x hx => h.fit.b x (hB.subset hx), fun x hx => h.fit.j x (hJ.subset hx), fun x hx => h.fit.c x (hC.subset hx),
    Nat.le_trans hB.length_le h.fit.bl, Nat.le_trans hJ.length_le h.fit.jl, Nat.lt_of_le_of_lt hC.length_le h.fit.cl⟩, h.t, h.nb, h.nj, h.grav,
    h.rb.sublist (hB.map _), fun x hx => h.rb0 x (hB.subset hx), h.rj.sublist (hJ.map _), fun x hx => h.rj0 x (hJ.subset hx), fun x hx => h.b x (hB.subset hx),
    fun x hx => by
      obtain ⟨h1, h2⟩ := mem_stay.1 hx
      obtain ⟨ha, hb⟩ := ab_no h2
      exact ⟨(h.j x h1).1, ids_stay (h.j x h1).2.1 ha, ids_stay (h.j x h1).2.2 hb⟩,
    fun x hx => by
      obtain ⟨h1, h2⟩ := mem_stay.1 hx
      obtain ⟨ha, hb⟩ := ab_no h2
      obtain ⟨c1, c2, c3, c4, c5⟩ := h.c x h1
      exact ⟨c1, c2, c3, ids_stay c4 ha, ids_stay c5 hb⟩,
    h.cs.sublist hC⟩
theorem remJ_GW {X : Wld} (h : GW X) (id : Int) : GW (remJ X id).1 := by
  unfold remJ
  split
  · exact h
  have hJ := stay_sub (fun b : Jnt => b.id == id) X.joints
  exact ⟨⟨h.fit.tick, h.fit.nb, h.fit.nj, h.fit.grav, h.fit.b, fun x hx => h.fit.j x (hJ.subset hx), h.fit.c, h.fit.bl, Nat.le_trans hJ.length_le h.fit.jl, h.fit.cl⟩, h.t, h.nb, h.nj, h.grav,
    h.rb, h.rb0, h.rj.sublist (hJ.map _), fun x hx => h.rj0 x (hJ.subset hx), h.b, fun x hx => h.j x (hJ.subset hx), h.c, h.cs⟩
theorem bodyD_IB (d : Deed) (h : ID d) : IB (bodyD d) := by
  obtain ⟨s1, s2, s3⟩ := shapeSd_I d.place.seed
  have z : I64 0 := by unfold I64; simp
  have zv : IV (0, 0) := ⟨z, z⟩
  have p1 := bringV_I d.place.pos 4294967296000 (by omega) (by omega)
  have p2 := bringV_I d.vel 85899345920 (by omega) (by omega)
  have p3 := bringF_I d.spin 85899345920 (by omega) (by omega)
  have p4 : I64 (d.place.angle % 4294967296) := by unfold I64; omega
  have p5 : I64 (1 + d.density % 34359738368) := by unfold I64; omega
  unfold bodyD bodyPl
  split
  · exact ⟨h.pos, h.vel, h.angle, h.spin, h.density, h.sr, h.sp⟩
  · split
    · exact ⟨p1, zv, p4, z, z, s2, s3⟩
    · exact ⟨p1, p2, p4, p3, p5, s2, s3⟩
theorem jointD_IJ (d : Deed) (h : ID d) : IJ (jointD d) :=
  ⟨by unfold jointD I64; dsimp only; omega, by unfold jointD I64; dsimp only; omega, bringV_I d.at_ 17179869184 (by omega) (by omega), bringV_I d.to_ 17179869184 (by omega) (by omega), h.len⟩
/-- A deed, done; worlds made of deeds. -/
def doW (X : Wld) (d : Deed) : Wld × Int × Int × Bool :=
  if d.kind % 8 = 4 ∨ d.kind % 8 = 5 then ((addJ X (jointD d)).1, (addJ X (jointD d)).2.1, (addJ X (jointD d)).2.2, false)
  else if d.kind % 8 = 6 then ((remB X (d.a % 16)).1, 0, 0, (remB X (d.a % 16)).2)
  else if d.kind % 8 = 3 then ((remJ X (d.a % 16)).1, 0, 0, (remJ X (d.a % 16)).2)
  else ((addB X (bodyD d)).1, (addB X (bodyD d)).2.1, (addB X (bodyD d)).2.2, false)
theorem doW_GW {X : Wld} (h : GW X) (d : Deed) (hd : ID d) : GW (doW X d).1 := by
  unfold doW
  split
  · exact addJ_GW h _ (jointD_IJ d hd)
  · split
    · exact remB_GW h _
    · split
      · exact remJ_GW h _
      · exact addB_GW h _ (bodyD_IB d hd)
theorem doW_c {X : Wld} (h : X.contacts = []) (d : Deed) : (doW X d).1.contacts = [] := by
  unfold doW addJ remB remJ addB
  repeat' split
  all_goals first | exact h | (simp only; rw [h]; rfl)
def madeW (l : List Deed) : Wld := l.foldl (fun X d => (doW X d).1) W0
theorem W0_GW : GW W0 := by
  have z : I64 0 := by unfold I64; simp
  have o : I64 1 := by unfold I64; simp
  exact ⟨⟨z, o, o, ⟨z, z⟩, by simp [W0], by simp [W0], by simp [W0], by simp [W0], by simp [W0], by simp [W0]⟩, by simp [W0], by simp [W0], by simp [W0], by simp [W0, nearV, absF], by simp [W0, risI], by simp [W0], by simp [W0, risI], by simp [W0], by simp [W0], by simp [W0], by simp [W0], by simp [W0]⟩
theorem fold_GW : ∀ (l : List Deed) (X : Wld), GW X → (∀ d ∈ l, ID d) → GW (l.foldl (fun X d => (doW X d).1) X)
  | [], _, h, _ => h
  | d :: l, X, h, hl => fold_GW l _ (doW_GW h d (hl d (by simp))) (fun x hx => hl x (by simp [hx]))
theorem fold_c : ∀ (l : List Deed) (X : Wld), X.contacts = [] → (l.foldl (fun X d => (doW X d).1) X).contacts = []
  | [], _, h => h
  | d :: l, _X, h => fold_c l _ (doW_c h d)
theorem made_GW (l : List Deed) (h : ∀ d ∈ l, ID d) : GW (madeW l) := fold_GW l W0 W0_GW h
theorem made_c (l : List Deed) : (madeW l).contacts = [] := fold_c l W0 rfl
theorem made_snoc (l : List Deed) (d : Deed) : madeW (l ++ [d]) = (doW (madeW l) d).1 := by unfold madeW; rw [List.foldl_append]; rfl
end Go.Proofs.YtpadflhffiiglaaGreat

/- law09: a deed is done to a world. -/
namespace Go.Proofs.YtpadflhffiiglaaGreat
open Go.RowKit

def DoOut (w : World) (wb : Nat) (S : List Nat) (X : Wld) (d : Deed) (e : Ending) (w' : World) : Prop :=
  e = .returned (.tuple #[.int .i64 (doW X d).2.1, .int .i64 (doW X d).2.2.1, .bool (doW X d).2.2.2]) ∧ Chg [wb] w w' ∧ ∃ bv' jv' kv' L', WB w' wb S bv' jv' kv' L' (doW X d).1
set_option maxRecDepth 100000 in
set_option maxHeartbeats 8000000 in
theorem Do_any (w : World) (wb : Nat) (S : List Nat) (bv jv kv : Value) (L : List BV) (X : Wld) (d : Deed) (pv : Value) (h : WB w wb S bv jv kv L X) (hg : GW X) (hpv : VsS w pv d.raw.shape.p) (hI : ID d) :
    Calls Tryz.prog 8 #[vD d pv, .pointer (some ⟨wb, 0, none⟩)] w (DoOut w wb S X d) := by
  have hJ := fun W (hW : VsS W pv d.raw.shape.p) => DeedJoint_any d pv W hW
  have hB := fun W (hW : VsS W pv d.raw.shape.p) => DeedBody_any d pv W hW
  have hbl : X.bodies.length ≤ 100000000000 := by have := hg.fit.bl; omega
  have hjl : X.joints.length ≤ 100000000000 := by have := hg.fit.jl; omega
  have hcl : X.contacts.length ≤ 100000000000 := by have := hg.fit.cl; omega
  have hij := jointD_IJ d hI
  have hib := bodyD_IB d hI
  have hAJ := fun W (hW : WB W wb S bv jv kv L X) => AddJoint_any W wb S bv jv kv L X (jointD d) hW hij.at_ hij.to_ hbl hg.rb hjl hg.fit.nj
  have hAB := fun W bw (hW : WB W wb S bv jv kv L X) (hb : VsS W bw (bodyD d).shape.p) => AddBody_any W wb S bv jv kv L X (bodyD d) bw hW hb hib.sp hib.pos hib.vel hib.spin hbl hg.fit.nb
  have hRB := fun W (hW : WB W wb S bv jv kv L X) => RemBody_any W wb S bv jv kv L X (d.a % 16) hW hbl hg.rb hjl hcl
  have hRJ := fun W (hW : WB W wb S bv jv kv L X) => RemJoint_any W wb S bv jv kv L X (d.a % 16) hW hjl hg.rj
  obtain ⟨P, hP⟩ : ∃ P : Ending → World → Prop, P = DoOut w wb S X d := ⟨_, rfl⟩
  rw [← hP]
  have HP := hd hP
  unfold DoOut doW at HP
  clear hP hbl hjl hcl hij hib hg hI
  have u1 : bits .and .i64 d.kind 7 = d.kind % 8 := and_mask d.kind 3 (by decide)
  have u2 : bits .and .i64 d.a 15 = d.a % 16 := and_mask d.a 4 (by decide)
  generalize d.kind % 8 = m at *
  generalize d.a % 16 = a16 at *
  have hc0 := (Chg.refl [] w).alloc (.cells (cD d pv).toArray 36)
  have hk0 := Blk.new w (cD d pv).toArray 36
  unfold vD at *
  go_enter Tryz.func8, Tryz.ntmps8
  go_upto_region 1 with (fail)
  have HW0 := hd (h.k hc0)
  have HV0 := hd (hpv.k hc0)
  have HC0 := hd hc0
  clear h hpv hc0
  generalize w.alloc (.cells (cD d pv).toArray 36) = w0 at *
  generalize w.heap.size = xb at *
  have q0 := hk0.cell 0
  have q12 := hk0.cell 12
  simp [cD] at q0 q12
  have HK := hd hk0
  clear hk0
  by_cases m4 : m = 4 ∨ m = 5
  · rw [if_pos m4] at HP
    rcases m4 with rfl | rfl
    all_goals
      go_wp2_with (first
        | (refine wpList_load_row rfl _ _ rfl xb rfl 36 _ (0, 0) _ HK.out Tryz.underlying36 rfl (by kernel_rfl) ?_)
        | (go_at_call 21; refine (hJ _ HV0.out).mono ?_; rintro e w1 ⟨rfl, h1⟩)
        | (go_at_call 20; refine (hAJ _ (HW0.out.k h1)).mono ?_; rintro e w2 ⟨rfl, h2, jv', hW2⟩))
      rw [HP.out]
      refine bodyPost_ret (v := .tuple #[.int .i64 (addJ X (jointD d)).2.1, .int .i64 (addJ X (jointD d)).2.2, .bool false]) (by simp only [results]; go_simp) rfl ⟨rfl, (HC0.out.k h1).mono (by simp) |>.trans h2 (fun x hx _ => hx), _, _, _, _, hW2⟩
  rw [if_neg m4] at HP
  have g4 : (m == 4) = false := by rw [beq_eq_false_iff_ne]; omega
  have g5 : (m == 5) = false := by rw [beq_eq_false_iff_ne]; omega
  by_cases m6 : m = 6
  · rw [if_pos m6] at HP
    subst m6
    go_wp2_with (go_at_call 22; refine (hRB _ HW0.out).mono ?_; rintro e w2 ⟨rfl, h2, bv', jv', kv', L', hW2⟩)
    rw [HP.out]
    refine bodyPost_ret (v := .tuple #[.int .i64 0, .int .i64 0, .bool (remB X a16).2]) (by simp only [results]; go_simp) rfl ⟨rfl, HC0.out.mono (by simp) |>.trans h2 (fun x hx _ => hx), _, _, _, _, hW2⟩
  rw [if_neg m6] at HP
  have g6 : (m == 6) = false := by rw [beq_eq_false_iff_ne]; omega
  by_cases m3 : m = 3
  · rw [if_pos m3] at HP
    subst m3
    go_wp2_with (go_at_call 23; refine (hRJ _ HW0.out).mono ?_; rintro e w2 ⟨rfl, h2, jv', hW2⟩)
    rw [HP.out]
    refine bodyPost_ret (v := .tuple #[.int .i64 0, .int .i64 0, .bool (remJ X a16).2]) (by simp only [results]; go_simp) rfl ⟨rfl, HC0.out.mono (by simp) |>.trans h2 (fun x hx _ => hx), _, _, _, _, hW2⟩
  rw [if_neg m3] at HP
  have g3 : (m == 3) = false := by rw [beq_eq_false_iff_ne]; omega
  clear m4 m6 m3
  go_wp2_with (first
    | (refine wpList_load_row rfl _ _ rfl xb rfl 36 _ (0, 0) _ HK.out Tryz.underlying36 rfl (by kernel_rfl) ?_)
    | (go_at_call 25; refine (hB _ HV0.out).mono ?_; rintro e w1 ⟨bw, rfl, hbw, h1, -⟩)
    | (go_at_call 24; refine (hAB _ _ (HW0.out.k h1) hbw).mono ?_; rintro e w2 ⟨rfl, h2, bv', L', hW2⟩))
  rw [HP.out]
  refine bodyPost_ret (v := .tuple #[.int .i64 (addB X (bodyD d)).2.1, .int .i64 (addB X (bodyD d)).2.2, .bool false]) (by simp only [results]; go_simp) rfl ⟨rfl, (HC0.out.k h1).mono (by simp) |>.trans h2 (fun x hx _ => hx), _, _, _, _, hW2⟩
end Go.Proofs.YtpadflhffiiglaaGreat

/- law09: worlds made of deeds. -/
namespace Go.Proofs.YtpadflhffiiglaaGreat
open Go.RowKit

theorem wC_W0 : wC W0 (.slice none 0 0) (.slice none 0 0) (.slice none 0 0) = #[.int .i64 0, .int .i64 1, .int .i64 1, .int .i64 0, .int .i64 0, .slice none 0 0, .slice none 0 0, .slice none 0 0] := rfl
theorem W0_parts (w : World) : WlP w (.slice none 0 0) (.slice none 0 0) (.slice none 0 0) [] W0 :=
  ⟨⟨Rd.ofOwn (e := 34) (base := 0) (World.ownsRow_nil _ _ _ _), by simp⟩, rfl, Rd.ofOwn (e := 67) (base := 0) (World.ownsRow_nil _ _ _ _), Rd.ofOwn (e := 70) (base := 0) (World.ownsRow_nil _ _ _ _)⟩
theorem W0_apart (S : List Nat) : Apart S (.slice none 0 0) (.slice none 0 0) (.slice none 0 0) [] W0 := ⟨by simp, by simp [W0], by simp [W0], by simp⟩
theorem wC_all {w : World} {bv jv kv : Value} {L : List BV} {X : Wld} (h : WlP w bv jv kv L X) : (wC X bv jv kv).all (·.oneCell') = true := by
  obtain ⟨ab, cb, rfl, -, -⟩ := Rd.form (by decide) h.b.rd
  obtain ⟨aj, cj, rfl, -, -⟩ := Rd.form (by decide) h.j
  obtain ⟨ak, ck, rfl, -, -⟩ := Rd.form (by decide) h.c
  simp [wC, Value.oneCell']
def MadeOut (w : World) (X : Wld) (e : Ending) (w' : World) : Prop := ∃ x, e = .returned x ∧ WlS w' x X ∧ Chg [] w w'
set_option maxRecDepth 100000 in
set_option maxHeartbeats 8000000 in
theorem Made_any (w : World) (v : Value) (l : List DV) (m : Nat) (hl : DsS w v l) (hI : ∀ x ∈ l, ID x.1) (hm : m ≤ 1048576) :
    Calls Tryz.prog 6 #[v, .int .i64 m] w (MadeOut w (madeW ((l.take m).map (·.1)))) := by
  obtain ⟨av, cv, rfl, hmb, hav⟩ := Rd.form (by decide) hl.rd
  obtain ⟨q, hq⟩ : ∃ q, q = min l.length m := ⟨_, rfl⟩
  have HQ := hd hq
  have hq1 : min (l.length : Int) (m : Int) = (q : Int) := by rw [hq]; omega
  have hq2 : q ≤ l.length ∧ q ≤ m := by omega
  clear hq
  have hcap : l.length ≤ cv := (Rd.caps hl.rd).1
  have HL := hd hl
  have HI := hd hI
  have HAV := hd hav
  clear hl hI hav
  obtain ⟨P, hP⟩ : ∃ P : Ending → World → Prop, P = MadeOut w (madeW ((l.take m).map (·.1))) := ⟨_, rfl⟩
  rw [← hP]
  have HP := hd hP
  clear hP
  have hcr := (Chg.refl [] w).alloc (.cells #[.int .i64 0, .int .i64 0, .int .i64 0, .int .i64 0, .int .i64 0, .slice none 0 0, .slice none 0 0, .slice none 0 0] 42)
  have hkr := Blk.new w #[.int .i64 0, .int .i64 0, .int .i64 0, .int .i64 0, .int .i64 0, .slice none 0 0, .slice none 0 0, .slice none 0 0] 42
  go_enter Tryz.func6, Tryz.ntmps6
  go_upto_region 1 with (fail)
  generalize w.alloc (.cells #[.int .i64 0, .int .i64 0, .int .i64 0, .int .i64 0, .int .i64 0, .slice none 0 0, .slice none 0 0, .slice none 0 0] 42) = wr0 at *
  obtain ⟨rb, hrb⟩ : ∃ rb, rb = w.heap.size := ⟨_, rfl⟩
  rw [← hrb] at hkr ⊢
  have HRB := hd hrb
  have HKR := hd hkr
  have HCR := hd hcr
  clear hrb hkr hcr
  go_upto_region 2 with (go_at_call 14; refine (WNew_any _).mono ?_; rintro e w1 ⟨rfl, h1⟩; unfold vW0)
  have hcW := (Chg.refl [] w1).alloc (.cells #[.int .i64 0, .int .i64 1, .int .i64 1, .int .i64 0, .int .i64 0, .slice none 0 0, .slice none 0 0, .slice none 0 0] 42)
  have hkW := Blk.new w1 #[.int .i64 0, .int .i64 1, .int .i64 1, .int .i64 0, .int .i64 0, .slice none 0 0, .slice none 0 0, .slice none 0 0] 42
  generalize w1.alloc (.cells #[.int .i64 0, .int .i64 1, .int .i64 1, .int .i64 0, .int .i64 0, .slice none 0 0, .slice none 0 0, .slice none 0 0] 42) = w2 at *
  obtain ⟨wb, hwb⟩ : ∃ wb, wb = w1.heap.size := ⟨_, rfl⟩
  rw [← hwb] at hkW ⊢
  have HWB : Hd (rb < wb ∧ w.heap.size ≤ wb) := hd (by have := HKR.out.lt; have := h1.size; have := HRB.out; omega)
  have HC2 := hd ((HCR.out.k h1).k hcW)
  have HKR2 := hd ((HKR.out.k h1).k hcW)
  have HW2 := hd (show WB w2 wb [wb, rb] _ _ _ [] W0 from ⟨by rw [wC_W0]; exact hkW, W0_parts w2, W0_apart _, by simp, fun x hx => by have := hkW.lt; have := HWB.out; simp at hx; omega⟩)
  clear hwb hkW hcW h1 HKR HCR
  go_cut [13, 14, 15, 16] from 400 (fun t13 t14 t15 t16 wx => t14 = .slice av q cv ∧ t15 = .int .i64 q ∧ t16 = .int .i64 0 ∧ wx = w2)
  case first =>
    by_cases h : l.length ≤ m
    · have hql : l.length = q := by rw [HQ.out]; omega
      have h' : (l.length : Int) ≤ (m : Int) := by omega
      have h2 : (l.length : Int) ≤ (cv : Int) := by omega
      have HQL := hd hql
      clear hql hq1 hq2
      go_wp2
      go_meet
      case rel => rw [← HQL.out]; exact ⟨rfl, rfl, rfl, rfl⟩
    · have hql : m = q := by rw [HQ.out]; omega
      have h' : (m : Int) < (l.length : Int) := by omega
      have h2 : (m : Int) ≤ (cv : Int) := by omega
      have HQL := hd hql
      clear hql hq1 hq2
      go_wp2
      go_meet
      case rel => rw [← HQL.out]; exact ⟨rfl, rfl, rfl, rfl⟩
  case rest =>
  obtain ⟨rfl, rfl, rfl, rfl⟩ := hcut
  have htm : l.take q = l.take m := by rw [HQ.out]; by_cases h : l.length ≤ m <;> simp [h, List.take_of_length_le] <;> omega
  have htl : (l.take q).length = q := by rw [List.length_take]; omega
  have hT : DsS w (.slice av q cv) (l.take q) := ⟨by
    rw [htl]
    have := Rd.takeN HL.out.rd q hq2.1
    have e := flat_cut cDV 30 cDV_len l 0 q
    simp only [Nat.zero_mul, List.drop_zero] at e
    rwa [e] at this, fun x hx => HL.out.ps x (List.mem_of_mem_take hx)⟩
  have hIT : ∀ x ∈ l.take q, ID x.1 := fun x hx => HI.out x (List.mem_of_mem_take hx)
  rw [← htm] at HP
  generalize l.take q = T at *
  have HTL := hd htl
  have hqq : q ≤ 1048576 := by omega
  obtain ⟨ac', cc', hce, hmc, hac⟩ := Rd.form (by decide) hT.rd
  injection hce with hce1 hce2 hce3
  subst hce1 hce3
  have HT := hd hT
  have HIT := hd hIT
  have HAC := hd hac
  clear hT hIT htm htl hac hce2 HL HI HQ hmb hmc hq1 hq2 hcap
  go_wp2_with (fail)
  go_loopw [7, 16] (fun _ i wr => ∃ (j : Nat) (bv jv kv : Value) (L : List BV), j ≤ q ∧ i = .int .i64 j ∧ WB wr wb [wb, rb] bv jv kv L (madeW ((T.take j).map (·.1))) ∧ Chg [] w wr ∧ Blk wr rb #[.int .i64 0, .int .i64 0, .int .i64 0, .int .i64 0, .int .i64 0, .slice none 0 0, .slice none 0 0, .slice none 0 0] 42 ∧ Chg [wb] wc wr)
    (fun _ i _ => q - (intOf i).toNat)
  case atStart => exact ⟨0, _, _, _, _, by omega, rfl, by simpa [madeW] using HW2.out, HC2.out, HKR2.out, Chg.refl _ _⟩
  case round =>
    obtain ⟨j, bv, jv, kv, L, hj, rfl, hW, hc, hkr, hcc⟩ := hrel
    have HW := hd hW
    have HC := hd hc
    have HKRr := hd hkr
    have HCC := hd hcc
    clear hW hc hkr hcc
    by_cases hlt : j < q
    · have hlT : j < T.length := by have := HTL.out; omega
      obtain ⟨gb, off, hao, hgb⟩ := HAC.out (by omega)
      subst hao
      have hrg := hd (rangeAt_k (Rd.rangeAt cDV_len HT.out.rd j hlT) HC.out)
      have hps := (HT.out.ps _ (List.getElem_mem hlT)).k HC.out
      have hid := HIT.out _ (List.getElem_mem hlT)
      have hsn := List.take_succ_eq_append_getElem hlT
      generalize T[j] = x at *
      obtain ⟨d, pv⟩ := x
      simp only at hps hid
      obtain ⟨ap, cp, rfl, -⟩ := hps.form
      have kA := Blk.new wr #[.int .i64 0, .int .i64 0, .int .i64 0, .int .i64 0, .int .i64 0, .int .i64 0, .int .i64 0, .int .i64 0, .int .i64 0, .int .i64 0, .int .i64 0, .int .i64 0, .int .i64 0, .int .i64 0, .int .i64 0, .int .i64 0, .int .i64 0, .int .i64 0, .int .i64 0, .int .i64 0, .int .i64 0, .int .i64 0, .int .i64 0, .int .i64 0, .int .i64 0, .int .i64 0, .int .i64 0, .int .i64 0, .int .i64 0, .slice none 0 0] 36
      have kB := kA.row (cs' := (cDV (d, .slice ap d.raw.shape.p.length cp)).toArray)
      have hcB : Chg [] wr ((wr.alloc (.cells #[.int .i64 0, .int .i64 0, .int .i64 0, .int .i64 0, .int .i64 0, .int .i64 0, .int .i64 0, .int .i64 0, .int .i64 0, .int .i64 0, .int .i64 0, .int .i64 0, .int .i64 0, .int .i64 0, .int .i64 0, .int .i64 0, .int .i64 0, .int .i64 0, .int .i64 0, .int .i64 0, .int .i64 0, .int .i64 0, .int .i64 0, .int .i64 0, .int .i64 0, .int .i64 0, .int .i64 0, .int .i64 0, .int .i64 0, .slice none 0 0] 36)).setRow wr.heap.size (cDV (d, .slice ap d.raw.shape.p.length cp)).toArray) := Chg.row ((Chg.refl [] wr).alloc _) wr.heap.size _ (fun h => absurd h (Nat.lt_irrefl _))
      go_upto_region 5 with (first
        | (refine wpList_load_mid rfl _ _ rfl _ _ rfl (cDV (d, .slice ap d.raw.shape.p.length cp)) _ hrg.out Tryz.underlying36 rfl (by kernel_rfl) ?_)
        | (refine wpList_store_row rfl _ _ _ rfl wr.heap.size (cDV (d, .slice ap d.raw.shape.p.length cp)).toArray rfl rfl 36 _ kA (by kernel_rfl) rfl (cDV_all _ _ _ _) ?_))
      clear kA
      generalize (wr.alloc (.cells #[.int .i64 0, .int .i64 0, .int .i64 0, .int .i64 0, .int .i64 0, .int .i64 0, .int .i64 0, .int .i64 0, .int .i64 0, .int .i64 0, .int .i64 0, .int .i64 0, .int .i64 0, .int .i64 0, .int .i64 0, .int .i64 0, .int .i64 0, .int .i64 0, .int .i64 0, .int .i64 0, .int .i64 0, .int .i64 0, .int .i64 0, .int .i64 0, .int .i64 0, .int .i64 0, .int .i64 0, .int .i64 0, .int .i64 0, .slice none 0 0] 36)).setRow wr.heap.size (cDV (d, .slice ap d.raw.shape.p.length cp)).toArray = w3 at *
      generalize wr.heap.size = tb at *
      have hdo := Do_any w3 wb [wb, rb] bv jv kv L _ d _ (HW.out.k hcB) (made_GW _ (fun y hy => by obtain ⟨z, hz, rfl⟩ := List.mem_map.1 hy; exact HIT.out z (List.mem_of_mem_take hz))) (hps.k hcB) hid
      have HM := hd (show (doW (madeW ((T.take j).map (·.1))) d).1 = madeW ((T.take (j + 1)).map (·.1)) by rw [hsn, List.map_append]; exact (made_snoc _ d).symm)
      unfold DoOut at hdo
      rw [HM.out] at hdo
      have HC3 := hd (HC.out.k hcB)
      have HKR3 := hd (HKRr.out.k hcB)
      have HCC3 := hd (HCC.out.k' hcB)
      have HKB := hd kB
      clear kB hcB hps hid hsn HM hrg HC HKRr HCC HW
      generalize (doW (madeW ((T.take j).map (·.1))) d).2 = r at *
      obtain ⟨r1, r2, r3⟩ := r
      simp only at hdo
      go_wp2_with (first
        | (refine wpList_load_row rfl _ _ rfl tb rfl 36 _ (0, 0) _ HKB.out Tryz.underlying36 rfl (by kernel_rfl) ?_)
        | (go_at_call 8; refine hdo.mono ?_; rintro e w4 ⟨rfl, h4, bv', jv', kv', L', hW4⟩))
      go_roundw
      case rel => exact ⟨j + 1, bv', jv', kv', L', by omega, by go_num, hW4, HC3.out.trans h4 (fun x hx hl => by have := HWB.out; simp at hx; omega), HKR3.out.chg h4 (by have := HWB.out; simp; omega), HCC3.out.trans h4 (fun x hx _ => hx)⟩
      case measure => simp [intOf]; omega
    · have hj2 : T.take j = T := List.take_of_length_le (by have := HTL.out; omega)
      rw [hj2] at HW
      have hWf := HW.out
      obtain ⟨X, hX⟩ : ∃ X, X = madeW (T.map (·.1)) := ⟨_, rfl⟩
      rw [← hX] at hWf HP
      have HWf := hd hWf
      have hall := wC_all hWf.p
      clear hX HW hWf hj2
      go_wp2_with (first
        | (refine wpList_load_row rfl _ _ rfl wb rfl 42 _ (0, 0) _ HWf.out.blk Tryz.underlying42 rfl (by kernel_rfl) ?_)
        | (refine wpList_store_row rfl _ _ _ rfl rb (wC X bv jv kv) rfl rfl 42 _ HKRr.out (by kernel_rfl) rfl hall ?_))
      have k5 := HKRr.out.row (cs' := wC X bv jv kv)
      have hs5 := Chg.row HC.out rb (wC X bv jv kv) (fun h => by have := HRB.out; omega)
      refine bodyPost_ret (results_cell_row rfl _ _ rb 42 _ (0, 0) _ rfl k5 Tryz.underlying42 rfl (by kernel_rfl)) rfl ?_
      rw [HP.out]
      exact ⟨_, rfl, ⟨bv, jv, kv, L, rfl, HWf.out.p.chg (Chg.row (Chg.refl [rb] wr) rb (wC X bv jv kv) (by simp)) (HWf.out.a.one (by simp))⟩, hs5⟩
end Go.Proofs.YtpadflhffiiglaaGreat

/- world.Copy. -/
namespace Go.Proofs.YtpadflhffiiglaaGreat
open Go.RowKit

/-- All that a copy has is its own. -/
structure NewW (base : Nat) (w : World) (bv jv kv : Value) (L : List BV) : Prop where
  b : OwR cBV 11 34 w base bv L
  bs : ∀ x ∈ L, 0 < x.1.shape.p.length → ∀ k, x.2.ownBlock = some k → base ≤ k ∧ bv.ownBlock ≠ some k
  j : ∀ k, jv.ownBlock = some k → base ≤ k ∧ bv.ownBlock ≠ some k
  k : ∀ k, kv.ownBlock = some k → base ≤ k ∧ bv.ownBlock ≠ some k
theorem set_map {L : List BV} {A : List Bdy} (h : L.map (·.1) = A) (i : Nat) (hi : i < L.length) (y : BV) (hy : y.1 = L[i].1) : (L.set i y).map (·.1) = A := by
  rw [List.map_set, hy, ← h]
  apply List.ext_getElem?
  intro j
  rw [List.getElem?_set]
  by_cases e : i = j
  · subst e; simp [hi]
  · simp [e]
/-- A copy under way: i shapes are copied. -/
structure Cpy (base : Nat) (ao : Option Addr) (c : Nat) (L A : List BV) (i : Nat) (wr : World) : Prop where
  o : OwR cBV 11 34 wr base (.slice ao L.length c) A
  m : A.map (·.1) = L.map (·.1)
  lo : ∀ k (h : k < A.length), k < i → VsS wr A[k].2 A[k].1.shape.p ∧ ∀ b, A[k].2.ownBlock = some b → base ≤ b ∧ ∀ g, ao = some ⟨g, 0, none⟩ → g < b
  hi : ∀ k (h : k < A.length) (h2 : k < L.length), i ≤ k → A[k] = L[k]
theorem Cpy.k {wr w' : World} {base : Nat} {ao : Option Addr} {c : Nat} {L A : List BV} {i : Nat} (h : Cpy base ao c L A i wr) (hc : Chg [] wr w') : Cpy base ao c L A i w' :=
  ⟨h.o.k hc, h.m, fun k hk hki => ⟨(h.lo k hk hki).1.k hc, (h.lo k hk hki).2⟩, h.hi⟩
theorem Cpy.len {wr : World} {base : Nat} {ao : Option Addr} {c : Nat} {L A : List BV} {i : Nat} (h : Cpy base ao c L A i wr) : A.length = L.length := by have := congrArg List.length h.m; simpa using this
theorem Cpy.step {wr : World} {base g c : Nat} {L A : List BV} {i : Nat} (h : Cpy base (some ⟨g, 0, none⟩) c L A i wr) (hi : i < L.length) (qv : Value) (hq : VsS wr qv L[i].1.shape.p) (hqg : ∀ b, qv.ownBlock = some b → base ≤ b ∧ g < b) :
    Cpy base (some ⟨g, 0, none⟩) c L (A.set i (L[i].1, qv)) (i + 1) (wr.setCells g (i * 11 + 8) [.int .i64 L[i].1.shape.kind, .int .i64 L[i].1.shape.r, qv]) := by
  have hl := h.len
  have hiA : i < A.length := by omega
  have hAi := h.hi i hiA hi (Nat.le_refl _)
  have hchg := Chg.setCells' (g := g) [.int .i64 L[i].1.shape.kind, .int .i64 L[i].1.shape.r, qv] (i * 11 + 8) (Chg.refl [g] wr) (by simp)
  refine ⟨?_, set_map h.m i hiA _ (by rw [hAi]), fun k hk hki => ?_, fun k hk h2 hki => ?_⟩
  · refine OwR.setSub cBV_len h.o i hiA _ 8 _ (by simp) (fun j hj => ?_)
    rw [hAi]
    have : j = 0 ∨ j = 1 ∨ j = 2 ∨ j = 3 ∨ j = 4 ∨ j = 5 ∨ j = 6 ∨ j = 7 ∨ j = 8 ∨ j = 9 ∨ j = 10 := by omega
    rcases this with rfl | rfl | rfl | rfl | rfl | rfl | rfl | rfl | rfl | rfl | rfl <;> simp [cBV]
  · rw [List.length_set] at hk
    by_cases e : i = k
    · subst e
      simp only [List.getElem_set_self]
      exact ⟨hq.chg hchg (fun _ b hb hm => by have := hqg b hb; simp at hm; omega), fun b hb => ⟨(hqg b hb).1, fun g' e => by simp at e; subst e; exact (hqg b hb).2⟩⟩
    · simp only [List.getElem_set_ne e]
      obtain ⟨h1, h3⟩ := h.lo k hk (by omega)
      exact ⟨h1.chg hchg (fun _ b hb hm => by have := (h3 b hb).2 g rfl; simp at hm; omega), h3⟩
  · rw [List.length_set] at hk
    have e : i ≠ k := by omega
    simp only [List.getElem_set_ne e]
    exact h.hi k hk h2 (by omega)
def CopyWOut (w : World) (X : Wld) (e : Ending) (w' : World) : Prop := ∃ bv jv kv L, e = .returned (vW X bv jv kv) ∧ WlP w' bv jv kv L X ∧ Chg [] w w' ∧ NewW w.heap.size w' bv jv kv L
set_option maxRecDepth 100000 in
set_option maxHeartbeats 8000000 in
theorem CopyW_any (w : World) (bv jv kv : Value) (L : List BV) (X : Wld) (h : WlP w bv jv kv L X) (hlb : X.bodies.length ≤ 100000000000) (hlj : X.joints.length ≤ 100000000000) (hlk : X.contacts.length ≤ 100000000000) (hpl : ∀ x ∈ X.bodies, x.shape.p.length ≤ 100000000000) :
    Calls Tryz.prog 7 #[vW X bv jv kv] w (CopyWOut w X) := by
  have hcb := fun W (hW : Chg [] w W) => CloneRB_any W bv L (h.k hW).b.rd (by intro v hv; obtain ⟨x, hx, h'⟩ := List.mem_flatMap.1 hv; exact cBV_one x (one_cBV x (BsS.one h.b x hx)) v h') (by rw [← List.length_map (f := (·.1)), h.l]; exact hlb)
  have hcj := fun W (hW : Chg [] w W) => CloneRJ_any W jv X.joints (h.k hW).j (by intro v hv; obtain ⟨x, hx, h'⟩ := List.mem_flatMap.1 hv; exact cJt_one x v h') hlj
  have hck := fun W (hW : Chg [] w W) => CloneRC_any W kv X.contacts (h.k hW).c (by intro v hv; obtain ⟨x, hx, h'⟩ := List.mem_flatMap.1 hv; exact cCt_one x v h') hlk
  obtain ⟨tk, nb, nj, ⟨gx, gy⟩, bs, js, ks⟩ := X
  have hl := h.l
  simp only at hcj hck hl hpl hlb hlj hlk
  subst hl
  obtain ⟨ab, cb, rfl, hmb, -⟩ := Rd.form (by decide) h.b.rd
  obtain ⟨aj, cj, rfl, hmj, -⟩ := Rd.form (by decide) h.j
  obtain ⟨ak, ck, rfl, hmk, -⟩ := Rd.form (by decide) h.c
  obtain ⟨P, hP⟩ : ∃ P : Ending → World → Prop, P = CopyWOut w ⟨tk, nb, nj, (gx, gy), L.map (·.1), js, ks⟩ := ⟨_, rfl⟩
  rw [← hP]
  have HP := hd hP
  clear hP
  unfold vW
  simp only
  have hc0 := ((Chg.refl [] w).alloc (.cells #[.int .i64 tk, .int .i64 nb, .int .i64 nj, .int .i64 gx, .int .i64 gy, .slice ab L.length cb, .slice aj js.length cj, .slice ak ks.length ck] 42)).alloc (.cells #[.int .i64 0, .int .i64 0, .int .i64 0, .int .i64 0, .int .i64 0, .slice none 0 0, .slice none 0 0, .slice none 0 0] 42)
  have hk1 := (Blk.new w #[.int .i64 tk, .int .i64 nb, .int .i64 nj, .int .i64 gx, .int .i64 gy, .slice ab L.length cb, .slice aj js.length cj, .slice ak ks.length ck] 42).alloc (.cells #[.int .i64 0, .int .i64 0, .int .i64 0, .int .i64 0, .int .i64 0, .slice none 0 0, .slice none 0 0, .slice none 0 0] 42)
  have hk2 := Blk.new (w.alloc (.cells #[.int .i64 tk, .int .i64 nb, .int .i64 nj, .int .i64 gx, .int .i64 gy, .slice ab L.length cb, .slice aj js.length cj, .slice ak ks.length ck] 42)) #[.int .i64 0, .int .i64 0, .int .i64 0, .int .i64 0, .int .i64 0, .slice none 0 0, .slice none 0 0, .slice none 0 0] 42
  rw [World.size_alloc] at hk2
  go_enter Tryz.func7, Tryz.ntmps7
  go_upto_region 1 with (fail)
  generalize (w.alloc (.cells #[.int .i64 tk, .int .i64 nb, .int .i64 nj, .int .i64 gx, .int .i64 gy, .slice ab L.length cb, .slice aj js.length cj, .slice ak ks.length ck] 42)).alloc (.cells #[.int .i64 0, .int .i64 0, .int .i64 0, .int .i64 0, .int .i64 0, .slice none 0 0, .slice none 0 0, .slice none 0 0] 42) = w0 at *
  obtain ⟨xb, hxb⟩ : ∃ xb, xb = w.heap.size := ⟨_, rfl⟩
  obtain ⟨yb, hyb⟩ : ∃ yb, yb = w.heap.size + 1 := ⟨_, rfl⟩
  rw [← hyb] at hk2 ⊢
  rw [← hxb] at hk1 ⊢
  have HXY : Hd (xb = w.heap.size ∧ yb = w.heap.size + 1) := hd ⟨hxb, hyb⟩
  clear hxb hyb
  have HH := hd h
  have q5 := hk1.cell 5
  have f5 := hk1.free 5
  simp at q5
  have hcb1 := hcb w0 hc0
  have HK1 := hd hk1
  have HK2 := hd hk2
  have HC0 := hd hc0
  clear hk1 hk2 hc0 h hcb
  go_upto_region 2 with (go_at_call 16; refine hcb1.mono ?_; rintro e w1 ⟨ao, c, rfl, ho, hc1⟩; replace f5 := (hc1.frozenS q5).trans f5; replace q5 := hc1.cellS q5)
  have hS := Chg.setCell (Chg.refl [xb] w1) ⟨xb, 5, none⟩ (.slice ao L.length c) (by simp)
  have hxo : ∀ k, (Value.slice ao L.length c).ownBlock = some k → k ∉ [xb] := fun k hk hm => by have := (ho.lo k hk).1; have := HK1.out.lt; simp at hm; omega
  have HO := hd ((ho.chg hS hxo).mono (b' := w.heap.size) HC0.out.size)
  have hk3 := (HK1.out.k hc1).set 5 (.slice ao L.length c)
  simp at hk3
  have HK3 := hd hk3
  have HK23 := hd ((HK2.out.k hc1).chg hS (by have := HXY.out; simp; omega))
  have HC3 := hd ((HC0.out.k hc1).trans hS (fun x hx hl => by have := HXY.out; simp at hx; omega))
  obtain ⟨ao', c', hef, hnc, hcm, hform⟩ := ho.form
  simp only [Value.slice.injEq] at hef
  obtain ⟨rfl, -, rfl⟩ := hef
  have HXO : Hd (∀ g, ao = some ⟨g, 0, none⟩ → xb < g ∧ yb < g) := hd (fun g hg => by
    have h1 := (ho.lo g (by rw [hg]; rfl)).1
    have := HK1.out.lt
    have := HK2.out.lt
    omega)
  have HNC := hd hnc
  have HFO : Hd (0 < L.length → ∃ g, ao = some ⟨g, 0, none⟩) := hd (fun hn => by rcases hform with ⟨-, rfl⟩ | ⟨g, e, -⟩; simp at hn; exact ⟨g, e⟩)
  clear hS hxo ho hk3 hc1 q5 f5 hcb1 HK1 HK2 HC0 hform hnc
  generalize w1.setCell ⟨xb, 5, none⟩ (.slice ao L.length c) = w2 at *
  have q5 := HK3.out.cell 5
  simp at q5
  go_wp2_with (fail)
  clear q5
  go_loopw [3, 11] (fun _ i wr => ∃ (j : Nat) (A : List BV), j ≤ L.length ∧ i = .int .i64 j ∧ Cpy w.heap.size ao c L A j wr ∧ Chg [] w wr ∧ Chg ((Value.slice ao L.length c).ownBlock.toList) w2 wr)
    (fun _ i _ => L.length - (intOf i).toNat)
  case atStart => exact ⟨0, L, by omega, rfl, ⟨HO.out, rfl, fun k h hk => by omega, fun k h h2 hk => rfl⟩, HC3.out, Chg.refl _ _⟩
  case round =>
    obtain ⟨j, A, hj, rfl, hcp, hc, hcc⟩ := hrel
    have HCP := hd hcp
    have HC := hd hc
    have HCC := hd hcc
    clear hcp hc hcc
    by_cases hlt : j < L.length
    · obtain ⟨g, rfl⟩ := HFO.out (by omega)
      have hgx := HXO.out g rfl
      have hcc2 : Chg [g] w2 wr := by simpa [Value.ownBlock] using HCC.out
      have HX := hd (HK3.out.chg hcc2 (by simp; omega))
      have hrg := Rd.rangeAt cBV_len HCP.out.o.rd j (by rw [HCP.out.len]; exact hlt)
      have hth := HCP.out.o.there j (by have := HNC.out; omega)
      rw [HCP.out.hi j (by rw [HCP.out.len]; exact hlt) hlt (Nat.le_refl _), Nat.zero_add] at hrg
      have hps := (HH.out.b.ps _ (List.getElem_mem hlt)).k HC.out
      have hpn := hpl _ (List.mem_map_of_mem (List.getElem_mem hlt))
      have HST := hd (fun qv W h => Cpy.step (wr := W) (i := j) (A := A) (base := w.heap.size) (g := g) (c := c) h hlt qv)
      obtain ⟨x, hx⟩ : ∃ x, x = L[j] := ⟨_, rfl⟩
      rw [← hx] at hrg hps hpn HST
      have HX0 := hd hx
      clear hx
      obtain ⟨⟨i0, ⟨px, py⟩, ⟨vx, vy⟩, an, sp, de, ⟨k, r, p⟩⟩, pv⟩ := x
      simp only at hps hpn HST
      have hcop := fun W (hW : VsS W pv p) => ShCopy_any W ⟨k, r, p⟩ _ hW hpn
      unfold vS at hcop
      simp only at hcop
      have hsub : wr.rangeAt g (j * 11 + 8) [.int .i64 k, .int .i64 r, pv] := fun m v hv => by
        have := hrg (8 + m) v (by
          have : m = 0 ∨ m = 1 ∨ m = 2 := by have := (List.getElem?_eq_some_iff.1 hv).1; simp at this; omega
          rcases this with rfl | rfl | rfl <;> simpa [cBV] using hv)
        rw [Nat.add_assoc]; exact this
      have hts : wr.there g (j * 11 + 8) 3 := fun m hm => by have := hth (8 + m) (by omega); rw [Nat.add_assoc]; exact this
      have HSUB := hd hsub
      have HTS := hd hts
      have HPS := hd hps
      have NX : Hd (xb ∉ [g]) := hd (by simp; omega)
      have hwj : IntKind.i64.wrap (j : Int) = (j : Int) := by rw [IntKind.wrap_i64]; omega
      clear hsub hts hps hrg hth hpn hcc2
      go_upto_region 5 with (fail)
      refine anyH_start (n := 13) (L := #[false, false, false, false, false, false, false, false, false, false, false, false, false]) (by kernel_rfl) (by kernel_rfl) (S := (fun wx => Chg [g] wr wx)) ((Chg.refl _ _).drew) (fun hHeld => ?_)
      (have HS0 := hd (show Chg [] wr wr.drew from (Chg.refl [] wr).drew)); generalize wr.drew = wrd at *
      refine anyH_take (i := 0) (d := 14) (L' := #[true, false, false, false, false, false, false, false, false, false, false, false, false]) (v := ?v2) rfl rfl (by kernel_rfl) (fun _ _ _ h => h) (by rfl) ?hy2 (by assumption) ?rest2
      case hy2 => (intro wx hSw; (try dsimp only at hSw); (have t5 := (HX.out.chg hSw NX.out).cell 5; simp at t5; have t6 := hwj); go_simp; (try with_reducible rfl))
      simp only [Act.put, List.setIfInBounds_toArray, List.set_cons_zero, List.set_cons_succ]
      refine anyH_take (i := 1) (d := 15) (L' := #[true, true, false, false, false, false, false, false, false, false, false, false, false]) (v := ?v3) rfl rfl (by kernel_rfl) (fun _ _ _ h => h) (by rfl) ?hy3 (by assumption) ?rest3
      case hy3 => (intro wx hSw; (try dsimp only at hSw); (have t5 := (HX.out.chg hSw NX.out).cell 5; simp at t5; have t6 := hwj); go_simp; (try with_reducible rfl))
      simp only [Act.put, List.setIfInBounds_toArray, List.set_cons_zero, List.set_cons_succ]
      refine anyH_take (i := 2) (d := 16) (L' := #[true, true, true, false, false, false, false, false, false, false, false, false, false]) (v := ?v4) rfl rfl (by kernel_rfl) (fun _ _ _ h => h) (by rfl) ?hy4 (by assumption) ?rest4
      case hy4 => (intro wx hSw; (try dsimp only at hSw); (have t5 := (HX.out.chg hSw NX.out).cell 5; simp at t5; have t6 := hwj); go_simp; (try with_reducible rfl))
      simp only [Act.put, List.setIfInBounds_toArray, List.set_cons_zero, List.set_cons_succ]
      refine anyH_take (i := 3) (d := 17) (L' := #[true, true, true, true, false, false, false, false, false, false, false, false, false]) (v := ?v5) rfl rfl (by kernel_rfl) (fun _ _ _ h => h) (by rfl) ?hy5 (by assumption) ?rest5
      case hy5 => (intro wx hSw; (try dsimp only at hSw); (have t5 := (HX.out.chg hSw NX.out).cell 5; simp at t5; have t6 := hwj); go_simp; (try with_reducible rfl))
      simp only [Act.put, List.setIfInBounds_toArray, List.set_cons_zero, List.set_cons_succ]
      refine anyH_take (i := 4) (d := 18) (L' := #[true, true, true, true, true, false, false, false, false, false, false, false, false]) (v := ?v6) rfl rfl (by kernel_rfl) (fun _ _ _ h => h) (by rfl) ?hy6 (by assumption) ?rest6
      case hy6 => (intro wx hSw; (try dsimp only at hSw); (have t5 := (HX.out.chg hSw NX.out).cell 5; simp at t5; have t6 := hwj); go_simp; (try with_reducible rfl))
      simp only [Act.put, List.setIfInBounds_toArray, List.set_cons_zero, List.set_cons_succ]
      refine anyH_take (i := 5) (d := 19) (L' := #[true, true, true, true, true, true, false, false, false, false, false, false, false]) (v := ?v7) rfl rfl (by kernel_rfl) (fun _ _ _ h => h) (by rfl) ?hy7 (by assumption) ?rest7
      case hy7 => (intro wx hSw; (try dsimp only at hSw); (have t5 := (HX.out.chg hSw NX.out).cell 5; simp at t5; have t6 := hwj); go_simp; (try with_reducible rfl))
      simp only [Act.put, List.setIfInBounds_toArray, List.set_cons_zero, List.set_cons_succ]
      refine anyH_take (i := 6) (d := 20) (L' := #[true, true, true, true, true, true, true, false, false, false, false, false, false]) (v := ?v8) rfl rfl (by kernel_rfl) (fun _ _ _ h => h) (by rfl) ?hy8 (by assumption) ?rest8
      case hy8 => (intro wx hSw; (try dsimp only at hSw); (have t5 := (HX.out.chg hSw NX.out).cell 5; simp at t5; have t6 := hwj); go_simp; (try with_reducible rfl))
      simp only [Act.put, List.setIfInBounds_toArray, List.set_cons_zero, List.set_cons_succ]
      refine anyH_take (i := 7) (d := 21) (L' := #[true, true, true, true, true, true, true, true, false, false, false, false, false]) (v := ?v9) rfl rfl (by kernel_rfl) (fun _ _ _ h => h) (by rfl) ?hy9 (by assumption) ?rest9
      case hy9 => (intro wx hSw; (try dsimp only at hSw); (have t5 := (HX.out.chg hSw NX.out).cell 5; simp at t5; have t6 := hwj); go_simp; (try with_reducible rfl))
      simp only [Act.put, List.setIfInBounds_toArray, List.set_cons_zero, List.set_cons_succ]
      refine anyH_run (i := 8) (L' := #[true, true, true, true, true, true, true, true, true, false, false, false, false]) rfl (by kernel_rfl) (by rfl) (fun KK hKK => ?_)
      (refine wp_load_mid 32 _ rfl g _ rfl [.int .i64 k, .int .i64 r, pv] _ (rangeAt_k HSUB.out HS0.out) Tryz.underlying32 rfl (by kernel_rfl) ?_; go_simp)
      refine hKK.out _ _ (by assumption) (fun hHeld => ?_)
      clear hKK KK
      try simp only [Act.put, List.setIfInBounds_toArray, List.set_cons_zero, List.set_cons_succ]
      refine anyH_run (i := 9) (L' := #[true, true, true, true, true, true, true, true, true, true, false, false, false]) rfl (by kernel_rfl) (by rfl) (fun KK hKK => ?_)
      go_simp
      (refine (hcop _ (HPS.out.k HS0.out)).mono ?_; rintro e w5 ⟨qv, rfl, hq, hm0, hqo⟩; have hm := Chg.k' hHeld hm0; (try go_simp))
      refine hKK.out _ _ (by assumption) (fun hHeld => ?_)
      clear hKK KK
      try simp only [Act.put, List.setIfInBounds_toArray, List.set_cons_zero, List.set_cons_succ]
      refine anyH_take (i := 10) (d := 24) (L' := #[true, true, true, true, true, true, true, true, true, true, true, false, false]) (v := ?v12) rfl rfl (by kernel_rfl) (fun _ _ _ h => h) (by rfl) ?hy12 (by assumption) ?rest12
      case hy12 => (intro wx hSw; (try dsimp only at hSw); (have t5 := (HX.out.chg hSw NX.out).cell 5; simp at t5; have t6 := hwj); go_simp; (try with_reducible rfl))
      simp only [Act.put, List.setIfInBounds_toArray, List.set_cons_zero, List.set_cons_succ]
      refine anyH_take (i := 11) (d := 25) (L' := #[true, true, true, true, true, true, true, true, true, true, true, true, false]) (v := ?v13) rfl rfl (by kernel_rfl) (fun _ _ _ h => h) (by rfl) ?hy13 (by assumption) ?rest13
      case hy13 => (intro wx hSw; (try dsimp only at hSw); (have t5 := (HX.out.chg hSw NX.out).cell 5; simp at t5; have t6 := hwj); go_simp; (try with_reducible rfl))
      simp only [Act.put, List.setIfInBounds_toArray, List.set_cons_zero, List.set_cons_succ]
      refine anyH_run (i := 12) (L' := #[true, true, true, true, true, true, true, true, true, true, true, true, true]) rfl (by kernel_rfl) (by rfl) (fun KK hKK => ?_)
      (refine wp_store_mid 32 _ _ rfl g (j * 11 + 8) #[.int .i64 k, .int .i64 r, qv] rfl rfl (there_k HTS.out (HS0.out.k hm0)) (by kernel_rfl) (by obtain ⟨aq, cq, rfl, -⟩ := hq.form; simp [Value.oneCell']) ?_; have hs10 := Chg.setCells' (g := g) [.int .i64 k, .int .i64 r, qv] (j * 11 + 8) hHeld (by simp))
      refine hKK.out _ _ (by assumption) (fun hHeld => ?_)
      clear hKK KK
      try simp only [Act.put]
      refine wpAnyH_done (by kernel_rfl) ?_ _
      skip
      have hglt := (HCP.out.o.lo g rfl).2
      have hcpN := HST.out qv w5 (HCP.out.k (HS0.out.k hm0)) hq (fun b hb => by have := hqo b hb; have := HS0.out.size; have := HC.out.size; omega)
      have HCN := hd (HC.out.trans hs10 (fun x hx hl => by have := HXY.out; simp at hx; omega))
      have HCCN := hd (HCC.out.trans hs10 (fun x hx hl => by simpa [Value.ownBlock] using hx))
      have HPN := hd hcpN
      clear hcpN hs10 hHeld hm hm0 hq hqo hcop
      (try simp only)
      generalize w5.setCells g (j * 11 + 8) [.int .i64 k, .int .i64 r, qv] = w6 at *
      go_wp2_with (fail)
      go_roundw
      case rel => exact ⟨j + 1, _, by omega, by go_num, HPN.out, HCN.out, HCCN.out⟩
      case measure => simp [intOf]; omega
    · have hjl : j = L.length := by omega
      have hAll : ∀ y ∈ A, VsS wr y.2 y.1.shape.p ∧ ∀ b, y.2.ownBlock = some b → w.heap.size ≤ b ∧ ∀ g, ao = some ⟨g, 0, none⟩ → g < b := fun y hy => by
        obtain ⟨k, hk, rfl⟩ := List.mem_iff_getElem.1 hy
        exact HCP.out.lo k hk (by have := HCP.out.len; omega)
      have HALL := hd hAll
      have HOA := hd HCP.out.o
      have HMA := hd HCP.out.m
      have HLA := hd HCP.out.len
      have hxn : xb ∉ (Value.slice ao L.length c).ownBlock.toList := fun hm => by
        rcases ao with _ | a
        · simp [Value.ownBlock] at hm
        · by_cases hn : 0 < L.length
          · obtain ⟨g, e⟩ := HFO.out hn
            have := HXO.out g e
            cases e
            simp [Value.ownBlock] at hm; omega
          · have h0 := HOA.out.2
            rcases h0 with ⟨he, _⟩ | ⟨g, cap, cur, he, _⟩
            · simp at he
            · simp only [Value.slice.injEq] at he
              have := HXO.out g he.1
              rw [he.1] at hm
              simp [Value.ownBlock] at hm; omega
      have hyn : yb ∉ (Value.slice ao L.length c).ownBlock.toList := fun hm => by
        rcases ao with _ | a
        · simp [Value.ownBlock] at hm
        · have h0 := HOA.out.2
          rcases h0 with ⟨he, _⟩ | ⟨g, cap, cur, he, _⟩
          · simp at he
          · simp only [Value.slice.injEq] at he
            have := HXO.out g he.1
            rw [he.1] at hm
            simp [Value.ownBlock] at hm; omega
      have hX := HK3.out.chg HCC.out hxn
      have hY := HK23.out.chg HCC.out hyn
      have HXN := hd (show ∀ k, (Value.slice ao L.length c).ownBlock = some k → k ∉ [xb, yb] from fun k hk hm => by
        simp at hm
        rcases hm with rfl | rfl
        · exact hxn (by simp [hk])
        · exact hyn (by simp [hk]))
      have HW := hX.k (Chg.refl [] wr).drew
      have hW0 := HC.out.k (Chg.refl [] wr).drew
      have HY := hd hY
      have HXW := hd hX.lt
      have hwl : ¬ j < L.length := hlt
      go_upto_region 7 with (fail)
      clear hX hY hxn hyn hAll HCP HCC HO HK3 HK23 HC3
      refine anyH_start (n := 10) (L := #[false, false, false, false, false, false, false, false, false, false]) (by kernel_rfl) (by kernel_rfl) (S := (fun wx => Chg [xb] wr wx)) ((Chg.refl _ _).drew) (fun hHeld => ?_)
      (have HSD := hd (show wr.heap.size ≤ wr.drew.heap.size from Nat.le_refl _)); generalize wr.drew = wrd at *
      refine anyH_take (i := 0) (d := 27) (L' := #[true, false, false, false, false, false, false, false, false, false]) (v := ?v19) rfl rfl (by kernel_rfl) (fun _ _ _ h => h) (by rfl) ?hy19 (by assumption) ?rest19
      case hy19 => (intro wx hSw; (try dsimp only at hSw); (skip); go_simp; (try with_reducible rfl))
      simp only [Act.put, List.setIfInBounds_toArray, List.set_cons_zero, List.set_cons_succ]
      refine anyH_take (i := 3) (d := 30) (L' := #[true, false, false, true, false, false, false, false, false, false]) (v := ?v20) rfl rfl (by kernel_rfl) (fun _ _ _ h => h) (by rfl) ?hy20 (by assumption) ?rest20
      case hy20 => (intro wx hSw; (try dsimp only at hSw); (skip); go_simp; (try with_reducible rfl))
      simp only [Act.put, List.setIfInBounds_toArray, List.set_cons_zero, List.set_cons_succ]
      refine anyH_run2 (i := 1) (j := 4) (L1 := #[true, true, false, true, false, false, false, false, false, false]) (L2 := #[true, false, false, true, true, false, false, false, false, false]) rfl rfl (by kernel_rfl) (by rfl) (by rfl) (fun KK hKK => ?ra15) (fun KK hKK => ?rb15)
      case' ra15 =>
        (have t6 := HW.cell 6; simp at t6; go_simp)
        refine hKK.out _ _ (by assumption) (fun hHeld => ?_)
        clear hKK KK
        try simp only [Act.put, List.setIfInBounds_toArray, List.set_cons_zero, List.set_cons_succ]
        refine anyH_run2 (i := 2) (j := 4) (L1 := #[true, true, true, true, false, false, false, false, false, false]) (L2 := #[true, true, false, true, true, false, false, false, false, false]) rfl rfl (by kernel_rfl) (by rfl) (by rfl) (fun KK hKK => ?ra16) (fun KK hKK => ?rb16)
        case' ra16 =>
          go_simp
          (refine (hcj _ hW0).mono ?_; rintro e w5 ⟨a5, c5, rfl, ho5, h5⟩; have hm := Chg.k' hHeld h5; replace HW := HW.k h5; replace hW0 := hW0.k h5; (try go_simp))
          refine hKK.out _ _ (by assumption) (fun hHeld => ?_)
          clear hKK KK
          try simp only [Act.put, List.setIfInBounds_toArray, List.set_cons_zero, List.set_cons_succ]
          refine anyH_run (i := 4) (L' := #[true, true, true, true, true, false, false, false, false, false]) rfl (by kernel_rfl) (by rfl) (fun KK hKK => ?_)
          (have t7 := HW.cell 7; simp at t7; go_simp)
          refine hKK.out _ _ (by assumption) (fun hHeld => ?_)
          clear hKK KK
          try simp only [Act.put, List.setIfInBounds_toArray, List.set_cons_zero, List.set_cons_succ]
          refine anyH_take (i := 6) (d := 33) (L' := #[true, true, true, true, true, false, true, false, false, false]) (v := ?v22) rfl rfl (by kernel_rfl) (fun _ _ _ h => h) (by rfl) ?hy22 (by assumption) ?rest22
          case hy22 => (intro wx hSw; (try dsimp only at hSw); (skip); go_simp; (try with_reducible rfl))
          simp only [Act.put, List.setIfInBounds_toArray, List.set_cons_zero, List.set_cons_succ]
          refine anyH_run (i := 5) (L' := #[true, true, true, true, true, true, true, false, false, false]) rfl (by kernel_rfl) (by rfl) (fun KK hKK => ?_)
          go_simp
          (refine (hck _ hW0).mono ?_; rintro e w6 ⟨a6, c6, rfl, ho6, h6⟩; have hm2 := Chg.k' hHeld h6; have HW6 := HW.k h6; have d6 := HW6.cell 6; have fd6 := HW6.free 6; simp at d6; (try go_simp))
          refine hKK.out _ _ (by assumption) (fun hHeld => ?_)
          clear hKK KK
          try simp only [Act.put, List.setIfInBounds_toArray, List.set_cons_zero, List.set_cons_succ]
          refine anyH_run (i := 7) (L' := #[true, true, true, true, true, true, true, true, false, false]) rfl (by kernel_rfl) (by rfl) (fun KK hKK => ?_)
          go_simp
          (have hs7 := Chg.setCell hHeld ⟨xb, 6, none⟩ (.slice a5 js.length c5) (by simp); have HW7 := HW6.set 6 (.slice a5 js.length c5); simp at HW7; have d7 := HW7.cell 7; have fd7 := HW7.free 7; simp at d7; (try go_simp))
          refine hKK.out _ _ (by assumption) (fun hHeld => ?_)
          clear hKK KK
          try simp only [Act.put, List.setIfInBounds_toArray, List.set_cons_zero, List.set_cons_succ]
          refine anyH_take (i := 8) (d := 34) (L' := #[true, true, true, true, true, true, true, true, true, false]) (v := ?v25) rfl rfl (by kernel_rfl) (fun _ _ _ h => h) (by rfl) ?hy25 (by assumption) ?rest25
          case hy25 => (intro wx hSw; (try dsimp only at hSw); (skip); go_simp; (try with_reducible rfl))
          simp only [Act.put, List.setIfInBounds_toArray, List.set_cons_zero, List.set_cons_succ]
          refine anyH_run (i := 9) (L' := #[true, true, true, true, true, true, true, true, true, true]) rfl (by kernel_rfl) (by rfl) (fun KK hKK => ?_)
          go_simp
          (have hs9 := Chg.setCell hHeld ⟨xb, 7, none⟩ (.slice a6 ks.length c6) (by simp); have HW9 := HW7.set 7 (.slice a6 ks.length c6); simp at HW9)
          refine hKK.out _ _ (by assumption) (fun hHeld => ?_)
          clear hKK KK
          try simp only [Act.put, List.setIfInBounds_toArray, List.set_cons_zero, List.set_cons_succ]
          refine wpAnyH_done (by kernel_rfl) ?_ _
          skip
        case' rb16 =>
          (have t7 := HW.cell 7; simp at t7; go_simp)
          refine hKK.out _ _ (by assumption) (fun hHeld => ?_)
          clear hKK KK
          try simp only [Act.put, List.setIfInBounds_toArray, List.set_cons_zero, List.set_cons_succ]
          refine anyH_run (i := 2) (L' := #[true, true, true, true, true, false, false, false, false, false]) rfl (by kernel_rfl) (by rfl) (fun KK hKK => ?_)
          go_simp
          (refine (hcj _ hW0).mono ?_; rintro e w5 ⟨a5, c5, rfl, ho5, h5⟩; have hm := Chg.k' hHeld h5; replace HW := HW.k h5; replace hW0 := hW0.k h5; (try go_simp))
          refine hKK.out _ _ (by assumption) (fun hHeld => ?_)
          clear hKK KK
          try simp only [Act.put, List.setIfInBounds_toArray, List.set_cons_zero, List.set_cons_succ]
          refine anyH_take (i := 6) (d := 33) (L' := #[true, true, true, true, true, false, true, false, false, false]) (v := ?v29) rfl rfl (by kernel_rfl) (fun _ _ _ h => h) (by rfl) ?hy29 (by assumption) ?rest29
          case hy29 => (intro wx hSw; (try dsimp only at hSw); (skip); go_simp; (try with_reducible rfl))
          simp only [Act.put, List.setIfInBounds_toArray, List.set_cons_zero, List.set_cons_succ]
          refine anyH_run (i := 5) (L' := #[true, true, true, true, true, true, true, false, false, false]) rfl (by kernel_rfl) (by rfl) (fun KK hKK => ?_)
          go_simp
          (refine (hck _ hW0).mono ?_; rintro e w6 ⟨a6, c6, rfl, ho6, h6⟩; have hm2 := Chg.k' hHeld h6; have HW6 := HW.k h6; have d6 := HW6.cell 6; have fd6 := HW6.free 6; simp at d6; (try go_simp))
          refine hKK.out _ _ (by assumption) (fun hHeld => ?_)
          clear hKK KK
          try simp only [Act.put, List.setIfInBounds_toArray, List.set_cons_zero, List.set_cons_succ]
          refine anyH_run (i := 7) (L' := #[true, true, true, true, true, true, true, true, false, false]) rfl (by kernel_rfl) (by rfl) (fun KK hKK => ?_)
          go_simp
          (have hs7 := Chg.setCell hHeld ⟨xb, 6, none⟩ (.slice a5 js.length c5) (by simp); have HW7 := HW6.set 6 (.slice a5 js.length c5); simp at HW7; have d7 := HW7.cell 7; have fd7 := HW7.free 7; simp at d7; (try go_simp))
          refine hKK.out _ _ (by assumption) (fun hHeld => ?_)
          clear hKK KK
          try simp only [Act.put, List.setIfInBounds_toArray, List.set_cons_zero, List.set_cons_succ]
          refine anyH_take (i := 8) (d := 34) (L' := #[true, true, true, true, true, true, true, true, true, false]) (v := ?v32) rfl rfl (by kernel_rfl) (fun _ _ _ h => h) (by rfl) ?hy32 (by assumption) ?rest32
          case hy32 => (intro wx hSw; (try dsimp only at hSw); (skip); go_simp; (try with_reducible rfl))
          simp only [Act.put, List.setIfInBounds_toArray, List.set_cons_zero, List.set_cons_succ]
          refine anyH_run (i := 9) (L' := #[true, true, true, true, true, true, true, true, true, true]) rfl (by kernel_rfl) (by rfl) (fun KK hKK => ?_)
          go_simp
          (have hs9 := Chg.setCell hHeld ⟨xb, 7, none⟩ (.slice a6 ks.length c6) (by simp); have HW9 := HW7.set 7 (.slice a6 ks.length c6); simp at HW9)
          refine hKK.out _ _ (by assumption) (fun hHeld => ?_)
          clear hKK KK
          try simp only [Act.put, List.setIfInBounds_toArray, List.set_cons_zero, List.set_cons_succ]
          refine wpAnyH_done (by kernel_rfl) ?_ _
          skip
      case' rb15 =>
        (have t7 := HW.cell 7; simp at t7; go_simp)
        refine hKK.out _ _ (by assumption) (fun hHeld => ?_)
        clear hKK KK
        try simp only [Act.put, List.setIfInBounds_toArray, List.set_cons_zero, List.set_cons_succ]
        refine anyH_run (i := 1) (L' := #[true, true, false, true, true, false, false, false, false, false]) rfl (by kernel_rfl) (by rfl) (fun KK hKK => ?_)
        (have t6 := HW.cell 6; simp at t6; go_simp)
        refine hKK.out _ _ (by assumption) (fun hHeld => ?_)
        clear hKK KK
        try simp only [Act.put, List.setIfInBounds_toArray, List.set_cons_zero, List.set_cons_succ]
        refine anyH_run (i := 2) (L' := #[true, true, true, true, true, false, false, false, false, false]) rfl (by kernel_rfl) (by rfl) (fun KK hKK => ?_)
        go_simp
        (refine (hcj _ hW0).mono ?_; rintro e w5 ⟨a5, c5, rfl, ho5, h5⟩; have hm := Chg.k' hHeld h5; replace HW := HW.k h5; replace hW0 := hW0.k h5; (try go_simp))
        refine hKK.out _ _ (by assumption) (fun hHeld => ?_)
        clear hKK KK
        try simp only [Act.put, List.setIfInBounds_toArray, List.set_cons_zero, List.set_cons_succ]
        refine anyH_take (i := 6) (d := 33) (L' := #[true, true, true, true, true, false, true, false, false, false]) (v := ?v37) rfl rfl (by kernel_rfl) (fun _ _ _ h => h) (by rfl) ?hy37 (by assumption) ?rest37
        case hy37 => (intro wx hSw; (try dsimp only at hSw); (skip); go_simp; (try with_reducible rfl))
        simp only [Act.put, List.setIfInBounds_toArray, List.set_cons_zero, List.set_cons_succ]
        refine anyH_run (i := 5) (L' := #[true, true, true, true, true, true, true, false, false, false]) rfl (by kernel_rfl) (by rfl) (fun KK hKK => ?_)
        go_simp
        (refine (hck _ hW0).mono ?_; rintro e w6 ⟨a6, c6, rfl, ho6, h6⟩; have hm2 := Chg.k' hHeld h6; have HW6 := HW.k h6; have d6 := HW6.cell 6; have fd6 := HW6.free 6; simp at d6; (try go_simp))
        refine hKK.out _ _ (by assumption) (fun hHeld => ?_)
        clear hKK KK
        try simp only [Act.put, List.setIfInBounds_toArray, List.set_cons_zero, List.set_cons_succ]
        refine anyH_run (i := 7) (L' := #[true, true, true, true, true, true, true, true, false, false]) rfl (by kernel_rfl) (by rfl) (fun KK hKK => ?_)
        go_simp
        (have hs7 := Chg.setCell hHeld ⟨xb, 6, none⟩ (.slice a5 js.length c5) (by simp); have HW7 := HW6.set 6 (.slice a5 js.length c5); simp at HW7; have d7 := HW7.cell 7; have fd7 := HW7.free 7; simp at d7; (try go_simp))
        refine hKK.out _ _ (by assumption) (fun hHeld => ?_)
        clear hKK KK
        try simp only [Act.put, List.setIfInBounds_toArray, List.set_cons_zero, List.set_cons_succ]
        refine anyH_take (i := 8) (d := 34) (L' := #[true, true, true, true, true, true, true, true, true, false]) (v := ?v40) rfl rfl (by kernel_rfl) (fun _ _ _ h => h) (by rfl) ?hy40 (by assumption) ?rest40
        case hy40 => (intro wx hSw; (try dsimp only at hSw); (skip); go_simp; (try with_reducible rfl))
        simp only [Act.put, List.setIfInBounds_toArray, List.set_cons_zero, List.set_cons_succ]
        refine anyH_run (i := 9) (L' := #[true, true, true, true, true, true, true, true, true, true]) rfl (by kernel_rfl) (by rfl) (fun KK hKK => ?_)
        go_simp
        (have hs9 := Chg.setCell hHeld ⟨xb, 7, none⟩ (.slice a6 ks.length c6) (by simp); have HW9 := HW7.set 7 (.slice a6 ks.length c6); simp at HW9)
        refine hKK.out _ _ (by assumption) (fun hHeld => ?_)
        clear hKK KK
        try simp only [Act.put, List.setIfInBounds_toArray, List.set_cons_zero, List.set_cons_succ]
        refine wpAnyH_done (by kernel_rfl) ?_ _
        skip
      all_goals
        have hS69 := Chg.setCell (Chg.setCell (Chg.refl [xb] w6) ⟨xb, 6, none⟩ (.slice a5 js.length c5) (by simp)) ⟨xb, 7, none⟩ (.slice a6 ks.length c6) (by simp)
        have HS69 := hd hS69
        have HS9 := hd hs9
        have HW9' := hd HW9
        have HJ5 := hd ho5
        have HK6 := hd ho6
        have H56 := hd h6
        have hne : ∀ k, wr.heap.size ≤ k → (Value.slice ao L.length c).ownBlock ≠ some k := fun k hk e => by have := (HOA.out.lo k e).2; omega
        have hlo5 : Hd (∀ k, (Value.slice a5 js.length c5).ownBlock = some k → xb < k ∧ yb < k ∧ w.heap.size ≤ k ∧ (Value.slice ao L.length c).ownBlock ≠ some k) := hd (fun k hk => by have h1 := (ho5.lo k hk).1; have := HY.out.lt; have := HXW.out; have := HXY.out; have := HSD.out; exact ⟨by omega, by omega, by omega, hne k (by omega)⟩)
        have hlo6 : Hd (∀ k, (Value.slice a6 ks.length c6).ownBlock = some k → xb < k ∧ yb < k ∧ w.heap.size ≤ k ∧ (Value.slice ao L.length c).ownBlock ≠ some k) := hd (fun k hk => by have h1 := (ho6.lo k hk).1; have := HY.out.lt; have := HXW.out; have := HXY.out; have := HSD.out; have := h5.size; exact ⟨by omega, by omega, by omega, hne k (by omega)⟩)
        have hCr := hd (show Chg [xb] wr _ from hs9)
        clear hne hs9 hs7 hS69 HW HW6 HW7 HW9 hW0 hm hm2 ho5 ho6 h5 h6 d6 fd6 d7 fd7 hHeld
        generalize (w6.setCell ⟨xb, 6, none⟩ (.slice a5 js.length c5)).setCell ⟨xb, 7, none⟩ (.slice a6 ks.length c6) = w9 at *
        have kY := HY.out.chg hCr.out (by have := HXY.out; simp; omega)
        go_wp2_with (first
          | (refine wpList_load_row rfl _ _ rfl xb rfl 42 _ (0, 0) _ HW9'.out Tryz.underlying42 rfl (by kernel_rfl) ?_)
          | (refine wpList_store_row rfl _ _ _ rfl yb #[.int .i64 tk, .int .i64 nb, .int .i64 nj, .int .i64 gx, .int .i64 gy, .slice ao L.length c, .slice a5 js.length c5, .slice a6 ks.length c6] rfl rfl 42 _ kY (by kernel_rfl) (by simp) (by simp [Value.oneCell']) ?_))
        have k5 := kY.row (cs' := #[.int .i64 tk, .int .i64 nb, .int .i64 nj, .int .i64 gx, .int .i64 gy, .slice ao L.length c, .slice a5 js.length c5, .slice a6 ks.length c6])
        have hs5 := Chg.row (Chg.refl [yb] w9) yb #[.int .i64 tk, .int .i64 nb, .int .i64 nj, .int .i64 gx, .int .i64 gy, .slice ao L.length c, .slice a5 js.length c5, .slice a6 ks.length c6] (by simp)
        refine bodyPost_ret (results_cell_row rfl _ _ yb 42 _ (0, 0) _ rfl k5 Tryz.underlying42 rfl (by kernel_rfl)) rfl ?_
        have c6f : Chg [xb, yb] w6 _ := (HS69.out.mono (S' := [xb, yb]) (by simp)).trans hs5 (by simp)
        have c5f : Chg [xb, yb] w5 _ := (H56.out.mono (S' := [xb, yb]) (by simp)).trans c6f (fun x hx _ => hx)
        have crf : Chg [xb, yb] wr _ := (hCr.out.mono (S' := [xb, yb]) (by simp)).trans hs5 (by simp)
        have cwf : Chg [] w _ := HC.out.trans crf (fun x hx hl => by have := HXY.out; simp at hx; omega)
        have oF := HOA.out.chg crf HXN.out
        rw [HP.out]
        refine ⟨_, _, _, A, rfl, ⟨⟨?_, fun y hy => (HALL.out y hy).1.chg crf (fun hn b hb hm => ?_)⟩, HMA.out, HJ5.out.rd.keep c5f (fun _ k hk hm => by have := hlo5.out k hk; simp at hm; omega), HK6.out.rd.keep c6f (fun _ k hk hm => by have := hlo6.out k hk; simp at hm; omega)⟩, cwf, ⟨?_, fun y hy _ b hb => ⟨((HALL.out y hy).2 b hb).1, fun e => ?_⟩, fun k hk => (hlo5.out k hk).2.2, fun k hk => (hlo6.out k hk).2.2⟩⟩
        · have := oF.rd
          rwa [HLA.out] at this ⊢
        · obtain ⟨g, e⟩ := HFO.out (by have := List.length_pos_of_mem hy; have := HLA.out; omega)
          have h1 := ((HALL.out y hy).2 b hb).2 g e
          have := HXO.out g e
          simp at hm; omega
        · exact oF
        · obtain ⟨g, e2⟩ := HFO.out (by have := List.length_pos_of_mem hy; have := HLA.out; omega)
          have h1 := ((HALL.out y hy).2 b hb).2 g e2
          rw [e2] at e
          simp [Value.ownBlock] at e
          omega
end Go.Proofs.YtpadflhffiiglaaGreat

/- The bytes of the empty world are read. -/
namespace Go.Proofs.YtpadflhffiiglaaGreat
open Go.RowKit

theorem Right0_any (w : World) : Calls Tryz.prog 49 #[vW0] w fun e w' => e = .returned (.bool true) ∧ Chg [] w w' := by
  unfold vW0
  have hcx := (Chg.refl [] w).alloc (.cells #[.int .i64 0, .int .i64 1, .int .i64 1, .int .i64 0, .int .i64 0, .slice none 0 0, .slice none 0 0, .slice none 0 0] 42)
  have hkx := Blk.new w #[.int .i64 0, .int .i64 1, .int .i64 1, .int .i64 0, .int .i64 0, .slice none 0 0, .slice none 0 0, .slice none 0 0] 42
  go_enter Tryz.func49, Tryz.ntmps49
  go_upto_region 1 with (fail)
  generalize w.alloc (.cells #[.int .i64 0, .int .i64 1, .int .i64 1, .int .i64 0, .int .i64 0, .slice none 0 0, .slice none 0 0, .slice none 0 0] 42) = w0 at *
  generalize w.heap.size = xb at *
  have q0 := hkx.cell 0
  have q1 := hkx.cell 1
  have q2 := hkx.cell 2
  have q3 := hkx.cell 3
  have q4 := hkx.cell 4
  have q5 := hkx.cell 5
  have q6 := hkx.cell 6
  have q7 := hkx.cell 7
  simp at q0 q1 q2 q3 q4 q5 q6 q7
  have hc := WWithin_any (0, 0) 17592186044416 ⟨by unfold I64; simp, by unfold I64; simp⟩
  unfold vV at hc
  rw [show nearV (0, 0) 17592186044416 = true from rfl] at hc
  go_upto_region 3 with (go_at_call 80; refine (hc _).mono ?_; rintro e w1 ⟨rfl, h1⟩)
  clear q0 q1 q2 q3 q4 q5 q6 q7
  replace hkx := hkx.k h1
  have q1 := hkx.cell 1
  have q2 := hkx.cell 2
  have q5 := hkx.cell 5
  have q6 := hkx.cell 6
  simp at q1 q2 q5 q6
  go_wp2_with (first
    | (go_at_call 81; refine (RisB0_any _ _).mono ?_; rintro e w2 ⟨rfl, h2⟩; have q2 := (hkx.k h2).cell 2; have q6 := (hkx.k h2).cell 6; simp at q2 q6)
    | (go_at_call 83; refine (RisJ0_any _ _).mono ?_; rintro e w3 ⟨rfl, h3⟩; have q5 := ((hkx.k h2).k h3).cell 5; have q6 := ((hkx.k h2).k h3).cell 6; have q7 := ((hkx.k h2).k h3).cell 7; simp at q5 q6 q7))
  refine wp_loop_once ?_
  go_wp2
  refine wp_loop_once ?_
  go_wp2
  refine wp_loop_once ?_
  go_wp2
  go_ret
  exact ⟨rfl, ((hcx.k' h1).k' h2).k' h3⟩

def z0 : St := (leW W0, false)
def z1 : St := (numR 8 z0).2
def z2 : St := (numR 8 z1).2
def z3 : St := (numR 8 z2).2
def z4 : St := (plR z3).2
def z5 : St := (countR 1024 z4).2
def z6 : St := (countR 1024 z5).2
def z7 : St := (numR 4 z6).2
theorem z0e : (numR 8 z0).1 = 0 := by kernel_rfl
theorem z1e : (numR 8 z1).1 = 1 := by kernel_rfl
theorem z2e : (numR 8 z2).1 = 1 := by kernel_rfl
theorem z3e : (plR z3).1 = (0, 0) := by kernel_rfl
theorem z4e : (countR 1024 z4).1 = 0 := by kernel_rfl
theorem z5e : (countR 1024 z5).1 = 0 := by kernel_rfl
theorem z6e : (numR 4 z6).1 = 0 := by kernel_rfl
theorem z7e : (!z7.2 && z7.1.isEmpty) = true := by kernel_rfl
theorem RdB.lit {base b : Nat} {cur : World} {s : St} (h : RdB base cur b s) (cs : Array Value) (t : TypeId) : RdB base (cur.alloc (.cells cs t)) b s ∧ Blk (cur.alloc (.cells cs t)) cur.heap.size cs t ∧ b < cur.heap.size := by
  obtain ⟨v, h1, h2, h3, h4⟩ := h
  exact ⟨RdB.k ⟨v, h1, h2, h3, h4⟩ ((Chg.refl [] _).alloc _), Blk.new _ _ _, h1.lt⟩
end Go.Proofs.YtpadflhffiiglaaGreat
