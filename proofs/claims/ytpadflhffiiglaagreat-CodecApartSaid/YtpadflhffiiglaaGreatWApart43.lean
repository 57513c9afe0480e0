/- Words and walks that Apart rests on: WorldSm. -/
import Derived.Test.YtpadflhffiiglaaGreatWApart42
/- world.Same. -/
namespace Go.Proofs.YtpadflhffiiglaaGreat
open Go.RowKit

set_option maxRecDepth 100000 in
set_option maxHeartbeats 8000000 in
theorem WSame_any (w : World) (x y : Value) (X Y : Wld) (hx : WlS w x X) (hy : WlS w y Y) (hn : X.bodies.length ≤ 1099511627776) :
    Calls Tryz.prog 10 #[x, y] w fun e w' => EqOut (X = Y) e ∧ Chg [] w w' := by
  obtain ⟨bv, jv, kv, L, rfl, hx⟩ := hx
  obtain ⟨bv2, jv2, kv2, L2, rfl, hy⟩ := hy
  obtain ⟨tk, nb, nj, ⟨gx, gy⟩, bs, js, ks⟩ := X
  obtain ⟨tk2, nb2, nj2, ⟨gx2, gy2⟩, bs2, js2, ks2⟩ := Y
  have hl := hx.l
  have hl2 := hy.l
  simp only at hl hl2 hn
  subst hl hl2
  rw [List.length_map] at hn
  obtain ⟨ab, cb, rfl, -, -⟩ := Rd.form (by decide) hx.b.rd
  obtain ⟨aj, cj, rfl, -, -⟩ := Rd.form (by decide) hx.j
  obtain ⟨ak, ck, rfl, -, -⟩ := Rd.form (by decide) hx.c
  obtain ⟨ab2, cb2, rfl, -, -⟩ := Rd.form (by decide) hy.b.rd
  obtain ⟨aj2, cj2, rfl, -, -⟩ := Rd.form (by decide) hy.j
  obtain ⟨ak2, ck2, rfl, -, -⟩ := Rd.form (by decide) hy.c
  have hB := fun W (h : Chg [] w W) => EqualB_any W _ _ L L2 (hx.b.k h) (hy.b.k h) hn
  have hJ := fun W (h : Chg [] w W) => EqualJ_any W _ _ js js2 (hx.j.k h) (hy.j.k h)
  have hC := fun W (h : Chg [] w W) => EqualC_any W _ _ ks ks2 (hx.c.k h) (hy.c.k h)
  simp only at hJ hC
  unfold vW
  simp only
  have HB := hd hB
  have HJ := hd hJ
  have HC := hd hC
  clear hB hJ hC hx hy
  obtain ⟨P, hP⟩ : ∃ P : Ending → World → Prop, P = fun e w' => EqOut ((⟨tk, nb, nj, (gx, gy), L.map (·.1), js, ks⟩ : Wld) = ⟨tk2, nb2, nj2, (gx2, gy2), L2.map (·.1), js2, ks2⟩) e ∧ Chg [] w w' := ⟨_, rfl⟩
  rw [← hP]
  have HP := hd hP
  clear hP
  by_cases h0 : tk = tk2
  case neg =>
    have HH := hd h0
    have g : (tk == tk2) = false := by rw [beq_eq_false_iff_ne]; exact h0
    go_enter Tryz.func10, Tryz.ntmps10
    go_wp2
    rw [HP.out]
    exact ⟨⟨false, rfl, by simp only [Bool.false_eq_true, false_iff]; intro h; injection h with e1 e2 e3 e4 e5 e6 e7;  exact HH.out e1⟩, ((Chg.refl [] w).alloc _).alloc _⟩
  case pos =>
  subst h0
  by_cases h1 : nb = nb2
  case neg =>
    have HH := hd h1
    have g : (nb == nb2) = false := by rw [beq_eq_false_iff_ne]; exact h1
    go_enter Tryz.func10, Tryz.ntmps10
    go_wp2
    rw [HP.out]
    exact ⟨⟨false, rfl, by simp only [Bool.false_eq_true, false_iff]; intro h; injection h with e1 e2 e3 e4 e5 e6 e7;  exact HH.out e2⟩, ((Chg.refl [] w).alloc _).alloc _⟩
  case pos =>
  subst h1
  by_cases h2 : nj = nj2
  case neg =>
    have HH := hd h2
    have g : (nj == nj2) = false := by rw [beq_eq_false_iff_ne]; exact h2
    go_enter Tryz.func10, Tryz.ntmps10
    go_wp2
    rw [HP.out]
    exact ⟨⟨false, rfl, by simp only [Bool.false_eq_true, false_iff]; intro h; injection h with e1 e2 e3 e4 e5 e6 e7;  exact HH.out e3⟩, ((Chg.refl [] w).alloc _).alloc _⟩
  case pos =>
  subst h2
  by_cases h3 : gx = gx2
  case neg =>
    have HH := hd h3
    have g : (gx == gx2) = false := by rw [beq_eq_false_iff_ne]; exact h3
    go_enter Tryz.func10, Tryz.ntmps10
    go_wp2
    rw [HP.out]
    exact ⟨⟨false, rfl, by simp only [Bool.false_eq_true, false_iff]; intro h; injection h with e1 e2 e3 e4 e5 e6 e7;  exact HH.out (Prod.mk.inj e4).1⟩, ((Chg.refl [] w).alloc _).alloc _⟩
  case pos =>
  subst h3
  by_cases h4 : gy = gy2
  case neg =>
    have HH := hd h4
    have g : (gy == gy2) = false := by rw [beq_eq_false_iff_ne]; exact h4
    go_enter Tryz.func10, Tryz.ntmps10
    go_wp2
    rw [HP.out]
    exact ⟨⟨false, rfl, by simp only [Bool.false_eq_true, false_iff]; intro h; injection h with e1 e2 e3 e4 e5 e6 e7;  exact HH.out (Prod.mk.inj e4).2⟩, ((Chg.refl [] w).alloc _).alloc _⟩
  case pos =>
  subst h4
  have hcb := ((Chg.refl [] w).alloc (.cells #[.int .i64 tk, .int .i64 nb, .int .i64 nj, .int .i64 gx, .int .i64 gy, .slice ab L.length cb, .slice aj js.length cj, .slice ak ks.length ck] 42)).alloc (.cells #[.int .i64 tk, .int .i64 nb, .int .i64 nj, .int .i64 gx, .int .i64 gy, .slice ab2 L2.length cb2, .slice aj2 js2.length cj2, .slice ak2 ks2.length ck2] 42)
  have hk1 := (Blk.new w #[.int .i64 tk, .int .i64 nb, .int .i64 nj, .int .i64 gx, .int .i64 gy, .slice ab L.length cb, .slice aj js.length cj, .slice ak ks.length ck] 42).alloc (.cells #[.int .i64 tk, .int .i64 nb, .int .i64 nj, .int .i64 gx, .int .i64 gy, .slice ab2 L2.length cb2, .slice aj2 js2.length cj2, .slice ak2 ks2.length ck2] 42)
  have hk2 := Blk.new (w.alloc (.cells #[.int .i64 tk, .int .i64 nb, .int .i64 nj, .int .i64 gx, .int .i64 gy, .slice ab L.length cb, .slice aj js.length cj, .slice ak ks.length ck] 42)) #[.int .i64 tk, .int .i64 nb, .int .i64 nj, .int .i64 gx, .int .i64 gy, .slice ab2 L2.length cb2, .slice aj2 js2.length cj2, .slice ak2 ks2.length ck2] 42
  rw [World.size_alloc] at hk2
  go_enter Tryz.func10, Tryz.ntmps10
  go_upto_region 3 with (fail)
  generalize (w.alloc (.cells #[.int .i64 tk, .int .i64 nb, .int .i64 nj, .int .i64 gx, .int .i64 gy, .slice ab L.length cb, .slice aj js.length cj, .slice ak ks.length ck] 42)).alloc (.cells #[.int .i64 tk, .int .i64 nb, .int .i64 nj, .int .i64 gx, .int .i64 gy, .slice ab2 L2.length cb2, .slice aj2 js2.length cj2, .slice ak2 ks2.length ck2] 42) = w0 at *
  generalize w.heap.size + 1 = b2 at *
  generalize w.heap.size = b1 at *
  have K1 := hd hk1
  have K2 := hd hk2
  have HCB := hd hcb
  clear hk1 hk2 hcb
  have p5 := K1.out.cell 5
  have q5 := K2.out.cell 5
  simp at p5 q5
  go_wp2_with fail
  refine (HB.out _ HCB.out).mono ?_
  rintro e w1 ⟨⟨r1, rfl, hr1⟩, h1⟩
  have HR1 := hd hr1
  have HC1 := hd (HCB.out.k' h1)
  have L1 := hd (K1.out.k h1)
  have L2' := hd (K2.out.k h1)
  clear hr1 h1 p5 q5
  cases r1 with
  | false =>
    go_wp2_with (fail)
    rw [HP.out]
    exact ⟨⟨false, rfl, by simp only [Bool.false_eq_true, false_iff]; intro h; injection h with e1 e2 e3 e4 e5 e6 e7; exact absurd (HR1.out.mpr e5) (by simp)⟩, HC1.out⟩
  | true =>
  have p6 := L1.out.cell 6
  have q6 := L2'.out.cell 6
  simp at p6 q6
  go_wp2_with fail
  refine (HJ.out _ HC1.out).mono ?_
  rintro e w2 ⟨⟨r2, rfl, hr2⟩, h2⟩
  have HR2 := hd hr2
  have HC2 := hd (HC1.out.k' h2)
  have M1 := hd (L1.out.k h2)
  have M2 := hd (L2'.out.k h2)
  clear hr2 h2 p6 q6
  cases r2 with
  | false =>
    go_wp2_with (fail)
    rw [HP.out]
    exact ⟨⟨false, rfl, by simp only [Bool.false_eq_true, false_iff]; intro h; injection h with e1 e2 e3 e4 e5 e6 e7; exact absurd (HR2.out.mpr e6) (by simp)⟩, HC2.out⟩
  | true =>
  have p7 := M1.out.cell 7
  have q7 := M2.out.cell 7
  simp at p7 q7
  go_wp2_with fail
  refine (HC.out _ HC2.out).mono ?_
  rintro e w3 ⟨⟨r3, rfl, hr3⟩, h3⟩
  have HR3 := hd hr3
  have HC3 := hd (HC2.out.k' h3)
  clear hr3 h3 p7 q7
  go_wp2_with (fail)
  rw [HP.out]
  refine ⟨⟨r3, rfl, ?_⟩, HC3.out⟩
  rw [HR3.out]
  constructor
  · intro h; rw [h, HR1.out.mp trivial, HR2.out.mp trivial]
  · intro h; injection h
end Go.Proofs.YtpadflhffiiglaaGreat
