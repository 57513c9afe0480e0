/- Words and walks that Apart rests on: BodyR. -/
import Derived.Test.YtpadflhffiiglaaGreatWApart5
/- world.RightBody, world.RightJoint. -/
namespace Go.Proofs.YtpadflhffiiglaaGreat
open Go.RowKit

set_option maxRecDepth 100000 in
set_option maxHeartbeats 8000000 in
theorem RightB_any (w : World) (x : Bdy) (pv : Value) (hp : VsS w pv x.shape.p) (hi : ∀ a ∈ x.shape.p, IV a) (h1 : IV x.pos) (h2 : IV x.vel) (h3 : I64 x.spin) :
    Calls Tryz.prog 63 #[vB x pv] w fun e w' => e = .returned (.bool (rightB x)) ∧ Chg [] w w' := by
  obtain ⟨i, ⟨px, py⟩, ⟨vx, vy⟩, an, sp, de, ⟨k, r, p⟩⟩ := x
  simp only at hp hi h1 h2 h3
  have hcb := (Chg.refl [] w).alloc (.cells #[.int .i64 i, .int .i64 px, .int .i64 py, .int .i64 vx, .int .i64 vy, .int .i64 an, .int .i64 sp, .int .i64 de, .int .i64 k, .int .i64 r, pv] 34)
  have hkb := Blk.new w #[.int .i64 i, .int .i64 px, .int .i64 py, .int .i64 vx, .int .i64 vy, .int .i64 an, .int .i64 sp, .int .i64 de, .int .i64 k, .int .i64 r, pv] 34
  have hc1 := fun W (hW : Chg [] w W) => SRight_any W ⟨k, r, p⟩ pv (hp.k hW) hi
  have hc2 := fun W => WWithin_any (px, py) 4503599627370496 h1 W
  have hc3 := fun W => WWithin_any (vx, vy) 17592186044416 h2 W
  have hc4 := fun W => Abs_any sp h3 W
  have hb4 := absF_s h3
  unfold vV at hc2 hc3
  unfold vS at hc1
  unfold rightB vB
  simp only at hc1 hc2 hc3 ⊢
  generalize rightS ⟨k, r, p⟩ = s at *
  generalize nearV (px, py) 4503599627370496 = n1 at *
  generalize nearV (vx, vy) 17592186044416 = n2 at *
  generalize absF sp = a at *
  obtain ⟨ao, c, rfl, -⟩ := hp.form
  have hc1 := hc1 _ hcb
  clear hp hi h1 h2
  go_enter Tryz.func63, Tryz.ntmps63
  go_upto_region 1 with (fail)
  generalize w.alloc (.cells #[.int .i64 i, .int .i64 px, .int .i64 py, .int .i64 vx, .int .i64 vy, .int .i64 an, .int .i64 sp, .int .i64 de, .int .i64 k, .int .i64 r, .slice ao p.length c] 34) = w0 at *
  generalize w.heap.size = b at *
  have HQ : Hd (∀ wx, Chg [] w0 wx → (wx.cell? ⟨b, 1, none⟩ = some (.int .i64 px) ∧ wx.cell? ⟨b, 2, none⟩ = some (.int .i64 py) ∧ wx.cell? ⟨b, 3, none⟩ = some (.int .i64 vx) ∧ wx.cell? ⟨b, 4, none⟩ = some (.int .i64 vy) ∧ wx.cell? ⟨b, 5, none⟩ = some (.int .i64 an) ∧ wx.cell? ⟨b, 6, none⟩ = some (.int .i64 sp) ∧ wx.cell? ⟨b, 7, none⟩ = some (.int .i64 de) ∧ wx.cell? ⟨b, 8, none⟩ = some (.int .i64 k) ∧ wx.cell? ⟨b, 9, none⟩ = some (.int .i64 r) ∧ wx.cell? ⟨b, 10, none⟩ = some (.slice ao p.length c))) :=
    hd fun wx hx => ⟨hx.cellS (hkb.cell 1), hx.cellS (hkb.cell 2), hx.cellS (hkb.cell 3), hx.cellS (hkb.cell 4), hx.cellS (hkb.cell 5), hx.cellS (hkb.cell 6), hx.cellS (hkb.cell 7), hx.cellS (hkb.cell 8), hx.cellS (hkb.cell 9), hx.cellS (hkb.cell 10)⟩
  have HCB := hd hcb
  clear hcb hkb
  obtain ⟨q1, q2, q3, q4, q5, q6, q7, q8, q9, q10⟩ := HQ.out w0 (Chg.refl _ _)
  cases s
  · go_wp2_with (first
      | (go_at_call 92; refine hc1.mono ?_; rintro e w1 ⟨rfl, hk1⟩))
    go_ret
    exact ⟨rfl, HCB.out.k hk1⟩
  go_wp2_with (first
    | (go_at_call 92; refine hc1.mono ?_; rintro e w1 ⟨rfl, hk1⟩; obtain ⟨q1, q2, q3, q4, q5, q6, q7, q8, q9, q10⟩ := HQ.out w1 hk1)
    | (go_at_call 80; ((with_reducible refine (hc2 _).mono ?_); rintro e w2 ⟨rfl, hk2⟩; replace hk2 := hk1.k hk2; obtain ⟨q1, q2, q3, q4, q5, q6, q7, q8, q9, q10⟩ := HQ.out w2 hk2))
    | (go_at_call 80; ((with_reducible refine (hc3 _).mono ?_); rintro e w3 ⟨rfl, hk3⟩; replace hk3 := hk2.k hk3; obtain ⟨q1, q2, q3, q4, q5, q6, q7, q8, q9, q10⟩ := HQ.out w3 hk3))
    | (go_at_call 93; refine (hc4 _).mono ?_; rintro e w4 ⟨rfl, rfl⟩))
  all_goals (first | go_ret | skip)
  all_goals (try refine ⟨ret_of (congrArg Value.bool ?_), (by first | exact HCB.out.k hk3 | exact HCB.out.k hk2 | exact HCB.out.k hk1)⟩)
  all_goals clear HQ hc1 hc2 hc3 hc4 q1 q2 q3 q4 q5 q6 q7 q8 q9 q10
  all_goals (try (simp_all; done))
  all_goals (try (simp_all; omega))
  all_goals simp_all
  rw [show (sp == 0) = decide (sp = 0) from rfl, Bool.eq_iff_iff]
  simp only [Bool.or_eq_true, Bool.and_eq_true, decide_eq_true_eq, Bool.not_eq_true', decide_eq_false_iff_not]
  omega
set_option maxRecDepth 100000 in
set_option maxHeartbeats 8000000 in
theorem RightJ_any (w : World) (x : Jnt) (h1 : IV x.at_) (h2 : IV x.to_) :
    Calls Tryz.prog 52 #[vJ x] w fun e w' => e = .returned (.bool (rightJ x)) ∧ Chg [] w w' := by
  obtain ⟨i, a, b, ⟨px, py⟩, ⟨vx, vy⟩, ln⟩ := x
  simp only at h1 h2
  have hcb := (Chg.refl [] w).alloc (.cells #[.int .i64 i, .int .i64 a, .int .i64 b, .int .i64 px, .int .i64 py, .int .i64 vx, .int .i64 vy, .int .i64 ln] 67)
  have hkb := Blk.new w #[.int .i64 i, .int .i64 a, .int .i64 b, .int .i64 px, .int .i64 py, .int .i64 vx, .int .i64 vy, .int .i64 ln] 67
  have hc2 := fun W => WWithin_any (px, py) 274877906944 h1 W
  have hc3 := fun W => WWithin_any (vx, vy) 274877906944 h2 W
  unfold vV at hc2 hc3
  unfold rightJ vJ
  simp only at hc2 hc3 ⊢
  generalize nearV (px, py) 274877906944 = n1 at *
  generalize nearV (vx, vy) 274877906944 = n2 at *
  clear h1 h2
  go_enter Tryz.func52, Tryz.ntmps52
  go_upto_region 1 with (fail)
  generalize w.alloc (.cells #[.int .i64 i, .int .i64 a, .int .i64 b, .int .i64 px, .int .i64 py, .int .i64 vx, .int .i64 vy, .int .i64 ln] 67) = w0 at *
  generalize w.heap.size = bb at *
  have HQ : Hd (∀ wx, Chg [] w0 wx → (wx.cell? ⟨bb, 1, none⟩ = some (.int .i64 a) ∧ wx.cell? ⟨bb, 2, none⟩ = some (.int .i64 b) ∧ wx.cell? ⟨bb, 3, none⟩ = some (.int .i64 px) ∧ wx.cell? ⟨bb, 4, none⟩ = some (.int .i64 py) ∧ wx.cell? ⟨bb, 5, none⟩ = some (.int .i64 vx) ∧ wx.cell? ⟨bb, 6, none⟩ = some (.int .i64 vy) ∧ wx.cell? ⟨bb, 7, none⟩ = some (.int .i64 ln))) :=
    hd fun wx hx => ⟨hx.cellS (hkb.cell 1), hx.cellS (hkb.cell 2), hx.cellS (hkb.cell 3), hx.cellS (hkb.cell 4), hx.cellS (hkb.cell 5), hx.cellS (hkb.cell 6), hx.cellS (hkb.cell 7)⟩
  have HCB := hd hcb
  clear hcb hkb
  obtain ⟨q1, q2, q3, q4, q5, q6, q7⟩ := HQ.out w0 (Chg.refl _ _)
  go_wp2_with (first
    | (go_at_call 80; ((with_reducible refine (hc2 _).mono ?_); rintro e w2 ⟨rfl, hk2⟩; obtain ⟨q1, q2, q3, q4, q5, q6, q7⟩ := HQ.out w2 hk2))
    | (go_at_call 80; ((with_reducible refine (hc3 _).mono ?_); rintro e w3 ⟨rfl, hk3⟩; replace hk3 := hk2.k hk3; obtain ⟨q1, q2, q3, q4, q5, q6, q7⟩ := HQ.out w3 hk3)))
  all_goals (first | go_ret | skip)
  all_goals (try refine ⟨ret_of (congrArg Value.bool ?_), (by first | exact HCB.out.k hk3 | exact HCB.out.k hk2)⟩)
  all_goals clear HQ hc2 hc3 q1 q2 q3 q4 q5 q6 q7
  all_goals (try (simp_all; done))
  all_goals (try (simp_all; omega))
  all_goals simp_all
  rfl
end Go.Proofs.YtpadflhffiiglaaGreat
