/- Words and walks that Codec rests on: OrderR. -/
import Derived.Test.YtlicefbgcoddbaaWCodec16
/- order.Right. -/
namespace Go.Proofs.Ytlicefbgcoddbaa
open Go.RowKit

set_option maxRecDepth 100000 in
set_option maxHeartbeats 8000000 in
theorem ORight_any (w : World) (o : Ord) (pv : Value) (hp : VsS w pv o.shape.p) (hi : IO o) : Calls Try.prog 8 #[vO o pv] w fun e w' => e = .returned (.bool (rightO o)) ∧ Chg [] w w' := by
  have hcu := fun W => Used_any W o pv hp.sl
  have hcs := fun W (hW : Chg [] w W) => OSame_any W o (usedO o) pv (usedP o pv) (hp.k hW) ((used_p o hp).k hW)
  have hcB := fun W => OBody_any W o pv hp.sl
  have hcJ := fun W => OJoint_any W o pv hp.sl
  have hcR := fun W (hW : Chg [] w W) => RightB_any W (bodyO o) pv (hp.k hW) hi.sp hi.pos hi.vel hi.spin
  have hcL := fun W => RightJ_any W (jointO o) hi.pos hi.vel
  have hc5 := fun W => OWithin_any o.vel 4611686018427387904 hi.vel W
  have hc6 := fun W => OWithin_any o.vel 17592186044416 hi.vel W
  have hcA := fun W => Abs_any o.spin hi.spin W
  unfold rightO
  obtain ⟨kd, hkd⟩ : ∃ kd, kd = kindO o := ⟨_, rfl⟩
  rw [← hkd]
  unfold kindO at hkd
  generalize vO (usedO o) (usedP o pv) = vz at *
  generalize sameO o (usedO o) = s at *
  generalize vB (bodyO o) pv = vb at *
  generalize vJ (jointO o) = vj at *
  generalize rightB (bodyO o) = rb at *
  generalize rightJ (jointO o) = rj at *
  generalize nearV o.vel 4611686018427387904 = n5 at *
  generalize nearV o.vel 17592186044416 = n6 at *
  generalize absF o.spin = ab at *
  obtain ⟨k, i, a, b, ⟨px, py⟩, ⟨vx, vy⟩, an, sp, de, ln, ⟨sk, sr, p⟩⟩ := o
  simp only at hp hc5 hc6 hcA
  unfold vO at hcu hcs hcB hcJ ⊢
  unfold vV at hc5 hc6
  simp only at hcu hcs hcB hcJ hc5 hc6 hcA hkd ⊢
  have HK := hd hkd
  clear hkd
  obtain ⟨ao, c, rfl, -⟩ := hp.form
  clear hp hi
  generalize p.length = x1 at *
  have hcb := (Chg.refl [] w).alloc (.cells #[.int .i64 k, .int .i64 i, .int .i64 a, .int .i64 b, .int .i64 px, .int .i64 py, .int .i64 vx, .int .i64 vy, .int .i64 an, .int .i64 sp, .int .i64 de, .int .i64 ln, .int .i64 sk, .int .i64 sr, .slice ao x1 c] 35)
  have hk1 := Blk.new w #[.int .i64 k, .int .i64 i, .int .i64 a, .int .i64 b, .int .i64 px, .int .i64 py, .int .i64 vx, .int .i64 vy, .int .i64 an, .int .i64 sp, .int .i64 de, .int .i64 ln, .int .i64 sk, .int .i64 sr, .slice ao x1 c] 35
  go_enter Try.func8, Try.ntmps8
  go_upto_region 1 with (fail)
  generalize w.alloc (.cells #[.int .i64 k, .int .i64 i, .int .i64 a, .int .i64 b, .int .i64 px, .int .i64 py, .int .i64 vx, .int .i64 vy, .int .i64 an, .int .i64 sp, .int .i64 de, .int .i64 ln, .int .i64 sk, .int .i64 sr, .slice ao x1 c] 35) = w0 at *
  generalize w.heap.size = bk at *
  have HQ : Hd (∀ wx, Chg [] w0 wx → (wx.cell? ⟨bk, 0, none⟩ = some (.int .i64 k) ∧ wx.cell? ⟨bk, 1, none⟩ = some (.int .i64 i) ∧ wx.cell? ⟨bk, 2, none⟩ = some (.int .i64 a) ∧ wx.cell? ⟨bk, 3, none⟩ = some (.int .i64 b) ∧ wx.cell? ⟨bk, 4, none⟩ = some (.int .i64 px) ∧ wx.cell? ⟨bk, 5, none⟩ = some (.int .i64 py) ∧ wx.cell? ⟨bk, 6, none⟩ = some (.int .i64 vx) ∧ wx.cell? ⟨bk, 7, none⟩ = some (.int .i64 vy) ∧ wx.cell? ⟨bk, 8, none⟩ = some (.int .i64 an) ∧ wx.cell? ⟨bk, 9, none⟩ = some (.int .i64 sp) ∧ wx.cell? ⟨bk, 10, none⟩ = some (.int .i64 de) ∧ wx.cell? ⟨bk, 11, none⟩ = some (.int .i64 ln) ∧ wx.cell? ⟨bk, 12, none⟩ = some (.int .i64 sk) ∧ wx.cell? ⟨bk, 13, none⟩ = some (.int .i64 sr) ∧ wx.cell? ⟨bk, 14, none⟩ = some (.slice ao x1 c))) :=
    hd fun wx hx => ⟨hx.cellS (hk1.cell 0), hx.cellS (hk1.cell 1), hx.cellS (hk1.cell 2), hx.cellS (hk1.cell 3), hx.cellS (hk1.cell 4), hx.cellS (hk1.cell 5), hx.cellS (hk1.cell 6), hx.cellS (hk1.cell 7), hx.cellS (hk1.cell 8), hx.cellS (hk1.cell 9), hx.cellS (hk1.cell 10), hx.cellS (hk1.cell 11), hx.cellS (hk1.cell 12), hx.cellS (hk1.cell 13), hx.cellS (hk1.cell 14)⟩
  have HCB := hd hcb
  clear hcb hk1
  refine anyH_start (n := 5) (L := #[false, false, false, false, false]) (by kernel_rfl) (by kernel_rfl) (S := (fun wx => Chg [] w0 wx)) ((Chg.refl _ _).drew) (fun hHeld => ?_)
  refine anyH_take (i := 0) (d := 3) (L' := #[true, false, false, false, false]) (v := ?v2) rfl rfl (by kernel_rfl) (fun _ _ _ h => h) (by rfl) ?hy2 (by assumption) ?rest2
  case hy2 => (intro wx hSw; (try dsimp only at hSw); (obtain ⟨q0, q1, q2, q3, q4, q5, q6, q7, q8, q9, q10, q11, q12, q13, q14⟩ := HQ.out wx hSw); go_simp; (try with_reducible rfl))
  simp only [Act.put, List.setIfInBounds_toArray, List.set_cons_zero, List.set_cons_succ]
  refine anyH_take (i := 1) (d := 4) (L' := #[true, true, false, false, false]) (v := ?v3) rfl rfl (by kernel_rfl) (fun _ _ _ h => h) (by rfl) ?hy3 (by assumption) ?rest3
  case hy3 => (intro wx hSw; (try dsimp only at hSw); (obtain ⟨q0, q1, q2, q3, q4, q5, q6, q7, q8, q9, q10, q11, q12, q13, q14⟩ := HQ.out wx hSw); go_simp; (try with_reducible rfl))
  simp only [Act.put, List.setIfInBounds_toArray, List.set_cons_zero, List.set_cons_succ]
  refine anyH_run (i := 2) (L' := #[true, true, true, false, false]) rfl (by kernel_rfl) (by rfl) (fun KK hKK => ?_)
  go_simp
  (refine (hcu _).mono ?_; rintro e w2 ⟨rfl, hc2⟩; have hm2 := Chg.k hHeld hc2; clear hc2; (try go_simp))
  refine hKK.out _ _ (by assumption) (fun hHeld => ?_)
  clear hKK KK
  try simp only [Act.put, List.setIfInBounds_toArray, List.set_cons_zero, List.set_cons_succ]
  refine anyH_run (i := 3) (L' := #[true, true, true, true, false]) rfl (by kernel_rfl) (by rfl) (fun KK hKK => ?_)
  go_simp
  (refine (hcs _ (HCB.out.k hm2)).mono ?_; rintro e w3 ⟨rfl, hc3⟩; have hm3 := Chg.k hm2 hc3; clear hc3; (try go_simp))
  refine hKK.out _ _ (by assumption) (fun hHeld => ?_)
  clear hKK KK
  try simp only [Act.put, List.setIfInBounds_toArray, List.set_cons_zero, List.set_cons_succ]
  refine anyH_run (i := 4) (L' := #[true, true, true, true, true]) rfl (by kernel_rfl) (by rfl) (fun KK hKK => ?_)
  go_simp
  (skip)
  refine hKK.out _ _ (by assumption) (fun hHeld => ?_)
  clear hKK KK
  try simp only [Act.put, List.setIfInBounds_toArray, List.set_cons_zero, List.set_cons_succ]
  refine wpAnyH_done (by kernel_rfl) ?_ _
  skip
  obtain ⟨q0, q1, q2, q3, q4, q5, q6, q7, q8, q9, q10, q11, q12, q13, q14⟩ := HQ.out w3 hm3
  clear hm2
  cases s
  · go_wp2_with (fail)
    all_goals go_ret
    all_goals exact ⟨rfl, HCB.out.k hm3⟩
  have HM := HCB.out.k hm3
  by_cases h1 : k = 1
  · subst h1
    go_wp2_with (first
      | (go_at_call 28; refine (hcB _).mono ?_; rintro e w4 ⟨rfl, hm4⟩)
      | (go_at_call 27; refine (hcR _ (HM.k hm4)).mono ?_; rintro e w5 ⟨rfl, hm5⟩))
    go_ret
    exact ⟨ret_of (congrArg Value.bool (by rw [HK.out]; simp)), (HM.k hm4).k hm5⟩
  have g1 : (k == 1) = false := by rw [beq_eq_false_iff_ne]; exact h1
  by_cases h2 : k = 2
  · subst h2
    clear h1 g1
    go_wp2_with (fail)
    go_ret
    exact ⟨ret_of (congrArg Value.bool (by rw [HK.out]; simp)), HM⟩
  have g2 : (k == 2) = false := by rw [beq_eq_false_iff_ne]; exact h2
  by_cases h4 : k = 4
  · subst h4
    clear h1 g1 h2 g2
    go_wp2_with (fail)
    go_ret
    exact ⟨ret_of (congrArg Value.bool (by rw [HK.out]; simp)), HM⟩
  have g4 : (k == 4) = false := by rw [beq_eq_false_iff_ne]; exact h4
  by_cases h3 : k = 3
  · subst h3
    clear h1 g1 h2 g2 h4 g4
    go_wp2_with (first
      | (go_at_call 30; refine (hcJ _).mono ?_; rintro e w4 ⟨rfl, hm4⟩)
      | (go_at_call 29; refine (hcL _).mono ?_; rintro e w5 ⟨rfl, hm5⟩))
    go_ret
    exact ⟨ret_of (congrArg Value.bool (by rw [HK.out]; simp)), (HM.k hm4).k hm5⟩
  have g3 : (k == 3) = false := by rw [beq_eq_false_iff_ne]; exact h3
  by_cases h5 : k = 5
  · subst h5
    clear h1 g1 h2 g2 h4 g4 h3 g3
    go_wp2_with (first
      | (go_at_call 31; refine (hc5 _).mono ?_; rintro e w4 ⟨rfl, hm4⟩; obtain ⟨q0, q1, q2, q3, q4, q5, q6, q7, q8, q9, q10, q11, q12, q13, q14⟩ := HQ.out w4 (hm3.k hm4))
      | (go_at_call 32; refine (hcA _).mono ?_; rintro e w5 ⟨rfl, rfl⟩))
    all_goals (first | go_ret | skip)
    all_goals (try refine ⟨ret_of (congrArg Value.bool ?_), (by first | exact HM.k hm4 | exact HM)⟩)
    all_goals have hk := HK.out
    all_goals clear HK HQ hcu hcs hcB hcJ hcR hcL hc5 hc6 hcA q0 q1 q2 q3 q4 q5 q6 q7 q8 q9 q10 q11 q12 q13 q14
    all_goals (first | (simp_all; done) | (simp_all; omega) | (simp_all; rfl))
  have g5 : (k == 5) = false := by rw [beq_eq_false_iff_ne]; exact h5
  by_cases h6 : k = 6
  · subst h6
    clear h1 g1 h2 g2 h4 g4 h3 g3 h5 g5
    go_wp2_with (first
      | (go_at_call 31; refine (hc6 _).mono ?_; rintro e w4 ⟨rfl, hm4⟩))
    go_ret
    exact ⟨ret_of (congrArg Value.bool (by rw [HK.out]; simp)), HM.k hm4⟩
  have g6 : (k == 6) = false := by rw [beq_eq_false_iff_ne]; exact h6
  have HE : Hd (kd = false) := hd (by rw [HK.out]; simp [h1, h2, h3, h4, h5, h6])
  clear h1 h2 h3 h4 h5 h6
  go_wp2_with (fail)
  go_ret
  exact ⟨ret_of (congrArg Value.bool (by rw [HE.out]; rfl)), HM⟩
end Go.Proofs.Ytlicefbgcoddbaa
