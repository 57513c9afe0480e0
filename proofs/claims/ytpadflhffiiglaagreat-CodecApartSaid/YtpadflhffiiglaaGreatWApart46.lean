/- Words and walks that Apart rests on: Fit15. -/
import Derived.Test.YtpadflhffiiglaaGreatWApart45
/- law15.fit: true. -/
namespace Go.Proofs.YtpadflhffiiglaaGreat
open Go.RowKit

theorem OsS_nil (w : World) : OsS w (.slice none 0 0) [] := ⟨Rd.ofOwn (e := 120) (base := 0) (World.ownsRow_nil _ _ _ _), by simp⟩
set_option maxRecDepth 100000 in
set_option maxHeartbeats 2000000 in
theorem fit15_any (w : World) : Calls Tryz.prog 5 #[] w fun e w' => e = .returned (.bool true) ∧ Chg [] w w' := by
  have hWW := fun W => World_any W vW0 W0 (W0_reads W) (by intro b hb; cases hb) (by show (48 : Nat) ≤ _; omega)
  have hl48 : (leW W0).length = 48 := by kernel_rfl
  have hRR := fun W v h => Read0_any W v h
  generalize leW W0 = l0 at *
  rw [hl48] at hWW
  have hBB := fun W => Batch_any W _ [] (OsS_nil W) (by simp) (by simp)
  rw [show (leBatch (([] : List OV).map (·.1))).length = 2 from rfl] at hBB
  generalize leBatch (([] : List OV).map (·.1)) = l2 at *
  go_enter Tryz.func5, Tryz.ntmps5
  go_upto_region 3 with (first
    | (go_at_call 14; refine (WNew_any _).mono ?_; rintro e w1 ⟨rfl, h1⟩)
    | (go_at_call 9; refine (hWW _).mono ?_; rintro e w2 ⟨ao, c, rfl, ho, h2⟩)
    | (go_at_call 12; refine (hRR _ _ ho.bs).mono ?_; rintro e w3 ⟨rfl, h3⟩; unfold vW0))
  have hkx := Blk.new w3 #[.int .i64 0, .int .i64 1, .int .i64 1, .int .i64 0, .int .i64 0, .slice none 0 0, .slice none 0 0, .slice none 0 0] 42
  have hc := ((h1.k' h2).k' h3).k' ((Chg.refl [] w3).alloc (.cells #[.int .i64 0, .int .i64 1, .int .i64 1, .int .i64 0, .int .i64 0, .slice none 0 0, .slice none 0 0, .slice none 0 0] 42))
  generalize w3.alloc (.cells #[.int .i64 0, .int .i64 1, .int .i64 1, .int .i64 0, .int .i64 0, .slice none 0 0, .slice none 0 0, .slice none 0 0] 42) = w4 at *
  generalize w3.heap.size = kb at *
  have HK := hd hkx
  have HM := hd hc
  clear h1 h2 h3 hc hkx ho hWW hRR
  refine anyH_start (n := 18) (L := #[false, false, false, false, false, false, false, false, false, false, false, false, false, false, false, false, false, false]) (by kernel_rfl) (by kernel_rfl) (S := (fun wx => Chg [] w4 wx)) ((Chg.refl _ _).drew) (fun hHeld => ?_)
  generalize w4.drew = w4d at *
  refine anyH_take (i := 0) (d := 11) (L' := #[true, false, false, false, false, false, false, false, false, false, false, false, false, false, false, false, false, false]) (v := ?v2) rfl rfl (by kernel_rfl) (fun _ _ _ h => h) (by rfl) ?hy2 (by assumption) ?rest2
  case hy2 => (intro wx hSw; (try dsimp only at hSw); (have t0 := (HK.out.k hSw).cell 0; have t1 := (HK.out.k hSw).cell 1; have t2 := (HK.out.k hSw).cell 2; have t3 := (HK.out.k hSw).cell 3; have t4 := (HK.out.k hSw).cell 4; have t5 := (HK.out.k hSw).cell 5; have t6 := (HK.out.k hSw).cell 6; have t7 := (HK.out.k hSw).cell 7; simp at t0 t1 t2 t3 t4 t5 t6 t7); go_simp; (try with_reducible rfl))
  simp only [Act.put, List.setIfInBounds_toArray, List.set_cons_zero, List.set_cons_succ]
  refine anyH_take (i := 1) (d := 12) (L' := #[true, true, false, false, false, false, false, false, false, false, false, false, false, false, false, false, false, false]) (v := ?v3) rfl rfl (by kernel_rfl) (fun _ _ _ h => h) (by rfl) ?hy3 (by assumption) ?rest3
  case hy3 => (intro wx hSw; (try dsimp only at hSw); (have t0 := (HK.out.k hSw).cell 0; have t1 := (HK.out.k hSw).cell 1; have t2 := (HK.out.k hSw).cell 2; have t3 := (HK.out.k hSw).cell 3; have t4 := (HK.out.k hSw).cell 4; have t5 := (HK.out.k hSw).cell 5; have t6 := (HK.out.k hSw).cell 6; have t7 := (HK.out.k hSw).cell 7; simp at t0 t1 t2 t3 t4 t5 t6 t7); go_simp; (try with_reducible rfl))
  simp only [Act.put, List.setIfInBounds_toArray, List.set_cons_zero, List.set_cons_succ]
  refine anyH_take (i := 2) (d := 13) (L' := #[true, true, true, false, false, false, false, false, false, false, false, false, false, false, false, false, false, false]) (v := ?v4) rfl rfl (by kernel_rfl) (fun _ _ _ h => h) (by rfl) ?hy4 (by assumption) ?rest4
  case hy4 => (intro wx hSw; (try dsimp only at hSw); (have t0 := (HK.out.k hSw).cell 0; have t1 := (HK.out.k hSw).cell 1; have t2 := (HK.out.k hSw).cell 2; have t3 := (HK.out.k hSw).cell 3; have t4 := (HK.out.k hSw).cell 4; have t5 := (HK.out.k hSw).cell 5; have t6 := (HK.out.k hSw).cell 6; have t7 := (HK.out.k hSw).cell 7; simp at t0 t1 t2 t3 t4 t5 t6 t7); go_simp; (try with_reducible rfl))
  simp only [Act.put, List.setIfInBounds_toArray, List.set_cons_zero, List.set_cons_succ]
  refine anyH_take (i := 3) (d := 14) (L' := #[true, true, true, true, false, false, false, false, false, false, false, false, false, false, false, false, false, false]) (v := ?v5) rfl rfl (by kernel_rfl) (fun _ _ _ h => h) (by rfl) ?hy5 (by assumption) ?rest5
  case hy5 => (intro wx hSw; (try dsimp only at hSw); (have t0 := (HK.out.k hSw).cell 0; have t1 := (HK.out.k hSw).cell 1; have t2 := (HK.out.k hSw).cell 2; have t3 := (HK.out.k hSw).cell 3; have t4 := (HK.out.k hSw).cell 4; have t5 := (HK.out.k hSw).cell 5; have t6 := (HK.out.k hSw).cell 6; have t7 := (HK.out.k hSw).cell 7; simp at t0 t1 t2 t3 t4 t5 t6 t7); go_simp; (try with_reducible rfl))
  simp only [Act.put, List.setIfInBounds_toArray, List.set_cons_zero, List.set_cons_succ]
  refine anyH_take (i := 4) (d := 15) (L' := #[true, true, true, true, true, false, false, false, false, false, false, false, false, false, false, false, false, false]) (v := ?v6) rfl rfl (by kernel_rfl) (fun _ _ _ h => h) (by rfl) ?hy6 (by assumption) ?rest6
  case hy6 => (intro wx hSw; (try dsimp only at hSw); (have t0 := (HK.out.k hSw).cell 0; have t1 := (HK.out.k hSw).cell 1; have t2 := (HK.out.k hSw).cell 2; have t3 := (HK.out.k hSw).cell 3; have t4 := (HK.out.k hSw).cell 4; have t5 := (HK.out.k hSw).cell 5; have t6 := (HK.out.k hSw).cell 6; have t7 := (HK.out.k hSw).cell 7; simp at t0 t1 t2 t3 t4 t5 t6 t7); go_simp; (try with_reducible rfl))
  simp only [Act.put, List.setIfInBounds_toArray, List.set_cons_zero, List.set_cons_succ]
  refine anyH_take (i := 5) (d := 16) (L' := #[true, true, true, true, true, true, false, false, false, false, false, false, false, false, false, false, false, false]) (v := ?v7) rfl rfl (by kernel_rfl) (fun _ _ _ h => h) (by rfl) ?hy7 (by assumption) ?rest7
  case hy7 => (intro wx hSw; (try dsimp only at hSw); (have t0 := (HK.out.k hSw).cell 0; have t1 := (HK.out.k hSw).cell 1; have t2 := (HK.out.k hSw).cell 2; have t3 := (HK.out.k hSw).cell 3; have t4 := (HK.out.k hSw).cell 4; have t5 := (HK.out.k hSw).cell 5; have t6 := (HK.out.k hSw).cell 6; have t7 := (HK.out.k hSw).cell 7; simp at t0 t1 t2 t3 t4 t5 t6 t7); go_simp; (try with_reducible rfl))
  simp only [Act.put, List.setIfInBounds_toArray, List.set_cons_zero, List.set_cons_succ]
  refine anyH_take (i := 6) (d := 17) (L' := #[true, true, true, true, true, true, true, false, false, false, false, false, false, false, false, false, false, false]) (v := ?v8) rfl rfl (by kernel_rfl) (fun _ _ _ h => h) (by rfl) ?hy8 (by assumption) ?rest8
  case hy8 => (intro wx hSw; (try dsimp only at hSw); (have t0 := (HK.out.k hSw).cell 0; have t1 := (HK.out.k hSw).cell 1; have t2 := (HK.out.k hSw).cell 2; have t3 := (HK.out.k hSw).cell 3; have t4 := (HK.out.k hSw).cell 4; have t5 := (HK.out.k hSw).cell 5; have t6 := (HK.out.k hSw).cell 6; have t7 := (HK.out.k hSw).cell 7; simp at t0 t1 t2 t3 t4 t5 t6 t7); go_simp; (try with_reducible rfl))
  simp only [Act.put, List.setIfInBounds_toArray, List.set_cons_zero, List.set_cons_succ]
  refine anyH_take (i := 7) (d := 18) (L' := #[true, true, true, true, true, true, true, true, false, false, false, false, false, false, false, false, false, false]) (v := ?v9) rfl rfl (by kernel_rfl) (fun _ _ _ h => h) (by rfl) ?hy9 (by assumption) ?rest9
  case hy9 => (intro wx hSw; (try dsimp only at hSw); (have t0 := (HK.out.k hSw).cell 0; have t1 := (HK.out.k hSw).cell 1; have t2 := (HK.out.k hSw).cell 2; have t3 := (HK.out.k hSw).cell 3; have t4 := (HK.out.k hSw).cell 4; have t5 := (HK.out.k hSw).cell 5; have t6 := (HK.out.k hSw).cell 6; have t7 := (HK.out.k hSw).cell 7; simp at t0 t1 t2 t3 t4 t5 t6 t7); go_simp; (try with_reducible rfl))
  simp only [Act.put, List.setIfInBounds_toArray, List.set_cons_zero, List.set_cons_succ]
  refine anyH_take (i := 8) (d := 19) (L' := #[true, true, true, true, true, true, true, true, true, false, false, false, false, false, false, false, false, false]) (v := ?v10) rfl rfl (by kernel_rfl) (fun _ _ _ h => h) (by rfl) ?hy10 (by assumption) ?rest10
  case hy10 => (intro wx hSw; (try dsimp only at hSw); (have t0 := (HK.out.k hSw).cell 0; have t1 := (HK.out.k hSw).cell 1; have t2 := (HK.out.k hSw).cell 2; have t3 := (HK.out.k hSw).cell 3; have t4 := (HK.out.k hSw).cell 4; have t5 := (HK.out.k hSw).cell 5; have t6 := (HK.out.k hSw).cell 6; have t7 := (HK.out.k hSw).cell 7; simp at t0 t1 t2 t3 t4 t5 t6 t7); go_simp; (try with_reducible rfl))
  simp only [Act.put, List.setIfInBounds_toArray, List.set_cons_zero, List.set_cons_succ]
  refine anyH_run (i := 9) (L' := #[true, true, true, true, true, true, true, true, true, true, false, false, false, false, false, false, false, false]) rfl (by kernel_rfl) (by rfl) (fun KK hKK => ?_)
  go_simp
  (refine (WNew_any _).mono ?_; rintro e w5 ⟨rfl, hm0⟩; unfold vW0; have hm := Chg.k' hHeld hm0; clear hm0; (try go_simp))
  refine hKK.out _ _ (by assumption) (fun hHeld => ?_)
  clear hKK KK
  try simp only [Act.put, List.setIfInBounds_toArray, List.set_cons_zero, List.set_cons_succ]
  refine anyH_run (i := 10) (L' := #[true, true, true, true, true, true, true, true, true, true, true, false, false, false, false, false, false, false]) rfl (by kernel_rfl) (by rfl) (fun KK hKK => ?_)
  go_simp
  (refine (Same0_any _).mono ?_; rintro e w6 ⟨rfl, hm0⟩; have hm := Chg.k' hHeld hm0; clear hm0; (try go_simp))
  refine hKK.out _ _ (by assumption) (fun hHeld => ?_)
  clear hKK KK
  try simp only [Act.put, List.setIfInBounds_toArray, List.set_cons_zero, List.set_cons_succ]
  refine anyH_run (i := 11) (L' := #[true, true, true, true, true, true, true, true, true, true, true, true, false, false, false, false, false, false]) rfl (by kernel_rfl) (by rfl) (fun KK hKK => ?_)
  go_simp
  (skip)
  refine hKK.out _ _ (by assumption) (fun hHeld => ?_)
  clear hKK KK
  try simp only [Act.put, List.setIfInBounds_toArray, List.set_cons_zero, List.set_cons_succ]
  refine anyH_run (i := 12) (L' := #[true, true, true, true, true, true, true, true, true, true, true, true, true, false, false, false, false, false]) rfl (by kernel_rfl) (by rfl) (fun KK hKK => ?_)
  go_simp
  (skip)
  refine hKK.out _ _ (by assumption) (fun hHeld => ?_)
  clear hKK KK
  try simp only [Act.put, List.setIfInBounds_toArray, List.set_cons_zero, List.set_cons_succ]
  refine anyH_run (i := 13) (L' := #[true, true, true, true, true, true, true, true, true, true, true, true, true, true, false, false, false, false]) rfl (by kernel_rfl) (by rfl) (fun KK hKK => ?_)
  go_simp
  (refine (hBB _).mono ?_; rintro e w7 ⟨ao7, c7, rfl, ho7, hm0⟩; have hm := Chg.k' hHeld hm0; clear hm0; (try go_simp))
  refine hKK.out _ _ (by assumption) (fun hHeld => ?_)
  clear hKK KK
  try simp only [Act.put, List.setIfInBounds_toArray, List.set_cons_zero, List.set_cons_succ]
  refine anyH_run (i := 14) (L' := #[true, true, true, true, true, true, true, true, true, true, true, true, true, true, true, false, false, false]) rfl (by kernel_rfl) (by rfl) (fun KK hKK => ?_)
  go_simp
  (skip)
  refine hKK.out _ _ (by assumption) (fun hHeld => ?_)
  clear hKK KK
  try simp only [Act.put, List.setIfInBounds_toArray, List.set_cons_zero, List.set_cons_succ]
  refine anyH_run (i := 15) (L' := #[true, true, true, true, true, true, true, true, true, true, true, true, true, true, true, true, false, false]) rfl (by kernel_rfl) (by rfl) (fun KK hKK => ?_)
  go_simp
  (skip)
  refine hKK.out _ _ (by assumption) (fun hHeld => ?_)
  clear hKK KK
  try simp only [Act.put, List.setIfInBounds_toArray, List.set_cons_zero, List.set_cons_succ]
  refine anyH_run (i := 16) (L' := #[true, true, true, true, true, true, true, true, true, true, true, true, true, true, true, true, true, false]) rfl (by kernel_rfl) (by rfl) (fun KK hKK => ?_)
  go_simp
  (skip)
  refine hKK.out _ _ (by assumption) (fun hHeld => ?_)
  clear hKK KK
  try simp only [Act.put, List.setIfInBounds_toArray, List.set_cons_zero, List.set_cons_succ]
  refine anyH_run (i := 17) (L' := #[true, true, true, true, true, true, true, true, true, true, true, true, true, true, true, true, true, true]) rfl (by kernel_rfl) (by rfl) (fun KK hKK => ?_)
  go_simp
  (skip)
  refine hKK.out _ _ (by assumption) (fun hHeld => ?_)
  clear hKK KK
  try simp only [Act.put, List.setIfInBounds_toArray, List.set_cons_zero, List.set_cons_succ]
  refine wpAnyH_done (by kernel_rfl) ?_ _
  skip
  go_wp2_with (fail)
  go_ret
  exact ⟨rfl, HM.out.k' hHeld⟩
end Go.Proofs.YtpadflhffiiglaaGreat
