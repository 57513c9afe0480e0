/- FrameBack: for every input the law returns true. -/
import Derived.Test.YteeanpbdnpmpaaaFrameFit
import Derived.Deep.Cut
namespace Go.Proofs.Yteeanpbdnpmpaaa
open Go.RowKit

set_option maxRecDepth 100000 in
set_option maxHeartbeats 4000000 in
theorem FrameBack_law (n : Int) (v1 : Value) (l1 : List UInt8) (v2 : Value) (l2 : List UInt8) (w : World) (_lo : -9223372036854775808 ≤ n) (_hi : n ≤ 9223372036854775807) (h1 : Bs w v1 l1) (_hl1 : l1.length ≤ 140737488351232) (h2 : Bs w v2 l2) (_hl2 : l2.length ≤ 140737488351232) :
    Calls Try.prog 11 #[.int .i64 n, v1, v2] w fun e w' => e = .returned (.bool true) ∧ Chg [] w w' := by
  obtain ⟨ao1, cap1, b1, off1, rfl, -⟩ := h1.open
  obtain ⟨ao2, cap2, b2, off2, rfl, -⟩ := h2.open
  go_enter Try.func11, Try.ntmps11
  go_wp2_with fail
  refine (fit16_any _).mono ?_
  rintro e w1 ⟨rfl, hc⟩
  replace h1 := h1.k hc
  replace h2 := h2.k hc
  by_cases hbig : 2000 < (l1.length : Int) + l2.length
  · go_wp2_with fail
    go_ret
    exact ⟨rfl, hc⟩
  go_wp2_with fail
  refine (number_any _ _).mono ?_
  rintro e w1' ⟨rfl, rfl⟩
  obtain ⟨N, hN⟩ : ∃ N, N = n % 4611686018427387904 := ⟨_, rfl⟩
  have hN0 : 0 ≤ N := by omega
  have hN1 : N ≤ 9223372036854775807 := by omega
  rw [← hN]
  clear hN
  go_wp2_with fail
  refine (FBytes_any N _ l1 _ h1 (by omega)).mono ?_
  rintro e w2 ⟨aoB, cB, rfl, hB, hc2⟩
  replace hc := hc.k hc2
  replace h1 := h1.k hc2
  replace h2 := h2.k hc2
  have hB0 := hB.bs
  clear hB hc2
  have n1 := hd (nextB_yes N l1 l2 l1.length hN0 hN1 (by omega) (Int.le_refl _))
  have n2 : oneB (frameB N l1) l1.length = some (N, l1) := by
    have := nextB_yes N l1 [] l1.length hN0 hN1 (by omega) (Int.le_refl _)
    rw [List.append_nil] at this
    unfold oneB; rw [this]; simp only; rw [frameB_length, if_pos rfl]
  have n3 : oneB (frameB N l1 ++ [0]) l1.length = none := by
    have := nextB_yes N l1 [0] l1.length hN0 hN1 (by omega) (Int.le_refl _)
    unfold oneB; rw [this]; simp only; rw [List.length_append, frameB_length, if_neg (by simp)]
  have n4 : nextB (frameB N l1) ((l1.length : Int) - 1) = none := by
    have := nextB_short N l1 [] ((l1.length : Int) - 1) hN0 hN1 (by omega) (by omega)
    rwa [List.append_nil] at this
  have hFl := hd (frameB_length N l1)
  obtain ⟨F, hF⟩ : ∃ F, F = frameB N l1 := ⟨_, rfl⟩
  rw [← hF] at n1 n2 n3 n4 hFl hB0
  have N2 := hd n2
  have N3 := hd n3
  have N4 := hd n4
  have HF := hd hF
  clear n2 n3 n4 hF
  go_wp2_with fail
  have HS := hd hB0.strs
  have H1 := hd h1
  refine anyH_start (n := 6) (L := #[false, false, false, false, false, false]) (by kernel_rfl) (by kernel_rfl) (S := (fun wx => Chg [] w2 wx)) ((Chg.refl _ _).drew) (fun hHeld => ?_)
  refine anyH_take (i := 0) (d := 31) (L' := #[true, false, false, false, false, false]) (v := ?v7) rfl rfl (by kernel_rfl) (fun _ _ _ h => h) (by rfl) ?hy7 (by assumption) ?rest7
  case hy7 => (intro wx hSw; (try dsimp only at hSw); (skip); go_simp; (try with_reducible rfl))
  simp only [Act.put, List.setIfInBounds_toArray, List.set_cons_zero, List.set_cons_succ]
  refine anyH_take (i := 1) (d := 32) (L' := #[true, true, false, false, false, false]) (v := ?v8) rfl rfl (by kernel_rfl) (fun _ _ _ h => h) (by rfl) ?hy8 (by assumption) ?rest8
  case hy8 => (intro wx hSw; (try dsimp only at hSw); (have t0 := HS.out _ hSw); go_simp; (try with_reducible rfl))
  simp only [Act.put, List.setIfInBounds_toArray, List.set_cons_zero, List.set_cons_succ]
  refine anyH_take (i := 2) (d := 33) (L' := #[true, true, true, false, false, false]) (v := ?v9) rfl rfl (by kernel_rfl) (fun _ _ _ h => h) (by rfl) ?hy9 (by assumption) ?rest9
  case hy9 => (intro wx hSw; (try dsimp only at hSw); (skip); go_simp; (try with_reducible rfl))
  simp only [Act.put, List.setIfInBounds_toArray, List.set_cons_zero, List.set_cons_succ]
  refine anyH_take (i := 3) (d := 34) (L' := #[true, true, true, true, false, false]) (v := ?v10) rfl rfl (by kernel_rfl) (fun _ _ _ h => h) (by rfl) ?hy10 (by assumption) ?rest10
  case hy10 => (intro wx hSw; (try dsimp only at hSw); (skip); go_simp; (try with_reducible rfl))
  simp only [Act.put, List.setIfInBounds_toArray, List.set_cons_zero, List.set_cons_succ]
  refine anyH_run (i := 4) (L' := #[true, true, true, true, true, false]) rfl (by kernel_rfl) (by rfl) (fun KK hKK => ?_)
  go_simp
  (go_at_call 39; refine (Laid_any N _ l1 _ (H1.out.k ((Chg.refl _ _).drew)) (by omega)).mono ?_; rintro e w3 ⟨rfl, hc3⟩; rw [← HF.out]; have hm := (Chg.refl [] w2).drew.k hc3; clear hc3; try go_simp)
  refine hKK.out _ _ (by assumption) (fun hHeld => ?_)
  clear hKK KK
  try simp only [Act.put, List.setIfInBounds_toArray, List.set_cons_zero, List.set_cons_succ]
  refine anyH_run (i := 5) (L' := #[true, true, true, true, true, true]) rfl (by kernel_rfl) (by rfl) (fun KK hKK => ?_)
  go_simp
  (skip)
  refine hKK.out _ _ (by assumption) (fun hHeld => ?_)
  clear hKK KK
  try simp only [Act.put, List.setIfInBounds_toArray, List.set_cons_zero, List.set_cons_succ]
  refine wpAnyH_done (by kernel_rfl) ?_ _
  replace hc := hc.k hm
  replace h1 := h1.k hm
  replace h2 := h2.k hm
  replace hB0 := hB0.k hm
  clear H1 HS hm
  go_wp2_with (first | (refine wpClone rfl _ rfl _ _ rfl hB0 (by rw [hFl.out]; omega) ?_; intro aoC cC w4 hC hcC; have h24 := h2.k hcC) | (refine wpAppB rfl (.tmp 39) _ rfl w3.heap.size _ _ rfl hC _ _ rfl h24 (by rw [hFl.out]; omega) hcC.size ?_; intro ao4 c4 w5 hD hgD hmD))
  have hcD := hcC.app hC hgD (Nat.le_refl _)
  replace hc := hc.k hcD
  replace h1 := h1.k hcD
  replace h2 := h2.k hcD
  replace hB0 := hB0.k hcD
  have hN1 := Next_any _ (F ++ l2) l1.length _ hD.bs (by rw [List.length_append, hFl.out]; omega)
  rw [n1.out] at hN1
  clear hD hcD hgD hmD hC hcC h24 n1
  refine (hN1).mono ?_
  rintro e w6 ⟨ao6, c6, rfl, hP6, hc6⟩
  have hP6 := hP6.bs
  replace hc := hc.k hc6
  replace h1 := h1.k hc6
  replace h2 := h2.k hc6
  replace hB0 := hB0.k hc6
  clear hc6
  go_upto_region 10 with (fail)
  have hcb18 := (Chg.refl [] w6).alloc (.cells #[.int .i64 N, .slice ao6 l1.length c6] 55)
  have k8 := Blk.new w6 #[.int .i64 N, .slice ao6 l1.length c6] 55
  replace hc := hc.k hcb18
  replace h1 := h1.k hcb18
  replace h2 := h2.k hcb18
  replace hB0 := hB0.k hcb18
  replace hP6 := hP6.k hcb18
  generalize w6.alloc (.cells #[.int .i64 N, .slice ao6 l1.length c6] 55) = w7 at *
  clear hcb18
  go_wp2_with fail
  have hO1 := One_any _ F l1.length _ hB0 (by rw [hFl.out]; omega)
  rw [N2.out] at hO1
  refine (hO1).mono ?_
  rintro e w8 ⟨ao8, c8, rfl, hP8, hc8⟩
  replace hc := hc.k hc8
  replace h1 := h1.k hc8
  replace h2 := h2.k hc8
  replace hB0 := hB0.k hc8
  replace hP6 := hP6.k hc8
  replace k8 := k8.k hc8
  clear hc8 N2
  go_upto_region 11 with (fail)
  have hcb21 := (Chg.refl [] w8).alloc (.cells #[.int .i64 N, .slice ao8 l1.length c8] 55)
  have k11 := Blk.new w8 #[.int .i64 N, .slice ao8 l1.length c8] 55
  replace hc := hc.k hcb21
  replace h1 := h1.k hcb21
  replace h2 := h2.k hcb21
  replace hB0 := hB0.k hcb21
  replace hP6 := hP6.k hcb21
  replace k8 := k8.k hcb21
  replace hP8 := hP8.k hcb21
  generalize w8.alloc (.cells #[.int .i64 N, .slice ao8 l1.length c8] 55) = w9 at *
  clear hcb21
  go_wp2_with (first | (refine wpClone rfl _ rfl _ _ rfl hB0 (by rw [hFl.out]; omega) ?_; intro aoC cC wC hC hcC; have hZ := OwB.one wC wC.heap.size 0 0 (by decide) (Nat.le_refl _)) | (refine wpAppB rfl (.tmp 57) _ rfl w9.heap.size _ _ rfl (hC.alloc _) _ _ rfl hZ.bs (by rw [hFl.out]; simp; omega) (Nat.le_trans hcC.size (by simp)) ?_; intro ao12 c12 wE hE hgE hmE))
  have hcE := (hcC.alloc _).app (hC.alloc _) hgE (Nat.le_refl _)
  replace hc := hc.k hcE
  replace h1 := h1.k hcE
  replace hB0 := hB0.k hcE
  replace hP6 := hP6.k hcE
  replace k8 := k8.k hcE
  replace hP8 := hP8.k hcE
  replace k11 := k11.k hcE
  have hO2 := One_any _ (F ++ [0]) l1.length _ hE.bs (by rw [List.length_append, hFl.out]; simp; omega)
  rw [N3.out] at hO2
  clear hE hcE hgE hmE hC hcC hZ N3
  refine (hO2).mono ?_
  rintro e w10 ⟨rfl, hc10⟩
  replace hc := hc.k hc10
  replace h1 := h1.k hc10
  replace hB0 := hB0.k hc10
  replace hP6 := hP6.k hc10
  replace k8 := k8.k hc10
  replace hP8 := hP8.k hc10
  replace k11 := k11.k hc10
  clear hc10
  go_upto_region 12 with (fail)
  have hcb25 := (Chg.refl [] w10).alloc (.cells #[.int .i64 0, .slice none 0 0] 55)
  have k13 := Blk.new w10 #[.int .i64 0, .slice none 0 0] 55
  replace hc := hc.k hcb25
  replace h1 := h1.k hcb25
  replace hB0 := hB0.k hcb25
  replace hP6 := hP6.k hcb25
  replace k8 := k8.k hcb25
  replace hP8 := hP8.k hcb25
  replace k11 := k11.k hcb25
  generalize w10.alloc (.cells #[.int .i64 0, .slice none 0 0] 55) = w11 at *
  clear hcb25
  go_wp2_with fail
  have hN2 := Next_any _ F ((l1.length : Int) - 1) _ hB0 (by rw [hFl.out]; omega)
  rw [N4.out] at hN2
  clear N4
  refine (hN2).mono ?_
  rintro e w12 ⟨rfl, hc12⟩
  replace hc := hc.k hc12
  replace h1 := h1.k hc12
  replace hP6 := hP6.k hc12
  replace k8 := k8.k hc12
  replace hP8 := hP8.k hc12
  replace k11 := k11.k hc12
  clear hc12 hB0
  go_upto_region 13 with (fail)
  have hcb28 := (Chg.refl [] w12).alloc (.cells #[.int .i64 0, .slice none 0 0] 55)
  have k15 := Blk.new w12 #[.int .i64 0, .slice none 0 0] 55
  replace hc := hc.k hcb28
  replace h1 := h1.k hcb28
  replace hP6 := hP6.k hcb28
  replace k8 := k8.k hcb28
  replace hP8 := hP8.k hcb28
  replace k11 := k11.k hcb28
  generalize w12.alloc (.cells #[.int .i64 0, .slice none 0 0] 55) = w13 at *
  clear hcb28
  have q80 := k8.cell 0
  have q81 := k8.cell 1
  have q110 := k11.cell 0
  have q111 := k11.cell 1
  simp at q80 q81 q110 q111
  have e6 := run_str hP6
  have e8 := run_str hP8
  have e1 := run_str h1
  clear h1 hP6 hP8 k8 k11 k13 k15
  go_wp2_with fail
  go_ret
  exact ⟨rfl, hc⟩
end Go.Proofs.Yteeanpbdnpmpaaa
