/- FrameBends: for every input the law returns true. -/
import Derived.Test.YteeanpbdnpmpaaaFrameFit
import Derived.Test.YteeanpbdnpmpaaaFrameAll
import Derived.Test.YteeanpbdnpmpaaaFrameBendMath
import Derived.Deep.Cut
namespace Go.Proofs.Yteeanpbdnpmpaaa
open Go.RowKit

theorem RecL.form {w : World} {base : Nat} {v : Value} {rs : List RecV} (h : RecL w base v rs) : ∃ ao c, v = .slice ao rs.length c := by
  rcases h.1.2 with ⟨rfl, h0⟩ | ⟨g, cap, cur, rfl, _⟩
  · exact ⟨none, 0, by rw [h0]⟩
  · exact ⟨_, _, rfl⟩

attribute [local go_sem] andFFFF
set_option maxRecDepth 100000 in
set_option maxHeartbeats 4000000 in
theorem FrameBends_law (n : Int) (v1 : Value) (l1 : List UInt8) (at_ : Int) (mask : UInt32) (w : World) (_nlo : -9223372036854775808 ≤ n) (_nhi : n ≤ 9223372036854775807) (h1 : Bs w v1 l1)
    (_lo : -9223372036854775808 ≤ at_) (_hi : at_ ≤ 9223372036854775807) :
    Calls Try.prog 14 #[.agg #[.int .i64 n, v1], .int .i64 at_, .int .u32 (n32 mask)] w fun e w' => e = .returned (.bool true) ∧ Chg [] w w' := by
  obtain ⟨ao1, cap1, b1, off1, rfl, -⟩ := h1.open
  have hc := Chg.refl [] w
  go_enter Try.func14, Try.ntmps14
  go_upto_region 1 with (fail)
  have hcb1 := (Chg.refl [] w).alloc (.cells #[.int .i64 n, .slice ao1 l1.length cap1] 65)
  have kx := Blk.new w #[.int .i64 n, .slice ao1 l1.length cap1] 65
  replace h1 := h1.k hcb1
  replace hc := hc.k hcb1
  generalize w.alloc (.cells #[.int .i64 n, .slice ao1 l1.length cap1] 65) = w0 at *
  clear hcb1
  go_wp2_with fail
  refine (fit16_any _).mono ?_
  rintro e w1 ⟨rfl, hc1⟩
  replace h1 := h1.k hc1
  replace hc := hc.k hc1
  replace kx := kx.k hc1
  clear hc1
  have q0 := kx.cell 0
  have q1 := kx.cell 1
  simp at q0 q1
  by_cases hbig : 500 < (l1.length : Int)
  · go_wp2_with fail
    go_ret
    exact ⟨rfl, hc⟩
  obtain ⟨N, hN⟩ : ∃ N, N = n % 4611686018427387904 := ⟨_, rfl⟩
  have hN0 : 0 ≤ N := by omega
  have hN1 : N ≤ 9223372036854775807 := by omega
  have HN := hd hN
  clear hN
  go_upto_region 5 with (fail)
  have Q0 := hd q0
  have Q1 := hd q1
  have H1 := hd h1
  clear q0 q1
  refine anyH_start (n := 7) (L := #[false, false, false, false, false, false, false]) (by kernel_rfl) (by kernel_rfl) (S := (fun wx => Chg [] w1 wx)) ((Chg.refl _ _).drew) (fun hHeld => ?_)
  refine anyH_take (i := 0) (d := 21) (L' := #[true, false, false, false, false, false, false]) (v := ?v5) rfl rfl (by kernel_rfl) (fun _ _ _ h => h) (by rfl) ?hy5 (by assumption) ?rest5
  case hy5 => (intro wx hSw; (try dsimp only at hSw); (have t0 := Chg.cellS hSw Q0.out; have t1 := Chg.cellS hSw Q1.out); go_simp; (try with_reducible rfl))
  simp only [Act.put, List.setIfInBounds_toArray, List.set_cons_zero, List.set_cons_succ]
  refine anyH_take (i := 1) (d := 22) (L' := #[true, true, false, false, false, false, false]) (v := ?v6) rfl rfl (by kernel_rfl) (fun _ _ _ h => h) (by rfl) ?hy6 (by assumption) ?rest6
  case hy6 => (intro wx hSw; (try dsimp only at hSw); (have t0 := Chg.cellS hSw Q0.out; have t1 := Chg.cellS hSw Q1.out); go_simp; (try with_reducible rfl))
  simp only [Act.put, List.setIfInBounds_toArray, List.set_cons_zero, List.set_cons_succ]
  refine anyH_take (i := 3) (d := 24) (L' := #[true, true, false, true, false, false, false]) (v := ?v7) rfl rfl (by kernel_rfl) (fun _ _ _ h => h) (by rfl) ?hy7 (by assumption) ?rest7
  case hy7 => (intro wx hSw; (try dsimp only at hSw); (have t0 := Chg.cellS hSw Q0.out; have t1 := Chg.cellS hSw Q1.out); go_simp; (try with_reducible rfl))
  simp only [Act.put, List.setIfInBounds_toArray, List.set_cons_zero, List.set_cons_succ]
  refine anyH_take (i := 4) (d := 25) (L' := #[true, true, false, true, true, false, false]) (v := ?v8) rfl rfl (by kernel_rfl) (fun _ _ _ h => h) (by rfl) ?hy8 (by assumption) ?rest8
  case hy8 => (intro wx hSw; (try dsimp only at hSw); (have t0 := Chg.cellS hSw Q0.out; have t1 := Chg.cellS hSw Q1.out); go_simp; (try with_reducible rfl))
  simp only [Act.put, List.setIfInBounds_toArray, List.set_cons_zero, List.set_cons_succ]
  refine anyH_run (i := 2) (L' := #[true, true, true, true, true, false, false]) rfl (by kernel_rfl) (by rfl) (fun KK hKK => ?_)
  go_simp
  (refine (number_any _ _).mono ?_; rintro e wn ⟨rfl, rfl⟩; rw [← HN.out]; try go_simp)
  refine hKK.out _ _ (by assumption) (fun hHeld => ?_)
  clear hKK KK
  try simp only [Act.put, List.setIfInBounds_toArray, List.set_cons_zero, List.set_cons_succ]
  refine anyH_run (i := 5) (L' := #[true, true, true, true, true, true, false]) rfl (by kernel_rfl) (by rfl) (fun KK hKK => ?_)
  go_simp
  (refine (FBytes_any N _ l1 _ (H1.out.k ((Chg.refl _ _).drew)) (by omega)).mono ?_; rintro e w3 ⟨aoB, cB, rfl, hB, hc3⟩; have hm := (Chg.refl [] w1).drew.k hc3; replace hB := hB.bs; clear hc3; try go_simp)
  refine hKK.out _ _ (by assumption) (fun hHeld => ?_)
  clear hKK KK
  try simp only [Act.put, List.setIfInBounds_toArray, List.set_cons_zero, List.set_cons_succ]
  refine anyH_run (i := 6) (L' := #[true, true, true, true, true, true, true]) rfl (by kernel_rfl) (by rfl) (fun KK hKK => ?_)
  go_simp
  (skip)
  refine hKK.out _ _ (by assumption) (fun hHeld => ?_)
  clear hKK KK
  try simp only [Act.put, List.setIfInBounds_toArray, List.set_cons_zero, List.set_cons_succ]
  refine wpAnyH_done (by kernel_rfl) ?_ _
  replace hc := hc.k hm
  replace kx := kx.k hm
  replace h1 := h1.k hm
  clear hm H1
  have hz : 0 ≤ at_ % 65536 ∧ at_ % 65536 < 65536 := by omega
  obtain ⟨hz0, hz1⟩ := hz
  obtain ⟨k, hk⟩ : ∃ k : Nat, at_ % 65536 % (8 * ((l1.length : Int) + 20)) = k := ⟨(at_ % 65536 % (8 * ((l1.length : Int) + 20))).toNat, by rw [Int.toNat_of_nonneg]; exact Int.emod_nonneg _ (by omega)⟩
  have hkl : k < 8 * (l1.length + 20) := by have := Int.emod_lt_of_pos (at_ % 65536) (show (0 : Int) < 8 * ((l1.length : Int) + 20) by omega); omega
  have hFl := hd (frameB_length N l1)
  have hfin : ∀ r, bendB (frameB N l1) k mask ≠ frameB N l1 → nextB (bendB (frameB N l1) k mask ++ r) 16777216 = none := fun r h => nextB_bend N l1 r 16777216 k mask hN0 hN1 (by omega) h
  have hCl : Hd ((bendB (frameB N l1) k mask).length = l1.length + 20) := hd (by rw [bendB_length, hFl.out])
  obtain ⟨F, hF⟩ : ∃ F, F = frameB N l1 := ⟨_, rfl⟩
  rw [← hF] at hfin hFl hB hCl
  have Hfin := hd hfin
  have Hk := hd hk
  clear hF hk hfin
  go_upto_region 7 with (fail)
  rw [Hk.out]
  go_wp2_with fail
  refine (Bend_any _ F k mask _ hB (by omega) (by omega) (by rw [hFl.out]; omega)).mono ?_
  rintro e w4 ⟨aoC, cC, rfl, hC, hc4⟩
  replace hc := hc.k hc4
  replace kx := kx.k hc4
  replace h1 := h1.k hc4
  replace hB := hB.k hc4
  clear hc4
  replace hC := hC.bs
  obtain ⟨C, hCC⟩ : ∃ C, C = bendB F k mask := ⟨_, rfl⟩
  rw [← hCC] at hC hCl Hfin
  clear hCC
  rw [hFl.out] at hC ⊢
  have e1 := run_str hC
  have e2 := run_str hB
  by_cases hCF : C = F
  · subst hCF
    clear Hfin hCl
    go_wp2_with fail
    go_ret
    exact ⟨rfl, hc⟩
  have hsn : (C == F) = false := by simpa using hCF
  go_upto_region 10 with (fail)
  have Hfin2 := hd (fun r => Hfin.out r hCF)
  have q1 := kx.cell 1
  simp at q1
  have Q1 := hd q1
  have H1 := hd h1
  have HC := hd hC
  clear q1 e1 e2 hsn hCF Hfin hB
  refine anyH_start (n := 7) (L := #[false, false, false, false, false, false, false]) (by kernel_rfl) (by kernel_rfl) (S := (fun wx => Chg [] w4 wx)) ((Chg.refl _ _).drew) (fun hHeld => ?_)
  refine anyH_take (i := 0) (d := 42) (L' := #[true, false, false, false, false, false, false]) (v := ?v17) rfl rfl (by kernel_rfl) (fun _ _ _ h => h) (by rfl) ?hy17 (by assumption) ?rest17
  case hy17 => (intro wx hSw; (try dsimp only at hSw); (have t1 := Chg.cellS hSw Q1.out); go_simp; (try with_reducible rfl))
  simp only [Act.put, List.setIfInBounds_toArray, List.set_cons_zero, List.set_cons_succ]
  refine anyH_take (i := 2) (d := 44) (L' := #[true, false, true, false, false, false, false]) (v := ?v18) rfl rfl (by kernel_rfl) (fun _ _ _ h => h) (by rfl) ?hy18 (by assumption) ?rest18
  case hy18 => (intro wx hSw; (try dsimp only at hSw); (have t1 := Chg.cellS hSw Q1.out); go_simp; (try with_reducible rfl))
  simp only [Act.put, List.setIfInBounds_toArray, List.set_cons_zero, List.set_cons_succ]
  refine anyH_take (i := 3) (d := 45) (L' := #[true, false, true, true, false, false, false]) (v := ?v19) rfl rfl (by kernel_rfl) (fun _ _ _ h => h) (by rfl) ?hy19 (by assumption) ?rest19
  case hy19 => (intro wx hSw; (try dsimp only at hSw); (have t1 := Chg.cellS hSw Q1.out); go_simp; (try with_reducible rfl))
  simp only [Act.put, List.setIfInBounds_toArray, List.set_cons_zero, List.set_cons_succ]
  refine anyH_run (i := 1) (L' := #[true, true, true, true, false, false, false]) rfl (by kernel_rfl) (by rfl) (fun KK hKK => ?_)
  (refine wp_cloneB _ rfl _ _ rfl (HC.out.k (Chg.refl [] w4).drew) (by rw [hCl.out]; omega) ?_; intro ao5 c5 w5 hX hc5; have hm := (Chg.refl [] w4).drew.k hc5)
  refine hKK.out _ _ (by assumption) (fun hHeld => ?_)
  clear hKK KK
  try simp only [Act.put, List.setIfInBounds_toArray, List.set_cons_zero, List.set_cons_succ]
  refine anyH_run (i := 4) (L' := #[true, true, true, true, true, false, false]) rfl (by kernel_rfl) (by rfl) (fun KK hKK => ?_)
  go_simp
  (refine (FBytes_any 1 _ l1 _ (H1.out.k hm) (by omega)).mono ?_; rintro e w6 ⟨ao6, c6, rfl, hY, hc6⟩; replace hm := hm.k hc6; replace hX := hX.k hc6; try go_simp)
  refine hKK.out _ _ (by assumption) (fun hHeld => ?_)
  clear hKK KK
  try simp only [Act.put, List.setIfInBounds_toArray, List.set_cons_zero, List.set_cons_succ]
  refine anyH_run (i := 5) (L' := #[true, true, true, true, true, true, false]) rfl (by kernel_rfl) (by rfl) (fun KK hKK => ?_)
  (refine wp_appB _ _ rfl w4.heap.size _ _ rfl (hX.mono (by simp)) _ _ rfl hY.bs (by rw [hCl.out, frameB_length]; omega) hm.size ?_; intro ao7 c7 w7 hZ hg7 hm7; replace hm := hm.app (hX.mono (by simp)) hg7 (Nat.le_refl _))
  refine hKK.out _ _ (by assumption) (fun hHeld => ?_)
  clear hKK KK
  try simp only [Act.put, List.setIfInBounds_toArray, List.set_cons_zero, List.set_cons_succ]
  refine anyH_run (i := 6) (L' := #[true, true, true, true, true, true, true]) rfl (by kernel_rfl) (by rfl) (fun KK hKK => ?_)
  go_simp
  (skip)
  refine hKK.out _ _ (by assumption) (fun hHeld => ?_)
  clear hKK KK
  try simp only [Act.put, List.setIfInBounds_toArray, List.set_cons_zero, List.set_cons_succ]
  refine wpAnyH_done (by kernel_rfl) ?_ _
  replace hZ := hZ.bs
  clear hg7 hm7 hX hY HC
  replace hc := hc.k hm
  obtain ⟨L, hL⟩ : ∃ L, L = C ++ frameB 1 l1 := ⟨_, rfl⟩
  have hn := Hfin2.out (frameB 1 l1)
  rw [← hL] at hZ hn
  have hLl : C.length + (frameB 1 l1).length = L.length := by rw [hL, List.length_append]
  rw [hLl] at hZ ⊢
  have hLs : L.length ≤ 10000 := by rw [← hLl, hCl.out, frameB_length]; omega
  have hsc : scanB 16777216 L = [] := by unfold scanB; simp only [scanF]; rw [hn]
  have Hn := hd hn
  have Hsc := hd hsc
  clear hn hsc hL hLl Hfin2
  go_wp2_with fail
  have hN1 := Next_any _ L 16777216 _ hZ (by omega)
  rw [Hn.out] at hN1
  refine (hN1).mono ?_
  rintro e w8 ⟨rfl, hc8⟩
  replace hc := hc.k hc8
  replace hZ := hZ.k hc8
  clear hc8 Hn
  go_upto_region 12 with (fail)
  have hcb28 := (Chg.refl [] w8).alloc (.cells #[.int .i64 0, .slice none 0 0] 55)
  have k10 := Blk.new w8 #[.int .i64 0, .slice none 0 0] 55
  replace hc := hc.k hcb28
  replace hZ := hZ.k hcb28
  generalize w8.alloc (.cells #[.int .i64 0, .slice none 0 0] 55) = w9 at *
  clear hcb28
  go_wp2_with fail
  refine (All_any ao7 c7 L 16777216 _ hZ (by omega)).mono ?_
  rintro e w10 ⟨v, rs, rfl, hrs, hR, hc10⟩
  replace hc := hc.k hc10
  rw [Hsc.out] at hrs
  obtain rfl : rs = [] := List.map_eq_nil_iff.1 hrs
  obtain ⟨ao, c, rfl⟩ := hR.form
  clear hR hrs hZ hc10 k10
  go_wp2_with fail
  go_ret
  exact ⟨rfl, hc⟩
end Go.Proofs.Yteeanpbdnpmpaaa
