/- What bagatellelaw19 lays beside the journal. -/
import Derived.Test.YtdmokfplkhmijaaJournalA
import Derived.Test.YtdmokfplkhmijaaJMath
import Derived.Test.YtdmokfplkhmijaaPart19
import Derived.Test.YtdmokfplkhmijaaDiskNew
namespace Go.Proofs.Ytdmokfplkhmijaa
open Go.RowKit

section
attribute [local go_sem] and62
theorem number19_any (x : Int) (w : World) : Calls Try.prog 17 #[.int .i64 x] w fun e w' => e = .returned (.int .i64 (x % 4611686018427387904)) ∧ w = w' := by
  go_enter Try.func17, Try.ntmps17
  go_wp2_with fail
  go_ret
  exact ⟨rfl, rfl⟩
end

def lightN (ps : List (Int × List UInt8)) : Nat := (ps.map fun x => 1 + x.2.length).sum
theorem lightN_app (a b : List (Int × List UInt8)) : lightN (a ++ b) = lightN a + lightN b := by simp [lightN]
theorem lightN_one (x : Int × List UInt8) : lightN [x] = 1 + x.2.length := by simp [lightN]
theorem lightN_snoc (ps : List (Int × List UInt8)) (k : Nat) (h : k < ps.length) : lightN (ps.take (k + 1)) = lightN (ps.take k) + (1 + ps[k].2.length) := by
  rw [List.take_succ_eq_append_getElem h, lightN_app, lightN_one]
theorem lightN_take (ps : List (Int × List UInt8)) (k : Nat) : lightN (ps.take k) ≤ lightN ps := by
  have : lightN (ps.take k ++ ps.drop k) = lightN (ps.take k) + lightN (ps.drop k) := lightN_app _ _
  rw [List.take_append_drop] at this
  omega

set_option maxHeartbeats 1000000 in
theorem light_any (w : World) (v : Value) (ps : List (Int × List UInt8)) (h0 : Rds EPart 2 w v ps) : Calls Try.prog 13 #[v] w fun e w' => e = .returned (.bool (decide (lightN ps ≤ 2000))) ∧ Chg [] w w' := by
  obtain ⟨ao0, cap0, rfl⟩ := h0.form
  have H0 := hd h0
  clear h0
  obtain ⟨R, hR⟩ : ∃ R, decide (lightN ps ≤ 2000) = R := ⟨_, rfl⟩
  have HR := hd hR
  rw [hR]
  clear hR
  go_enter Try.func13, Try.ntmps13
  go_wp2_with fail
  go_loopw [3, 5, 8] (fun n _ i wr => ∃ k : Nat, ∃ t : Nat, k ≤ ps.length ∧ i = .int .i64 k ∧ n = .int .i64 t ∧ t = lightN (ps.take k) ∧ t ≤ 2000 ∧ Chg [] w wr) (fun _ _ i _ => ps.length - (intOf i).toNat)
  case atStart => exact ⟨0, 0, by omega, rfl, rfl, by simp [lightN], by omega, Chg.refl _ _⟩
  case round =>
    obtain ⟨k, t, hk, rfl, rfl, ht, ht2, hch⟩ := hrel
    have Ht := hd ht
    clear ht
    by_cases hlt : k < ps.length
    · obtain ⟨b0, off0, capx, hv, hpc, hpm, hel⟩ := H0.out.at (by omega)
      have hpl : ps.length ≤ 9223372036854775807 := by unfold maxLen at hpm; omega
      simp only [Value.slice.injEq, true_and] at hv
      obtain ⟨rfl, rfl⟩ := hv
      obtain ⟨c, ⟨u, rfl, hbu, nlo, nhi, hll⟩, -, hcell⟩ := hel k hlt
      have q0 := Chg.cellS hch (hcell 0 (by decide))
      have q1 := Chg.cellS hch (hcell 1 (by decide))
      simp at q0 q1
      obtain ⟨aou, cu, bu, ou, rfl, -⟩ := hbu.open
      have hS := lightN_snoc ps k hlt
      have hle := lightN_take ps (k + 1)
      clear hel hcell hbu
      generalize hX : ps[k] = X at *
      obtain ⟨xn, xp⟩ := X
      simp only at q0 q1 nlo nhi hll hS
      rw [← Ht.out] at hS
      have HS := hd hS
      have HLE := hd hle
      clear hS hle
      by_cases hbig : 2000 < t + (1 + xp.length)
      · have hRf : R = false := by rw [← HR.out, decide_eq_false]; have := HS.out; have := HLE.out; omega
        subst hRf
        have hbig' : (2000 : Int) < (t : Int) + (1 + (xp.length : Int)) := by omega
        go_wp2_with fail
        go_ret
        exact ⟨rfl, hch.alloc _⟩
      · have hbig' : ¬ (2000 : Int) < (t : Int) + (1 + (xp.length : Int)) := by omega
        go_wp2_with fail
        go_roundw
        case rel => exact ⟨k + 1, t + (1 + xp.length), by omega, by go_num, by go_num, HS.out.symm, by omega, hch.alloc _⟩
        case measure => simp [intOf]; omega
    · obtain rfl : k = ps.length := by omega
      have hRt : R = true := by rw [← HR.out, decide_eq_true]; have := Ht.out; rw [List.take_length] at this; omega
      subst hRt
      go_wp2_with fail
      go_ret
      exact ⟨rfl, hch⟩

def toldB (ps : List (Int × List UInt8)) : List UInt8 := catF (numsR ps)
theorem toldB_snoc (ps : List (Int × List UInt8)) (k : Nat) (h : k < ps.length) : toldB (ps.take (k + 1)) = toldB (ps.take k) ++ frameB (ps[k].1 % 4611686018427387904) ps[k].2 := by
  unfold toldB
  rw [← numsR_take, numsR_snoc ps k h, catF_app, numsR_take]
  simp [catF]
theorem numsR_length (ps : List (Int × List UInt8)) : (numsR ps).length = ps.length := by simp [numsR]
theorem toldB_length (ps : List (Int × List UInt8)) : (toldB ps).length ≤ 20 * lightN ps := by
  unfold toldB
  rw [catF_length]
  induction ps with
  | nil => simp [numsR, recLen]
  | cons x ps ih =>
    simp only [numsR, recLen, List.map_cons, List.sum_cons, lightN, List.map_map] at ih ⊢
    omega

section
attribute [local go_sem] strB_app
set_option maxHeartbeats 2000000 in
theorem told_any (w : World) (v : Value) (ps : List (Int × List UInt8)) (h0 : Rds EPart 2 w v ps) (hlight : lightN ps ≤ 2000) : Calls Try.prog 20 #[v] w fun e w' => e = .returned (.string (strB (toldB ps))) ∧ Chg [] w w' := by
  obtain ⟨ao0, cap0, rfl⟩ := h0.form
  have H0 := hd h0
  clear h0
  obtain ⟨R, hR⟩ : ∃ R, toldB ps = R := ⟨_, rfl⟩
  have HR := hd hR
  rw [hR]
  clear hR
  go_enter Try.func20, Try.ntmps20
  go_wp2_with fail
  go_loopw [3, 5, 8] (fun t _ i wr => ∃ k : Nat, ∃ T : List UInt8, k ≤ ps.length ∧ i = .int .i64 k ∧ t = .string (strB T) ∧ T = toldB (ps.take k) ∧ Chg [] w wr) (fun _ _ i _ => ps.length - (intOf i).toNat)
  case atStart => exact ⟨0, [], by omega, rfl, rfl, rfl, Chg.refl _ _⟩
  case round =>
    obtain ⟨k, T, hk, rfl, rfl, hT, hch⟩ := hrel
    have HT := hd hT
    clear hT
    by_cases hlt : k < ps.length
    · obtain ⟨b0, off0, capx, hv, hpc, hpm, hel⟩ := H0.out.at (by omega)
      have hpl : ps.length ≤ 9223372036854775807 := by unfold maxLen at hpm; omega
      simp only [Value.slice.injEq, true_and] at hv
      obtain ⟨rfl, rfl⟩ := hv
      obtain ⟨c, ⟨u, rfl, hbu, nlo, nhi, hll⟩, -, hcell⟩ := hel k hlt
      have q0 := Chg.cellS hch (hcell 0 (by decide))
      have q1 := Chg.cellS hch (hcell 1 (by decide))
      simp at q0 q1
      obtain ⟨aou, cu, bu, ou, rfl, -⟩ := hbu.open
      replace hbu := hbu.k hch
      have hS := toldB_snoc ps k hlt
      have hTl : T.length ≤ 40000 := by rw [HT.out]; have := toldB_length (ps.take k); have := lightN_take ps k; omega
      clear hel hcell
      generalize hX : ps[k] = X at *
      obtain ⟨xn, xp⟩ := X
      simp only at q0 q1 hbu nlo nhi hll hS
      rw [← HT.out] at hS
      have HS := hd hS
      clear hS
      go_upto_region 5 with (fail)
      have hcb1 := (Chg.refl [] wr).alloc (.cells #[.int .i64 xn, .slice aou xp.length cu] 32)
      have k5 := Blk.new wr #[.int .i64 xn, .slice aou xp.length cu] 32
      replace hbu := hbu.k hcb1
      replace hch := hch.k hcb1
      generalize wr.alloc (.cells #[.int .i64 xn, .slice aou xp.length cu] 32) = wq at *
      clear hcb1
      have r0 := k5.cell 0
      have r1 := k5.cell 1
      simp at r0 r1
      have R0 := hd r0
      have R1 := hd r1
      have HBU := hd hbu
      have HCH := hd hch
      obtain ⟨m, hm⟩ : ∃ m, m = xn % 4611686018427387904 := ⟨_, rfl⟩
      have HM := hd hm
      have hq : ¬ 9223372036854775807 < T.length + (xp.length + 20) := by omega
      have HFL := hd (frameB_length m xp)
      clear r0 r1 hbu hch q0 q1 hm
      refine anyH_start (n := 10) (L := #[false, false, false, false, false, false, false, false, false, false]) (by kernel_rfl) (by kernel_rfl) (S := (fun wx => Chg [] wq wx)) ((Chg.refl _ _).drew) (fun hHeld => ?_)
      refine anyH_take (i := 0) (d := 12) (L' := #[true, false, false, false, false, false, false, false, false, false]) (v := ?v3) rfl rfl (by kernel_rfl) (fun _ _ _ h => h) (by rfl) ?hy3 (by assumption) ?rest3
      case hy3 => (intro wx hSw; (try dsimp only at hSw); (have t0 := Chg.cellS hSw R0.out; have t1 := Chg.cellS hSw R1.out); go_simp; (try with_reducible rfl))
      simp only [Act.put, List.setIfInBounds_toArray, List.set_cons_zero, List.set_cons_succ]
      refine anyH_take (i := 1) (d := 13) (L' := #[true, true, false, false, false, false, false, false, false, false]) (v := ?v4) rfl rfl (by kernel_rfl) (fun _ _ _ h => h) (by rfl) ?hy4 (by assumption) ?rest4
      case hy4 => (intro wx hSw; (try dsimp only at hSw); (have t0 := Chg.cellS hSw R0.out; have t1 := Chg.cellS hSw R1.out); go_simp; (try with_reducible rfl))
      simp only [Act.put, List.setIfInBounds_toArray, List.set_cons_zero, List.set_cons_succ]
      refine anyH_take (i := 2) (d := 14) (L' := #[true, true, true, false, false, false, false, false, false, false]) (v := ?v5) rfl rfl (by kernel_rfl) (fun _ _ _ h => h) (by rfl) ?hy5 (by assumption) ?rest5
      case hy5 => (intro wx hSw; (try dsimp only at hSw); (have t0 := Chg.cellS hSw R0.out; have t1 := Chg.cellS hSw R1.out); go_simp; (try with_reducible rfl))
      simp only [Act.put, List.setIfInBounds_toArray, List.set_cons_zero, List.set_cons_succ]
      refine anyH_take (i := 4) (d := 16) (L' := #[true, true, true, false, true, false, false, false, false, false]) (v := ?v6) rfl rfl (by kernel_rfl) (fun _ _ _ h => h) (by rfl) ?hy6 (by assumption) ?rest6
      case hy6 => (intro wx hSw; (try dsimp only at hSw); (have t0 := Chg.cellS hSw R0.out; have t1 := Chg.cellS hSw R1.out); go_simp; (try with_reducible rfl))
      simp only [Act.put, List.setIfInBounds_toArray, List.set_cons_zero, List.set_cons_succ]
      refine anyH_take (i := 5) (d := 17) (L' := #[true, true, true, false, true, true, false, false, false, false]) (v := ?v7) rfl rfl (by kernel_rfl) (fun _ _ _ h => h) (by rfl) ?hy7 (by assumption) ?rest7
      case hy7 => (intro wx hSw; (try dsimp only at hSw); (have t0 := Chg.cellS hSw R0.out; have t1 := Chg.cellS hSw R1.out); go_simp; (try with_reducible rfl))
      simp only [Act.put, List.setIfInBounds_toArray, List.set_cons_zero, List.set_cons_succ]
      refine anyH_run (i := 3) (L' := #[true, true, true, true, true, true, false, false, false, false]) rfl (by kernel_rfl) (by rfl) (fun KK hKK => ?_)
      go_simp
      (refine (number19_any _ _).mono ?_; rintro e wn ⟨rfl, rfl⟩; rw [← HM.out]; (try go_simp))
      refine hKK.out _ _ (by assumption) (fun hHeld => ?_)
      clear hKK KK
      try simp only [Act.put, List.setIfInBounds_toArray, List.set_cons_zero, List.set_cons_succ]
      refine anyH_run (i := 6) (L' := #[true, true, true, true, true, true, true, false, false, false]) rfl (by kernel_rfl) (by rfl) (fun KK hKK => ?_)
      go_simp
      (refine (FBytes_any m _ xp _ (HBU.out.k (Chg.refl [] wq).drew) (by omega)).mono ?_; rintro e w6 ⟨ao6, c6, rfl, hb6, hc6⟩; have hm6 := (Chg.refl [] wq).drew.k hc6; have s6 := run_str hb6.bs; clear hb6 hc6; (try go_simp))
      refine hKK.out _ _ (by assumption) (fun hHeld => ?_)
      clear hKK KK
      try simp only [Act.put, List.setIfInBounds_toArray, List.set_cons_zero, List.set_cons_succ]
      refine anyH_run (i := 7) (L' := #[true, true, true, true, true, true, true, true, false, false]) rfl (by kernel_rfl) (by rfl) (fun KK hKK => ?_)
      go_simp
      (have hq2 := HFL.out)
      refine hKK.out _ _ (by assumption) (fun hHeld => ?_)
      clear hKK KK
      try simp only [Act.put, List.setIfInBounds_toArray, List.set_cons_zero, List.set_cons_succ]
      refine anyH_run (i := 8) (L' := #[true, true, true, true, true, true, true, true, true, false]) rfl (by kernel_rfl) (by rfl) (fun KK hKK => ?_)
      go_simp
      (skip)
      refine hKK.out _ _ (by assumption) (fun hHeld => ?_)
      clear hKK KK
      try simp only [Act.put, List.setIfInBounds_toArray, List.set_cons_zero, List.set_cons_succ]
      refine anyH_run (i := 9) (L' := #[true, true, true, true, true, true, true, true, true, true]) rfl (by kernel_rfl) (by rfl) (fun KK hKK => ?_)
      go_simp
      (skip)
      refine hKK.out _ _ (by assumption) (fun hHeld => ?_)
      clear hKK KK
      try simp only [Act.put, List.setIfInBounds_toArray, List.set_cons_zero, List.set_cons_succ]
      refine wpAnyH_done (by kernel_rfl) ?_ _
      clear s6
      go_wp2_with fail
      go_roundw
      case rel => exact ⟨k + 1, T ++ frameB m xp, by omega, by go_num, rfl, by rw [HS.out, HM.out], HCH.out.k hm6⟩
      case measure => simp [intOf]; omega
    · obtain rfl : k = ps.length := by omega
      have hTR : T = R := by rw [HT.out, List.take_length]; exact HR.out
      subst hTR
      go_wp2_with fail
      go_ret
      exact ⟨rfl, hch⟩
end
end Go.Proofs.Ytdmokfplkhmijaa
