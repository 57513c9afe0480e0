/- Words and walks that JournalDowns rests on, part 5. -/
import Derived.Test.YtpoohpmcopjklaaWJournalDowns3
import Derived.Test.YtpoohpmcopjklaaWJournalDowns4
import Derived.Deep.Cut
import Derived.Test.YtpoohpmcopjklaaWJournalDowns1
import Derived.Test.YtpoohpmcopjklaaWJournalDowns2
/- What bagatellelaw19 lays beside the journal. -/
namespace Go.Proofs.Ytpoohpmcopjklaa
open Go.RowKit

section
attribute [local go_sem] and62
theorem number19_any (x : Int) (w : World) : Calls Try.prog 17 #[.int .i64 x] w fun e w' => e = .returned (.int .i64 (x % 4611686018427387904)) ∧ w = w' := by
  go_enter Try.func17, Try.ntmps17
  go_wp2_with fail
  go_ret
  exact ⟨rfl, rfl⟩
end

def lightN (ps : List (Int × List UInt8)) : Nat := (ps.map fun x => 1 + x.2.length).sum
theorem lightN_app (a b : List (Int × List UInt8)) : lightN (a ++ b) = lightN a + lightN b := by simp [lightN]
theorem lightN_one (x : Int × List UInt8) : lightN [x] = 1 + x.2.length := by simp [lightN]
theorem lightN_snoc (ps : List (Int × List UInt8)) (k : Nat) (h : k < ps.length) : lightN (ps.take (k + 1)) = lightN (ps.take k) + (1 + ps[k].2.length) := by
  rw [List.take_succ_eq_append_getElem h, lightN_app, lightN_one]
theorem lightN_take (ps : List (Int × List UInt8)) (k : Nat) : lightN (ps.take k) ≤ lightN ps := by
  have : lightN (ps.take k ++ ps.drop k) = lightN (ps.take k) + lightN (ps.drop k) := lightN_app _ _
  rw [List.take_append_drop] at this
  omega

set_option maxHeartbeats 1000000 in
theorem light_any (w : World) (v : Value) (ps : List (Int × List UInt8)) (h0 : Rds EPart 2 w v ps) : Calls Try.prog 13 #[v] w fun e w' => e = .returned (.bool (decide (lightN ps ≤ 2000))) ∧ Chg [] w w' := by
  obtain ⟨ao0, cap0, rfl⟩ := h0.form
  have H0 := hd h0
  clear h0
  obtain ⟨R, hR⟩ : ∃ R, decide (lightN ps ≤ 2000) = R := ⟨_, rfl⟩
  have HR := hd hR
  rw [hR]
  clear hR
  go_enter Try.func13, Try.ntmps13
  go_wp2_with fail
  go_loopw [3, 5, 8] (fun n _ i wr => ∃ k : Nat, ∃ t : Nat, k ≤ ps.length ∧ i = .int .i64 k ∧ n = .int .i64 t ∧ t = lightN (ps.take k) ∧ t ≤ 2000 ∧ Chg [] w wr) (fun _ _ i _ => ps.length - (intOf i).toNat)
  case atStart => exact ⟨0, 0, by omega, rfl, rfl, by simp [lightN], by omega, Chg.refl _ _⟩
  case round =>
    obtain ⟨k, t, hk, rfl, rfl, ht, ht2, hch⟩ := hrel
    have Ht := hd ht
    clear ht
    by_cases hlt : k < ps.length
    · obtain ⟨b0, off0, capx, hv, hpc, hpm, hel⟩ := H0.out.at (by omega)
      have hpl : ps.length ≤ 9223372036854775807 := by unfold maxLen at hpm; omega
      simp only [Value.slice.injEq, true_and] at hv
      obtain ⟨rfl, rfl⟩ := hv
      obtain ⟨c, ⟨u, rfl, hbu, nlo, nhi, hll⟩, -, hcell⟩ := hel k hlt
      have q0 := Chg.cellS hch (hcell 0 (by decide))
      have q1 := Chg.cellS hch (hcell 1 (by decide))
      simp at q0 q1
      obtain ⟨aou, cu, bu, ou, rfl, -⟩ := hbu.open
      have hS := lightN_snoc ps k hlt
      have hle := lightN_take ps (k + 1)
      clear hel hcell hbu
      generalize hX : ps[k] = X at *
      obtain ⟨xn, xp⟩ := X
      simp only at q0 q1 nlo nhi hll hS
      rw [← Ht.out] at hS
      have HS := hd hS
      have HLE := hd hle
      clear hS hle
      by_cases hbig : 2000 < t + (1 + xp.length)
      · have hRf : R = false := by rw [← HR.out, decide_eq_false]; have := HS.out; have := HLE.out; omega
        subst hRf
        have hbig' : (2000 : Int) < (t : Int) + (1 + (xp.length : Int)) := by omega
        go_wp2_with fail
        go_ret
        exact ⟨rfl, hch.alloc _⟩
      · have hbig' : ¬ (2000 : Int) < (t : Int) + (1 + (xp.length : Int)) := by omega
        go_wp2_with fail
        go_roundw
        case rel => exact ⟨k + 1, t + (1 + xp.length), by omega, by go_num, by go_num, HS.out.symm, by omega, hch.alloc _⟩
        case measure => simp [intOf]; omega
    · obtain rfl : k = ps.length := by omega
      have hRt : R = true := by rw [← HR.out, decide_eq_true]; have := Ht.out; rw [List.take_length] at this; omega
      subst hRt
      go_wp2_with fail
      go_ret
      exact ⟨rfl, hch⟩

def toldB (ps : List (Int × List UInt8)) : List UInt8 := catF (numsR ps)
theorem toldB_snoc (ps : List (Int × List UInt8)) (k : Nat) (h : k < ps.length) : toldB (ps.take (k + 1)) = toldB (ps.take k) ++ frameB (ps[k].1 % 4611686018427387904) ps[k].2 := by
  unfold toldB
  rw [← numsR_take, numsR_snoc ps k h, catF_app, numsR_take]
  simp [catF]
theorem numsR_length (ps : List (Int × List UInt8)) : (numsR ps).length = ps.length := by simp [numsR]
theorem toldB_length (ps : List (Int × List UInt8)) : (toldB ps).length ≤ 20 * lightN ps := by
  unfold toldB
  rw [catF_length]
  induction ps with
  | nil => simp [numsR, recLen]
  | cons x ps ih =>
    simp only [numsR, recLen, List.map_cons, List.sum_cons, lightN, List.map_map] at ih ⊢
    omega

section
attribute [local go_sem] strB_app
set_option maxHeartbeats 2000000 in
theorem told_any (w : World) (v : Value) (ps : List (Int × List UInt8)) (h0 : Rds EPart 2 w v ps) (hlight : lightN ps ≤ 2000) : Calls Try.prog 20 #[v] w fun e w' => e = .returned (.string (strB (toldB ps))) ∧ Chg [] w w' := by
  obtain ⟨ao0, cap0, rfl⟩ := h0.form
  have H0 := hd h0
  clear h0
  obtain ⟨R, hR⟩ : ∃ R, toldB ps = R := ⟨_, rfl⟩
  have HR := hd hR
  rw [hR]
  clear hR
  go_enter Try.func20, Try.ntmps20
  go_wp2_with fail
  go_loopw [3, 5, 8] (fun t _ i wr => ∃ k : Nat, ∃ T : List UInt8, k ≤ ps.length ∧ i = .int .i64 k ∧ t = .string (strB T) ∧ T = toldB (ps.take k) ∧ Chg [] w wr) (fun _ _ i _ => ps.length - (intOf i).toNat)
  case atStart => exact ⟨0, [], by omega, rfl, rfl, rfl, Chg.refl _ _⟩
  case round =>
    obtain ⟨k, T, hk, rfl, rfl, hT, hch⟩ := hrel
    have HT := hd hT
    clear hT
    by_cases hlt : k < ps.length
    · obtain ⟨b0, off0, capx, hv, hpc, hpm, hel⟩ := H0.out.at (by omega)
      have hpl : ps.length ≤ 9223372036854775807 := by unfold maxLen at hpm; omega
      simp only [Value.slice.injEq, true_and] at hv
      obtain ⟨rfl, rfl⟩ := hv
      obtain ⟨c, ⟨u, rfl, hbu, nlo, nhi, hll⟩, -, hcell⟩ := hel k hlt
      have q0 := Chg.cellS hch (hcell 0 (by decide))
      have q1 := Chg.cellS hch (hcell 1 (by decide))
      simp at q0 q1
      obtain ⟨aou, cu, bu, ou, rfl, -⟩ := hbu.open
      replace hbu := hbu.k hch
      have hS := toldB_snoc ps k hlt
      have hTl : T.length ≤ 40000 := by rw [HT.out]; have := toldB_length (ps.take k); have := lightN_take ps k; omega
      clear hel hcell
      generalize hX : ps[k] = X at *
      obtain ⟨xn, xp⟩ := X
      simp only at q0 q1 hbu nlo nhi hll hS
      rw [← HT.out] at hS
      have HS := hd hS
      clear hS
      go_upto_region 5 with (fail)
      have hcb1 := (Chg.refl [] wr).alloc (.cells #[.int .i64 xn, .slice aou xp.length cu] 32)
      have k5 := Blk.new wr #[.int .i64 xn, .slice aou xp.length cu] 32
      replace hbu := hbu.k hcb1
      replace hch := hch.k hcb1
      generalize wr.alloc (.cells #[.int .i64 xn, .slice aou xp.length cu] 32) = wq at *
      clear hcb1
      have r0 := k5.cell 0
      have r1 := k5.cell 1
      simp at r0 r1
      have R0 := hd r0
      have R1 := hd r1
      have HBU := hd hbu
      have HCH := hd hch
      obtain ⟨m, hm⟩ : ∃ m, m = xn % 4611686018427387904 := ⟨_, rfl⟩
      have HM := hd hm
      have hq : ¬ 9223372036854775807 < T.length + (xp.length + 20) := by omega
      have HFL := hd (frameB_length m xp)
      clear r0 r1 hbu hch q0 q1 hm
      refine anyH_start (n := 10) (L := #[false, false, false, false, false, false, false, false, false, false]) (by kernel_rfl) (by kernel_rfl) (S := (fun wx => Chg [] wq wx)) ((Chg.refl _ _).drew) (fun hHeld => ?_)
      refine anyH_take (i := 0) (d := 12) (L' := #[true, false, false, false, false, false, false, false, false, false]) (v := ?v3) rfl rfl (by kernel_rfl) (fun _ _ _ h => h) (by rfl) ?hy3 (by assumption) ?rest3
      case hy3 => (intro wx hSw; (try dsimp only at hSw); (have t0 := Chg.cellS hSw R0.out; have t1 := Chg.cellS hSw R1.out); go_simp; (try with_reducible rfl))
      simp only [Act.put, List.setIfInBounds_toArray, List.set_cons_zero, List.set_cons_succ]
      refine anyH_take (i := 1) (d := 13) (L' := #[true, true, false, false, false, false, false, false, false, false]) (v := ?v4) rfl rfl (by kernel_rfl) (fun _ _ _ h => h) (by rfl) ?hy4 (by assumption) ?rest4
      case hy4 => (intro wx hSw; (try dsimp only at hSw); (have t0 := Chg.cellS hSw R0.out; have t1 := Chg.cellS hSw R1.out); go_simp; (try with_reducible rfl))
      simp only [Act.put, List.setIfInBounds_toArray, List.set_cons_zero, List.set_cons_succ]
      refine anyH_take (i := 2) (d := 14) (L' := #[true, true, true, false, false, false, false, false, false, false]) (v := ?v5) rfl rfl (by kernel_rfl) (fun _ _ _ h => h) (by rfl) ?hy5 (by assumption) ?rest5
      case hy5 => (intro wx hSw; (try dsimp only at hSw); (have t0 := Chg.cellS hSw R0.out; have t1 := Chg.cellS hSw R1.out); go_simp; (try with_reducible rfl))
      simp only [Act.put, List.setIfInBounds_toArray, List.set_cons_zero, List.set_cons_succ]
      refine anyH_take (i := 4) (d := 16) (L' := #[true, true, true, false, true, false, false, false, false, false]) (v := ?v6) rfl rfl (by kernel_rfl) (fun _ _ _ h => h) (by rfl) ?hy6 (by assumption) ?rest6
      case hy6 => (intro wx hSw; (try dsimp only at hSw); (have t0 := Chg.cellS hSw R0.out; have t1 := Chg.cellS hSw R1.out); go_simp; (try with_reducible rfl))
      simp only [Act.put, List.setIfInBounds_toArray, List.set_cons_zero, List.set_cons_succ]
      refine anyH_take (i := 5) (d := 17) (L' := #[true, true, true, false, true, true, false, false, false, false]) (v := ?v7) rfl rfl (by kernel_rfl) (fun _ _ _ h => h) (by rfl) ?hy7 (by assumption) ?rest7
      case hy7 => (intro wx hSw; (try dsimp only at hSw); (have t0 := Chg.cellS hSw R0.out; have t1 := Chg.cellS hSw R1.out); go_simp; (try with_reducible rfl))
      simp only [Act.put, List.setIfInBounds_toArray, List.set_cons_zero, List.set_cons_succ]
      refine anyH_run (i := 3) (L' := #[true, true, true, true, true, true, false, false, false, false]) rfl (by kernel_rfl) (by rfl) (fun KK hKK => ?_)
      go_simp
      (refine (number19_any _ _).mono ?_; rintro e wn ⟨rfl, rfl⟩; rw [← HM.out]; (try go_simp))
      refine hKK.out _ _ (by assumption) (fun hHeld => ?_)
      clear hKK KK
      try simp only [Act.put, List.setIfInBounds_toArray, List.set_cons_zero, List.set_cons_succ]
      refine anyH_run (i := 6) (L' := #[true, true, true, true, true, true, true, false, false, false]) rfl (by kernel_rfl) (by rfl) (fun KK hKK => ?_)
      go_simp
      (refine (FBytes_any m _ xp _ (HBU.out.k (Chg.refl [] wq).drew) (by omega)).mono ?_; rintro e w6 ⟨ao6, c6, rfl, hb6, hc6⟩; have hm6 := (Chg.refl [] wq).drew.k hc6; have s6 := run_str hb6.bs; clear hb6 hc6; (try go_simp))
      refine hKK.out _ _ (by assumption) (fun hHeld => ?_)
      clear hKK KK
      try simp only [Act.put, List.setIfInBounds_toArray, List.set_cons_zero, List.set_cons_succ]
      refine anyH_run (i := 7) (L' := #[true, true, true, true, true, true, true, true, false, false]) rfl (by kernel_rfl) (by rfl) (fun KK hKK => ?_)
      go_simp
      (have hq2 := HFL.out)
      refine hKK.out _ _ (by assumption) (fun hHeld => ?_)
      clear hKK KK
      try simp only [Act.put, List.setIfInBounds_toArray, List.set_cons_zero, List.set_cons_succ]
      refine anyH_run (i := 8) (L' := #[true, true, true, true, true, true, true, true, true, false]) rfl (by kernel_rfl) (by rfl) (fun KK hKK => ?_)
      go_simp
      (skip)
      refine hKK.out _ _ (by assumption) (fun hHeld => ?_)
      clear hKK KK
      try simp only [Act.put, List.setIfInBounds_toArray, List.set_cons_zero, List.set_cons_succ]
      refine anyH_run (i := 9) (L' := #[true, true, true, true, true, true, true, true, true, true]) rfl (by kernel_rfl) (by rfl) (fun KK hKK => ?_)
      go_simp
      (skip)
      refine hKK.out _ _ (by assumption) (fun hHeld => ?_)
      clear hKK KK
      try simp only [Act.put, List.setIfInBounds_toArray, List.set_cons_zero, List.set_cons_succ]
      refine wpAnyH_done (by kernel_rfl) ?_ _
      clear s6
      go_wp2_with fail
      go_roundw
      case rel => exact ⟨k + 1, T ++ frameB m xp, by omega, by go_num, rfl, by rw [HS.out, HM.out], HCH.out.k hm6⟩
      case measure => simp [intOf]; omega
    · obtain rfl : k = ps.length := by omega
      have hTR : T = R := by rw [HT.out, List.take_length]; exact HR.out
      subst hTR
      go_wp2_with fail
      go_ret
      exact ⟨rfl, hch⟩
end
end Go.Proofs.Ytpoohpmcopjklaa

/- bagatellelaw19.like. -/
namespace Go.Proofs.Ytpoohpmcopjklaa
open Go.RowKit

set_option maxRecDepth 100000 in
set_option maxHeartbeats 4000000 in
theorem like_any (w : World) (v1 : Value) (rs : List RecV) (base : Nat) (v2 : Value) (ps : List (Int × List UInt8)) (h1 : RecL w base v1 rs) (h2 : Rds EPart 2 w v2 ps) :
    Calls Try.prog 24 #[v1, v2] w fun e w' => e = .returned (.bool (decide (rs.map bare = numsR ps))) ∧ Chg [] w w' := by
  obtain ⟨ao1, cap1, rfl⟩ := h1.form
  obtain ⟨ao0, cap0, rfl⟩ := h2.form
  have H0 := hd h2
  have HR := hd h1
  clear h1 h2
  obtain ⟨R, hR⟩ : ∃ R, decide (rs.map bare = numsR ps) = R := ⟨_, rfl⟩
  have HD := hd hR
  rw [hR]
  clear hR
  go_enter Try.func24, Try.ntmps24
  by_cases hln : rs.length = ps.length
  case neg =>
    have hRf : R = false := by
      rw [← HD.out, decide_eq_false]
      intro e
      have := congrArg List.length e
      simp [numsR] at this
      exact hln this
    subst hRf
    have hln' : ((rs.length : Int) == (ps.length : Int)) = false := by simp; omega
    go_wp2_with fail
    go_ret
    exact ⟨rfl, Chg.refl _ _⟩
  have HLN := hd hln
  rw [hln]
  clear hln
  go_wp2_with fail
  go_loopw [5, 6, 14] (fun _ _ t wi => ∃ i : Nat, i ≤ ps.length ∧ t = .int .i64 i ∧ (rs.map bare).take i = (numsR ps).take i ∧ Chg [] w wi) (fun _ _ t _ => ps.length - (intOf t).toNat)
  case atStart => exact ⟨0, by omega, rfl, by simp, Chg.refl _ _⟩
  case round =>
    obtain ⟨i, hi, rfl, heq, hci⟩ := hrel
    have HEQ := hd heq
    clear heq
    by_cases hil : i < ps.length
    · obtain ⟨bR, capR, hvR, hatR⟩ := HR.out.at (by rw [HLN.out]; omega)
      rw [HLN.out] at hvR
      simp only [Value.slice.injEq, true_and] at hvR
      obtain ⟨rfl, rfl⟩ := hvR
      have hir : i < rs.length := by rw [HLN.out]; exact hil
      obtain ⟨aop, cp, -, r0, r1, hbp⟩ := hatR i hir
      have hg1 : (rs.map bare).take (i + 1) = (rs.map bare).take i ++ [bare rs[i]] := by
        rw [List.take_succ_eq_append_getElem (by simpa using hir)]; simp
      have hg2 := numsR_snoc ps i hil
      have hgi : (rs.map bare)[i]? = some (bare rs[i]) := by rw [List.getElem?_map, List.getElem?_eq_getElem hir]; rfl
      have hgn : (numsR ps)[i]? = some (ps[i].1 % 4611686018427387904, ps[i].2) := by unfold numsR; rw [List.getElem?_map, List.getElem?_eq_getElem hil]; rfl
      have hne : bare rs[i] ≠ (ps[i].1 % 4611686018427387904, ps[i].2) → R = false := by
        intro hx
        rw [← HD.out, decide_eq_false]
        intro e
        rw [e, hgn] at hgi
        exact hx (by simpa using hgi.symm)
      have hok : bare rs[i] = (ps[i].1 % 4611686018427387904, ps[i].2) → (rs.map bare).take (i + 1) = (numsR ps).take (i + 1) := by
        intro hx
        rw [hg1, hg2, HEQ.out, hx]
      have HNE := hd hne
      have HOK := hd hok
      clear hg1 hg2 hgi hgn hne hok
      generalize rs[i]'hir = ri at *
      obtain ⟨rn, rv, rp⟩ := ri
      simp only at r0 r1 hbp
      obtain ⟨b0, off0, capx, hv, hpc, hpm, hel⟩ := H0.out.at (by omega)
      have hpl : ps.length ≤ 9223372036854775807 := by unfold maxLen at hpm; omega
      simp only [Value.slice.injEq, true_and] at hv
      obtain ⟨rfl, rfl⟩ := hv
      obtain ⟨c, ⟨u, rfl, hbu, nlo, nhi, hll⟩, -, hcell⟩ := hel i hil
      have q0 := Chg.cellS hci (hcell 0 (by decide))
      have q1 := Chg.cellS hci (hcell 1 (by decide))
      simp at q0 q1
      obtain ⟨aou, cu, bu, ou, rfl, -⟩ := hbu.open
      replace hbu := hbu.k hci
      replace hbp := hbp.k hci
      replace r0 := hci.cellS r0
      replace r1 := hci.cellS r1
      clear hel hcell hatR
      generalize ps[i] = X at *
      obtain ⟨xn, xp⟩ := X
      simp only at q0 q1 hbu nlo nhi hll
      go_upto_region 6 with (fail)
      have hk14 := Blk.new wr #[.int .i64 rn, .slice aop rp.length cp] 80
      have hcA := (Chg.refl [] wr).alloc (.cells #[.int .i64 rn, .slice aop rp.length cp] 80)
      replace q0 := hcA.cellS q0
      replace q1 := hcA.cellS q1
      replace hci := hci.k hcA
      replace hbu := hbu.k hcA
      replace hbp := hbp.k hcA
      generalize wr.alloc (.cells #[.int .i64 rn, .slice aop rp.length cp] 80) = wj at *
      have q2 := hk14.cell 0
      have q3 := hk14.cell 1
      simp at q2 q3
      have Q0 := hd q0
      have Q1 := hd q1
      have Q2 := hd q2
      have Q3 := hd q3
      have HBU := hd hbu.strs
      have HBP := hd hbp.strs
      clear q0 q1 q2 q3 hbu hbp hcA hk14 r0 r1
      obtain ⟨m, hm⟩ : ∃ m, m = xn % 4611686018427387904 := ⟨_, rfl⟩
      have HM := hd hm
      clear hm
      by_cases hn : rn = m
      · by_cases hp : rp = xp
        · have hx := HOK.out (by rw [← HM.out]; exact Prod.ext hn hp)
          have HX := hd hx
          subst hn hp
          clear hx
          refine anyH_start (n := 21) (L := #[false, false, false, false, false, false, false, false, false, false, false, false, false, false, false, false, false, false, false, false, false]) (by kernel_rfl) (by kernel_rfl) (S := (fun wx => Chg [] wj wx)) ((Chg.refl _ _).drew) (fun hHeld => ?_)
          refine anyH_take (i := 0) (d := 19) (L' := #[true, false, false, false, false, false, false, false, false, false, false, false, false, false, false, false, false, false, false, false, false]) (v := ?v3) rfl rfl (by kernel_rfl) (fun _ _ _ h => h) (by rfl) ?hy3 (by assumption) ?rest3
          case hy3 => (intro wx hSw; (try dsimp only at hSw); (have t0 := Chg.cellS hSw Q0.out; have t1 := Chg.cellS hSw Q1.out; have t2 := Chg.cellS hSw Q2.out; have t3 := Chg.cellS hSw Q3.out); go_simp; (try with_reducible rfl))
          simp only [Act.put, List.setIfInBounds_toArray, List.set_cons_zero, List.set_cons_succ]
          refine anyH_take (i := 1) (d := 20) (L' := #[true, true, false, false, false, false, false, false, false, false, false, false, false, false, false, false, false, false, false, false, false]) (v := ?v4) rfl rfl (by kernel_rfl) (fun _ _ _ h => h) (by rfl) ?hy4 (by assumption) ?rest4
          case hy4 => (intro wx hSw; (try dsimp only at hSw); (have t0 := Chg.cellS hSw Q0.out; have t1 := Chg.cellS hSw Q1.out; have t2 := Chg.cellS hSw Q2.out; have t3 := Chg.cellS hSw Q3.out); go_simp; (try with_reducible rfl))
          simp only [Act.put, List.setIfInBounds_toArray, List.set_cons_zero, List.set_cons_succ]
          refine anyH_take (i := 2) (d := 21) (L' := #[true, true, true, false, false, false, false, false, false, false, false, false, false, false, false, false, false, false, false, false, false]) (v := ?v5) rfl rfl (by kernel_rfl) (fun _ _ _ h => h) (by rfl) ?hy5 (by assumption) ?rest5
          case hy5 => (intro wx hSw; (try dsimp only at hSw); (have t0 := Chg.cellS hSw Q0.out; have t1 := Chg.cellS hSw Q1.out; have t2 := Chg.cellS hSw Q2.out; have t3 := Chg.cellS hSw Q3.out); go_simp; (try with_reducible rfl))
          simp only [Act.put, List.setIfInBounds_toArray, List.set_cons_zero, List.set_cons_succ]
          refine anyH_take (i := 3) (d := 22) (L' := #[true, true, true, true, false, false, false, false, false, false, false, false, false, false, false, false, false, false, false, false, false]) (v := ?v6) rfl rfl (by kernel_rfl) (fun _ _ _ h => h) (by rfl) ?hy6 (by assumption) ?rest6
          case hy6 => (intro wx hSw; (try dsimp only at hSw); (have t0 := Chg.cellS hSw Q0.out; have t1 := Chg.cellS hSw Q1.out; have t2 := Chg.cellS hSw Q2.out; have t3 := Chg.cellS hSw Q3.out); go_simp; (try with_reducible rfl))
          simp only [Act.put, List.setIfInBounds_toArray, List.set_cons_zero, List.set_cons_succ]
          refine anyH_take (i := 4) (d := 23) (L' := #[true, true, true, true, true, false, false, false, false, false, false, false, false, false, false, false, false, false, false, false, false]) (v := ?v7) rfl rfl (by kernel_rfl) (fun _ _ _ h => h) (by rfl) ?hy7 (by assumption) ?rest7
          case hy7 => (intro wx hSw; (try dsimp only at hSw); (have t0 := Chg.cellS hSw Q0.out; have t1 := Chg.cellS hSw Q1.out; have t2 := Chg.cellS hSw Q2.out; have t3 := Chg.cellS hSw Q3.out); go_simp; (try with_reducible rfl))
          simp only [Act.put, List.setIfInBounds_toArray, List.set_cons_zero, List.set_cons_succ]
          refine anyH_take (i := 5) (d := 24) (L' := #[true, true, true, true, true, true, false, false, false, false, false, false, false, false, false, false, false, false, false, false, false]) (v := ?v8) rfl rfl (by kernel_rfl) (fun _ _ _ h => h) (by rfl) ?hy8 (by assumption) ?rest8
          case hy8 => (intro wx hSw; (try dsimp only at hSw); (have t0 := Chg.cellS hSw Q0.out; have t1 := Chg.cellS hSw Q1.out; have t2 := Chg.cellS hSw Q2.out; have t3 := Chg.cellS hSw Q3.out); go_simp; (try with_reducible rfl))
          simp only [Act.put, List.setIfInBounds_toArray, List.set_cons_zero, List.set_cons_succ]
          refine anyH_take (i := 6) (d := 25) (L' := #[true, true, true, true, true, true, true, false, false, false, false, false, false, false, false, false, false, false, false, false, false]) (v := ?v9) rfl rfl (by kernel_rfl) (fun _ _ _ h => h) (by rfl) ?hy9 (by assumption) ?rest9
          case hy9 => (intro wx hSw; (try dsimp only at hSw); (have t0 := Chg.cellS hSw Q0.out; have t1 := Chg.cellS hSw Q1.out; have t2 := Chg.cellS hSw Q2.out; have t3 := Chg.cellS hSw Q3.out); go_simp; (try with_reducible rfl))
          simp only [Act.put, List.setIfInBounds_toArray, List.set_cons_zero, List.set_cons_succ]
          refine anyH_run (i := 7) (L' := #[true, true, true, true, true, true, true, true, false, false, false, false, false, false, false, false, false, false, false, false, false]) rfl (by kernel_rfl) (by rfl) (fun KK hKK => ?_)
          go_simp
          (refine (number19_any _ _).mono ?_; rintro e wn ⟨rfl, rfl⟩; rw [← HM.out]; (try go_simp))
          refine hKK.out _ _ (by assumption) (fun hHeld => ?_)
          clear hKK KK
          try simp only [Act.put, List.setIfInBounds_toArray, List.set_cons_zero, List.set_cons_succ]
          refine anyH_run (i := 8) (L' := #[true, true, true, true, true, true, true, true, true, false, false, false, false, false, false, false, false, false, false, false, false]) rfl (by kernel_rfl) (by rfl) (fun KK hKK => ?_)
          go_simp
          (skip)
          refine hKK.out _ _ (by assumption) (fun hHeld => ?_)
          clear hKK KK
          try simp only [Act.put, List.setIfInBounds_toArray, List.set_cons_zero, List.set_cons_succ]
          refine anyH_run (i := 9) (L' := #[true, true, true, true, true, true, true, true, true, true, false, false, false, false, false, false, false, false, false, false, false]) rfl (by kernel_rfl) (by rfl) (fun KK hKK => ?_)
          go_simp
          (skip)
          refine hKK.out _ _ (by assumption) (fun hHeld => ?_)
          clear hKK KK
          try simp only [Act.put, List.setIfInBounds_toArray, List.set_cons_zero, List.set_cons_succ]
          refine anyH_take (i := 10) (d := 29) (L' := #[true, true, true, true, true, true, true, true, true, true, true, false, false, false, false, false, false, false, false, false, false]) (v := ?v13) rfl rfl (by kernel_rfl) (fun _ _ _ h => h) (by rfl) ?hy13 (by assumption) ?rest13
          case hy13 => (intro wx hSw; (try dsimp only at hSw); (have t0 := Chg.cellS hSw Q0.out; have t1 := Chg.cellS hSw Q1.out; have t2 := Chg.cellS hSw Q2.out; have t3 := Chg.cellS hSw Q3.out); go_simp; (try with_reducible rfl))
          simp only [Act.put, List.setIfInBounds_toArray, List.set_cons_zero, List.set_cons_succ]
          refine anyH_take (i := 11) (d := 30) (L' := #[true, true, true, true, true, true, true, true, true, true, true, true, false, false, false, false, false, false, false, false, false]) (v := ?v14) rfl rfl (by kernel_rfl) (fun _ _ _ h => h) (by rfl) ?hy14 (by assumption) ?rest14
          case hy14 => (intro wx hSw; (try dsimp only at hSw); (have t0 := Chg.cellS hSw Q0.out; have t1 := Chg.cellS hSw Q1.out; have t2 := Chg.cellS hSw Q2.out; have t3 := Chg.cellS hSw Q3.out); go_simp; (try with_reducible rfl))
          simp only [Act.put, List.setIfInBounds_toArray, List.set_cons_zero, List.set_cons_succ]
          refine anyH_take (i := 12) (d := 31) (L' := #[true, true, true, true, true, true, true, true, true, true, true, true, true, false, false, false, false, false, false, false, false]) (v := ?v15) rfl rfl (by kernel_rfl) (fun _ _ _ h => h) (by rfl) ?hy15 (by assumption) ?rest15
          case hy15 => (intro wx hSw; (try dsimp only at hSw); (have t5 := HBP.out _ hSw); go_simp; (try with_reducible rfl))
          simp only [Act.put, List.setIfInBounds_toArray, List.set_cons_zero, List.set_cons_succ]
          refine anyH_take (i := 13) (d := 32) (L' := #[true, true, true, true, true, true, true, true, true, true, true, true, true, true, false, false, false, false, false, false, false]) (v := ?v16) rfl rfl (by kernel_rfl) (fun _ _ _ h => h) (by rfl) ?hy16 (by assumption) ?rest16
          case hy16 => (intro wx hSw; (try dsimp only at hSw); (have t0 := Chg.cellS hSw Q0.out; have t1 := Chg.cellS hSw Q1.out; have t2 := Chg.cellS hSw Q2.out; have t3 := Chg.cellS hSw Q3.out); go_simp; (try with_reducible rfl))
          simp only [Act.put, List.setIfInBounds_toArray, List.set_cons_zero, List.set_cons_succ]
          refine anyH_take (i := 14) (d := 33) (L' := #[true, true, true, true, true, true, true, true, true, true, true, true, true, true, true, false, false, false, false, false, false]) (v := ?v17) rfl rfl (by kernel_rfl) (fun _ _ _ h => h) (by rfl) ?hy17 (by assumption) ?rest17
          case hy17 => (intro wx hSw; (try dsimp only at hSw); (have t0 := Chg.cellS hSw Q0.out; have t1 := Chg.cellS hSw Q1.out; have t2 := Chg.cellS hSw Q2.out; have t3 := Chg.cellS hSw Q3.out); go_simp; (try with_reducible rfl))
          simp only [Act.put, List.setIfInBounds_toArray, List.set_cons_zero, List.set_cons_succ]
          refine anyH_take (i := 15) (d := 34) (L' := #[true, true, true, true, true, true, true, true, true, true, true, true, true, true, true, true, false, false, false, false, false]) (v := ?v18) rfl rfl (by kernel_rfl) (fun _ _ _ h => h) (by rfl) ?hy18 (by assumption) ?rest18
          case hy18 => (intro wx hSw; (try dsimp only at hSw); (have t0 := Chg.cellS hSw Q0.out; have t1 := Chg.cellS hSw Q1.out; have t2 := Chg.cellS hSw Q2.out; have t3 := Chg.cellS hSw Q3.out); go_simp; (try with_reducible rfl))
          simp only [Act.put, List.setIfInBounds_toArray, List.set_cons_zero, List.set_cons_succ]
          refine anyH_take (i := 16) (d := 35) (L' := #[true, true, true, true, true, true, true, true, true, true, true, true, true, true, true, true, true, false, false, false, false]) (v := ?v19) rfl rfl (by kernel_rfl) (fun _ _ _ h => h) (by rfl) ?hy19 (by assumption) ?rest19
          case hy19 => (intro wx hSw; (try dsimp only at hSw); (have t0 := Chg.cellS hSw Q0.out; have t1 := Chg.cellS hSw Q1.out; have t2 := Chg.cellS hSw Q2.out; have t3 := Chg.cellS hSw Q3.out); go_simp; (try with_reducible rfl))
          simp only [Act.put, List.setIfInBounds_toArray, List.set_cons_zero, List.set_cons_succ]
          refine anyH_take (i := 17) (d := 36) (L' := #[true, true, true, true, true, true, true, true, true, true, true, true, true, true, true, true, true, true, false, false, false]) (v := ?v20) rfl rfl (by kernel_rfl) (fun _ _ _ h => h) (by rfl) ?hy20 (by assumption) ?rest20
          case hy20 => (intro wx hSw; (try dsimp only at hSw); (have t0 := Chg.cellS hSw Q0.out; have t1 := Chg.cellS hSw Q1.out; have t2 := Chg.cellS hSw Q2.out; have t3 := Chg.cellS hSw Q3.out); go_simp; (try with_reducible rfl))
          simp only [Act.put, List.setIfInBounds_toArray, List.set_cons_zero, List.set_cons_succ]
          refine anyH_take (i := 18) (d := 37) (L' := #[true, true, true, true, true, true, true, true, true, true, true, true, true, true, true, true, true, true, true, false, false]) (v := ?v21) rfl rfl (by kernel_rfl) (fun _ _ _ h => h) (by rfl) ?hy21 (by assumption) ?rest21
          case hy21 => (intro wx hSw; (try dsimp only at hSw); (have t5 := HBU.out _ hSw); go_simp; (try with_reducible rfl))
          simp only [Act.put, List.setIfInBounds_toArray, List.set_cons_zero, List.set_cons_succ]
          refine anyH_take (i := 19) (d := 38) (L' := #[true, true, true, true, true, true, true, true, true, true, true, true, true, true, true, true, true, true, true, true, false]) (v := ?v22) rfl rfl (by kernel_rfl) (fun _ _ _ h => h) (by rfl) ?hy22 (by assumption) ?rest22
          case hy22 => (intro wx hSw; (try dsimp only at hSw); (have t0 := Chg.cellS hSw Q0.out; have t1 := Chg.cellS hSw Q1.out; have t2 := Chg.cellS hSw Q2.out; have t3 := Chg.cellS hSw Q3.out); go_simp; (try with_reducible rfl))
          simp only [Act.put, List.setIfInBounds_toArray, List.set_cons_zero, List.set_cons_succ]
          refine anyH_run (i := 20) (L' := #[true, true, true, true, true, true, true, true, true, true, true, true, true, true, true, true, true, true, true, true, true]) rfl (by kernel_rfl) (by rfl) (fun KK hKK => ?_)
          go_simp
          (skip)
          refine hKK.out _ _ (by assumption) (fun hHeld => ?_)
          clear hKK KK
          try simp only [Act.put, List.setIfInBounds_toArray, List.set_cons_zero, List.set_cons_succ]
          refine wpAnyH_done (by kernel_rfl) ?_ _
          go_wp2_with fail
          go_roundw
          case rel => exact ⟨i + 1, by omega, by go_num, HX.out, hci.drew⟩
          case measure => simp [intOf]; omega
        · have hRf := HNE.out (by rw [← HM.out]; intro e; exact hp (congrArg Prod.snd e))
          subst hRf
          subst hn
          have hp1 : (strB rp == strB xp) = false := by rw [strB_beq]; simpa using hp
          have hp2 : (rp == xp) = false := by simpa using hp
          clear hp
          refine anyH_start (n := 21) (L := #[false, false, false, false, false, false, false, false, false, false, false, false, false, false, false, false, false, false, false, false, false]) (by kernel_rfl) (by kernel_rfl) (S := (fun wx => Chg [] wj wx)) ((Chg.refl _ _).drew) (fun hHeld => ?_)
          refine anyH_take (i := 0) (d := 19) (L' := #[true, false, false, false, false, false, false, false, false, false, false, false, false, false, false, false, false, false, false, false, false]) (v := ?v26) rfl rfl (by kernel_rfl) (fun _ _ _ h => h) (by rfl) ?hy26 (by assumption) ?rest26
          case hy26 => (intro wx hSw; (try dsimp only at hSw); (have t0 := Chg.cellS hSw Q0.out; have t1 := Chg.cellS hSw Q1.out; have t2 := Chg.cellS hSw Q2.out; have t3 := Chg.cellS hSw Q3.out); go_simp; (try with_reducible rfl))
          simp only [Act.put, List.setIfInBounds_toArray, List.set_cons_zero, List.set_cons_succ]
          refine anyH_take (i := 1) (d := 20) (L' := #[true, true, false, false, false, false, false, false, false, false, false, false, false, false, false, false, false, false, false, false, false]) (v := ?v27) rfl rfl (by kernel_rfl) (fun _ _ _ h => h) (by rfl) ?hy27 (by assumption) ?rest27
          case hy27 => (intro wx hSw; (try dsimp only at hSw); (have t0 := Chg.cellS hSw Q0.out; have t1 := Chg.cellS hSw Q1.out; have t2 := Chg.cellS hSw Q2.out; have t3 := Chg.cellS hSw Q3.out); go_simp; (try with_reducible rfl))
          simp only [Act.put, List.setIfInBounds_toArray, List.set_cons_zero, List.set_cons_succ]
          refine anyH_take (i := 2) (d := 21) (L' := #[true, true, true, false, false, false, false, false, false, false, false, false, false, false, false, false, false, false, false, false, false]) (v := ?v28) rfl rfl (by kernel_rfl) (fun _ _ _ h => h) (by rfl) ?hy28 (by assumption) ?rest28
          case hy28 => (intro wx hSw; (try dsimp only at hSw); (have t0 := Chg.cellS hSw Q0.out; have t1 := Chg.cellS hSw Q1.out; have t2 := Chg.cellS hSw Q2.out; have t3 := Chg.cellS hSw Q3.out); go_simp; (try with_reducible rfl))
          simp only [Act.put, List.setIfInBounds_toArray, List.set_cons_zero, List.set_cons_succ]
          refine anyH_take (i := 3) (d := 22) (L' := #[true, true, true, true, false, false, false, false, false, false, false, false, false, false, false, false, false, false, false, false, false]) (v := ?v29) rfl rfl (by kernel_rfl) (fun _ _ _ h => h) (by rfl) ?hy29 (by assumption) ?rest29
          case hy29 => (intro wx hSw; (try dsimp only at hSw); (have t0 := Chg.cellS hSw Q0.out; have t1 := Chg.cellS hSw Q1.out; have t2 := Chg.cellS hSw Q2.out; have t3 := Chg.cellS hSw Q3.out); go_simp; (try with_reducible rfl))
          simp only [Act.put, List.setIfInBounds_toArray, List.set_cons_zero, List.set_cons_succ]
          refine anyH_take (i := 4) (d := 23) (L' := #[true, true, true, true, true, false, false, false, false, false, false, false, false, false, false, false, false, false, false, false, false]) (v := ?v30) rfl rfl (by kernel_rfl) (fun _ _ _ h => h) (by rfl) ?hy30 (by assumption) ?rest30
          case hy30 => (intro wx hSw; (try dsimp only at hSw); (have t0 := Chg.cellS hSw Q0.out; have t1 := Chg.cellS hSw Q1.out; have t2 := Chg.cellS hSw Q2.out; have t3 := Chg.cellS hSw Q3.out); go_simp; (try with_reducible rfl))
          simp only [Act.put, List.setIfInBounds_toArray, List.set_cons_zero, List.set_cons_succ]
          refine anyH_take (i := 5) (d := 24) (L' := #[true, true, true, true, true, true, false, false, false, false, false, false, false, false, false, false, false, false, false, false, false]) (v := ?v31) rfl rfl (by kernel_rfl) (fun _ _ _ h => h) (by rfl) ?hy31 (by assumption) ?rest31
          case hy31 => (intro wx hSw; (try dsimp only at hSw); (have t0 := Chg.cellS hSw Q0.out; have t1 := Chg.cellS hSw Q1.out; have t2 := Chg.cellS hSw Q2.out; have t3 := Chg.cellS hSw Q3.out); go_simp; (try with_reducible rfl))
          simp only [Act.put, List.setIfInBounds_toArray, List.set_cons_zero, List.set_cons_succ]
          refine anyH_take (i := 6) (d := 25) (L' := #[true, true, true, true, true, true, true, false, false, false, false, false, false, false, false, false, false, false, false, false, false]) (v := ?v32) rfl rfl (by kernel_rfl) (fun _ _ _ h => h) (by rfl) ?hy32 (by assumption) ?rest32
          case hy32 => (intro wx hSw; (try dsimp only at hSw); (have t0 := Chg.cellS hSw Q0.out; have t1 := Chg.cellS hSw Q1.out; have t2 := Chg.cellS hSw Q2.out; have t3 := Chg.cellS hSw Q3.out); go_simp; (try with_reducible rfl))
          simp only [Act.put, List.setIfInBounds_toArray, List.set_cons_zero, List.set_cons_succ]
          refine anyH_run (i := 7) (L' := #[true, true, true, true, true, true, true, true, false, false, false, false, false, false, false, false, false, false, false, false, false]) rfl (by kernel_rfl) (by rfl) (fun KK hKK => ?_)
          go_simp
          (refine (number19_any _ _).mono ?_; rintro e wn ⟨rfl, rfl⟩; rw [← HM.out]; (try go_simp))
          refine hKK.out _ _ (by assumption) (fun hHeld => ?_)
          clear hKK KK
          try simp only [Act.put, List.setIfInBounds_toArray, List.set_cons_zero, List.set_cons_succ]
          refine anyH_run (i := 8) (L' := #[true, true, true, true, true, true, true, true, true, false, false, false, false, false, false, false, false, false, false, false, false]) rfl (by kernel_rfl) (by rfl) (fun KK hKK => ?_)
          go_simp
          (skip)
          refine hKK.out _ _ (by assumption) (fun hHeld => ?_)
          clear hKK KK
          try simp only [Act.put, List.setIfInBounds_toArray, List.set_cons_zero, List.set_cons_succ]
          refine anyH_run (i := 9) (L' := #[true, true, true, true, true, true, true, true, true, true, false, false, false, false, false, false, false, false, false, false, false]) rfl (by kernel_rfl) (by rfl) (fun KK hKK => ?_)
          go_simp
          (skip)
          refine hKK.out _ _ (by assumption) (fun hHeld => ?_)
          clear hKK KK
          try simp only [Act.put, List.setIfInBounds_toArray, List.set_cons_zero, List.set_cons_succ]
          refine anyH_take (i := 10) (d := 29) (L' := #[true, true, true, true, true, true, true, true, true, true, true, false, false, false, false, false, false, false, false, false, false]) (v := ?v36) rfl rfl (by kernel_rfl) (fun _ _ _ h => h) (by rfl) ?hy36 (by assumption) ?rest36
          case hy36 => (intro wx hSw; (try dsimp only at hSw); (have t0 := Chg.cellS hSw Q0.out; have t1 := Chg.cellS hSw Q1.out; have t2 := Chg.cellS hSw Q2.out; have t3 := Chg.cellS hSw Q3.out); go_simp; (try with_reducible rfl))
          simp only [Act.put, List.setIfInBounds_toArray, List.set_cons_zero, List.set_cons_succ]
          refine anyH_take (i := 11) (d := 30) (L' := #[true, true, true, true, true, true, true, true, true, true, true, true, false, false, false, false, false, false, false, false, false]) (v := ?v37) rfl rfl (by kernel_rfl) (fun _ _ _ h => h) (by rfl) ?hy37 (by assumption) ?rest37
          case hy37 => (intro wx hSw; (try dsimp only at hSw); (have t0 := Chg.cellS hSw Q0.out; have t1 := Chg.cellS hSw Q1.out; have t2 := Chg.cellS hSw Q2.out; have t3 := Chg.cellS hSw Q3.out); go_simp; (try with_reducible rfl))
          simp only [Act.put, List.setIfInBounds_toArray, List.set_cons_zero, List.set_cons_succ]
          refine anyH_take (i := 12) (d := 31) (L' := #[true, true, true, true, true, true, true, true, true, true, true, true, true, false, false, false, false, false, false, false, false]) (v := ?v38) rfl rfl (by kernel_rfl) (fun _ _ _ h => h) (by rfl) ?hy38 (by assumption) ?rest38
          case hy38 => (intro wx hSw; (try dsimp only at hSw); (have t5 := HBP.out _ hSw); go_simp; (try with_reducible rfl))
          simp only [Act.put, List.setIfInBounds_toArray, List.set_cons_zero, List.set_cons_succ]
          refine anyH_take (i := 13) (d := 32) (L' := #[true, true, true, true, true, true, true, true, true, true, true, true, true, true, false, false, false, false, false, false, false]) (v := ?v39) rfl rfl (by kernel_rfl) (fun _ _ _ h => h) (by rfl) ?hy39 (by assumption) ?rest39
          case hy39 => (intro wx hSw; (try dsimp only at hSw); (have t0 := Chg.cellS hSw Q0.out; have t1 := Chg.cellS hSw Q1.out; have t2 := Chg.cellS hSw Q2.out; have t3 := Chg.cellS hSw Q3.out); go_simp; (try with_reducible rfl))
          simp only [Act.put, List.setIfInBounds_toArray, List.set_cons_zero, List.set_cons_succ]
          refine anyH_take (i := 14) (d := 33) (L' := #[true, true, true, true, true, true, true, true, true, true, true, true, true, true, true, false, false, false, false, false, false]) (v := ?v40) rfl rfl (by kernel_rfl) (fun _ _ _ h => h) (by rfl) ?hy40 (by assumption) ?rest40
          case hy40 => (intro wx hSw; (try dsimp only at hSw); (have t0 := Chg.cellS hSw Q0.out; have t1 := Chg.cellS hSw Q1.out; have t2 := Chg.cellS hSw Q2.out; have t3 := Chg.cellS hSw Q3.out); go_simp; (try with_reducible rfl))
          simp only [Act.put, List.setIfInBounds_toArray, List.set_cons_zero, List.set_cons_succ]
          refine anyH_take (i := 15) (d := 34) (L' := #[true, true, true, true, true, true, true, true, true, true, true, true, true, true, true, true, false, false, false, false, false]) (v := ?v41) rfl rfl (by kernel_rfl) (fun _ _ _ h => h) (by rfl) ?hy41 (by assumption) ?rest41
          case hy41 => (intro wx hSw; (try dsimp only at hSw); (have t0 := Chg.cellS hSw Q0.out; have t1 := Chg.cellS hSw Q1.out; have t2 := Chg.cellS hSw Q2.out; have t3 := Chg.cellS hSw Q3.out); go_simp; (try with_reducible rfl))
          simp only [Act.put, List.setIfInBounds_toArray, List.set_cons_zero, List.set_cons_succ]
          refine anyH_take (i := 16) (d := 35) (L' := #[true, true, true, true, true, true, true, true, true, true, true, true, true, true, true, true, true, false, false, false, false]) (v := ?v42) rfl rfl (by kernel_rfl) (fun _ _ _ h => h) (by rfl) ?hy42 (by assumption) ?rest42
          case hy42 => (intro wx hSw; (try dsimp only at hSw); (have t0 := Chg.cellS hSw Q0.out; have t1 := Chg.cellS hSw Q1.out; have t2 := Chg.cellS hSw Q2.out; have t3 := Chg.cellS hSw Q3.out); go_simp; (try with_reducible rfl))
          simp only [Act.put, List.setIfInBounds_toArray, List.set_cons_zero, List.set_cons_succ]
          refine anyH_take (i := 17) (d := 36) (L' := #[true, true, true, true, true, true, true, true, true, true, true, true, true, true, true, true, true, true, false, false, false]) (v := ?v43) rfl rfl (by kernel_rfl) (fun _ _ _ h => h) (by rfl) ?hy43 (by assumption) ?rest43
          case hy43 => (intro wx hSw; (try dsimp only at hSw); (have t0 := Chg.cellS hSw Q0.out; have t1 := Chg.cellS hSw Q1.out; have t2 := Chg.cellS hSw Q2.out; have t3 := Chg.cellS hSw Q3.out); go_simp; (try with_reducible rfl))
          simp only [Act.put, List.setIfInBounds_toArray, List.set_cons_zero, List.set_cons_succ]
          refine anyH_take (i := 18) (d := 37) (L' := #[true, true, true, true, true, true, true, true, true, true, true, true, true, true, true, true, true, true, true, false, false]) (v := ?v44) rfl rfl (by kernel_rfl) (fun _ _ _ h => h) (by rfl) ?hy44 (by assumption) ?rest44
          case hy44 => (intro wx hSw; (try dsimp only at hSw); (have t5 := HBU.out _ hSw); go_simp; (try with_reducible rfl))
          simp only [Act.put, List.setIfInBounds_toArray, List.set_cons_zero, List.set_cons_succ]
          refine anyH_take (i := 19) (d := 38) (L' := #[true, true, true, true, true, true, true, true, true, true, true, true, true, true, true, true, true, true, true, true, false]) (v := ?v45) rfl rfl (by kernel_rfl) (fun _ _ _ h => h) (by rfl) ?hy45 (by assumption) ?rest45
          case hy45 => (intro wx hSw; (try dsimp only at hSw); (have t0 := Chg.cellS hSw Q0.out; have t1 := Chg.cellS hSw Q1.out; have t2 := Chg.cellS hSw Q2.out; have t3 := Chg.cellS hSw Q3.out); go_simp; (try with_reducible rfl))
          simp only [Act.put, List.setIfInBounds_toArray, List.set_cons_zero, List.set_cons_succ]
          refine anyH_run (i := 20) (L' := #[true, true, true, true, true, true, true, true, true, true, true, true, true, true, true, true, true, true, true, true, true]) rfl (by kernel_rfl) (by rfl) (fun KK hKK => ?_)
          go_simp
          (skip)
          refine hKK.out _ _ (by assumption) (fun hHeld => ?_)
          clear hKK KK
          try simp only [Act.put, List.setIfInBounds_toArray, List.set_cons_zero, List.set_cons_succ]
          refine wpAnyH_done (by kernel_rfl) ?_ _
          go_wp2_with fail
          go_ret
          exact ⟨rfl, hci.drew⟩
      · have hRf := HNE.out (by rw [← HM.out]; intro e; exact hn (congrArg Prod.fst e))
        subst hRf
        have hn1 : (rn == m) = false := by simpa using hn
        have hn3 : (rn != m) = true := by simpa using hn
        refine anyH_start (n := 21) (L := #[false, false, false, false, false, false, false, false, false, false, false, false, false, false, false, false, false, false, false, false, false]) (by kernel_rfl) (by kernel_rfl) (S := (fun wx => Chg [] wj wx)) ((Chg.refl _ _).drew) (fun hHeld => ?_)
        refine anyH_take (i := 0) (d := 19) (L' := #[true, false, false, false, false, false, false, false, false, false, false, false, false, false, false, false, false, false, false, false, false]) (v := ?v49) rfl rfl (by kernel_rfl) (fun _ _ _ h => h) (by rfl) ?hy49 (by assumption) ?rest49
        case hy49 => (intro wx hSw; (try dsimp only at hSw); (have t0 := Chg.cellS hSw Q0.out; have t1 := Chg.cellS hSw Q1.out; have t2 := Chg.cellS hSw Q2.out; have t3 := Chg.cellS hSw Q3.out); go_simp; (try with_reducible rfl))
        simp only [Act.put, List.setIfInBounds_toArray, List.set_cons_zero, List.set_cons_succ]
        refine anyH_take (i := 1) (d := 20) (L' := #[true, true, false, false, false, false, false, false, false, false, false, false, false, false, false, false, false, false, false, false, false]) (v := ?v50) rfl rfl (by kernel_rfl) (fun _ _ _ h => h) (by rfl) ?hy50 (by assumption) ?rest50
        case hy50 => (intro wx hSw; (try dsimp only at hSw); (have t0 := Chg.cellS hSw Q0.out; have t1 := Chg.cellS hSw Q1.out; have t2 := Chg.cellS hSw Q2.out; have t3 := Chg.cellS hSw Q3.out); go_simp; (try with_reducible rfl))
        simp only [Act.put, List.setIfInBounds_toArray, List.set_cons_zero, List.set_cons_succ]
        refine anyH_take (i := 2) (d := 21) (L' := #[true, true, true, false, false, false, false, false, false, false, false, false, false, false, false, false, false, false, false, false, false]) (v := ?v51) rfl rfl (by kernel_rfl) (fun _ _ _ h => h) (by rfl) ?hy51 (by assumption) ?rest51
        case hy51 => (intro wx hSw; (try dsimp only at hSw); (have t0 := Chg.cellS hSw Q0.out; have t1 := Chg.cellS hSw Q1.out; have t2 := Chg.cellS hSw Q2.out; have t3 := Chg.cellS hSw Q3.out); go_simp; (try with_reducible rfl))
        simp only [Act.put, List.setIfInBounds_toArray, List.set_cons_zero, List.set_cons_succ]
        refine anyH_take (i := 3) (d := 22) (L' := #[true, true, true, true, false, false, false, false, false, false, false, false, false, false, false, false, false, false, false, false, false]) (v := ?v52) rfl rfl (by kernel_rfl) (fun _ _ _ h => h) (by rfl) ?hy52 (by assumption) ?rest52
        case hy52 => (intro wx hSw; (try dsimp only at hSw); (have t0 := Chg.cellS hSw Q0.out; have t1 := Chg.cellS hSw Q1.out; have t2 := Chg.cellS hSw Q2.out; have t3 := Chg.cellS hSw Q3.out); go_simp; (try with_reducible rfl))
        simp only [Act.put, List.setIfInBounds_toArray, List.set_cons_zero, List.set_cons_succ]
        refine anyH_take (i := 4) (d := 23) (L' := #[true, true, true, true, true, false, false, false, false, false, false, false, false, false, false, false, false, false, false, false, false]) (v := ?v53) rfl rfl (by kernel_rfl) (fun _ _ _ h => h) (by rfl) ?hy53 (by assumption) ?rest53
        case hy53 => (intro wx hSw; (try dsimp only at hSw); (have t0 := Chg.cellS hSw Q0.out; have t1 := Chg.cellS hSw Q1.out; have t2 := Chg.cellS hSw Q2.out; have t3 := Chg.cellS hSw Q3.out); go_simp; (try with_reducible rfl))
        simp only [Act.put, List.setIfInBounds_toArray, List.set_cons_zero, List.set_cons_succ]
        refine anyH_take (i := 5) (d := 24) (L' := #[true, true, true, true, true, true, false, false, false, false, false, false, false, false, false, false, false, false, false, false, false]) (v := ?v54) rfl rfl (by kernel_rfl) (fun _ _ _ h => h) (by rfl) ?hy54 (by assumption) ?rest54
        case hy54 => (intro wx hSw; (try dsimp only at hSw); (have t0 := Chg.cellS hSw Q0.out; have t1 := Chg.cellS hSw Q1.out; have t2 := Chg.cellS hSw Q2.out; have t3 := Chg.cellS hSw Q3.out); go_simp; (try with_reducible rfl))
        simp only [Act.put, List.setIfInBounds_toArray, List.set_cons_zero, List.set_cons_succ]
        refine anyH_take (i := 6) (d := 25) (L' := #[true, true, true, true, true, true, true, false, false, false, false, false, false, false, false, false, false, false, false, false, false]) (v := ?v55) rfl rfl (by kernel_rfl) (fun _ _ _ h => h) (by rfl) ?hy55 (by assumption) ?rest55
        case hy55 => (intro wx hSw; (try dsimp only at hSw); (have t0 := Chg.cellS hSw Q0.out; have t1 := Chg.cellS hSw Q1.out; have t2 := Chg.cellS hSw Q2.out; have t3 := Chg.cellS hSw Q3.out); go_simp; (try with_reducible rfl))
        simp only [Act.put, List.setIfInBounds_toArray, List.set_cons_zero, List.set_cons_succ]
        refine anyH_run (i := 7) (L' := #[true, true, true, true, true, true, true, true, false, false, false, false, false, false, false, false, false, false, false, false, false]) rfl (by kernel_rfl) (by rfl) (fun KK hKK => ?_)
        go_simp
        (refine (number19_any _ _).mono ?_; rintro e wn ⟨rfl, rfl⟩; rw [← HM.out]; (try go_simp))
        refine hKK.out _ _ (by assumption) (fun hHeld => ?_)
        clear hKK KK
        try simp only [Act.put, List.setIfInBounds_toArray, List.set_cons_zero, List.set_cons_succ]
        refine anyH_run (i := 8) (L' := #[true, true, true, true, true, true, true, true, true, false, false, false, false, false, false, false, false, false, false, false, false]) rfl (by kernel_rfl) (by rfl) (fun KK hKK => ?_)
        go_simp
        (skip)
        refine hKK.out _ _ (by assumption) (fun hHeld => ?_)
        clear hKK KK
        try simp only [Act.put, List.setIfInBounds_toArray, List.set_cons_zero, List.set_cons_succ]
        refine anyH_run (i := 9) (L' := #[true, true, true, true, true, true, true, true, true, true, false, false, false, false, false, false, false, false, false, false, false]) rfl (by kernel_rfl) (by rfl) (fun KK hKK => ?_)
        go_simp
        (skip)
        refine hKK.out _ _ (by assumption) (fun hHeld => ?_)
        clear hKK KK
        try simp only [Act.put, List.setIfInBounds_toArray, List.set_cons_zero, List.set_cons_succ]
        refine anyH_skip (i := 10) (d := 29) (L' := #[true, true, true, true, true, true, true, true, true, true, true, false, false, false, false, false, false, false, false, false, false]) rfl rfl (by kernel_rfl) (fun _ _ _ h => h) (by rfl) (by assumption) ?_
        simp only [Act.put, List.setIfInBounds_toArray, List.set_cons_zero, List.set_cons_succ]
        refine anyH_skip (i := 11) (d := 30) (L' := #[true, true, true, true, true, true, true, true, true, true, true, true, false, false, false, false, false, false, false, false, false]) rfl rfl (by kernel_rfl) (fun _ _ _ h => h) (by rfl) (by assumption) ?_
        simp only [Act.put, List.setIfInBounds_toArray, List.set_cons_zero, List.set_cons_succ]
        refine anyH_skip (i := 12) (d := 31) (L' := #[true, true, true, true, true, true, true, true, true, true, true, true, true, false, false, false, false, false, false, false, false]) rfl rfl (by kernel_rfl) (fun _ _ _ h => h) (by rfl) (by assumption) ?_
        simp only [Act.put, List.setIfInBounds_toArray, List.set_cons_zero, List.set_cons_succ]
        refine anyH_skip (i := 13) (d := 32) (L' := #[true, true, true, true, true, true, true, true, true, true, true, true, true, true, false, false, false, false, false, false, false]) rfl rfl (by kernel_rfl) (fun _ _ _ h => h) (by rfl) (by assumption) ?_
        simp only [Act.put, List.setIfInBounds_toArray, List.set_cons_zero, List.set_cons_succ]
        refine anyH_skip (i := 14) (d := 33) (L' := #[true, true, true, true, true, true, true, true, true, true, true, true, true, true, true, false, false, false, false, false, false]) rfl rfl (by kernel_rfl) (fun _ _ _ h => h) (by rfl) (by assumption) ?_
        simp only [Act.put, List.setIfInBounds_toArray, List.set_cons_zero, List.set_cons_succ]
        refine anyH_skip (i := 15) (d := 34) (L' := #[true, true, true, true, true, true, true, true, true, true, true, true, true, true, true, true, false, false, false, false, false]) rfl rfl (by kernel_rfl) (fun _ _ _ h => h) (by rfl) (by assumption) ?_
        simp only [Act.put, List.setIfInBounds_toArray, List.set_cons_zero, List.set_cons_succ]
        refine anyH_skip (i := 16) (d := 35) (L' := #[true, true, true, true, true, true, true, true, true, true, true, true, true, true, true, true, true, false, false, false, false]) rfl rfl (by kernel_rfl) (fun _ _ _ h => h) (by rfl) (by assumption) ?_
        simp only [Act.put, List.setIfInBounds_toArray, List.set_cons_zero, List.set_cons_succ]
        refine anyH_skip (i := 17) (d := 36) (L' := #[true, true, true, true, true, true, true, true, true, true, true, true, true, true, true, true, true, true, false, false, false]) rfl rfl (by kernel_rfl) (fun _ _ _ h => h) (by rfl) (by assumption) ?_
        simp only [Act.put, List.setIfInBounds_toArray, List.set_cons_zero, List.set_cons_succ]
        refine anyH_skip (i := 18) (d := 37) (L' := #[true, true, true, true, true, true, true, true, true, true, true, true, true, true, true, true, true, true, true, false, false]) rfl rfl (by kernel_rfl) (fun _ _ _ h => h) (by rfl) (by assumption) ?_
        simp only [Act.put, List.setIfInBounds_toArray, List.set_cons_zero, List.set_cons_succ]
        refine anyH_skip (i := 19) (d := 38) (L' := #[true, true, true, true, true, true, true, true, true, true, true, true, true, true, true, true, true, true, true, true, false]) rfl rfl (by kernel_rfl) (fun _ _ _ h => h) (by rfl) (by assumption) ?_
        simp only [Act.put, List.setIfInBounds_toArray, List.set_cons_zero, List.set_cons_succ]
        refine anyH_run (i := 20) (L' := #[true, true, true, true, true, true, true, true, true, true, true, true, true, true, true, true, true, true, true, true, true]) rfl (by kernel_rfl) (by rfl) (fun KK hKK => ?_)
        go_simp
        (skip)
        refine hKK.out _ _ (by assumption) (fun hHeld => ?_)
        clear hKK KK
        try simp only [Act.put, List.setIfInBounds_toArray, List.set_cons_zero, List.set_cons_succ]
        refine wpAnyH_done (by kernel_rfl) ?_ _
        go_wp2_with fail
        go_ret
        exact ⟨rfl, hci.drew⟩
    · obtain rfl : i = ps.length := by omega
      have hRt : R = true := by
        rw [← HD.out, decide_eq_true]
        have h := HEQ.out
        rw [List.take_of_length_le (by simp [HLN.out]), List.take_of_length_le (by simp [numsR])] at h
        exact h
      subst hRt
      go_wp2_with fail
      go_ret
      exact ⟨rfl, hci⟩
end Go.Proofs.Ytpoohpmcopjklaa

/- bagatellelaw19.fit. -/
namespace Go.Proofs.Ytpoohpmcopjklaa
open Go.RowKit

/-- In w there is a disk d at b, all of whose blocks came up behind w0; nothing of w0 has turned. -/
def DS (w0 w : World) (b : Nat) (d : Dsk) : Prop := ∃ fp, Dk w fp b d ∧ Chg [] w0 w ∧ ∀ k ∈ fp, w0.heap.size ≤ k
theorem DkOut.ds {w0 w w' : World} {fp : List Nat} {b : Nat} {d' : Dsk} (h : DkOut w fp b d' w') (hc : Chg [] w0 w) (hf : ∀ k ∈ fp, w0.heap.size ≤ k) : DS w0 w' b d' := by
  obtain ⟨fp', h1, h2, h3⟩ := h
  have hz := hc.size
  refine ⟨fp', h1, hc.trans h2 (fun x hx hl => by have := hf x hx; omega), fun k hk => ?_⟩
  rcases h3 k hk with h | h
  · exact hf k h
  · omega
theorem DS.chg {w0 w : World} {b : Nat} {d : Dsk} (h : DS w0 w b d) : Chg [] w0 w := let ⟨_, _, h, _⟩ := h; h
theorem DS.k {w0 w w' : World} {b : Nat} {d : Dsk} (h : DS w0 w b d) (hc : Chg [] w w') : DS w0 w' b d :=
  let ⟨fp, h1, h2, h3⟩ := h; ⟨fp, h1.k hc, h2.k hc, h3⟩
theorem DS.new {w w' : World} {d : Dsk} {b : Nat} {fp : List Nat} (h1 : Dk w' fp b d) (h2 : Chg [] w w') (h3 : ∀ k ∈ fp, w.heap.size ≤ k) : DS w w' b d := ⟨fp, h1, h2, h3⟩
theorem DS.same {w0 w w' : World} {fp : List Nat} {b : Nat} {d d' : Dsk} (h : Dk w' fp b d') (hw : Dk w fp b d) (hc : Chg [] w0 w) (hf : ∀ k ∈ fp, w0.heap.size ≤ k) (hb : Chg [b] w w') : DS w0 w' b d' := by
  have hz := hc.size
  refine ⟨fp, h, hc.trans hb (fun x hx hl => ?_), hf⟩
  obtain rfl : x = b := by simpa using hx
  obtain ⟨_, _, _, _, _, hp⟩ := hw
  have := hf x hp.fpb
  omega

set_option maxHeartbeats 2000000 in
theorem fit19_any (w : World) : Calls Try.prog 12 #[] w fun e w' => e = .returned (.bool true) ∧ Chg [] w w' := by
  have kc := bsConst
  have hs3 := nameD_seg 3
  have J0 := new_begin 1000 hs3 (by decide)
  have E0 := new_beginE 1000 hs3 (by decide)
  have O0 := ops_begin 1000 hs3 (by decide)
  have J1 := J0.write (frameB 1 [97]) (by rw [frameB_length]; decide)
  have O1 := ops_writeD (beginD (newD 1000) (segB 3)) (segB 3) (frameB 1 [97])
  have J2 := J1.write (frameB 2 [98, 99]) (by rw [List.length_append, frameB_length, frameB_length]; decide)
  have O2 := ops_writeD (writeD (beginD (newD 1000) (segB 3)) (segB 3) (frameB 1 [97])) (segB 3) (frameB 2 [98, 99])
  generalize hd0 : beginD (newD 1000) (segB 3) = d0 at *
  have R0 := J0.room
  generalize hd1 : writeD d0 (segB 3) (frameB 1 [97]) = d1 at *
  have R1 := J1.room
  generalize hd2 : writeD d1 (segB 3) (frameB 2 [98, 99]) = d2 at *
  have HD0 := hd hd0
  have HD1 := hd hd1
  have HD2 := hd hd2
  have HJ2 := hd J2
  have HO0 := hd O0
  have HO1 := hd O1
  have HO2 := hd O2
  have HR0 := hd R0
  have HR1 := hd R1
  clear hd0 hd1 hd2 J0 J1 J2 hs3 O0 O1 O2 R0 R1
  go_enter Try.func12, Try.ntmps12
  go_wp2_with fail
  refine (DNew_any w 1000 (by decide)).mono ?_
  rintro e w1 ⟨b, fp, rfl, hk1, hc1, hf1⟩
  go_wp2_with fail
  refine (Begin_any hk1 3 (by decide) (by decide)).mono ?_
  rintro e w2 ⟨rfl, h2⟩
  rw [HD0.out] at h2
  rw [E0]
  obtain ⟨fp2, hk2, hc2, hf2⟩ := h2.ds hc1 hf1
  clear h2 hk1 hc1 hf1
  have b1 := Bs.marked w2 [97] #[.int .u8 97] 1 rfl rfl (by decide)
  go_wp2_with fail
  have hcA := (Chg.refl [] w2).alloc (.cells #[.int .u8 97] 5 (1, 2))
  have hkA := hk2.k hcA
  refine (Write_any hkA 3 (by decide) 1 _ [97] b1 (by decide) (.inr (by rw [HR0.out]; decide)) (by rw [HO0.out]; decide)).mono ?_
  rintro e w3 ⟨rfl, h3⟩
  rw [HD1.out] at h3
  obtain ⟨fp3, hk3, hc3, hf3⟩ := h3.ds (hc2.k hcA) hf2
  clear h3 hk2 hc2 hf2 hcA hkA b1
  have b2 := Bs.marked w3 [98, 99] #[.int .u8 98, .int .u8 99] 2 rfl rfl (by decide)
  go_wp2_with fail
  have hcB := (Chg.refl [] w3).alloc (.cells #[.int .u8 98, .int .u8 99] 5 (2, 3))
  have hkB := hk3.k hcB
  refine (Write_any hkB 3 (by decide) 2 _ [98, 99] b2 (by decide) (.inr (by rw [HR1.out]; decide)) (by have := HO0.out; have := HO1.out; omega)).mono ?_
  rintro e w4 ⟨rfl, h4⟩
  rw [HD2.out] at h4
  obtain ⟨fp4, hk4, hc4, hf4⟩ := h4.ds (hc3.k hcB) hf3
  clear h4 hk3 hc3 hf3 hcB hkB b2
  have hsy := HJ2.out.syncE
  have hby := HJ2.out.bytes
  go_wp2_with fail
  refine (Scan_any hk4 3 (by decide) (by have := HO0.out; have := HO1.out; have := HO2.out; omega) (by rw [hby, List.length_append, List.length_append, frameB_length, frameB_length]; decide)).mono ?_
  rintro e w5 hsc
  obtain ⟨hk5, hc5, hsc⟩ := hsc
  have hfin := (DS.same hk5 hk4 hc4 hf4 hc5).chg
  rcases hsc with ⟨hne, -⟩ | ⟨-, v, rs, rfl, hrs, hrl⟩
  · exact absurd hsy hne
  rw [hby] at hrs ⊢
  have hcat : ([] ++ frameB 1 [97] ++ frameB 2 [98, 99] : List UInt8) = catF [(1, [97]), (2, [98, 99])] ++ [] := by simp [catF]
  rw [hcat, scanB_cat 16384 [] (nextB_nil _) [(1, [97]), (2, [98, 99])] (by intro r hr; simp at hr; rcases hr with rfl | rfl <;> decide) (by intro r hr; simp at hr; rcases hr with rfl | rfl <;> decide)] at hrs
  have hl2 : rs.length = 2 := by have := congrArg List.length hrs; simpa using this
  have hlen : recLen (rs.map bare) = ([] ++ frameB 1 [97] ++ frameB 2 [98, 99] : List UInt8).length := by
    rw [hrs, List.length_append, List.length_append, frameB_length, frameB_length]; rfl
  rw [decide_eq_true hlen]
  clear hlen hcat hk4 hk5 hc4 hc5 hf4 hsy hby
  obtain ⟨bR, capR, rfl, hat⟩ := hrl.at (by omega)
  rw [hl2]
  obtain ⟨ao, c, -, r0, r1, hb⟩ := hat 1 (by omega)
  have hbr : bare (rs[1]'(by omega)) = (2, [98, 99]) := by
    have h := congrArg (fun l => l[1]?) hrs
    simp only [List.getElem?_map] at h
    rw [List.getElem?_eq_getElem (by omega)] at h
    simpa using h
  generalize rs[1]'(by omega) = r at *
  obtain ⟨rn, rv, rp⟩ := r
  simp only [bare, Prod.mk.injEq] at hbr r0 r1 hb
  obtain ⟨rfl, rfl⟩ := hbr
  clear hat hrs hrl hl2
  go_wp2_with (refine wpStr rfl _ rfl _ _ rfl hb ?_)
  go_ret
  exact ⟨rfl, hfin⟩
end Go.Proofs.Ytpoohpmcopjklaa

/- A crash, as plain data. -/
namespace Go.Proofs.Ytpoohpmcopjklaa

def namedN (es : Nm) (j : Nat) : Bool := es.any fun p => p.2 == j
/-- The new index of file i. -/
def atN (es : Nm) (i : Nat) : Nat := ((List.range i).filter (namedN es)).length
def keepF (es : Nm) (fs : List (List UInt8 × Nat)) (n : Nat) : List (List UInt8 × Nat) := ((List.range n).filter (namedN es)).map fun i => ((fs.getD i ([], 0)).1, (fs.getD i ([], 0)).1.length)
def movedN (es : Nm) : Nm := es.map fun p => (p.1, atN es p.2)
def settleD (d : Dsk) : Dsk :=
  { d with files := keepF d.names d.files d.files.length, names := movedN d.names, sure := movedN d.names, changes := [], off := false, down := -1, fail := -1 }
def cutF : List (List UInt8 × Nat) → List Int → List (List UInt8 × Nat)
  | [], _ => []
  | f :: l, kept =>
    if f.2 < f.1.length then (f.1.take (f.2 + (min (max (kept.headD 0) 0) ((f.1.length : Int) - f.2)).toNat), f.2) :: cutF l kept.tail else f :: cutF l kept
def crashD (d : Dsk) (n : Int) (kept : List Int) : Dsk :=
  settleD { d with files := cutF d.files kept, names := (d.changes.take (min (max n 0) d.changes.length).toNat).foldl turnD d.sure }

theorem atN_le (es : Nm) (i : Nat) : atN es i ≤ i := by
  unfold atN; exact Nat.le_trans (List.length_filter_le _ _) (by simp)
theorem keepF_length (es : Nm) (fs : List (List UInt8 × Nat)) (n : Nat) : (keepF es fs n).length = atN es n := by simp [keepF, atN]
theorem atN_succ (es : Nm) (i : Nat) : atN es (i + 1) = atN es i + (if namedN es i then 1 else 0) := by
  unfold atN; rw [List.range_succ, List.filter_append]; by_cases h : namedN es i <;> simp [h]
theorem atN_mono (es : Nm) {i j : Nat} (h : i ≤ j) : atN es i ≤ atN es j := by
  induction j with
  | zero => simp at h; subst h; exact Nat.le_refl _
  | succ j ih =>
    by_cases hj : i = j + 1
    · subst hj; exact Nat.le_refl _
    · rw [atN_succ]; have := ih (by omega); omega
theorem atN_lt {es : Nm} {i n : Nat} (h : i < n) (hn : namedN es i = true) : atN es i < atN es n := by
  have h1 := atN_mono es (show i + 1 ≤ n by omega)
  rw [atN_succ, if_pos hn] at h1
  omega
theorem keepF_succ (es : Nm) (fs : List (List UInt8 × Nat)) (n : Nat) : keepF es fs (n + 1) = keepF es fs n ++ (if namedN es n then [((fs.getD n ([], 0)).1, (fs.getD n ([], 0)).1.length)] else []) := by
  unfold keepF; rw [List.range_succ, List.filter_append, List.map_append]; by_cases h : namedN es n <;> simp [h]
theorem named_of_mem {es : Nm} {p : List UInt8 × Nat} (h : p ∈ es) : namedN es p.2 = true := by
  unfold namedN; rw [List.any_eq_true]; exact ⟨p, h, by simp⟩
theorem cutF_length : ∀ (l : List (List UInt8 × Nat)) (kept : List Int), (cutF l kept).length = l.length
  | [], _ => rfl
  | f :: l, kept => by
    unfold cutF
    split <;> simp [cutF_length l]
theorem cutF_files {P : List UInt8 × Nat → Prop} (hP : ∀ (f : List UInt8 × Nat) (k : Nat), P f → f.2 < f.1.length → P (f.1.take (f.2 + k), f.2)) : ∀ (l : List (List UInt8 × Nat)) (kept : List Int), (∀ f ∈ l, P f) → ∀ f ∈ cutF l kept, P f
  | [], _, _, f, hf => by simp [cutF] at hf
  | g :: l, kept, h, f, hf => by
    unfold cutF at hf
    split at hf
    · rename_i hlt
      rcases List.mem_cons.1 hf with rfl | hf
      · exact hP g _ (h g (by simp)) hlt
      · exact cutF_files hP l _ (fun x hx => h x (by simp [hx])) f hf
    · rcases List.mem_cons.1 hf with rfl | hf
      · exact h f (by simp)
      · exact cutF_files hP l _ (fun x hx => h x (by simp [hx])) f hf
theorem foldl_turn (es : Nm) (cs : List (List UInt8 × List UInt8 × Nat)) : (es.map (·.1)).Nodup → ((cs.foldl turnD es).map (·.1)).Nodup ∧ (cs.foldl turnD es).length ≤ es.length + cs.length ∧
    ∀ p ∈ cs.foldl turnD es, p ∈ es ∨ ∃ c ∈ cs, c.2.1 ≠ [] ∧ p = (c.2.1, c.2.2) := by
  induction cs generalizing es with
  | nil => intro h; exact ⟨h, by simp, fun p hp => .inl hp⟩
  | cons c cs ih =>
    intro h
    obtain ⟨h1, h2, h3⟩ := ih (turnD es c) (nodup_turn h c)
    have h4 := length_turn h c
    refine ⟨h1, by simp only [List.foldl_cons, List.length_cons]; omega, fun p hp => ?_⟩
    rcases h3 p hp with hp | ⟨c', hc', hx⟩
    · rcases mem_turnD hp with hp | hx
      · exact .inl hp
      · exact .inr ⟨c, by simp, hx⟩
    · exact .inr ⟨c', by simp [hc'], hx⟩
theorem GoodD.settle {d : Dsk} (h : GoodD d) (hf : ∀ f ∈ d.files, (f.1.length : Int) ≤ d.room ∧ f.1.length ≤ 4294967296) : GoodD (settleD d) := by
  have hl : (settleD d).files.length = atN d.names d.files.length := keepF_length _ _ _
  have hle := atN_le d.names d.files.length
  have hnm : ∀ p ∈ movedN d.names, p.2 < (settleD d).files.length := by
    intro p hp
    obtain ⟨q, hq, rfl⟩ := List.mem_map.1 hp
    rw [hl]
    exact atN_lt (h.named q hq) (named_of_mem hq)
  refine ⟨h.room, hnm, hnm, by simp [settleD], by simp [settleD], fun f hf' => ?_, h.ops, ?_, ?_, ?_, by simp [settleD]⟩
  · obtain ⟨i, hi, rfl⟩ := List.mem_map.1 hf'
    have hi2 : i < d.files.length := by simpa using (List.mem_filter.1 hi).1
    have hg : d.files.getD i ([], 0) = d.files[i] := by rw [List.getD_eq_getElem?_getD, List.getElem?_eq_getElem hi2]; rfl
    rw [hg]
    exact ⟨Nat.le_refl _, hf d.files[i] (List.getElem_mem hi2)⟩
  · rw [hl]; have := h.nfiles; show (_ : Int) ≤ d.ops; omega
  · show ((movedN d.names).length : Int) ≤ d.ops; unfold movedN; rw [List.length_map]; exact h.nnames
  · show ((movedN d.names).length : Int) + (([] : List (List UInt8 × List UInt8 × Nat)).length : Int) ≤ d.ops
    unfold movedN; rw [List.length_map]; simpa using h.nnames
theorem GoodD.cut {d : Dsk} (h : GoodD d) (hn : (d.sure.map (·.1)).Nodup) (kept : List Int) (m : Nat) : GoodD { d with files := cutF d.files kept, names := (d.changes.take m).foldl turnD d.sure } := by
  have hl := cutF_length d.files kept
  obtain ⟨-, h2, h3⟩ := foldl_turn d.sure (d.changes.take m) hn
  have hc := h.nchanges
  have hm : (d.changes.take m).length ≤ d.changes.length := by rw [List.length_take]; omega
  refine { h with named := fun p hp => ?_, sured := ?_, turned := ?_, idx := ?_, files := ?_, nfiles := ?_, nnames := ?_ } <;> simp only [hl]
  · rcases h3 p hp with hp | ⟨c, hc, hne, rfl⟩
    · exact h.sured p hp
    · exact h.turned c (List.mem_of_mem_take hc) hne
  · exact h.sured
  · exact h.turned
  · exact h.idx
  · exact cutF_files (P := fun f => f.2 ≤ f.1.length ∧ (f.1.length : Int) ≤ d.room ∧ f.1.length ≤ 4294967296) (fun f k hf hlt => by simp only [List.length_take]; omega) d.files kept h.files
  · exact h.nfiles
  · omega
theorem moved_nodup {es : Nm} (h : (es.map (·.1)).Nodup) : ((movedN es).map (·.1)).Nodup := by
  unfold movedN; rw [List.map_map]; exact h
theorem nget_moved {es : Nm} (k : List UInt8) : nget (movedN es) k = (nget es k).map (atN es) := by
  unfold nget movedN
  rw [List.find?_map, Option.map_map, Option.map_map]
  rfl
def restK : List (List UInt8 × Nat) → List Int → List Int
  | [], kept => kept
  | f :: l, kept => if f.2 < f.1.length then restK l kept.tail else restK l kept
def cutOne (f : List UInt8 × Nat) (kept : List Int) : List UInt8 × Nat := (f.1.take (f.2 + (min (max (kept.headD 0) 0) ((f.1.length : Int) - f.2)).toNat), f.2)
theorem cutF_snoc (f : List UInt8 × Nat) : ∀ (l : List (List UInt8 × Nat)) (kept : List Int), cutF (l ++ [f]) kept = cutF l kept ++ [if f.2 < f.1.length then cutOne f (restK l kept) else f] ∧ restK (l ++ [f]) kept = if f.2 < f.1.length then (restK l kept).tail else restK l kept
  | [], kept => by
    by_cases h : f.2 < f.1.length <;> simp [cutF, restK, cutOne, h]
  | g :: l, kept => by
    by_cases h : g.2 < g.1.length
    · have ih := cutF_snoc f l kept.tail
      simp only [List.cons_append, cutF, restK, if_pos h, ih.1, ih.2]
      exact ⟨trivial, trivial⟩
    · have ih := cutF_snoc f l kept
      simp only [List.cons_append, cutF, restK, if_neg h, ih.1, ih.2]
      exact ⟨trivial, trivial⟩
def filesAt (fs : List (List UInt8 × Nat)) (kept : List Int) (k : Nat) : List (List UInt8 × Nat) := cutF (fs.take k) kept ++ fs.drop k
def keptAt (fs : List (List UInt8 × Nat)) (kept : List Int) (k : Nat) : List Int := restK (fs.take k) kept
theorem filesAt_zero (fs : List (List UInt8 × Nat)) (kept : List Int) : filesAt fs kept 0 = fs := by simp [filesAt, cutF]
theorem keptAt_zero (fs : List (List UInt8 × Nat)) (kept : List Int) : keptAt fs kept 0 = kept := by simp [keptAt, restK]
theorem filesAt_all (fs : List (List UInt8 × Nat)) (kept : List Int) : filesAt fs kept fs.length = cutF fs kept := by simp [filesAt]
theorem filesAt_length (fs : List (List UInt8 × Nat)) (kept : List Int) (k : Nat) : (filesAt fs kept k).length = fs.length := by
  unfold filesAt; rw [List.length_append, cutF_length, ← List.length_append, List.take_append_drop]
theorem filesAt_get (fs : List (List UInt8 × Nat)) (kept : List Int) (k : Nat) (h : k < fs.length) : (filesAt fs kept k)[k]? = some fs[k] := by
  unfold filesAt
  rw [List.getElem?_append_right (by rw [cutF_length, List.length_take]; omega), cutF_length, List.length_take, Nat.min_eq_left (by omega), Nat.sub_self, List.getElem?_drop, Nat.add_zero, List.getElem?_eq_getElem h]
theorem filesAt_succ (fs : List (List UInt8 × Nat)) (kept : List Int) (k : Nat) (h : k < fs.length) :
    filesAt fs kept (k + 1) = (filesAt fs kept k).set k (if fs[k].2 < fs[k].1.length then cutOne fs[k] (keptAt fs kept k) else fs[k]) ∧
    keptAt fs kept (k + 1) = if fs[k].2 < fs[k].1.length then (keptAt fs kept k).tail else keptAt fs kept k := by
  have e : fs.take (k + 1) = fs.take k ++ [fs[k]] := by rw [List.take_succ_eq_append_getElem h]
  have hs := cutF_snoc fs[k] (fs.take k) kept
  unfold filesAt keptAt
  rw [e, hs.1, hs.2]
  refine ⟨?_, rfl⟩
  have hl : (cutF (fs.take k) kept).length = k := by rw [cutF_length, List.length_take]; omega
  rw [List.set_append_right k _ (by omega), hl, Nat.sub_self, List.append_assoc]
  congr 1
  rw [List.drop_eq_getElem_cons h]
  rfl
theorem GoodD.withFiles {d : Dsk} (h : GoodD d) (fs : List (List UInt8 × Nat)) (hl : fs.length = d.files.length) (hf : ∀ f ∈ fs, f.2 ≤ f.1.length ∧ (f.1.length : Int) ≤ d.room ∧ f.1.length ≤ 4294967296) : GoodD { d with files := fs } := by
  refine { h with named := ?_, sured := ?_, turned := ?_, idx := ?_, files := hf, nfiles := ?_ } <;> simp only [hl]
  · exact h.named
  · exact h.sured
  · exact h.turned
  · exact h.idx
  · exact h.nfiles
theorem GoodD.partCut {d : Dsk} (h : GoodD d) (kept : List Int) (k : Nat) : GoodD { d with files := filesAt d.files kept k } := by
  refine h.withFiles _ (filesAt_length _ _ _) fun f hf => ?_
  unfold filesAt at hf
  rcases List.mem_append.1 hf with hf | hf
  · exact cutF_files (P := fun f => f.2 ≤ f.1.length ∧ (f.1.length : Int) ≤ d.room ∧ f.1.length ≤ 4294967296) (fun f k hf hlt => by simp only [List.length_take]; omega) _ kept (fun f hf => h.files f (List.mem_of_mem_take hf)) f hf
  · exact h.files f (List.mem_of_mem_drop hf)
end Go.Proofs.Ytpoohpmcopjklaa

/- A crash of a disk with one segment, as plain data. -/
namespace Go.Proofs.Ytpoohpmcopjklaa
open Go.RowKit

/-- The disk holds one file, s, that reads as B; its name and n of its bytes are sure. -/
structure Jc (room : Int) (s : List UInt8) (B : List UInt8) (n : Nat) (d : Dsk) : Prop where
  room : d.room = room
  names : d.names = [(s, 0)]
  sure : d.sure = [(s, 0)]
  changes : d.changes = []
  files : d.files = [(B, n)]
/-- .. and all of it is sure, and nothing is amiss. -/
structure Js (room : Int) (s : List UInt8) (B : List UInt8) (d : Dsk) : Prop where
  jd : Jd room s B d
  jc : Jc room s B B.length d
theorem Js.of {room : Int} {s B : List UInt8} {d : Dsk} (h : Jc room s B B.length d) (h1 : d.off = false) (h2 : d.down = -1) (h3 : d.fail = -1) : Js room s B d := ⟨⟨h1, h2, h3, h.room, h.names, _, h.files⟩, h⟩
theorem Jc.op {room : Int} {s B : List UInt8} {n : Nat} {d : Dsk} (h : Jc room s B n d) : Jc room s B n (opD d) := ⟨h.room, h.names, h.sure, h.changes, h.files⟩
theorem Js.op {room : Int} {s B : List UInt8} {d : Dsk} (h : Js room s B d) : Js room s B (opD d) := ⟨h.jd.op, h.jc.op⟩
theorem Jc.get {room : Int} {s B : List UInt8} {n : Nat} {d : Dsk} (h : Jc room s B n d) : nget d.names s = some 0 := by rw [h.names]; unfold nget; simp
theorem Jc.size {room : Int} {s B : List UInt8} {n : Nat} {d : Dsk} (h : Jc room s B n d) : sizeD d = B.length := by
  unfold sizeD; rw [h.names, h.files]; simp
theorem Jc.append {room : Int} {s B : List UInt8} {n : Nat} {d : Dsk} (h : Jc room s B n d) (l : List UInt8) (he : appendE d s l = 0) : Jc room s (B ++ l) n (appendD d s l) := by
  unfold appendD
  rw [if_neg (by rw [he]; simp), h.get]
  exact ⟨h.room, h.names, h.sure, h.changes, by simp [setF, opD, h.files]⟩
theorem Jc.sync {room : Int} {s B : List UInt8} {n : Nat} {d : Dsk} (h : Jc room s B n d) (he : syncE d s = 0) : Jc room s B B.length (syncD d s) := by
  unfold syncD
  rw [if_neg (by rw [he]; simp), h.get]
  exact ⟨h.room, h.names, h.sure, h.changes, by simp [setF, opD, h.files]⟩
theorem Js.write {room : Int} {s B : List UInt8} {d : Dsk} (h : Js room s B d) (l : List UInt8) (hr : (B.length : Int) + l.length ≤ room) : Js room s (B ++ l) (writeD d s l) := by
  refine ⟨h.jd.write l hr, ?_⟩
  unfold writeD
  rw [if_pos (h.jd.appendE l hr)]
  exact (h.jc.append l (h.jd.appendE l hr)).sync (h.jd.append l hr).syncE
theorem js_begin (room : Int) {s : List UInt8} (hs : nameD s = true) (h0 : 0 ≤ room) : Js room s [] (beginD (newD room) s) := by
  have hj := new_begin room hs h0
  refine ⟨hj, ⟨hj.room, hj.names, ?_, ?_, ?_⟩⟩
  · have h1 := hj.names
    unfold beginD at h1 ⊢
    rw [if_pos (new_createE room hs)] at h1 ⊢
    unfold dirSyncD at h1 ⊢
    rw [(new_create room hs h0).opE] at h1 ⊢
    exact h1
  · unfold beginD
    rw [if_pos (new_createE room hs)]
    unfold dirSyncD
    rw [(new_create room hs h0).opE]
    rfl
  · unfold beginD
    rw [if_pos (new_createE room hs)]
    unfold dirSyncD
    rw [(new_create room hs h0).opE]
    show (createD (newD room) s).files = _
    unfold createD
    rw [new_createE room hs]
    simp [changeD, opD, newD]
theorem Js.again {room : Int} {s B : List UInt8} {d : Dsk} (h : Js room s B d) (hs : nameD s = true) : beginE d s = 5 ∧ Js room s B (beginD d s) ∧ (beginD d s).ops = d.ops + 1 := by
  have hc : createE d s = 5 := by
    unfold createE
    rw [h.jd.opE, h.jd.get]
    simp [hs]
  unfold beginE beginD
  rw [hc, if_neg (by decide), if_neg (by decide)]
  unfold createD
  rw [hc, if_pos (by decide)]
  exact ⟨rfl, h.op, rfl⟩
theorem Jc.crash {room : Int} {s B : List UInt8} {n : Nat} {d : Dsk} (h : Jc room s B n d) (kept : List Int) (m : Nat) (hm : (m : Int) = n + min (max (kept.headD 0) 0) ((B.length : Int) - n)) (hn : n ≤ B.length) :
    Js room s (B.take m) (crashD d 0 kept) ∧ (crashD d 0 kept).ops = d.ops := by
  have hcut : cutF d.files kept = [(B.take m, n)] := by
    rw [h.files]
    unfold cutF
    by_cases hlt : n < B.length
    · simp only [if_pos hlt]
      have : m = n + (min (max (kept.headD 0) 0) ((B.length : Int) - n)).toNat := by omega
      rw [this]; rfl
    · simp only [if_neg hlt]
      have e1 : m = B.length := by omega
      rw [e1, List.take_length]; rfl
  have hnm : (d.changes.take (min (max 0 0) (d.changes.length : Int)).toNat).foldl turnD d.sure = [(s, 0)] := by rw [h.changes, h.sure]; simp
  have e : crashD d 0 kept = settleD { d with files := [(B.take m, n)], names := [(s, 0)] } := by
    unfold crashD; rw [hcut, hnm]
  have hjc : Jc room s (B.take m) (B.take m).length (crashD d 0 kept) := by
    rw [e]
    refine ⟨h.room, ?_, ?_, rfl, ?_⟩
    · simp [settleD, movedN, atN]
    · simp [settleD, movedN, atN]
    · have : (List.range [((B.take m), n)].length).filter (namedN [(s, 0)]) = [0] := by
        simp [namedN, List.range_succ]
      unfold settleD keepF
      simp only [this]
      rfl
  exact ⟨Js.of hjc (by rw [e]; rfl) (by rw [e]; rfl) (by rw [e]; rfl), by rw [e]; rfl⟩
theorem Js.crash {room : Int} {s B : List UInt8} {d : Dsk} (h : Js room s B d) (kept : List Int) : Js room s B (crashD d 0 kept) ∧ (crashD d 0 kept).ops = d.ops := by
  have := h.jc.crash kept B.length (by omega) (Nat.le_refl _)
  rwa [List.take_length] at this
theorem hexB_inj : ∀ i, i < 16 → ∀ j, j < 16 → hexB i = hexB j → i = j := by decide
theorem segB_xor (n : Nat) : segB (n ^^^ 1) ≠ segB n := by
  intro e
  have h := congrArg (fun l => l[16]?) e
  unfold segB hexS at h
  simp only [List.getElem?_cons_succ, List.getElem?_map] at h
  rw [List.getElem?_range (by decide)] at h
  simp only [Option.map_some, Option.some.injEq, nibB, Nat.reduceMul, Nat.reduceSub, Nat.pow_zero, Nat.div_one] at h
  have h2 := hexB_inj _ (Nat.mod_lt _ (by decide)) _ (Nat.mod_lt _ (by decide)) h
  have h3 : (n ^^^ 1).testBit 0 = (n.testBit 0 ^^ Nat.testBit 1 0) := Nat.testBit_xor ..
  simp only [Nat.testBit_zero] at h3
  have h4 : (n ^^^ 1) % 2 = n % 2 := by omega
  rw [h4] at h3
  have : decide (n % 2 = 1) = true ∨ decide (n % 2 = 1) = false := by cases decide (n % 2 = 1) <;> simp
  rcases this with h | h <;> rw [h] at h3 <;> cases h3
theorem xor1 (n : Nat) (hn : n < 4611686018427387904) : bits .xor .i64 (n : Int) 1 = ((n ^^^ 1 : Nat) : Int) ∧ n ^^^ 1 < 4611686018427387904 := by
  have hx : n ^^^ 1 < 2 ^ 62 := Nat.xor_lt_two_pow (by omega) (by decide)
  refine ⟨?_, by simpa using hx⟩
  have h1 : (BitVec.ofInt 64 (n : Int)).toNat = n := by
    rw [BitVec.toNat_ofInt]
    have h64 : ((2 ^ 64 : Nat) : Int) = 18446744073709551616 := by decide
    rw [h64, Int.emod_eq_of_lt (by omega) (by omega)]
    simp
  have h2 : (BitVec.ofInt 64 1).toNat = 1 := by decide
  unfold bits
  simp only
  show IntKind.i64.wrap ((BitVec.ofInt 64 (n : Int) ^^^ BitVec.ofInt 64 1).toNat : Int) = _
  rw [BitVec.toNat_xor, h1, h2]
  have hx2 : n ^^^ 1 < 4611686018427387904 := by simpa using hx
  exact IntWalk.i64_in _ (by omega)
theorem nget_one {s k : List UInt8} (h : k ≠ s) : nget [(s, 0)] k = none := by
  unfold nget; simp; exact fun e => h e.symm
end Go.Proofs.Ytpoohpmcopjklaa

/- Disk.Arm. -/
namespace Go.Proofs.Ytpoohpmcopjklaa
open Go.RowKit

variable {w : World} {fp : List Nat} {b : Nat} {fv cv : Value} {nb sb : Nat} {hs : List HF} {d : Dsk}

def latD (ops n : Int) : Int := if n < 0 ∨ 1099511627776 < n then -1 else ops + n
def armD (d : Dsk) (down fail : Int) : Dsk := { d with down := latD d.ops down, fail := latD d.ops fail }

set_option maxHeartbeats 400000 in
theorem later_any (p : Addr) (n ops : Int) (hp : w.cell? p = some (.pointer (some ⟨b, 0, none⟩))) (h5 : w.cell? ⟨b, 5, none⟩ = some (.int .i64 ops)) (h0 : 0 ≤ ops) (h1 : ops ≤ 1073741824) :
    Calls Try.prog 58 #[.int .i64 n, .pointer (some p)] w fun e w' => e = .returned (.int .i64 (latD ops n)) ∧ w = w' := by
  obtain ⟨R, hR⟩ : ∃ R, latD ops n = R := ⟨_, rfl⟩
  rw [hR]
  unfold latD at hR
  have HR := hd hR
  clear hR
  by_cases hn : n < 0
  · go_enter Try.func58, Try.ntmps58
    go_wp2_with fail
    refine bodyPost_ret (v := .int .i64 (-1)) ?_ rfl ⟨?_, rfl⟩
    · simp only [results]; go_simp
    · rw [← HR.out, if_pos (.inl hn)]
  · by_cases hn2 : 1099511627776 < n
    · go_enter Try.func58, Try.ntmps58
      go_wp2_with fail
      refine bodyPost_ret (v := .int .i64 (-1)) ?_ rfl ⟨?_, rfl⟩
      · simp only [results]; go_simp
      · rw [← HR.out, if_pos (.inr hn2)]
    · have hw : IntKind.i64.wrap (ops + n) = ops + n := IntWalk.i64_in _ (by omega)
      go_enter Try.func58, Try.ntmps58
      go_wp2_with fail
      refine bodyPost_ret (v := .int .i64 (ops + n)) ?_ rfl ⟨?_, rfl⟩
      · simp only [results]; go_simp
      · rw [← HR.out, if_neg (by omega)]

set_option maxHeartbeats 1000000 in
theorem Arm_any (h : Dk w fp b d) (down fail_ : Int) :
    Calls Try.prog 27 #[.pointer (some ⟨b, 0, none⟩), .int .i64 down, .int .i64 fail_] w fun e w' => e = .returned (.tuple #[]) ∧ DkOut w fp b (armD d down fail_) w' := by
  obtain ⟨fv, cv, nb, sb, hs, h⟩ := h
  have hops := h.good.ops
  have hblt := h.box.lt
  have hc := Chg.refl [] w
  go_enter Try.func27, Try.ntmps27
  go_upto_region 2 with (fail)
  have kx := Blk.new w #[.pointer (some ⟨b, 0, none⟩)] 26
  have hcb := (Chg.refl [] w).alloc (.cells #[.pointer (some ⟨b, 0, none⟩)] 26)
  replace h := h.k hcb
  replace hc := hc.k hcb
  clear hcb
  generalize w.alloc (.cells #[.pointer (some ⟨b, 0, none⟩)] 26) = w0 at *
  have q0 := kx.cell 0
  have q5 := h.box.cell 5
  have q6 := h.box.cell 6
  have q7 := h.box.cell 7
  simp [boxCells] at q0 q5 q6 q7
  have Q0 := hd q0
  have Q5 := hd q5
  have Q6 := hd q6
  have Q7 := hd q7
  have F6 := hd (h.box.free 6)
  have F7 := hd (h.box.free 7)
  have N1 : w.heap.size ∉ [b] := by simp; omega
  have H := hd h
  have HC := hd hc
  obtain ⟨A, hA⟩ : ∃ A, A = latD d.ops down := ⟨_, rfl⟩
  obtain ⟨B, hB⟩ : ∃ B, B = latD d.ops fail_ := ⟨_, rfl⟩
  have s1 : Chg [b] w0 (w0.drew.setCell ⟨b, 6, none⟩ (.int .i64 A)) := (Chg.refl _ _).drew.setCell _ _ (by simp)
  have s2 : Chg [b] w0 (w0.drew.setCell ⟨b, 7, none⟩ (.int .i64 B)) := (Chg.refl _ _).drew.setCell _ _ (by simp)
  have s3 : Chg [b] w0 ((w0.drew.setCell ⟨b, 6, none⟩ (.int .i64 A)).setCell ⟨b, 7, none⟩ (.int .i64 B)) := s1.setCell _ _ (by simp)
  have s4 : Chg [b] w0 ((w0.drew.setCell ⟨b, 7, none⟩ (.int .i64 B)).setCell ⟨b, 6, none⟩ (.int .i64 A)) := s2.setCell _ _ (by simp)
  have hbx : Blk w0.drew b (boxCells fv cv nb sb d) 85 := h.box
  have hgd : GoodD (armD d down fail_) := h.good.scal rfl rfl rfl rfl rfl (Int.le_refl _) hops.2
  have b1 : Blk ((w0.drew.setCell ⟨b, 6, none⟩ (.int .i64 A)).setCell ⟨b, 7, none⟩ (.int .i64 B)) b (boxCells fv cv nb sb (armD d down fail_)) 85 := by
    rw [hA, hB]; exact (hbx.set 6 _).set 7 _
  have b2 : Blk ((w0.drew.setCell ⟨b, 7, none⟩ (.int .i64 B)).setCell ⟨b, 6, none⟩ (.int .i64 A)) b (boxCells fv cv nb sb (armD d down fail_)) 85 := by
    rw [hA, hB]; exact (hbx.set 7 _).set 6 _
  have fin : ∀ W, Chg [b] w0 W → Blk W b (boxCells fv cv nb sb (armD d down fail_)) 85 → DkOut w fp b (armD d down fail_) W := fun W hW hb =>
    DkOut.same ⟨_, _, _, _, _, h.scal hW hb rfl rfl rfl rfl hgd⟩ ((hc.mono (S' := fp) (by simp)).trans hW (by simp only [List.mem_singleton]; rintro x rfl _; exact h.fpb))
  have F1 := hd (fin _ s3 b1)
  have F2 := hd (fin _ s4 b2)
  have S1 := hd s1
  have S2 := hd s2
  have S3 := hd s3
  have S4 := hd s4
  have HA := hd hA
  have HB := hd hB
  have hbx1 : Blk (w0.drew.setCell ⟨b, 6, none⟩ (.int .i64 A)) b _ 85 := hbx.set 6 _
  have hbx2 : Blk (w0.drew.setCell ⟨b, 7, none⟩ (.int .i64 B)) b _ 85 := hbx.set 7 _
  have c1 := hbx1.cell 7
  have c2 := hbx2.cell 6
  simp [boxCells] at c1 c2
  have C1 := hd c1
  have C2 := hd c2
  have G1 := hd (hbx1.free 7)
  have G2 := hd (hbx2.free 6)
  have hops1 := hops.1
  have hops2 := hops.2
  clear s1 s2 s3 s4 b1 b2 fin hbx hgd h hc q0 q5 q6 q7 kx hblt hA hB c1 c2 hbx1 hbx2 hops
  refine anyH_start (n := 14) (L := #[false, false, false, false, false, false, false, false, false, false, false, false, false, false]) (by kernel_rfl) (by kernel_rfl) (S := (fun wx => Chg [b] w0 wx)) ((Chg.refl _ _).drew) (fun hHeld => ?_)
  refine anyH_take (i := 0) (d := 8) (L' := #[true, false, false, false, false, false, false, false, false, false, false, false, false, false]) (v := ?v2) rfl rfl (by kernel_rfl) (fun _ _ _ h => h) (by rfl) ?hy2 (by assumption) ?rest2
  case hy2 => (intro wx hSw; (try dsimp only at hSw); (have t0 := hSw.cellT Q0.out N1); go_simp; (try with_reducible rfl))
  simp only [Act.put, List.setIfInBounds_toArray, List.set_cons_zero, List.set_cons_succ]
  refine anyH_take (i := 1) (d := 9) (L' := #[true, true, false, false, false, false, false, false, false, false, false, false, false, false]) (v := ?v3) rfl rfl (by kernel_rfl) (fun _ _ _ h => h) (by rfl) ?hy3 (by assumption) ?rest3
  case hy3 => (intro wx hSw; (try dsimp only at hSw); (have t0 := hSw.cellT Q0.out N1); go_simp; (try with_reducible rfl))
  simp only [Act.put, List.setIfInBounds_toArray, List.set_cons_zero, List.set_cons_succ]
  refine anyH_take (i := 2) (d := 10) (L' := #[true, true, true, false, false, false, false, false, false, false, false, false, false, false]) (v := ?v4) rfl rfl (by kernel_rfl) (fun _ _ _ h => h) (by rfl) ?hy4 (by assumption) ?rest4
  case hy4 => (intro wx hSw; (try dsimp only at hSw); (have t0 := hSw.cellT Q0.out N1); go_simp; (try with_reducible rfl))
  simp only [Act.put, List.setIfInBounds_toArray, List.set_cons_zero, List.set_cons_succ]
  refine anyH_take (i := 3) (d := 11) (L' := #[true, true, true, true, false, false, false, false, false, false, false, false, false, false]) (v := ?v5) rfl rfl (by kernel_rfl) (fun _ _ _ h => h) (by rfl) ?hy5 (by assumption) ?rest5
  case hy5 => (intro wx hSw; (try dsimp only at hSw); (have t0 := hSw.cellT Q0.out N1); go_simp; (try with_reducible rfl))
  simp only [Act.put, List.setIfInBounds_toArray, List.set_cons_zero, List.set_cons_succ]
  refine anyH_take (i := 5) (d := 13) (L' := #[true, true, true, true, false, true, false, false, false, false, false, false, false, false]) (v := ?v6) rfl rfl (by kernel_rfl) (fun _ _ _ h => h) (by rfl) ?hy6 (by assumption) ?rest6
  case hy6 => (intro wx hSw; (try dsimp only at hSw); (have t0 := hSw.cellT Q0.out N1); go_simp; (try with_reducible rfl))
  simp only [Act.put, List.setIfInBounds_toArray, List.set_cons_zero, List.set_cons_succ]
  refine anyH_take (i := 6) (d := 14) (L' := #[true, true, true, true, false, true, true, false, false, false, false, false, false, false]) (v := ?v7) rfl rfl (by kernel_rfl) (fun _ _ _ h => h) (by rfl) ?hy7 (by assumption) ?rest7
  case hy7 => (intro wx hSw; (try dsimp only at hSw); (have t0 := hSw.cellT Q0.out N1); go_simp; (try with_reducible rfl))
  simp only [Act.put, List.setIfInBounds_toArray, List.set_cons_zero, List.set_cons_succ]
  refine anyH_run (i := 4) (L' := #[true, true, true, true, true, true, true, false, false, false, false, false, false, false]) rfl (by kernel_rfl) (by rfl) (fun KK hKK => ?_)
  go_simp
  (refine (later_any (w := w0.drew) ⟨w.heap.size, 0, none⟩ down d.ops Q0.out Q5.out hops1 hops2).mono ?_; rintro e wn ⟨rfl, rfl⟩; rw [← HA.out]; (try go_simp))
  refine hKK.out _ _ (by assumption) (fun hHeld => ?_)
  clear hKK KK
  try simp only [Act.put, List.setIfInBounds_toArray, List.set_cons_zero, List.set_cons_succ]
  refine anyH_run (i := 7) (L' := #[true, true, true, true, true, true, true, true, false, false, false, false, false, false]) rfl (by kernel_rfl) (by rfl) (fun KK hKK => ?_)
  go_simp
  (refine (later_any (w := w0.drew) ⟨w.heap.size, 0, none⟩ fail_ d.ops Q0.out Q5.out hops1 hops2).mono ?_; rintro e wn ⟨rfl, rfl⟩; rw [← HB.out]; (try go_simp))
  refine hKK.out _ _ (by assumption) (fun hHeld => ?_)
  clear hKK KK
  try simp only [Act.put, List.setIfInBounds_toArray, List.set_cons_zero, List.set_cons_succ]
  refine anyH_take (i := 8) (d := 16) (L' := #[true, true, true, true, true, true, true, true, true, false, false, false, false, false]) (v := ?v10) rfl rfl (by kernel_rfl) (fun _ _ _ h => h) (by rfl) ?hy10 (by assumption) ?rest10
  case hy10 => (intro wx hSw; (try dsimp only at hSw); (have t0 := hSw.cellT Q0.out N1); go_simp; (try with_reducible rfl))
  simp only [Act.put, List.setIfInBounds_toArray, List.set_cons_zero, List.set_cons_succ]
  refine anyH_take (i := 9) (d := 17) (L' := #[true, true, true, true, true, true, true, true, true, true, false, false, false, false]) (v := ?v11) rfl rfl (by kernel_rfl) (fun _ _ _ h => h) (by rfl) ?hy11 (by assumption) ?rest11
  case hy11 => (intro wx hSw; (try dsimp only at hSw); (have t0 := hSw.cellT Q0.out N1); go_simp; (try with_reducible rfl))
  simp only [Act.put, List.setIfInBounds_toArray, List.set_cons_zero, List.set_cons_succ]
  refine anyH_run (i := 10) (L' := #[true, true, true, true, true, true, true, true, true, true, true, false, false, false]) rfl (by kernel_rfl) (by rfl) (fun KK hKK => ?_)
  (have q6 := Q6.out; have f6 := F6.out; have c2 := C2.out; have g2 := G2.out; have s1 := S1.out; have s4 := S4.out; go_simp)
  refine hKK.out _ _ (by assumption) (fun hHeld => ?_)
  clear hKK KK
  try simp only [Act.put, List.setIfInBounds_toArray, List.set_cons_zero, List.set_cons_succ]
  refine anyH_take (i := 11) (d := 18) (L' := #[true, true, true, true, true, true, true, true, true, true, true, true, false, false]) (v := ?v13) rfl rfl (by kernel_rfl) (fun _ _ _ h => h) (by rfl) ?hy13 (by assumption) ?rest13
  case hy13 => (intro wx hSw; (try dsimp only at hSw); (have t0 := hSw.cellT Q0.out N1); go_simp; (try with_reducible rfl))
  simp only [Act.put, List.setIfInBounds_toArray, List.set_cons_zero, List.set_cons_succ]
  refine anyH_take (i := 12) (d := 19) (L' := #[true, true, true, true, true, true, true, true, true, true, true, true, true, false]) (v := ?v14) rfl rfl (by kernel_rfl) (fun _ _ _ h => h) (by rfl) ?hy14 (by assumption) ?rest14
  case hy14 => (intro wx hSw; (try dsimp only at hSw); (have t0 := hSw.cellT Q0.out N1); go_simp; (try with_reducible rfl))
  simp only [Act.put, List.setIfInBounds_toArray, List.set_cons_zero, List.set_cons_succ]
  refine anyH_run (i := 13) (L' := #[true, true, true, true, true, true, true, true, true, true, true, true, true, true]) rfl (by kernel_rfl) (by rfl) (fun KK hKK => ?_)
  (have q7 := Q7.out; have f7 := F7.out; have c1 := C1.out; have g1 := G1.out; have s2 := S2.out; have s3 := S3.out; go_simp)
  refine hKK.out _ _ (by assumption) (fun hHeld => ?_)
  clear hKK KK
  try simp only [Act.put, List.setIfInBounds_toArray, List.set_cons_zero, List.set_cons_succ]
  refine wpAnyH_done (by kernel_rfl) ?_ _
  go_wp2_with fail; go_end0; first | exact ⟨rfl, F1.out⟩ | exact ⟨rfl, F2.out⟩
end Go.Proofs.Ytpoohpmcopjklaa

/- A write that is broken off, as plain data. -/
namespace Go.Proofs.Ytpoohpmcopjklaa
open Go.RowKit

def wantE (dn fl : Nat) : Int := if dn = 0 then 8 else if fl = 0 then 7 else if dn = 1 then 8 else if fl = 1 then 7 else 0
theorem latD_nat (ops : Int) (n : Nat) (hn : n < 4) : latD ops n = ops + n := by unfold latD; rw [if_neg (by omega)]
theorem down_write {room : Int} {s L F : List UInt8} {d : Dsk} (h : Js room s L d) (dn fl : Nat) (h1 : dn < 4) (h2 : fl < 4) (ho : 0 ≤ d.ops) (hr : (L.length : Int) + F.length ≤ room) :
    writeE (armD d dn fl) s F = wantE dn fl ∧ (writeD (armD d dn fl) s F).ops ≤ d.ops + 2 ∧ ∃ B n, Jc room s B n (writeD (armD d dn fl) s F) ∧ n ≤ B.length ∧
      ((B = L ∧ n = L.length ∧ wantE dn fl ≠ 0) ∨ (B = L ++ F ∧ n = L.length ∧ wantE dn fl ≠ 0) ∨ (B = L ++ F ∧ n = (L ++ F).length)) := by
  have hjc : Jc room s L L.length (armD d dn fl) := ⟨h.jc.room, h.jc.names, h.jc.sure, h.jc.changes, h.jc.files⟩
  have hoff : (armD d dn fl).off = false := h.jd.off
  have hdn : (armD d dn fl).down = d.ops + dn := latD_nat _ _ h1
  have hfl : (armD d dn fl).fail = d.ops + fl := latD_nat _ _ h2
  have hops : (armD d dn fl).ops = d.ops := rfl
  have hroom : (armD d dn fl).room = room := h.jc.room
  generalize armD d dn fl = d1 at *
  have hE : opE d1 = if dn = 0 then 8 else if fl = 0 then 7 else 0 := by
    unfold opE
    rw [hoff, hdn, hfl, hops]
    by_cases e1 : dn = 0
    · rw [if_pos e1, if_pos (.inr ⟨by omega, by omega⟩)]
    · rw [if_neg e1, if_neg (by simp; omega)]
      by_cases e2 : fl = 0
      · rw [if_pos e2, if_pos ⟨by omega, by omega⟩]
      · rw [if_neg e2, if_neg (by omega)]
  have hap : appendE d1 s F = if dn = 0 then 8 else if fl = 0 then 7 else 0 := by
    unfold appendE
    rw [hE, hjc.get, hjc.size, hroom]
    by_cases e1 : dn = 0
    · simp [e1]
    · by_cases e2 : fl = 0
      · simp [e1, e2]
      · simp [e1, e2]; omega
  refine ⟨?_, by have := ops_writeD d1 s F; omega, ?_⟩
  · unfold writeE wantE
    by_cases e1 : dn = 0
    · rw [hap]; simp [e1]
    · by_cases e2 : fl = 0
      · rw [hap]; simp [e1, e2]
      · have h0 : appendE d1 s F = 0 := by rw [hap]; simp [e1, e2]
        rw [if_pos h0, if_neg e1, if_neg e2]
        have hj2 := hjc.append F h0
        have hoff2 : (appendD d1 s F).off = false ∧ (appendD d1 s F).down = d.ops + dn ∧ (appendD d1 s F).fail = d.ops + fl ∧ (appendD d1 s F).ops = d.ops + 1 := by
          unfold appendD
          rw [if_neg (by rw [h0]; simp), hjc.get]
          refine ⟨?_, hdn, hfl, by simp [setF, opD, hops]⟩
          simp [setF, opD, hoff, hdn, hops]
          omega
        unfold syncE
        rw [hj2.get]
        unfold opE
        obtain ⟨g1, g2, g3, g4⟩ := hoff2
        rw [g1, g2, g3, g4]
        by_cases e3 : dn = 1
        · rw [if_pos e3, if_pos (by rw [if_pos (.inr ⟨by omega, by omega⟩)]; decide), if_pos (.inr ⟨by omega, by omega⟩)]
        · have n1 : ¬ (false = true ∨ 0 ≤ d.ops + (dn : Int) ∧ d.ops + (dn : Int) ≤ d.ops + 1) := by simp; omega
          rw [if_neg e3, if_neg n1]
          by_cases e4 : fl = 1
          · rw [if_pos e4]; simp; omega
          · rw [if_neg e4, if_neg (by omega)]; simp
  · unfold writeD
    by_cases h0 : appendE d1 s F = 0
    · rw [if_pos h0]
      have hj2 := hjc.append F h0
      by_cases hsy : syncE (appendD d1 s F) s = 0
      · exact ⟨_, _, hj2.sync hsy, Nat.le_refl _, .inr (.inr ⟨rfl, rfl⟩)⟩
      · have e : syncD (appendD d1 s F) s = opD (appendD d1 s F) := by unfold syncD; rw [if_pos hsy]
        rw [e]
        refine ⟨_, _, hj2.op, by simp, .inr (.inl ⟨rfl, rfl, ?_⟩)⟩
        intro hw
        rw [hap] at h0
        have e1 : dn ≠ 0 := fun e => by simp [e] at h0
        have e2 : fl ≠ 0 := fun e => by simp [e1, e] at h0
        unfold wantE at hw
        rw [if_neg e1, if_neg e2] at hw
        have e3 : dn ≠ 1 := fun e => by simp [e] at hw
        have e4 : fl ≠ 1 := fun e => by simp [e3, e] at hw
        apply hsy
        have h00 : appendE d1 s F = 0 := by rw [hap]; simp [e1, e2]
        have hoff2 : (appendD d1 s F).off = false ∧ (appendD d1 s F).down = d.ops + dn ∧ (appendD d1 s F).fail = d.ops + fl ∧ (appendD d1 s F).ops = d.ops + 1 := by
          unfold appendD
          rw [if_neg (by rw [h00]; simp), hjc.get]
          refine ⟨?_, hdn, hfl, by simp [setF, opD, hops]⟩
          simp [setF, opD, hoff, hdn, hops]
          omega
        obtain ⟨g1, g2, g3, g4⟩ := hoff2
        unfold syncE
        rw [hj2.get]
        unfold opE
        rw [g1, g2, g3, g4]
        have n1 : ¬ (false = true ∨ 0 ≤ d.ops + (dn : Int) ∧ d.ops + (dn : Int) ≤ d.ops + 1) := by simp; omega
        rw [if_neg n1, if_neg (by omega)]
        simp
    · rw [if_neg h0]
      have e : appendD d1 s F = opD d1 := by unfold appendD; rw [if_pos h0]
      rw [e]
      refine ⟨_, _, hjc.op, Nat.le_refl _, .inl ⟨rfl, rfl, ?_⟩⟩
      rw [hap] at h0
      unfold wantE
      by_cases e1 : dn = 0
      · simp [e1]
      · by_cases e2 : fl = 0
        · simp [e1, e2]
        · simp [e1, e2] at h0
theorem down_crash {room : Int} {s L F : List UInt8} {d : Dsk} (h : Js room s L d) (dn fl : Nat) (h1 : dn < 4) (h2 : fl < 4) (ho : 0 ≤ d.ops) (hr : (L.length : Int) + F.length ≤ room) (kept : Int) :
    ∃ j, j ≤ F.length ∧ Js room s (L ++ F.take j) (crashD (writeD (armD d dn fl) s F) 0 [kept]) ∧ (wantE dn fl = 0 → j = F.length) ∧ (crashD (writeD (armD d dn fl) s F) 0 [kept]).ops ≤ d.ops + 2 := by
  obtain ⟨-, hops, B, n, hj, hn, hB⟩ := down_write (F := F) h dn fl h1 h2 ho hr
  obtain ⟨m, hm⟩ : ∃ m : Nat, (m : Int) = n + min (max (([kept] : List Int).headD 0) 0) ((B.length : Int) - n) := ⟨(n + min (max (([kept] : List Int).headD 0) 0) ((B.length : Int) - n)).toNat, by omega⟩
  obtain ⟨hc, ho2⟩ := hj.crash [kept] m hm hn
  rcases hB with ⟨rfl, rfl, hw⟩ | ⟨rfl, rfl, hw⟩ | ⟨rfl, rfl⟩
  · refine ⟨0, by omega, ?_, fun e => absurd e hw, by omega⟩
    have : m = B.length := by omega
    rw [this, List.take_length] at hc
    simpa using hc
  · have hl : (L ++ F).length = L.length + F.length := List.length_append
    refine ⟨m - L.length, by omega, ?_, fun e => absurd e hw, by omega⟩
    rw [List.take_append, List.take_of_length_le (l := L) (by omega)] at hc
    exact hc
  · have : m = (L ++ F).length := by omega
    rw [this, List.take_length] at hc
    refine ⟨F.length, Nat.le_refl _, by rw [List.take_length]; exact hc, fun _ => rfl, by omega⟩
end Go.Proofs.Ytpoohpmcopjklaa

/- m[k] = v at a key that is there, while m is ranged over. -/
namespace Go.Proofs.Ytpoohpmcopjklaa
open Go.RowKit
open Go.ChangeMaps Go.MapKept
open Go.WideElems (Fit rd rg pl rd_val elemAt)
open Go.Maps (Keyed)

section
variable {P : Program} {k : TypeId} {w : World} {b : Nat} {es : Array MapEntry} {clock : Nat} {R : Value → Option (DataW Unit × List MemPlace)}

theorem run_store_there {t e : TypeId} (K : Keyed P k) (ht : P.underlying t = some (.map k e)) (hb : w.heap[b]? = some (.map es clock)) {key val : Value} {kl : Lit} (hkey : keyOf P k key = some kl) {j : Nat} {e0 : MapEntry}
    (h1 : (Instr.findKey k key es.toList).run P w = .ok (some (j, e0.val)) w) (h2 : es.toList[j]? = some e0) (h3 : e0.key = key) :
    (Instr.mapUpdate t (.map (some b)) key val).run P w = .ok () (setBlock w b (.map (es.modify j (fun e' => { e' with key := key, val := val })) clock)) := by
  have hj : es[j]? = some e0 := by simpa using h2
  simp [Instr.mapUpdate, run_underlying ht, MapKept.run_getObj_map hb, K.check w false hkey, h1, hj, h3, K.stays w hkey, MapKept.run_setObj_map _ hb, Result.andThen, setBlock]
theorem ranges_store {t e : TypeId} {r n cnt : Nat} {D : DataW Unit} {left : Lit → Bool} (h : w.ranges P k R b r n D left cnt) (K : Keyed P k) (ht : P.underlying t = some (.map k e)) {key val : Value} {kl : Lit} (hkey : keyOf P k key = some kl)
    (hin : Maps.has D kl = true) {d : DataW Unit} {ps : List MemPlace} (hv : R val = some (d, ps)) (hn : n < maxLen) :
    ∃ w', (Instr.mapUpdate t (.map (some b)) key val).run P w = .ok () w' ∧ w'.ranges P k R b r n (D.put kl d) left cnt ∧ w.mapTurned w' b := by
  have hne := h.ne
  obtain ⟨es, clock, since, seen, c0, hb, F, hs, rfl, hr, hold, hcnt, hl1, hl2, hsc, hsk⟩ := h
  rcases K.find w hkey es.toList F.keys with ⟨h1, h2⟩ | ⟨j, e0, h1, h2, h3⟩
  · exfalso
    rw [Maps.has_eq, List.any_eq_true] at hin
    obtain ⟨p, hp, hs⟩ := hin
    obtain ⟨x, hx, rfl⟩ := List.mem_map.1 (mem_sorted.1 hp)
    obtain ⟨y, hy⟩ := F.reads x hx
    have e1 : (rg P k R x).1 = kl := by
      by_cases he : (rg P k R x).1 = kl
      · exact he
      · rw [Maps.sameKey_ne he] at hs; cases hs
    rw [WideElems.rg_of hy] at e1
    exact h2 x hx (K.inj (e1 ▸ WideElems.rd_key hy) hkey)
  · have hrun := run_store_there (w := w) K ht hb (val := val) hkey h1 h2 h3
    obtain ⟨es', clock', hrun', F', hput, -⟩ := Maps.fit_store (R' := R) K ht hb F (Nat.lt_of_le_of_lt hs hn) (fun _ _ _ _ hz => hz) hkey hv
    have heq : es' = es.modify j (fun e' => { e' with key := key, val := val }) ∧ clock' = clock := by
      have := hrun'.symm.trans hrun
      simp only [Result.ok.injEq, true_and] at this
      have h5 := congrArg (fun W : World => W.heap[b]?) this
      simp only [heap_setBlock_same hb] at h5
      simpa using h5
    obtain ⟨rfl, rfl⟩ := heq
    have hlist : (es.modify j (fun e' => { e' with key := key, val := val })).toList = es.toList.set j { e0 with key := key, val := val } := by
      rw [Array.toList_modify]
      apply List.ext_getElem?
      intro i
      rw [List.getElem?_modify, List.getElem?_set]
      by_cases hij : j = i
      · subst hij
        rw [h2]
        have : j < es.toList.length := (List.getElem?_eq_some_iff.1 h2).1
        simp
        simpa using this
      · simp [hij]
    have hk0 : (WideElems.rg P k R e0).1 = kl := by
      obtain ⟨y, hy⟩ := F.reads e0 (List.mem_of_getElem? h2)
      have m1 := WideElems.rd_key hy
      rw [h3, hkey] at m1
      rw [WideElems.rg_of hy]
      exact (Option.some.inj m1).symm
    have hk1 : (WideElems.rg P k R { e0 with key := key, val := val }).1 = kl := by rw [WideElems.rg_of (WideElems.rd_mk hkey hv)]
    have hme := List.mem_of_getElem? h2
    have who : ∀ x ∈ es.toList.set j { e0 with key := key, val := val }, x = { e0 with key := key, val := val } ∨ x ∈ es.toList := fun x hx => (List.mem_or_eq_of_mem_set hx).symm
    refine ⟨_, hrun, ⟨_, _, since, seen, c0, heap_setBlock_same hb _, F', by simpa using hs, by rw [DataW.put_eq, hput], (heap_setBlock_other hb _ hne).trans hr, fun x hx => ?_, ?_, fun x hx => ?_, fun x0 hx0 => ?_, hsc, hsk⟩, ⟨es, _, _, _, hb, rfl⟩⟩
    · rw [hlist] at hx
      rcases who x hx with rfl | hx
      · exact hold e0 hme
      · exact hold x hx
    · have e1 : ∀ a : Array MapEntry, (leftOf a seen).size = (a.toList.filter fun e => !seen.contains e.born).length := fun a => by
        unfold leftOf
        rw [← Array.toList_filter, Array.length_toList]
      rw [e1] at hcnt ⊢
      rw [hlist, ← hcnt, ← List.countP_eq_length_filter, ← List.countP_eq_length_filter]
      have e2 : ∀ l : List MapEntry, l.countP (fun e => !seen.contains e.born) = (l.map (·.born)).countP (fun z => !seen.contains z) := fun l => by rw [List.countP_map]; rfl
      rw [e2, e2, List.map_set]
      congr 1
      apply List.ext_getElem?
      intro i
      rw [List.getElem?_set]
      by_cases hij : j = i
      · subst hij
        have : j < (es.toList.map (·.born)).length := by rw [List.length_map]; exact (List.getElem?_eq_some_iff.1 h2).1
        rw [if_pos rfl, if_pos this, List.getElem?_map, h2]
        rfl
      · rw [if_neg hij]
    · rw [hlist] at hx
      rcases who x hx with rfl | hx
      · rw [hk1, ← hk0]; exact hl1 e0 hme
      · exact hl1 x hx
    · obtain ⟨x, hx, rfl⟩ := hl2 x0 hx0
      rw [hlist]
      obtain ⟨i, hi, rfl⟩ := List.getElem_of_mem hx
      by_cases hij : j = i
      · subst hij
        have he : es.toList[j] = e0 := by rw [List.getElem?_eq_getElem hi] at h2; exact Option.some.inj h2
        exact ⟨_, List.mem_set hi _, by rw [hk1, he, hk0]⟩
      · exact ⟨es.toList[i], by rw [List.mem_iff_getElem?]; exact ⟨i, by rw [List.getElem?_set_ne hij, List.getElem?_eq_getElem hi]⟩, rfl⟩
end
theorem MapRange.chg {S : List Nat} {w w' : World} {b r : Nat} {es rest : Nm} (h : MapRange w b r es rest) (hc : Chg S w w') (hb : b ∉ S) (hr : r ∉ S) : MapRange w' b r es rest ∧ w'.rangeLeft b r = w.rangeLeft b r := by
  have hlt1 := h.map.lt
  have hlt2 := h.lt
  obtain ⟨D, lf, cnt, hrg, hR, hnd, hsub, hleft⟩ := h
  have hrg2 : w'.ranges Try.prog 9 (plainElem Try.prog 3) b r es.length D lf cnt := by
    obtain ⟨xs, clock, since, seen, c0, h1, F, hs, hD, h2, rest⟩ := hrg
    exact ⟨xs, clock, since, seen, c0, (hc.block b hlt1 hb).trans h1, F, hs, hD, (hc.block r hlt2 hr).trans h2, rest⟩
  exact ⟨⟨D, lf, cnt, hrg2, hR, hnd, hsub, hleft⟩, by rw [hrg2.left_eq, hrg.left_eq]⟩
theorem nget_mem_isSome {es : Nm} {s : List UInt8} {i : Nat} (h : (s, i) ∈ es) : (nget es s).isSome := by
  rcases hn : nget es s with _ | j
  · exfalso
    unfold nget at hn
    rw [Option.map_eq_none_iff, List.find?_eq_none] at hn
    exact hn _ h (by simp)
  · rfl
/-- The same map, told in another order. -/
theorem MapAt.congr {w : World} {b : Nat} {es es' : Nm} (h : MapAt w b es) (hn : (es'.map (·.1)).Nodup) (hl : es'.length = es.length) (hg : ∀ k, nget es' k = nget es k) : MapAt w b es' := by
  obtain ⟨D, h1, hr⟩ := h
  rw [← hl] at h1
  refine ⟨D, h1, ⟨hn, fun k z => by rw [hg]; exact hr.at_ k z, fun k => by rw [hg]; exact hr.has k, by rw [hl]; exact hr.size, hr.tidy, fun p hp => ?_⟩⟩
  have := mem_nget hn (s := p.1) (i := p.2) hp
  rw [hg] at this
  exact hr.wf _ (nget_some_mem this)
/-- 'm[k] = v' at a key that is there: the range goes on. -/
theorem wpPutR {w : World} {o : Oper} {a : Act} {K : Act → World → Prop} {Q : Exit → Act → World → Prop} (hdst : o.dst = none) (m x v : Operand) (hop : o.op = Op.mapUpdate 81 m x v)
    (b r : Nat) (es rest : Nm) (s : List UInt8) (i : Nat) (hm : a.eval m = .map (some b)) (hx : a.eval x = .string (strB s)) (hv : a.eval v = .int .i64 (i : Int)) (h : MapRange w b r es rest) (hin : (nget es s).isSome) (hs : s.length ≤ 9223372036854775807) (hi : i ≤ 4611686018427387904) (hn : es.length ≤ 10000000000000)
    (hno : nget rest s = none) (hK : ∀ w', MapRange w' b r (nput es s i) rest → w.grownBy w' (some b) → (nput es s i).length = es.length → w'.rangeLeft b r = w.rangeLeft b r → K a w') : o.wp Try.prog a w K Q := by
  obtain ⟨D, lf, cnt, hrg, hr, hnd, hsub, hleft⟩ := h
  obtain ⟨w', hrun, h1, h2⟩ := ranges_store hrg strKeyed undMapN (keyStr' s hs) (by rw [hr.has]; exact hin) (plainElem_int undInt (wfNat hi)) (by unfold maxLen; omega)
  have hsz : (nput es s i).length = es.length := by
    have h3 := length_ndel hr.nodup s
    rw [if_pos hin] at h3
    unfold nput
    rw [List.length_append]
    simp only [List.length_cons, List.length_nil]
    omega
  unfold Oper.wp
  simp [execOp, hop, hm, hx, hv, hrun, Result.andThen]
  have e : a.put o.dst undef = a := by rw [hdst]; rfl
  show K (a.put o.dst undef) w'
  rw [e]
  refine hK w' ⟨_, lf, cnt, by rw [hsz]; exact h1, hr.put s i hi, hnd, fun p hp => ?_, hleft⟩ h2.grown hsz (by rw [h1.left_eq, hrg.left_eq])
  unfold nput
  refine List.mem_append.2 (.inl (List.mem_filter.2 ⟨hsub p hp, ?_⟩))
  have : p.1 ≠ s := fun e => by
    have := nget_mem_isSome (es := rest) (s := s) (i := p.2) (by rw [← e]; exact hp)
    rw [hno] at this
    cases this
  simpa using this
end Go.Proofs.Ytpoohpmcopjklaa
