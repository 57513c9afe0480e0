/- Words and walks that JournalRemoves rests on, part 5. -/
import Derived.Test.YtpoohpmcopjklaaWJournalRemoves3
import Derived.Test.YtpoohpmcopjklaaWJournalRemoves4
import Derived.Deep.Cut
import Derived.Test.YtpoohpmcopjklaaWJournalRemoves2
import Derived.Test.YtpoohpmcopjklaaWJournalRemoves1
/- What bagatellelaw19 lays beside the journal. -/
namespace Go.Proofs.Ytpoohpmcopjklaa
open Go.RowKit

section
attribute [local go_sem] and62
theorem number19_any (x : Int) (w : World) : Calls Try.prog 17 #[.int .i64 x] w fun e w' => e = .returned (.int .i64 (x % 4611686018427387904)) ∧ w = w' := by
  go_enter Try.func17, Try.ntmps17
  go_wp2_with fail
  go_ret
  exact ⟨rfl, rfl⟩
end

def lightN (ps : List (Int × List UInt8)) : Nat := (ps.map fun x => 1 + x.2.length).sum
theorem lightN_app (a b : List (Int × List UInt8)) : lightN (a ++ b) = lightN a + lightN b := by simp [lightN]
theorem lightN_one (x : Int × List UInt8) : lightN [x] = 1 + x.2.length := by simp [lightN]
theorem lightN_snoc (ps : List (Int × List UInt8)) (k : Nat) (h : k < ps.length) : lightN (ps.take (k + 1)) = lightN (ps.take k) + (1 + ps[k].2.length) := by
  rw [List.take_succ_eq_append_getElem h, lightN_app, lightN_one]
theorem lightN_take (ps : List (Int × List UInt8)) (k : Nat) : lightN (ps.take k) ≤ lightN ps := by
  have : lightN (ps.take k ++ ps.drop k) = lightN (ps.take k) + lightN (ps.drop k) := lightN_app _ _
  rw [List.take_append_drop] at this
  omega

set_option maxHeartbeats 1000000 in
theorem light_any (w : World) (v : Value) (ps : List (Int × List UInt8)) (h0 : Rds EPart 2 w v ps) : Calls Try.prog 13 #[v] w fun e w' => e = .returned (.bool (decide (lightN ps ≤ 2000))) ∧ Chg [] w w' := by
  obtain ⟨ao0, cap0, rfl⟩ := h0.form
  have H0 := hd h0
  clear h0
  obtain ⟨R, hR⟩ : ∃ R, decide (lightN ps ≤ 2000) = R := ⟨_, rfl⟩
  have HR := hd hR
  rw [hR]
  clear hR
  go_enter Try.func13, Try.ntmps13
  go_wp2_with fail
  go_loopw [3, 5, 8] (fun n _ i wr => ∃ k : Nat, ∃ t : Nat, k ≤ ps.length ∧ i = .int .i64 k ∧ n = .int .i64 t ∧ t = lightN (ps.take k) ∧ t ≤ 2000 ∧ Chg [] w wr) (fun _ _ i _ => ps.length - (intOf i).toNat)
  case atStart => exact ⟨0, 0, by omega, rfl, rfl, by simp [lightN], by omega, Chg.refl _ _⟩
  case round =>
    obtain ⟨k, t, hk, rfl, rfl, ht, ht2, hch⟩ := hrel
    have Ht := hd ht
    clear ht
    by_cases hlt : k < ps.length
    · obtain ⟨b0, off0, capx, hv, hpc, hpm, hel⟩ := H0.out.at (by omega)
      have hpl : ps.length ≤ 9223372036854775807 := by unfold maxLen at hpm; omega
      simp only [Value.slice.injEq, true_and] at hv
      obtain ⟨rfl, rfl⟩ := hv
      obtain ⟨c, ⟨u, rfl, hbu, nlo, nhi, hll⟩, -, hcell⟩ := hel k hlt
      have q0 := Chg.cellS hch (hcell 0 (by decide))
      have q1 := Chg.cellS hch (hcell 1 (by decide))
      simp at q0 q1
      obtain ⟨aou, cu, bu, ou, rfl, -⟩ := hbu.open
      have hS := lightN_snoc ps k hlt
      have hle := lightN_take ps (k + 1)
      clear hel hcell hbu
      generalize hX : ps[k] = X at *
      obtain ⟨xn, xp⟩ := X
      simp only at q0 q1 nlo nhi hll hS
      rw [← Ht.out] at hS
      have HS := hd hS
      have HLE := hd hle
      clear hS hle
      by_cases hbig : 2000 < t + (1 + xp.length)
      · have hRf : R = false := by rw [← HR.out, decide_eq_false]; have := HS.out; have := HLE.out; omega
        subst hRf
        have hbig' : (2000 : Int) < (t : Int) + (1 + (xp.length : Int)) := by omega
        go_wp2_with fail
        go_ret
        exact ⟨rfl, hch.alloc _⟩
      · have hbig' : ¬ (2000 : Int) < (t : Int) + (1 + (xp.length : Int)) := by omega
        go_wp2_with fail
        go_roundw
        case rel => exact ⟨k + 1, t + (1 + xp.length), by omega, by go_num, by go_num, HS.out.symm, by omega, hch.alloc _⟩
        case measure => simp [intOf]; omega
    · obtain rfl : k = ps.length := by omega
      have hRt : R = true := by rw [← HR.out, decide_eq_true]; have := Ht.out; rw [List.take_length] at this; omega
      subst hRt
      go_wp2_with fail
      go_ret
      exact ⟨rfl, hch⟩

def toldB (ps : List (Int × List UInt8)) : List UInt8 := catF (numsR ps)
theorem toldB_snoc (ps : List (Int × List UInt8)) (k : Nat) (h : k < ps.length) : toldB (ps.take (k + 1)) = toldB (ps.take k) ++ frameB (ps[k].1 % 4611686018427387904) ps[k].2 := by
  unfold toldB
  rw [← numsR_take, numsR_snoc ps k h, catF_app, numsR_take]
  simp [catF]
theorem numsR_length (ps : List (Int × List UInt8)) : (numsR ps).length = ps.length := by simp [numsR]
theorem toldB_length (ps : List (Int × List UInt8)) : (toldB ps).length ≤ 20 * lightN ps := by
  unfold toldB
  rw [catF_length]
  induction ps with
  | nil => simp [numsR, recLen]
  | cons x ps ih =>
    simp only [numsR, recLen, List.map_cons, List.sum_cons, lightN, List.map_map] at ih ⊢
    omega

section
attribute [local go_sem] strB_app
set_option maxHeartbeats 2000000 in
theorem told_any (w : World) (v : Value) (ps : List (Int × List UInt8)) (h0 : Rds EPart 2 w v ps) (hlight : lightN ps ≤ 2000) : Calls Try.prog 20 #[v] w fun e w' => e = .returned (.string (strB (toldB ps))) ∧ Chg [] w w' := by
  obtain ⟨ao0, cap0, rfl⟩ := h0.form
  have H0 := hd h0
  clear h0
  obtain ⟨R, hR⟩ : ∃ R, toldB ps = R := ⟨_, rfl⟩
  have HR := hd hR
  rw [hR]
  clear hR
  go_enter Try.func20, Try.ntmps20
  go_wp2_with fail
  go_loopw [3, 5, 8] (fun t _ i wr => ∃ k : Nat, ∃ T : List UInt8, k ≤ ps.length ∧ i = .int .i64 k ∧ t = .string (strB T) ∧ T = toldB (ps.take k) ∧ Chg [] w wr) (fun _ _ i _ => ps.length - (intOf i).toNat)
  case atStart => exact ⟨0, [], by omega, rfl, rfl, rfl, Chg.refl _ _⟩
  case round =>
    obtain ⟨k, T, hk, rfl, rfl, hT, hch⟩ := hrel
    have HT := hd hT
    clear hT
    by_cases hlt : k < ps.length
    · obtain ⟨b0, off0, capx, hv, hpc, hpm, hel⟩ := H0.out.at (by omega)
      have hpl : ps.length ≤ 9223372036854775807 := by unfold maxLen at hpm; omega
      simp only [Value.slice.injEq, true_and] at hv
      obtain ⟨rfl, rfl⟩ := hv
      obtain ⟨c, ⟨u, rfl, hbu, nlo, nhi, hll⟩, -, hcell⟩ := hel k hlt
      have q0 := Chg.cellS hch (hcell 0 (by decide))
      have q1 := Chg.cellS hch (hcell 1 (by decide))
      simp at q0 q1
      obtain ⟨aou, cu, bu, ou, rfl, -⟩ := hbu.open
      replace hbu := hbu.k hch
      have hS := toldB_snoc ps k hlt
      have hTl : T.length ≤ 40000 := by rw [HT.out]; have := toldB_length (ps.take k); have := lightN_take ps k; omega
      clear hel hcell
      generalize hX : ps[k] = X at *
      obtain ⟨xn, xp⟩ := X
      simp only at q0 q1 hbu nlo nhi hll hS
      rw [← HT.out] at hS
      have HS := hd hS
      clear hS
      go_upto_region 5 with (fail)
      have hcb1 := (Chg.refl [] wr).alloc (.cells #[.int .i64 xn, .slice aou xp.length cu] 32)
      have k5 := Blk.new wr #[.int .i64 xn, .slice aou xp.length cu] 32
      replace hbu := hbu.k hcb1
      replace hch := hch.k hcb1
      generalize wr.alloc (.cells #[.int .i64 xn, .slice aou xp.length cu] 32) = wq at *
      clear hcb1
      have r0 := k5.cell 0
      have r1 := k5.cell 1
      simp at r0 r1
      have R0 := hd r0
      have R1 := hd r1
      have HBU := hd hbu
      have HCH := hd hch
      obtain ⟨m, hm⟩ : ∃ m, m = xn % 4611686018427387904 := ⟨_, rfl⟩
      have HM := hd hm
      have hq : ¬ 9223372036854775807 < T.length + (xp.length + 20) := by omega
      have HFL := hd (frameB_length m xp)
      clear r0 r1 hbu hch q0 q1 hm
      refine anyH_start (n := 10) (L := #[false, false, false, false, false, false, false, false, false, false]) (by kernel_rfl) (by kernel_rfl) (S := (fun wx => Chg [] wq wx)) ((Chg.refl _ _).drew) (fun hHeld => ?_)
      refine anyH_take (i := 0) (d := 12) (L' := #[true, false, false, false, false, false, false, false, false, false]) (v := ?v3) rfl rfl (by kernel_rfl) (fun _ _ _ h => h) (by rfl) ?hy3 (by assumption) ?rest3
      case hy3 => (intro wx hSw; (try dsimp only at hSw); (have t0 := Chg.cellS hSw R0.out; have t1 := Chg.cellS hSw R1.out); go_simp; (try with_reducible rfl))
      simp only [Act.put, List.setIfInBounds_toArray, List.set_cons_zero, List.set_cons_succ]
      refine anyH_take (i := 1) (d := 13) (L' := #[true, true, false, false, false, false, false, false, false, false]) (v := ?v4) rfl rfl (by kernel_rfl) (fun _ _ _ h => h) (by rfl) ?hy4 (by assumption) ?rest4
      case hy4 => (intro wx hSw; (try dsimp only at hSw); (have t0 := Chg.cellS hSw R0.out; have t1 := Chg.cellS hSw R1.out); go_simp; (try with_reducible rfl))
      simp only [Act.put, List.setIfInBounds_toArray, List.set_cons_zero, List.set_cons_succ]
      refine anyH_take (i := 2) (d := 14) (L' := #[true, true, true, false, false, false, false, false, false, false]) (v := ?v5) rfl rfl (by kernel_rfl) (fun _ _ _ h => h) (by rfl) ?hy5 (by assumption) ?rest5
      case hy5 => (intro wx hSw; (try dsimp only at hSw); (have t0 := Chg.cellS hSw R0.out; have t1 := Chg.cellS hSw R1.out); go_simp; (try with_reducible rfl))
      simp only [Act.put, List.setIfInBounds_toArray, List.set_cons_zero, List.set_cons_succ]
      refine anyH_take (i := 4) (d := 16) (L' := #[true, true, true, false, true, false, false, false, false, false]) (v := ?v6) rfl rfl (by kernel_rfl) (fun _ _ _ h => h) (by rfl) ?hy6 (by assumption) ?rest6
      case hy6 => (intro wx hSw; (try dsimp only at hSw); (have t0 := Chg.cellS hSw R0.out; have t1 := Chg.cellS hSw R1.out); go_simp; (try with_reducible rfl))
      simp only [Act.put, List.setIfInBounds_toArray, List.set_cons_zero, List.set_cons_succ]
      refine anyH_take (i := 5) (d := 17) (L' := #[true, true, true, false, true, true, false, false, false, false]) (v := ?v7) rfl rfl (by kernel_rfl) (fun _ _ _ h => h) (by rfl) ?hy7 (by assumption) ?rest7
      case hy7 => (intro wx hSw; (try dsimp only at hSw); (have t0 := Chg.cellS hSw R0.out; have t1 := Chg.cellS hSw R1.out); go_simp; (try with_reducible rfl))
      simp only [Act.put, List.setIfInBounds_toArray, List.set_cons_zero, List.set_cons_succ]
      refine anyH_run (i := 3) (L' := #[true, true, true, true, true, true, false, false, false, false]) rfl (by kernel_rfl) (by rfl) (fun KK hKK => ?_)
      go_simp
      (refine (number19_any _ _).mono ?_; rintro e wn ⟨rfl, rfl⟩; rw [← HM.out]; (try go_simp))
      refine hKK.out _ _ (by assumption) (fun hHeld => ?_)
      clear hKK KK
      try simp only [Act.put, List.setIfInBounds_toArray, List.set_cons_zero, List.set_cons_succ]
      refine anyH_run (i := 6) (L' := #[true, true, true, true, true, true, true, false, false, false]) rfl (by kernel_rfl) (by rfl) (fun KK hKK => ?_)
      go_simp
      (refine (FBytes_any m _ xp _ (HBU.out.k (Chg.refl [] wq).drew) (by omega)).mono ?_; rintro e w6 ⟨ao6, c6, rfl, hb6, hc6⟩; have hm6 := (Chg.refl [] wq).drew.k hc6; have s6 := run_str hb6.bs; clear hb6 hc6; (try go_simp))
      refine hKK.out _ _ (by assumption) (fun hHeld => ?_)
      clear hKK KK
      try simp only [Act.put, List.setIfInBounds_toArray, List.set_cons_zero, List.set_cons_succ]
      refine anyH_run (i := 7) (L' := #[true, true, true, true, true, true, true, true, false, false]) rfl (by kernel_rfl) (by rfl) (fun KK hKK => ?_)
      go_simp
      (have hq2 := HFL.out)
      refine hKK.out _ _ (by assumption) (fun hHeld => ?_)
      clear hKK KK
      try simp only [Act.put, List.setIfInBounds_toArray, List.set_cons_zero, List.set_cons_succ]
      refine anyH_run (i := 8) (L' := #[true, true, true, true, true, true, true, true, true, false]) rfl (by kernel_rfl) (by rfl) (fun KK hKK => ?_)
      go_simp
      (skip)
      refine hKK.out _ _ (by assumption) (fun hHeld => ?_)
      clear hKK KK
      try simp only [Act.put, List.setIfInBounds_toArray, List.set_cons_zero, List.set_cons_succ]
      refine anyH_run (i := 9) (L' := #[true, true, true, true, true, true, true, true, true, true]) rfl (by kernel_rfl) (by rfl) (fun KK hKK => ?_)
      go_simp
      (skip)
      refine hKK.out _ _ (by assumption) (fun hHeld => ?_)
      clear hKK KK
      try simp only [Act.put, List.setIfInBounds_toArray, List.set_cons_zero, List.set_cons_succ]
      refine wpAnyH_done (by kernel_rfl) ?_ _
      clear s6
      go_wp2_with fail
      go_roundw
      case rel => exact ⟨k + 1, T ++ frameB m xp, by omega, by go_num, rfl, by rw [HS.out, HM.out], HCH.out.k hm6⟩
      case measure => simp [intOf]; omega
    · obtain rfl : k = ps.length := by omega
      have hTR : T = R := by rw [HT.out, List.take_length]; exact HR.out
      subst hTR
      go_wp2_with fail
      go_ret
      exact ⟨rfl, hch⟩
end
end Go.Proofs.Ytpoohpmcopjklaa

/- bagatellelaw19.like. -/
namespace Go.Proofs.Ytpoohpmcopjklaa
open Go.RowKit

set_option maxRecDepth 100000 in
set_option maxHeartbeats 4000000 in
theorem like_any (w : World) (v1 : Value) (rs : List RecV) (base : Nat) (v2 : Value) (ps : List (Int × List UInt8)) (h1 : RecL w base v1 rs) (h2 : Rds EPart 2 w v2 ps) :
    Calls Try.prog 24 #[v1, v2] w fun e w' => e = .returned (.bool (decide (rs.map bare = numsR ps))) ∧ Chg [] w w' := by
  obtain ⟨ao1, cap1, rfl⟩ := h1.form
  obtain ⟨ao0, cap0, rfl⟩ := h2.form
  have H0 := hd h2
  have HR := hd h1
  clear h1 h2
  obtain ⟨R, hR⟩ : ∃ R, decide (rs.map bare = numsR ps) = R := ⟨_, rfl⟩
  have HD := hd hR
  rw [hR]
  clear hR
  go_enter Try.func24, Try.ntmps24
  by_cases hln : rs.length = ps.length
  case neg =>
    have hRf : R = false := by
      rw [← HD.out, decide_eq_false]
      intro e
      have := congrArg List.length e
      simp [numsR] at this
      exact hln this
    subst hRf
    have hln' : ((rs.length : Int) == (ps.length : Int)) = false := by simp; omega
    go_wp2_with fail
    go_ret
    exact ⟨rfl, Chg.refl _ _⟩
  have HLN := hd hln
  rw [hln]
  clear hln
  go_wp2_with fail
  go_loopw [5, 6, 14] (fun _ _ t wi => ∃ i : Nat, i ≤ ps.length ∧ t = .int .i64 i ∧ (rs.map bare).take i = (numsR ps).take i ∧ Chg [] w wi) (fun _ _ t _ => ps.length - (intOf t).toNat)
  case atStart => exact ⟨0, by omega, rfl, by simp, Chg.refl _ _⟩
  case round =>
    obtain ⟨i, hi, rfl, heq, hci⟩ := hrel
    have HEQ := hd heq
    clear heq
    by_cases hil : i < ps.length
    · obtain ⟨bR, capR, hvR, hatR⟩ := HR.out.at (by rw [HLN.out]; omega)
      rw [HLN.out] at hvR
      simp only [Value.slice.injEq, true_and] at hvR
      obtain ⟨rfl, rfl⟩ := hvR
      have hir : i < rs.length := by rw [HLN.out]; exact hil
      obtain ⟨aop, cp, -, r0, r1, hbp⟩ := hatR i hir
      have hg1 : (rs.map bare).take (i + 1) = (rs.map bare).take i ++ [bare rs[i]] := by
        rw [List.take_succ_eq_append_getElem (by simpa using hir)]; simp
      have hg2 := numsR_snoc ps i hil
      have hgi : (rs.map bare)[i]? = some (bare rs[i]) := by rw [List.getElem?_map, List.getElem?_eq_getElem hir]; rfl
      have hgn : (numsR ps)[i]? = some (ps[i].1 % 4611686018427387904, ps[i].2) := by unfold numsR; rw [List.getElem?_map, List.getElem?_eq_getElem hil]; rfl
      have hne : bare rs[i] ≠ (ps[i].1 % 4611686018427387904, ps[i].2) → R = false := by
        intro hx
        rw [← HD.out, decide_eq_false]
        intro e
        rw [e, hgn] at hgi
        exact hx (by simpa using hgi.symm)
      have hok : bare rs[i] = (ps[i].1 % 4611686018427387904, ps[i].2) → (rs.map bare).take (i + 1) = (numsR ps).take (i + 1) := by
        intro hx
        rw [hg1, hg2, HEQ.out, hx]
      have HNE := hd hne
      have HOK := hd hok
      clear hg1 hg2 hgi hgn hne hok
      generalize rs[i]'hir = ri at *
      obtain ⟨rn, rv, rp⟩ := ri
      simp only at r0 r1 hbp
      obtain ⟨b0, off0, capx, hv, hpc, hpm, hel⟩ := H0.out.at (by omega)
      have hpl : ps.length ≤ 9223372036854775807 := by unfold maxLen at hpm; omega
      simp only [Value.slice.injEq, true_and] at hv
      obtain ⟨rfl, rfl⟩ := hv
      obtain ⟨c, ⟨u, rfl, hbu, nlo, nhi, hll⟩, -, hcell⟩ := hel i hil
      have q0 := Chg.cellS hci (hcell 0 (by decide))
      have q1 := Chg.cellS hci (hcell 1 (by decide))
      simp at q0 q1
      obtain ⟨aou, cu, bu, ou, rfl, -⟩ := hbu.open
      replace hbu := hbu.k hci
      replace hbp := hbp.k hci
      replace r0 := hci.cellS r0
      replace r1 := hci.cellS r1
      clear hel hcell hatR
      generalize ps[i] = X at *
      obtain ⟨xn, xp⟩ := X
      simp only at q0 q1 hbu nlo nhi hll
      go_upto_region 6 with (fail)
      have hk14 := Blk.new wr #[.int .i64 rn, .slice aop rp.length cp] 80
      have hcA := (Chg.refl [] wr).alloc (.cells #[.int .i64 rn, .slice aop rp.length cp] 80)
      replace q0 := hcA.cellS q0
      replace q1 := hcA.cellS q1
      replace hci := hci.k hcA
      replace hbu := hbu.k hcA
      replace hbp := hbp.k hcA
      generalize wr.alloc (.cells #[.int .i64 rn, .slice aop rp.length cp] 80) = wj at *
      have q2 := hk14.cell 0
      have q3 := hk14.cell 1
      simp at q2 q3
      have Q0 := hd q0
      have Q1 := hd q1
      have Q2 := hd q2
      have Q3 := hd q3
      have HBU := hd hbu.strs
      have HBP := hd hbp.strs
      clear q0 q1 q2 q3 hbu hbp hcA hk14 r0 r1
      obtain ⟨m, hm⟩ : ∃ m, m = xn % 4611686018427387904 := ⟨_, rfl⟩
      have HM := hd hm
      clear hm
      by_cases hn : rn = m
      · by_cases hp : rp = xp
        · have hx := HOK.out (by rw [← HM.out]; exact Prod.ext hn hp)
          have HX := hd hx
          subst hn hp
          clear hx
          refine anyH_start (n := 21) (L := #[false, false, false, false, false, false, false, false, false, false, false, false, false, false, false, false, false, false, false, false, false]) (by kernel_rfl) (by kernel_rfl) (S := (fun wx => Chg [] wj wx)) ((Chg.refl _ _).drew) (fun hHeld => ?_)
          refine anyH_take (i := 0) (d := 19) (L' := #[true, false, false, false, false, false, false, false, false, false, false, false, false, false, false, false, false, false, false, false, false]) (v := ?v3) rfl rfl (by kernel_rfl) (fun _ _ _ h => h) (by rfl) ?hy3 (by assumption) ?rest3
          case hy3 => (intro wx hSw; (try dsimp only at hSw); (have t0 := Chg.cellS hSw Q0.out; have t1 := Chg.cellS hSw Q1.out; have t2 := Chg.cellS hSw Q2.out; have t3 := Chg.cellS hSw Q3.out); go_simp; (try with_reducible rfl))
          simp only [Act.put, List.setIfInBounds_toArray, List.set_cons_zero, List.set_cons_succ]
          refine anyH_take (i := 1) (d := 20) (L' := #[true, true, false, false, false, false, false, false, false, false, false, false, false, false, false, false, false, false, false, false, false]) (v := ?v4) rfl rfl (by kernel_rfl) (fun _ _ _ h => h) (by rfl) ?hy4 (by assumption) ?rest4
          case hy4 => (intro wx hSw; (try dsimp only at hSw); (have t0 := Chg.cellS hSw Q0.out; have t1 := Chg.cellS hSw Q1.out; have t2 := Chg.cellS hSw Q2.out; have t3 := Chg.cellS hSw Q3.out); go_simp; (try with_reducible rfl))
          simp only [Act.put, List.setIfInBounds_toArray, List.set_cons_zero, List.set_cons_succ]
          refine anyH_take (i := 2) (d := 21) (L' := #[true, true, true, false, false, false, false, false, false, false, false, false, false, false, false, false, false, false, false, false, false]) (v := ?v5) rfl rfl (by kernel_rfl) (fun _ _ _ h => h) (by rfl) ?hy5 (by assumption) ?rest5
          case hy5 => (intro wx hSw; (try dsimp only at hSw); (have t0 := Chg.cellS hSw Q0.out; have t1 := Chg.cellS hSw Q1.out; have t2 := Chg.cellS hSw Q2.out; have t3 := Chg.cellS hSw Q3.out); go_simp; (try with_reducible rfl))
          simp only [Act.put, List.setIfInBounds_toArray, List.set_cons_zero, List.set_cons_succ]
          refine anyH_take (i := 3) (d := 22) (L' := #[true, true, true, true, false, false, false, false, false, false, false, false, false, false, false, false, false, false, false, false, false]) (v := ?v6) rfl rfl (by kernel_rfl) (fun _ _ _ h => h) (by rfl) ?hy6 (by assumption) ?rest6
          case hy6 => (intro wx hSw; (try dsimp only at hSw); (have t0 := Chg.cellS hSw Q0.out; have t1 := Chg.cellS hSw Q1.out; have t2 := Chg.cellS hSw Q2.out; have t3 := Chg.cellS hSw Q3.out); go_simp; (try with_reducible rfl))
          simp only [Act.put, List.setIfInBounds_toArray, List.set_cons_zero, List.set_cons_succ]
          refine anyH_take (i := 4) (d := 23) (L' := #[true, true, true, true, true, false, false, false, false, false, false, false, false, false, false, false, false, false, false, false, false]) (v := ?v7) rfl rfl (by kernel_rfl) (fun _ _ _ h => h) (by rfl) ?hy7 (by assumption) ?rest7
          case hy7 => (intro wx hSw; (try dsimp only at hSw); (have t0 := Chg.cellS hSw Q0.out; have t1 := Chg.cellS hSw Q1.out; have t2 := Chg.cellS hSw Q2.out; have t3 := Chg.cellS hSw Q3.out); go_simp; (try with_reducible rfl))
          simp only [Act.put, List.setIfInBounds_toArray, List.set_cons_zero, List.set_cons_succ]
          refine anyH_take (i := 5) (d := 24) (L' := #[true, true, true, true, true, true, false, false, false, false, false, false, false, false, false, false, false, false, false, false, false]) (v := ?v8) rfl rfl (by kernel_rfl) (fun _ _ _ h => h) (by rfl) ?hy8 (by assumption) ?rest8
          case hy8 => (intro wx hSw; (try dsimp only at hSw); (have t0 := Chg.cellS hSw Q0.out; have t1 := Chg.cellS hSw Q1.out; have t2 := Chg.cellS hSw Q2.out; have t3 := Chg.cellS hSw Q3.out); go_simp; (try with_reducible rfl))
          simp only [Act.put, List.setIfInBounds_toArray, List.set_cons_zero, List.set_cons_succ]
          refine anyH_take (i := 6) (d := 25) (L' := #[true, true, true, true, true, true, true, false, false, false, false, false, false, false, false, false, false, false, false, false, false]) (v := ?v9) rfl rfl (by kernel_rfl) (fun _ _ _ h => h) (by rfl) ?hy9 (by assumption) ?rest9
          case hy9 => (intro wx hSw; (try dsimp only at hSw); (have t0 := Chg.cellS hSw Q0.out; have t1 := Chg.cellS hSw Q1.out; have t2 := Chg.cellS hSw Q2.out; have t3 := Chg.cellS hSw Q3.out); go_simp; (try with_reducible rfl))
          simp only [Act.put, List.setIfInBounds_toArray, List.set_cons_zero, List.set_cons_succ]
          refine anyH_run (i := 7) (L' := #[true, true, true, true, true, true, true, true, false, false, false, false, false, false, false, false, false, false, false, false, false]) rfl (by kernel_rfl) (by rfl) (fun KK hKK => ?_)
          go_simp
          (refine (number19_any _ _).mono ?_; rintro e wn ⟨rfl, rfl⟩; rw [← HM.out]; (try go_simp))
          refine hKK.out _ _ (by assumption) (fun hHeld => ?_)
          clear hKK KK
          try simp only [Act.put, List.setIfInBounds_toArray, List.set_cons_zero, List.set_cons_succ]
          refine anyH_run (i := 8) (L' := #[true, true, true, true, true, true, true, true, true, false, false, false, false, false, false, false, false, false, false, false, false]) rfl (by kernel_rfl) (by rfl) (fun KK hKK => ?_)
          go_simp
          (skip)
          refine hKK.out _ _ (by assumption) (fun hHeld => ?_)
          clear hKK KK
          try simp only [Act.put, List.setIfInBounds_toArray, List.set_cons_zero, List.set_cons_succ]
          refine anyH_run (i := 9) (L' := #[true, true, true, true, true, true, true, true, true, true, false, false, false, false, false, false, false, false, false, false, false]) rfl (by kernel_rfl) (by rfl) (fun KK hKK => ?_)
          go_simp
          (skip)
          refine hKK.out _ _ (by assumption) (fun hHeld => ?_)
          clear hKK KK
          try simp only [Act.put, List.setIfInBounds_toArray, List.set_cons_zero, List.set_cons_succ]
          refine anyH_take (i := 10) (d := 29) (L' := #[true, true, true, true, true, true, true, true, true, true, true, false, false, false, false, false, false, false, false, false, false]) (v := ?v13) rfl rfl (by kernel_rfl) (fun _ _ _ h => h) (by rfl) ?hy13 (by assumption) ?rest13
          case hy13 => (intro wx hSw; (try dsimp only at hSw); (have t0 := Chg.cellS hSw Q0.out; have t1 := Chg.cellS hSw Q1.out; have t2 := Chg.cellS hSw Q2.out; have t3 := Chg.cellS hSw Q3.out); go_simp; (try with_reducible rfl))
          simp only [Act.put, List.setIfInBounds_toArray, List.set_cons_zero, List.set_cons_succ]
          refine anyH_take (i := 11) (d := 30) (L' := #[true, true, true, true, true, true, true, true, true, true, true, true, false, false, false, false, false, false, false, false, false]) (v := ?v14) rfl rfl (by kernel_rfl) (fun _ _ _ h => h) (by rfl) ?hy14 (by assumption) ?rest14
          case hy14 => (intro wx hSw; (try dsimp only at hSw); (have t0 := Chg.cellS hSw Q0.out; have t1 := Chg.cellS hSw Q1.out; have t2 := Chg.cellS hSw Q2.out; have t3 := Chg.cellS hSw Q3.out); go_simp; (try with_reducible rfl))
          simp only [Act.put, List.setIfInBounds_toArray, List.set_cons_zero, List.set_cons_succ]
          refine anyH_take (i := 12) (d := 31) (L' := #[true, true, true, true, true, true, true, true, true, true, true, true, true, false, false, false, false, false, false, false, false]) (v := ?v15) rfl rfl (by kernel_rfl) (fun _ _ _ h => h) (by rfl) ?hy15 (by assumption) ?rest15
          case hy15 => (intro wx hSw; (try dsimp only at hSw); (have t5 := HBP.out _ hSw); go_simp; (try with_reducible rfl))
          simp only [Act.put, List.setIfInBounds_toArray, List.set_cons_zero, List.set_cons_succ]
          refine anyH_take (i := 13) (d := 32) (L' := #[true, true, true, true, true, true, true, true, true, true, true, true, true, true, false, false, false, false, false, false, false]) (v := ?v16) rfl rfl (by kernel_rfl) (fun _ _ _ h => h) (by rfl) ?hy16 (by assumption) ?rest16
          case hy16 => (intro wx hSw; (try dsimp only at hSw); (have t0 := Chg.cellS hSw Q0.out; have t1 := Chg.cellS hSw Q1.out; have t2 := Chg.cellS hSw Q2.out; have t3 := Chg.cellS hSw Q3.out); go_simp; (try with_reducible rfl))
          simp only [Act.put, List.setIfInBounds_toArray, List.set_cons_zero, List.set_cons_succ]
          refine anyH_take (i := 14) (d := 33) (L' := #[true, true, true, true, true, true, true, true, true, true, true, true, true, true, true, false, false, false, false, false, false]) (v := ?v17) rfl rfl (by kernel_rfl) (fun _ _ _ h => h) (by rfl) ?hy17 (by assumption) ?rest17
          case hy17 => (intro wx hSw; (try dsimp only at hSw); (have t0 := Chg.cellS hSw Q0.out; have t1 := Chg.cellS hSw Q1.out; have t2 := Chg.cellS hSw Q2.out; have t3 := Chg.cellS hSw Q3.out); go_simp; (try with_reducible rfl))
          simp only [Act.put, List.setIfInBounds_toArray, List.set_cons_zero, List.set_cons_succ]
          refine anyH_take (i := 15) (d := 34) (L' := #[true, true, true, true, true, true, true, true, true, true, true, true, true, true, true, true, false, false, false, false, false]) (v := ?v18) rfl rfl (by kernel_rfl) (fun _ _ _ h => h) (by rfl) ?hy18 (by assumption) ?rest18
          case hy18 => (intro wx hSw; (try dsimp only at hSw); (have t0 := Chg.cellS hSw Q0.out; have t1 := Chg.cellS hSw Q1.out; have t2 := Chg.cellS hSw Q2.out; have t3 := Chg.cellS hSw Q3.out); go_simp; (try with_reducible rfl))
          simp only [Act.put, List.setIfInBounds_toArray, List.set_cons_zero, List.set_cons_succ]
          refine anyH_take (i := 16) (d := 35) (L' := #[true, true, true, true, true, true, true, true, true, true, true, true, true, true, true, true, true, false, false, false, false]) (v := ?v19) rfl rfl (by kernel_rfl) (fun _ _ _ h => h) (by rfl) ?hy19 (by assumption) ?rest19
          case hy19 => (intro wx hSw; (try dsimp only at hSw); (have t0 := Chg.cellS hSw Q0.out; have t1 := Chg.cellS hSw Q1.out; have t2 := Chg.cellS hSw Q2.out; have t3 := Chg.cellS hSw Q3.out); go_simp; (try with_reducible rfl))
          simp only [Act.put, List.setIfInBounds_toArray, List.set_cons_zero, List.set_cons_succ]
          refine anyH_take (i := 17) (d := 36) (L' := #[true, true, true, true, true, true, true, true, true, true, true, true, true, true, true, true, true, true, false, false, false]) (v := ?v20) rfl rfl (by kernel_rfl) (fun _ _ _ h => h) (by rfl) ?hy20 (by assumption) ?rest20
          case hy20 => (intro wx hSw; (try dsimp only at hSw); (have t0 := Chg.cellS hSw Q0.out; have t1 := Chg.cellS hSw Q1.out; have t2 := Chg.cellS hSw Q2.out; have t3 := Chg.cellS hSw Q3.out); go_simp; (try with_reducible rfl))
          simp only [Act.put, List.setIfInBounds_toArray, List.set_cons_zero, List.set_cons_succ]
          refine anyH_take (i := 18) (d := 37) (L' := #[true, true, true, true, true, true, true, true, true, true, true, true, true, true, true, true, true, true, true, false, false]) (v := ?v21) rfl rfl (by kernel_rfl) (fun _ _ _ h => h) (by rfl) ?hy21 (by assumption) ?rest21
          case hy21 => (intro wx hSw; (try dsimp only at hSw); (have t5 := HBU.out _ hSw); go_simp; (try with_reducible rfl))
          simp only [Act.put, List.setIfInBounds_toArray, List.set_cons_zero, List.set_cons_succ]
          refine anyH_take (i := 19) (d := 38) (L' := #[true, true, true, true, true, true, true, true, true, true, true, true, true, true, true, true, true, true, true, true, false]) (v := ?v22) rfl rfl (by kernel_rfl) (fun _ _ _ h => h) (by rfl) ?hy22 (by assumption) ?rest22
          case hy22 => (intro wx hSw; (try dsimp only at hSw); (have t0 := Chg.cellS hSw Q0.out; have t1 := Chg.cellS hSw Q1.out; have t2 := Chg.cellS hSw Q2.out; have t3 := Chg.cellS hSw Q3.out); go_simp; (try with_reducible rfl))
          simp only [Act.put, List.setIfInBounds_toArray, List.set_cons_zero, List.set_cons_succ]
          refine anyH_run (i := 20) (L' := #[true, true, true, true, true, true, true, true, true, true, true, true, true, true, true, true, true, true, true, true, true]) rfl (by kernel_rfl) (by rfl) (fun KK hKK => ?_)
          go_simp
          (skip)
          refine hKK.out _ _ (by assumption) (fun hHeld => ?_)
          clear hKK KK
          try simp only [Act.put, List.setIfInBounds_toArray, List.set_cons_zero, List.set_cons_succ]
          refine wpAnyH_done (by kernel_rfl) ?_ _
          go_wp2_with fail
          go_roundw
          case rel => exact ⟨i + 1, by omega, by go_num, HX.out, hci.drew⟩
          case measure => simp [intOf]; omega
        · have hRf := HNE.out (by rw [← HM.out]; intro e; exact hp (congrArg Prod.snd e))
          subst hRf
          subst hn
          have hp1 : (strB rp == strB xp) = false := by rw [strB_beq]; simpa using hp
          have hp2 : (rp == xp) = false := by simpa using hp
          clear hp
          refine anyH_start (n := 21) (L := #[false, false, false, false, false, false, false, false, false, false, false, false, false, false, false, false, false, false, false, false, false]) (by kernel_rfl) (by kernel_rfl) (S := (fun wx => Chg [] wj wx)) ((Chg.refl _ _).drew) (fun hHeld => ?_)
          refine anyH_take (i := 0) (d := 19) (L' := #[true, false, false, false, false, false, false, false, false, false, false, false, false, false, false, false, false, false, false, false, false]) (v := ?v26) rfl rfl (by kernel_rfl) (fun _ _ _ h => h) (by rfl) ?hy26 (by assumption) ?rest26
          case hy26 => (intro wx hSw; (try dsimp only at hSw); (have t0 := Chg.cellS hSw Q0.out; have t1 := Chg.cellS hSw Q1.out; have t2 := Chg.cellS hSw Q2.out; have t3 := Chg.cellS hSw Q3.out); go_simp; (try with_reducible rfl))
          simp only [Act.put, List.setIfInBounds_toArray, List.set_cons_zero, List.set_cons_succ]
          refine anyH_take (i := 1) (d := 20) (L' := #[true, true, false, false, false, false, false, false, false, false, false, false, false, false, false, false, false, false, false, false, false]) (v := ?v27) rfl rfl (by kernel_rfl) (fun _ _ _ h => h) (by rfl) ?hy27 (by assumption) ?rest27
          case hy27 => (intro wx hSw; (try dsimp only at hSw); (have t0 := Chg.cellS hSw Q0.out; have t1 := Chg.cellS hSw Q1.out; have t2 := Chg.cellS hSw Q2.out; have t3 := Chg.cellS hSw Q3.out); go_simp; (try with_reducible rfl))
          simp only [Act.put, List.setIfInBounds_toArray, List.set_cons_zero, List.set_cons_succ]
          refine anyH_take (i := 2) (d := 21) (L' := #[true, true, true, false, false, false, false, false, false, false, false, false, false, false, false, false, false, false, false, false, false]) (v := ?v28) rfl rfl (by kernel_rfl) (fun _ _ _ h => h) (by rfl) ?hy28 (by assumption) ?rest28
          case hy28 => (intro wx hSw; (try dsimp only at hSw); (have t0 := Chg.cellS hSw Q0.out; have t1 := Chg.cellS hSw Q1.out; have t2 := Chg.cellS hSw Q2.out; have t3 := Chg.cellS hSw Q3.out); go_simp; (try with_reducible rfl))
          simp only [Act.put, List.setIfInBounds_toArray, List.set_cons_zero, List.set_cons_succ]
          refine anyH_take (i := 3) (d := 22) (L' := #[true, true, true, true, false, false, false, false, false, false, false, false, false, false, false, false, false, false, false, false, false]) (v := ?v29) rfl rfl (by kernel_rfl) (fun _ _ _ h => h) (by rfl) ?hy29 (by assumption) ?rest29
          case hy29 => (intro wx hSw; (try dsimp only at hSw); (have t0 := Chg.cellS hSw Q0.out; have t1 := Chg.cellS hSw Q1.out; have t2 := Chg.cellS hSw Q2.out; have t3 := Chg.cellS hSw Q3.out); go_simp; (try with_reducible rfl))
          simp only [Act.put, List.setIfInBounds_toArray, List.set_cons_zero, List.set_cons_succ]
          refine anyH_take (i := 4) (d := 23) (L' := #[true, true, true, true, true, false, false, false, false, false, false, false, false, false, false, false, false, false, false, false, false]) (v := ?v30) rfl rfl (by kernel_rfl) (fun _ _ _ h => h) (by rfl) ?hy30 (by assumption) ?rest30
          case hy30 => (intro wx hSw; (try dsimp only at hSw); (have t0 := Chg.cellS hSw Q0.out; have t1 := Chg.cellS hSw Q1.out; have t2 := Chg.cellS hSw Q2.out; have t3 := Chg.cellS hSw Q3.out); go_simp; (try with_reducible rfl))
          simp only [Act.put, List.setIfInBounds_toArray, List.set_cons_zero, List.set_cons_succ]
          refine anyH_take (i := 5) (d := 24) (L' := #[true, true, true, true, true, true, false, false, false, false, false, false, false, false, false, false, false, false, false, false, false]) (v := ?v31) rfl rfl (by kernel_rfl) (fun _ _ _ h => h) (by rfl) ?hy31 (by assumption) ?rest31
          case hy31 => (intro wx hSw; (try dsimp only at hSw); (have t0 := Chg.cellS hSw Q0.out; have t1 := Chg.cellS hSw Q1.out; have t2 := Chg.cellS hSw Q2.out; have t3 := Chg.cellS hSw Q3.out); go_simp; (try with_reducible rfl))
          simp only [Act.put, List.setIfInBounds_toArray, List.set_cons_zero, List.set_cons_succ]
          refine anyH_take (i := 6) (d := 25) (L' := #[true, true, true, true, true, true, true, false, false, false, false, false, false, false, false, false, false, false, false, false, false]) (v := ?v32) rfl rfl (by kernel_rfl) (fun _ _ _ h => h) (by rfl) ?hy32 (by assumption) ?rest32
          case hy32 => (intro wx hSw; (try dsimp only at hSw); (have t0 := Chg.cellS hSw Q0.out; have t1 := Chg.cellS hSw Q1.out; have t2 := Chg.cellS hSw Q2.out; have t3 := Chg.cellS hSw Q3.out); go_simp; (try with_reducible rfl))
          simp only [Act.put, List.setIfInBounds_toArray, List.set_cons_zero, List.set_cons_succ]
          refine anyH_run (i := 7) (L' := #[true, true, true, true, true, true, true, true, false, false, false, false, false, false, false, false, false, false, false, false, false]) rfl (by kernel_rfl) (by rfl) (fun KK hKK => ?_)
          go_simp
          (refine (number19_any _ _).mono ?_; rintro e wn ⟨rfl, rfl⟩; rw [← HM.out]; (try go_simp))
          refine hKK.out _ _ (by assumption) (fun hHeld => ?_)
          clear hKK KK
          try simp only [Act.put, List.setIfInBounds_toArray, List.set_cons_zero, List.set_cons_succ]
          refine anyH_run (i := 8) (L' := #[true, true, true, true, true, true, true, true, true, false, false, false, false, false, false, false, false, false, false, false, false]) rfl (by kernel_rfl) (by rfl) (fun KK hKK => ?_)
          go_simp
          (skip)
          refine hKK.out _ _ (by assumption) (fun hHeld => ?_)
          clear hKK KK
          try simp only [Act.put, List.setIfInBounds_toArray, List.set_cons_zero, List.set_cons_succ]
          refine anyH_run (i := 9) (L' := #[true, true, true, true, true, true, true, true, true, true, false, false, false, false, false, false, false, false, false, false, false]) rfl (by kernel_rfl) (by rfl) (fun KK hKK => ?_)
          go_simp
          (skip)
          refine hKK.out _ _ (by assumption) (fun hHeld => ?_)
          clear hKK KK
          try simp only [Act.put, List.setIfInBounds_toArray, List.set_cons_zero, List.set_cons_succ]
          refine anyH_take (i := 10) (d := 29) (L' := #[true, true, true, true, true, true, true, true, true, true, true, false, false, false, false, false, false, false, false, false, false]) (v := ?v36) rfl rfl (by kernel_rfl) (fun _ _ _ h => h) (by rfl) ?hy36 (by assumption) ?rest36
          case hy36 => (intro wx hSw; (try dsimp only at hSw); (have t0 := Chg.cellS hSw Q0.out; have t1 := Chg.cellS hSw Q1.out; have t2 := Chg.cellS hSw Q2.out; have t3 := Chg.cellS hSw Q3.out); go_simp; (try with_reducible rfl))
          simp only [Act.put, List.setIfInBounds_toArray, List.set_cons_zero, List.set_cons_succ]
          refine anyH_take (i := 11) (d := 30) (L' := #[true, true, true, true, true, true, true, true, true, true, true, true, false, false, false, false, false, false, false, false, false]) (v := ?v37) rfl rfl (by kernel_rfl) (fun _ _ _ h => h) (by rfl) ?hy37 (by assumption) ?rest37
          case hy37 => (intro wx hSw; (try dsimp only at hSw); (have t0 := Chg.cellS hSw Q0.out; have t1 := Chg.cellS hSw Q1.out; have t2 := Chg.cellS hSw Q2.out; have t3 := Chg.cellS hSw Q3.out); go_simp; (try with_reducible rfl))
          simp only [Act.put, List.setIfInBounds_toArray, List.set_cons_zero, List.set_cons_succ]
          refine anyH_take (i := 12) (d := 31) (L' := #[true, true, true, true, true, true, true, true, true, true, true, true, true, false, false, false, false, false, false, false, false]) (v := ?v38) rfl rfl (by kernel_rfl) (fun _ _ _ h => h) (by rfl) ?hy38 (by assumption) ?rest38
          case hy38 => (intro wx hSw; (try dsimp only at hSw); (have t5 := HBP.out _ hSw); go_simp; (try with_reducible rfl))
          simp only [Act.put, List.setIfInBounds_toArray, List.set_cons_zero, List.set_cons_succ]
          refine anyH_take (i := 13) (d := 32) (L' := #[true, true, true, true, true, true, true, true, true, true, true, true, true, true, false, false, false, false, false, false, false]) (v := ?v39) rfl rfl (by kernel_rfl) (fun _ _ _ h => h) (by rfl) ?hy39 (by assumption) ?rest39
          case hy39 => (intro wx hSw; (try dsimp only at hSw); (have t0 := Chg.cellS hSw Q0.out; have t1 := Chg.cellS hSw Q1.out; have t2 := Chg.cellS hSw Q2.out; have t3 := Chg.cellS hSw Q3.out); go_simp; (try with_reducible rfl))
          simp only [Act.put, List.setIfInBounds_toArray, List.set_cons_zero, List.set_cons_succ]
          refine anyH_take (i := 14) (d := 33) (L' := #[true, true, true, true, true, true, true, true, true, true, true, true, true, true, true, false, false, false, false, false, false]) (v := ?v40) rfl rfl (by kernel_rfl) (fun _ _ _ h => h) (by rfl) ?hy40 (by assumption) ?rest40
          case hy40 => (intro wx hSw; (try dsimp only at hSw); (have t0 := Chg.cellS hSw Q0.out; have t1 := Chg.cellS hSw Q1.out; have t2 := Chg.cellS hSw Q2.out; have t3 := Chg.cellS hSw Q3.out); go_simp; (try with_reducible rfl))
          simp only [Act.put, List.setIfInBounds_toArray, List.set_cons_zero, List.set_cons_succ]
          refine anyH_take (i := 15) (d := 34) (L' := #[true, true, true, true, true, true, true, true, true, true, true, true, true, true, true, true, false, false, false, false, false]) (v := ?v41) rfl rfl (by kernel_rfl) (fun _ _ _ h => h) (by rfl) ?hy41 (by assumption) ?rest41
          case hy41 => (intro wx hSw; (try dsimp only at hSw); (have t0 := Chg.cellS hSw Q0.out; have t1 := Chg.cellS hSw Q1.out; have t2 := Chg.cellS hSw Q2.out; have t3 := Chg.cellS hSw Q3.out); go_simp; (try with_reducible rfl))
          simp only [Act.put, List.setIfInBounds_toArray, List.set_cons_zero, List.set_cons_succ]
          refine anyH_take (i := 16) (d := 35) (L' := #[true, true, true, true, true, true, true, true, true, true, true, true, true, true, true, true, true, false, false, false, false]) (v := ?v42) rfl rfl (by kernel_rfl) (fun _ _ _ h => h) (by rfl) ?hy42 (by assumption) ?rest42
          case hy42 => (intro wx hSw; (try dsimp only at hSw); (have t0 := Chg.cellS hSw Q0.out; have t1 := Chg.cellS hSw Q1.out; have t2 := Chg.cellS hSw Q2.out; have t3 := Chg.cellS hSw Q3.out); go_simp; (try with_reducible rfl))
          simp only [Act.put, List.setIfInBounds_toArray, List.set_cons_zero, List.set_cons_succ]
          refine anyH_take (i := 17) (d := 36) (L' := #[true, true, true, true, true, true, true, true, true, true, true, true, true, true, true, true, true, true, false, false, false]) (v := ?v43) rfl rfl (by kernel_rfl) (fun _ _ _ h => h) (by rfl) ?hy43 (by assumption) ?rest43
          case hy43 => (intro wx hSw; (try dsimp only at hSw); (have t0 := Chg.cellS hSw Q0.out; have t1 := Chg.cellS hSw Q1.out; have t2 := Chg.cellS hSw Q2.out; have t3 := Chg.cellS hSw Q3.out); go_simp; (try with_reducible rfl))
          simp only [Act.put, List.setIfInBounds_toArray, List.set_cons_zero, List.set_cons_succ]
          refine anyH_take (i := 18) (d := 37) (L' := #[true, true, true, true, true, true, true, true, true, true, true, true, true, true, true, true, true, true, true, false, false]) (v := ?v44) rfl rfl (by kernel_rfl) (fun _ _ _ h => h) (by rfl) ?hy44 (by assumption) ?rest44
          case hy44 => (intro wx hSw; (try dsimp only at hSw); (have t5 := HBU.out _ hSw); go_simp; (try with_reducible rfl))
          simp only [Act.put, List.setIfInBounds_toArray, List.set_cons_zero, List.set_cons_succ]
          refine anyH_take (i := 19) (d := 38) (L' := #[true, true, true, true, true, true, true, true, true, true, true, true, true, true, true, true, true, true, true, true, false]) (v := ?v45) rfl rfl (by kernel_rfl) (fun _ _ _ h => h) (by rfl) ?hy45 (by assumption) ?rest45
          case hy45 => (intro wx hSw; (try dsimp only at hSw); (have t0 := Chg.cellS hSw Q0.out; have t1 := Chg.cellS hSw Q1.out; have t2 := Chg.cellS hSw Q2.out; have t3 := Chg.cellS hSw Q3.out); go_simp; (try with_reducible rfl))
          simp only [Act.put, List.setIfInBounds_toArray, List.set_cons_zero, List.set_cons_succ]
          refine anyH_run (i := 20) (L' := #[true, true, true, true, true, true, true, true, true, true, true, true, true, true, true, true, true, true, true, true, true]) rfl (by kernel_rfl) (by rfl) (fun KK hKK => ?_)
          go_simp
          (skip)
          refine hKK.out _ _ (by assumption) (fun hHeld => ?_)
          clear hKK KK
          try simp only [Act.put, List.setIfInBounds_toArray, List.set_cons_zero, List.set_cons_succ]
          refine wpAnyH_done (by kernel_rfl) ?_ _
          go_wp2_with fail
          go_ret
          exact ⟨rfl, hci.drew⟩
      · have hRf := HNE.out (by rw [← HM.out]; intro e; exact hn (congrArg Prod.fst e))
        subst hRf
        have hn1 : (rn == m) = false := by simpa using hn
        have hn3 : (rn != m) = true := by simpa using hn
        refine anyH_start (n := 21) (L := #[false, false, false, false, false, false, false, false, false, false, false, false, false, false, false, false, false, false, false, false, false]) (by kernel_rfl) (by kernel_rfl) (S := (fun wx => Chg [] wj wx)) ((Chg.refl _ _).drew) (fun hHeld => ?_)
        refine anyH_take (i := 0) (d := 19) (L' := #[true, false, false, false, false, false, false, false, false, false, false, false, false, false, false, false, false, false, false, false, false]) (v := ?v49) rfl rfl (by kernel_rfl) (fun _ _ _ h => h) (by rfl) ?hy49 (by assumption) ?rest49
        case hy49 => (intro wx hSw; (try dsimp only at hSw); (have t0 := Chg.cellS hSw Q0.out; have t1 := Chg.cellS hSw Q1.out; have t2 := Chg.cellS hSw Q2.out; have t3 := Chg.cellS hSw Q3.out); go_simp; (try with_reducible rfl))
        simp only [Act.put, List.setIfInBounds_toArray, List.set_cons_zero, List.set_cons_succ]
        refine anyH_take (i := 1) (d := 20) (L' := #[true, true, false, false, false, false, false, false, false, false, false, false, false, false, false, false, false, false, false, false, false]) (v := ?v50) rfl rfl (by kernel_rfl) (fun _ _ _ h => h) (by rfl) ?hy50 (by assumption) ?rest50
        case hy50 => (intro wx hSw; (try dsimp only at hSw); (have t0 := Chg.cellS hSw Q0.out; have t1 := Chg.cellS hSw Q1.out; have t2 := Chg.cellS hSw Q2.out; have t3 := Chg.cellS hSw Q3.out); go_simp; (try with_reducible rfl))
        simp only [Act.put, List.setIfInBounds_toArray, List.set_cons_zero, List.set_cons_succ]
        refine anyH_take (i := 2) (d := 21) (L' := #[true, true, true, false, false, false, false, false, false, false, false, false, false, false, false, false, false, false, false, false, false]) (v := ?v51) rfl rfl (by kernel_rfl) (fun _ _ _ h => h) (by rfl) ?hy51 (by assumption) ?rest51
        case hy51 => (intro wx hSw; (try dsimp only at hSw); (have t0 := Chg.cellS hSw Q0.out; have t1 := Chg.cellS hSw Q1.out; have t2 := Chg.cellS hSw Q2.out; have t3 := Chg.cellS hSw Q3.out); go_simp; (try with_reducible rfl))
        simp only [Act.put, List.setIfInBounds_toArray, List.set_cons_zero, List.set_cons_succ]
        refine anyH_take (i := 3) (d := 22) (L' := #[true, true, true, true, false, false, false, false, false, false, false, false, false, false, false, false, false, false, false, false, false]) (v := ?v52) rfl rfl (by kernel_rfl) (fun _ _ _ h => h) (by rfl) ?hy52 (by assumption) ?rest52
        case hy52 => (intro wx hSw; (try dsimp only at hSw); (have t0 := Chg.cellS hSw Q0.out; have t1 := Chg.cellS hSw Q1.out; have t2 := Chg.cellS hSw Q2.out; have t3 := Chg.cellS hSw Q3.out); go_simp; (try with_reducible rfl))
        simp only [Act.put, List.setIfInBounds_toArray, List.set_cons_zero, List.set_cons_succ]
        refine anyH_take (i := 4) (d := 23) (L' := #[true, true, true, true, true, false, false, false, false, false, false, false, false, false, false, false, false, false, false, false, false]) (v := ?v53) rfl rfl (by kernel_rfl) (fun _ _ _ h => h) (by rfl) ?hy53 (by assumption) ?rest53
        case hy53 => (intro wx hSw; (try dsimp only at hSw); (have t0 := Chg.cellS hSw Q0.out; have t1 := Chg.cellS hSw Q1.out; have t2 := Chg.cellS hSw Q2.out; have t3 := Chg.cellS hSw Q3.out); go_simp; (try with_reducible rfl))
        simp only [Act.put, List.setIfInBounds_toArray, List.set_cons_zero, List.set_cons_succ]
        refine anyH_take (i := 5) (d := 24) (L' := #[true, true, true, true, true, true, false, false, false, false, false, false, false, false, false, false, false, false, false, false, false]) (v := ?v54) rfl rfl (by kernel_rfl) (fun _ _ _ h => h) (by rfl) ?hy54 (by assumption) ?rest54
        case hy54 => (intro wx hSw; (try dsimp only at hSw); (have t0 := Chg.cellS hSw Q0.out; have t1 := Chg.cellS hSw Q1.out; have t2 := Chg.cellS hSw Q2.out; have t3 := Chg.cellS hSw Q3.out); go_simp; (try with_reducible rfl))
        simp only [Act.put, List.setIfInBounds_toArray, List.set_cons_zero, List.set_cons_succ]
        refine anyH_take (i := 6) (d := 25) (L' := #[true, true, true, true, true, true, true, false, false, false, false, false, false, false, false, false, false, false, false, false, false]) (v := ?v55) rfl rfl (by kernel_rfl) (fun _ _ _ h => h) (by rfl) ?hy55 (by assumption) ?rest55
        case hy55 => (intro wx hSw; (try dsimp only at hSw); (have t0 := Chg.cellS hSw Q0.out; have t1 := Chg.cellS hSw Q1.out; have t2 := Chg.cellS hSw Q2.out; have t3 := Chg.cellS hSw Q3.out); go_simp; (try with_reducible rfl))
        simp only [Act.put, List.setIfInBounds_toArray, List.set_cons_zero, List.set_cons_succ]
        refine anyH_run (i := 7) (L' := #[true, true, true, true, true, true, true, true, false, false, false, false, false, false, false, false, false, false, false, false, false]) rfl (by kernel_rfl) (by rfl) (fun KK hKK => ?_)
        go_simp
        (refine (number19_any _ _).mono ?_; rintro e wn ⟨rfl, rfl⟩; rw [← HM.out]; (try go_simp))
        refine hKK.out _ _ (by assumption) (fun hHeld => ?_)
        clear hKK KK
        try simp only [Act.put, List.setIfInBounds_toArray, List.set_cons_zero, List.set_cons_succ]
        refine anyH_run (i := 8) (L' := #[true, true, true, true, true, true, true, true, true, false, false, false, false, false, false, false, false, false, false, false, false]) rfl (by kernel_rfl) (by rfl) (fun KK hKK => ?_)
        go_simp
        (skip)
        refine hKK.out _ _ (by assumption) (fun hHeld => ?_)
        clear hKK KK
        try simp only [Act.put, List.setIfInBounds_toArray, List.set_cons_zero, List.set_cons_succ]
        refine anyH_run (i := 9) (L' := #[true, true, true, true, true, true, true, true, true, true, false, false, false, false, false, false, false, false, false, false, false]) rfl (by kernel_rfl) (by rfl) (fun KK hKK => ?_)
        go_simp
        (skip)
        refine hKK.out _ _ (by assumption) (fun hHeld => ?_)
        clear hKK KK
        try simp only [Act.put, List.setIfInBounds_toArray, List.set_cons_zero, List.set_cons_succ]
        refine anyH_skip (i := 10) (d := 29) (L' := #[true, true, true, true, true, true, true, true, true, true, true, false, false, false, false, false, false, false, false, false, false]) rfl rfl (by kernel_rfl) (fun _ _ _ h => h) (by rfl) (by assumption) ?_
        simp only [Act.put, List.setIfInBounds_toArray, List.set_cons_zero, List.set_cons_succ]
        refine anyH_skip (i := 11) (d := 30) (L' := #[true, true, true, true, true, true, true, true, true, true, true, true, false, false, false, false, false, false, false, false, false]) rfl rfl (by kernel_rfl) (fun _ _ _ h => h) (by rfl) (by assumption) ?_
        simp only [Act.put, List.setIfInBounds_toArray, List.set_cons_zero, List.set_cons_succ]
        refine anyH_skip (i := 12) (d := 31) (L' := #[true, true, true, true, true, true, true, true, true, true, true, true, true, false, false, false, false, false, false, false, false]) rfl rfl (by kernel_rfl) (fun _ _ _ h => h) (by rfl) (by assumption) ?_
        simp only [Act.put, List.setIfInBounds_toArray, List.set_cons_zero, List.set_cons_succ]
        refine anyH_skip (i := 13) (d := 32) (L' := #[true, true, true, true, true, true, true, true, true, true, true, true, true, true, false, false, false, false, false, false, false]) rfl rfl (by kernel_rfl) (fun _ _ _ h => h) (by rfl) (by assumption) ?_
        simp only [Act.put, List.setIfInBounds_toArray, List.set_cons_zero, List.set_cons_succ]
        refine anyH_skip (i := 14) (d := 33) (L' := #[true, true, true, true, true, true, true, true, true, true, true, true, true, true, true, false, false, false, false, false, false]) rfl rfl (by kernel_rfl) (fun _ _ _ h => h) (by rfl) (by assumption) ?_
        simp only [Act.put, List.setIfInBounds_toArray, List.set_cons_zero, List.set_cons_succ]
        refine anyH_skip (i := 15) (d := 34) (L' := #[true, true, true, true, true, true, true, true, true, true, true, true, true, true, true, true, false, false, false, false, false]) rfl rfl (by kernel_rfl) (fun _ _ _ h => h) (by rfl) (by assumption) ?_
        simp only [Act.put, List.setIfInBounds_toArray, List.set_cons_zero, List.set_cons_succ]
        refine anyH_skip (i := 16) (d := 35) (L' := #[true, true, true, true, true, true, true, true, true, true, true, true, true, true, true, true, true, false, false, false, false]) rfl rfl (by kernel_rfl) (fun _ _ _ h => h) (by rfl) (by assumption) ?_
        simp only [Act.put, List.setIfInBounds_toArray, List.set_cons_zero, List.set_cons_succ]
        refine anyH_skip (i := 17) (d := 36) (L' := #[true, true, true, true, true, true, true, true, true, true, true, true, true, true, true, true, true, true, false, false, false]) rfl rfl (by kernel_rfl) (fun _ _ _ h => h) (by rfl) (by assumption) ?_
        simp only [Act.put, List.setIfInBounds_toArray, List.set_cons_zero, List.set_cons_succ]
        refine anyH_skip (i := 18) (d := 37) (L' := #[true, true, true, true, true, true, true, true, true, true, true, true, true, true, true, true, true, true, true, false, false]) rfl rfl (by kernel_rfl) (fun _ _ _ h => h) (by rfl) (by assumption) ?_
        simp only [Act.put, List.setIfInBounds_toArray, List.set_cons_zero, List.set_cons_succ]
        refine anyH_skip (i := 19) (d := 38) (L' := #[true, true, true, true, true, true, true, true, true, true, true, true, true, true, true, true, true, true, true, true, false]) rfl rfl (by kernel_rfl) (fun _ _ _ h => h) (by rfl) (by assumption) ?_
        simp only [Act.put, List.setIfInBounds_toArray, List.set_cons_zero, List.set_cons_succ]
        refine anyH_run (i := 20) (L' := #[true, true, true, true, true, true, true, true, true, true, true, true, true, true, true, true, true, true, true, true, true]) rfl (by kernel_rfl) (by rfl) (fun KK hKK => ?_)
        go_simp
        (skip)
        refine hKK.out _ _ (by assumption) (fun hHeld => ?_)
        clear hKK KK
        try simp only [Act.put, List.setIfInBounds_toArray, List.set_cons_zero, List.set_cons_succ]
        refine wpAnyH_done (by kernel_rfl) ?_ _
        go_wp2_with fail
        go_ret
        exact ⟨rfl, hci.drew⟩
    · obtain rfl : i = ps.length := by omega
      have hRt : R = true := by
        rw [← HD.out, decide_eq_true]
        have h := HEQ.out
        rw [List.take_of_length_le (by simp [HLN.out]), List.take_of_length_le (by simp [numsR])] at h
        exact h
      subst hRt
      go_wp2_with fail
      go_ret
      exact ⟨rfl, hci⟩
end Go.Proofs.Ytpoohpmcopjklaa

/- bagatellelaw19.fit. -/
namespace Go.Proofs.Ytpoohpmcopjklaa
open Go.RowKit

set_option maxHeartbeats 2000000 in
theorem fit19_any (w : World) : Calls Try.prog 12 #[] w fun e w' => e = .returned (.bool true) ∧ Chg [] w w' := by
  have kc := bsConst
  have hs3 := nameD_seg 3
  have J0 := new_begin 1000 hs3 (by decide)
  have E0 := new_beginE 1000 hs3 (by decide)
  have O0 := ops_begin 1000 hs3 (by decide)
  have J1 := J0.write (frameB 1 [97]) (by rw [frameB_length]; decide)
  have O1 := ops_writeD (beginD (newD 1000) (segB 3)) (segB 3) (frameB 1 [97])
  have J2 := J1.write (frameB 2 [98, 99]) (by rw [List.length_append, frameB_length, frameB_length]; decide)
  have O2 := ops_writeD (writeD (beginD (newD 1000) (segB 3)) (segB 3) (frameB 1 [97])) (segB 3) (frameB 2 [98, 99])
  generalize hd0 : beginD (newD 1000) (segB 3) = d0 at *
  have R0 := J0.room
  generalize hd1 : writeD d0 (segB 3) (frameB 1 [97]) = d1 at *
  have R1 := J1.room
  generalize hd2 : writeD d1 (segB 3) (frameB 2 [98, 99]) = d2 at *
  have HD0 := hd hd0
  have HD1 := hd hd1
  have HD2 := hd hd2
  have HJ2 := hd J2
  have HO0 := hd O0
  have HO1 := hd O1
  have HO2 := hd O2
  have HR0 := hd R0
  have HR1 := hd R1
  clear hd0 hd1 hd2 J0 J1 J2 hs3 O0 O1 O2 R0 R1
  go_enter Try.func12, Try.ntmps12
  go_wp2_with fail
  refine (DNew_any w 1000 (by decide)).mono ?_
  rintro e w1 ⟨b, fp, rfl, hk1, hc1, hf1⟩
  go_wp2_with fail
  refine (Begin_any hk1 3 (by decide) (by decide)).mono ?_
  rintro e w2 ⟨rfl, h2⟩
  rw [HD0.out] at h2
  rw [E0]
  obtain ⟨fp2, hk2, hc2, hf2⟩ := h2.ds hc1 hf1
  clear h2 hk1 hc1 hf1
  have b1 := Bs.marked w2 [97] #[.int .u8 97] 1 rfl rfl (by decide)
  go_wp2_with fail
  have hcA := (Chg.refl [] w2).alloc (.cells #[.int .u8 97] 5 (1, 2))
  have hkA := hk2.k hcA
  refine (Write_any hkA 3 (by decide) 1 _ [97] b1 (by decide) (.inr (by rw [HR0.out]; decide)) (by rw [HO0.out]; decide)).mono ?_
  rintro e w3 ⟨rfl, h3⟩
  rw [HD1.out] at h3
  obtain ⟨fp3, hk3, hc3, hf3⟩ := h3.ds (hc2.k hcA) hf2
  clear h3 hk2 hc2 hf2 hcA hkA b1
  have b2 := Bs.marked w3 [98, 99] #[.int .u8 98, .int .u8 99] 2 rfl rfl (by decide)
  go_wp2_with fail
  have hcB := (Chg.refl [] w3).alloc (.cells #[.int .u8 98, .int .u8 99] 5 (2, 3))
  have hkB := hk3.k hcB
  refine (Write_any hkB 3 (by decide) 2 _ [98, 99] b2 (by decide) (.inr (by rw [HR1.out]; decide)) (by have := HO0.out; have := HO1.out; omega)).mono ?_
  rintro e w4 ⟨rfl, h4⟩
  rw [HD2.out] at h4
  obtain ⟨fp4, hk4, hc4, hf4⟩ := h4.ds (hc3.k hcB) hf3
  clear h4 hk3 hc3 hf3 hcB hkB b2
  have hsy := HJ2.out.syncE
  have hby := HJ2.out.bytes
  go_wp2_with fail
  refine (Scan_any hk4 3 (by decide) (by have := HO0.out; have := HO1.out; have := HO2.out; omega) (by rw [hby, List.length_append, List.length_append, frameB_length, frameB_length]; decide)).mono ?_
  rintro e w5 hsc
  obtain ⟨hk5, hc5, hsc⟩ := hsc
  have hfin := (DS.same hk5 hk4 hc4 hf4 hc5).chg
  rcases hsc with ⟨hne, -⟩ | ⟨-, v, rs, rfl, hrs, hrl⟩
  · exact absurd hsy hne
  rw [hby] at hrs ⊢
  have hcat : ([] ++ frameB 1 [97] ++ frameB 2 [98, 99] : List UInt8) = catF [(1, [97]), (2, [98, 99])] ++ [] := by simp [catF]
  rw [hcat, scanB_cat 16384 [] (nextB_nil _) [(1, [97]), (2, [98, 99])] (by intro r hr; simp at hr; rcases hr with rfl | rfl <;> decide) (by intro r hr; simp at hr; rcases hr with rfl | rfl <;> decide)] at hrs
  have hl2 : rs.length = 2 := by have := congrArg List.length hrs; simpa using this
  have hlen : recLen (rs.map bare) = ([] ++ frameB 1 [97] ++ frameB 2 [98, 99] : List UInt8).length := by
    rw [hrs, List.length_append, List.length_append, frameB_length, frameB_length]; rfl
  rw [decide_eq_true hlen]
  clear hlen hcat hk4 hk5 hc4 hc5 hf4 hsy hby
  obtain ⟨bR, capR, rfl, hat⟩ := hrl.at (by omega)
  rw [hl2]
  obtain ⟨ao, c, -, r0, r1, hb⟩ := hat 1 (by omega)
  have hbr : bare (rs[1]'(by omega)) = (2, [98, 99]) := by
    have h := congrArg (fun l => l[1]?) hrs
    simp only [List.getElem?_map] at h
    rw [List.getElem?_eq_getElem (by omega)] at h
    simpa using h
  generalize rs[1]'(by omega) = r at *
  obtain ⟨rn, rv, rp⟩ := r
  simp only [bare, Prod.mk.injEq] at hbr r0 r1 hb
  obtain ⟨rfl, rfl⟩ := hbr
  clear hat hrs hrl hl2
  go_wp2_with (refine wpStr rfl _ rfl _ _ rfl hb ?_)
  go_ret
  exact ⟨rfl, hfin⟩
end Go.Proofs.Ytpoohpmcopjklaa

/- A crash, as plain data. -/
namespace Go.Proofs.Ytpoohpmcopjklaa

def namedN (es : Nm) (j : Nat) : Bool := es.any fun p => p.2 == j
/-- The new index of file i. -/
def atN (es : Nm) (i : Nat) : Nat := ((List.range i).filter (namedN es)).length
def keepF (es : Nm) (fs : List (List UInt8 × Nat)) (n : Nat) : List (List UInt8 × Nat) := ((List.range n).filter (namedN es)).map fun i => ((fs.getD i ([], 0)).1, (fs.getD i ([], 0)).1.length)
def movedN (es : Nm) : Nm := es.map fun p => (p.1, atN es p.2)
def settleD (d : Dsk) : Dsk :=
  { d with files := keepF d.names d.files d.files.length, names := movedN d.names, sure := movedN d.names, changes := [], off := false, down := -1, fail := -1 }
def cutF : List (List UInt8 × Nat) → List Int → List (List UInt8 × Nat)
  | [], _ => []
  | f :: l, kept =>
    if f.2 < f.1.length then (f.1.take (f.2 + (min (max (kept.headD 0) 0) ((f.1.length : Int) - f.2)).toNat), f.2) :: cutF l kept.tail else f :: cutF l kept
def crashD (d : Dsk) (n : Int) (kept : List Int) : Dsk :=
  settleD { d with files := cutF d.files kept, names := (d.changes.take (min (max n 0) d.changes.length).toNat).foldl turnD d.sure }

theorem atN_le (es : Nm) (i : Nat) : atN es i ≤ i := by
  unfold atN; exact Nat.le_trans (List.length_filter_le _ _) (by simp)
theorem keepF_length (es : Nm) (fs : List (List UInt8 × Nat)) (n : Nat) : (keepF es fs n).length = atN es n := by simp [keepF, atN]
theorem atN_succ (es : Nm) (i : Nat) : atN es (i + 1) = atN es i + (if namedN es i then 1 else 0) := by
  unfold atN; rw [List.range_succ, List.filter_append]; by_cases h : namedN es i <;> simp [h]
theorem atN_mono (es : Nm) {i j : Nat} (h : i ≤ j) : atN es i ≤ atN es j := by
  induction j with
  | zero => simp at h; subst h; exact Nat.le_refl _
  | succ j ih =>
    by_cases hj : i = j + 1
    · subst hj; exact Nat.le_refl _
    · rw [atN_succ]; have := ih (by omega); omega
theorem atN_lt {es : Nm} {i n : Nat} (h : i < n) (hn : namedN es i = true) : atN es i < atN es n := by
  have h1 := atN_mono es (show i + 1 ≤ n by omega)
  rw [atN_succ, if_pos hn] at h1
  omega
theorem keepF_succ (es : Nm) (fs : List (List UInt8 × Nat)) (n : Nat) : keepF es fs (n + 1) = keepF es fs n ++ (if namedN es n then [((fs.getD n ([], 0)).1, (fs.getD n ([], 0)).1.length)] else []) := by
  unfold keepF; rw [List.range_succ, List.filter_append, List.map_append]; by_cases h : namedN es n <;> simp [h]
theorem named_of_mem {es : Nm} {p : List UInt8 × Nat} (h : p ∈ es) : namedN es p.2 = true := by
  unfold namedN; rw [List.any_eq_true]; exact ⟨p, h, by simp⟩
theorem cutF_length : ∀ (l : List (List UInt8 × Nat)) (kept : List Int), (cutF l kept).length = l.length
  | [], _ => rfl
  | f :: l, kept => by
    unfold cutF
    split <;> simp [cutF_length l]
theorem cutF_files {P : List UInt8 × Nat → Prop} (hP : ∀ (f : List UInt8 × Nat) (k : Nat), P f → f.2 < f.1.length → P (f.1.take (f.2 + k), f.2)) : ∀ (l : List (List UInt8 × Nat)) (kept : List Int), (∀ f ∈ l, P f) → ∀ f ∈ cutF l kept, P f
  | [], _, _, f, hf => by simp [cutF] at hf
  | g :: l, kept, h, f, hf => by
    unfold cutF at hf
    split at hf
    · rename_i hlt
      rcases List.mem_cons.1 hf with rfl | hf
      · exact hP g _ (h g (by simp)) hlt
      · exact cutF_files hP l _ (fun x hx => h x (by simp [hx])) f hf
    · rcases List.mem_cons.1 hf with rfl | hf
      · exact h f (by simp)
      · exact cutF_files hP l _ (fun x hx => h x (by simp [hx])) f hf
theorem foldl_turn (es : Nm) (cs : List (List UInt8 × List UInt8 × Nat)) : (es.map (·.1)).Nodup → ((cs.foldl turnD es).map (·.1)).Nodup ∧ (cs.foldl turnD es).length ≤ es.length + cs.length ∧
    ∀ p ∈ cs.foldl turnD es, p ∈ es ∨ ∃ c ∈ cs, c.2.1 ≠ [] ∧ p = (c.2.1, c.2.2) := by
  induction cs generalizing es with
  | nil => intro h; exact ⟨h, by simp, fun p hp => .inl hp⟩
  | cons c cs ih =>
    intro h
    obtain ⟨h1, h2, h3⟩ := ih (turnD es c) (nodup_turn h c)
    have h4 := length_turn h c
    refine ⟨h1, by simp only [List.foldl_cons, List.length_cons]; omega, fun p hp => ?_⟩
    rcases h3 p hp with hp | ⟨c', hc', hx⟩
    · rcases mem_turnD hp with hp | hx
      · exact .inl hp
      · exact .inr ⟨c, by simp, hx⟩
    · exact .inr ⟨c', by simp [hc'], hx⟩
theorem GoodD.settle {d : Dsk} (h : GoodD d) (hf : ∀ f ∈ d.files, (f.1.length : Int) ≤ d.room ∧ f.1.length ≤ 4294967296) : GoodD (settleD d) := by
  have hl : (settleD d).files.length = atN d.names d.files.length := keepF_length _ _ _
  have hle := atN_le d.names d.files.length
  have hnm : ∀ p ∈ movedN d.names, p.2 < (settleD d).files.length := by
    intro p hp
    obtain ⟨q, hq, rfl⟩ := List.mem_map.1 hp
    rw [hl]
    exact atN_lt (h.named q hq) (named_of_mem hq)
  refine ⟨h.room, hnm, hnm, by simp [settleD], by simp [settleD], fun f hf' => ?_, h.ops, ?_, ?_, ?_, by simp [settleD]⟩
  · obtain ⟨i, hi, rfl⟩ := List.mem_map.1 hf'
    have hi2 : i < d.files.length := by simpa using (List.mem_filter.1 hi).1
    have hg : d.files.getD i ([], 0) = d.files[i] := by rw [List.getD_eq_getElem?_getD, List.getElem?_eq_getElem hi2]; rfl
    rw [hg]
    exact ⟨Nat.le_refl _, hf d.files[i] (List.getElem_mem hi2)⟩
  · rw [hl]; have := h.nfiles; show (_ : Int) ≤ d.ops; omega
  · show ((movedN d.names).length : Int) ≤ d.ops; unfold movedN; rw [List.length_map]; exact h.nnames
  · show ((movedN d.names).length : Int) + (([] : List (List UInt8 × List UInt8 × Nat)).length : Int) ≤ d.ops
    unfold movedN; rw [List.length_map]; simpa using h.nnames
theorem GoodD.cut {d : Dsk} (h : GoodD d) (hn : (d.sure.map (·.1)).Nodup) (kept : List Int) (m : Nat) : GoodD { d with files := cutF d.files kept, names := (d.changes.take m).foldl turnD d.sure } := by
  have hl := cutF_length d.files kept
  obtain ⟨-, h2, h3⟩ := foldl_turn d.sure (d.changes.take m) hn
  have hc := h.nchanges
  have hm : (d.changes.take m).length ≤ d.changes.length := by rw [List.length_take]; omega
  refine { h with named := fun p hp => ?_, sured := ?_, turned := ?_, idx := ?_, files := ?_, nfiles := ?_, nnames := ?_ } <;> simp only [hl]
  · rcases h3 p hp with hp | ⟨c, hc, hne, rfl⟩
    · exact h.sured p hp
    · exact h.turned c (List.mem_of_mem_take hc) hne
  · exact h.sured
  · exact h.turned
  · exact h.idx
  · exact cutF_files (P := fun f => f.2 ≤ f.1.length ∧ (f.1.length : Int) ≤ d.room ∧ f.1.length ≤ 4294967296) (fun f k hf hlt => by simp only [List.length_take]; omega) d.files kept h.files
  · exact h.nfiles
  · omega
theorem moved_nodup {es : Nm} (h : (es.map (·.1)).Nodup) : ((movedN es).map (·.1)).Nodup := by
  unfold movedN; rw [List.map_map]; exact h
theorem nget_moved {es : Nm} (k : List UInt8) : nget (movedN es) k = (nget es k).map (atN es) := by
  unfold nget movedN
  rw [List.find?_map, Option.map_map, Option.map_map]
  rfl
def restK : List (List UInt8 × Nat) → List Int → List Int
  | [], kept => kept
  | f :: l, kept => if f.2 < f.1.length then restK l kept.tail else restK l kept
def cutOne (f : List UInt8 × Nat) (kept : List Int) : List UInt8 × Nat := (f.1.take (f.2 + (min (max (kept.headD 0) 0) ((f.1.length : Int) - f.2)).toNat), f.2)
theorem cutF_snoc (f : List UInt8 × Nat) : ∀ (l : List (List UInt8 × Nat)) (kept : List Int), cutF (l ++ [f]) kept = cutF l kept ++ [if f.2 < f.1.length then cutOne f (restK l kept) else f] ∧ restK (l ++ [f]) kept = if f.2 < f.1.length then (restK l kept).tail else restK l kept
  | [], kept => by
    by_cases h : f.2 < f.1.length <;> simp [cutF, restK, cutOne, h]
  | g :: l, kept => by
    by_cases h : g.2 < g.1.length
    · have ih := cutF_snoc f l kept.tail
      simp only [List.cons_append, cutF, restK, if_pos h, ih.1, ih.2]
      exact ⟨trivial, trivial⟩
    · have ih := cutF_snoc f l kept
      simp only [List.cons_append, cutF, restK, if_neg h, ih.1, ih.2]
      exact ⟨trivial, trivial⟩
def filesAt (fs : List (List UInt8 × Nat)) (kept : List Int) (k : Nat) : List (List UInt8 × Nat) := cutF (fs.take k) kept ++ fs.drop k
def keptAt (fs : List (List UInt8 × Nat)) (kept : List Int) (k : Nat) : List Int := restK (fs.take k) kept
theorem filesAt_zero (fs : List (List UInt8 × Nat)) (kept : List Int) : filesAt fs kept 0 = fs := by simp [filesAt, cutF]
theorem keptAt_zero (fs : List (List UInt8 × Nat)) (kept : List Int) : keptAt fs kept 0 = kept := by simp [keptAt, restK]
theorem filesAt_all (fs : List (List UInt8 × Nat)) (kept : List Int) : filesAt fs kept fs.length = cutF fs kept := by simp [filesAt]
theorem filesAt_length (fs : List (List UInt8 × Nat)) (kept : List Int) (k : Nat) : (filesAt fs kept k).length = fs.length := by
  unfold filesAt; rw [List.length_append, cutF_length, ← List.length_append, List.take_append_drop]
theorem filesAt_get (fs : List (List UInt8 × Nat)) (kept : List Int) (k : Nat) (h : k < fs.length) : (filesAt fs kept k)[k]? = some fs[k] := by
  unfold filesAt
  rw [List.getElem?_append_right (by rw [cutF_length, List.length_take]; omega), cutF_length, List.length_take, Nat.min_eq_left (by omega), Nat.sub_self, List.getElem?_drop, Nat.add_zero, List.getElem?_eq_getElem h]
theorem filesAt_succ (fs : List (List UInt8 × Nat)) (kept : List Int) (k : Nat) (h : k < fs.length) :
    filesAt fs kept (k + 1) = (filesAt fs kept k).set k (if fs[k].2 < fs[k].1.length then cutOne fs[k] (keptAt fs kept k) else fs[k]) ∧
    keptAt fs kept (k + 1) = if fs[k].2 < fs[k].1.length then (keptAt fs kept k).tail else keptAt fs kept k := by
  have e : fs.take (k + 1) = fs.take k ++ [fs[k]] := by rw [List.take_succ_eq_append_getElem h]
  have hs := cutF_snoc fs[k] (fs.take k) kept
  unfold filesAt keptAt
  rw [e, hs.1, hs.2]
  refine ⟨?_, rfl⟩
  have hl : (cutF (fs.take k) kept).length = k := by rw [cutF_length, List.length_take]; omega
  rw [List.set_append_right k _ (by omega), hl, Nat.sub_self, List.append_assoc]
  congr 1
  rw [List.drop_eq_getElem_cons h]
  rfl
theorem GoodD.withFiles {d : Dsk} (h : GoodD d) (fs : List (List UInt8 × Nat)) (hl : fs.length = d.files.length) (hf : ∀ f ∈ fs, f.2 ≤ f.1.length ∧ (f.1.length : Int) ≤ d.room ∧ f.1.length ≤ 4294967296) : GoodD { d with files := fs } := by
  refine { h with named := ?_, sured := ?_, turned := ?_, idx := ?_, files := hf, nfiles := ?_ } <;> simp only [hl]
  · exact h.named
  · exact h.sured
  · exact h.turned
  · exact h.idx
  · exact h.nfiles
theorem GoodD.partCut {d : Dsk} (h : GoodD d) (kept : List Int) (k : Nat) : GoodD { d with files := filesAt d.files kept k } := by
  refine h.withFiles _ (filesAt_length _ _ _) fun f hf => ?_
  unfold filesAt at hf
  rcases List.mem_append.1 hf with hf | hf
  · exact cutF_files (P := fun f => f.2 ≤ f.1.length ∧ (f.1.length : Int) ≤ d.room ∧ f.1.length ≤ 4294967296) (fun f k hf hlt => by simp only [List.length_take]; omega) _ kept (fun f hf => h.files f (List.mem_of_mem_take hf)) f hf
  · exact h.files f (List.mem_of_mem_drop hf)
end Go.Proofs.Ytpoohpmcopjklaa

/- A crash of a disk with one segment, as plain data. -/
namespace Go.Proofs.Ytpoohpmcopjklaa
open Go.RowKit

/-- The disk holds one file, s, that reads as B; its name and n of its bytes are sure. -/
structure Jc (room : Int) (s : List UInt8) (B : List UInt8) (n : Nat) (d : Dsk) : Prop where
  room : d.room = room
  names : d.names = [(s, 0)]
  sure : d.sure = [(s, 0)]
  changes : d.changes = []
  files : d.files = [(B, n)]
/-- .. and all of it is sure, and nothing is amiss. -/
structure Js (room : Int) (s : List UInt8) (B : List UInt8) (d : Dsk) : Prop where
  jd : Jd room s B d
  jc : Jc room s B B.length d
theorem Js.of {room : Int} {s B : List UInt8} {d : Dsk} (h : Jc room s B B.length d) (h1 : d.off = false) (h2 : d.down = -1) (h3 : d.fail = -1) : Js room s B d := ⟨⟨h1, h2, h3, h.room, h.names, _, h.files⟩, h⟩
theorem Jc.op {room : Int} {s B : List UInt8} {n : Nat} {d : Dsk} (h : Jc room s B n d) : Jc room s B n (opD d) := ⟨h.room, h.names, h.sure, h.changes, h.files⟩
theorem Js.op {room : Int} {s B : List UInt8} {d : Dsk} (h : Js room s B d) : Js room s B (opD d) := ⟨h.jd.op, h.jc.op⟩
theorem Jc.get {room : Int} {s B : List UInt8} {n : Nat} {d : Dsk} (h : Jc room s B n d) : nget d.names s = some 0 := by rw [h.names]; unfold nget; simp
theorem Jc.size {room : Int} {s B : List UInt8} {n : Nat} {d : Dsk} (h : Jc room s B n d) : sizeD d = B.length := by
  unfold sizeD; rw [h.names, h.files]; simp
theorem Jc.append {room : Int} {s B : List UInt8} {n : Nat} {d : Dsk} (h : Jc room s B n d) (l : List UInt8) (he : appendE d s l = 0) : Jc room s (B ++ l) n (appendD d s l) := by
  unfold appendD
  rw [if_neg (by rw [he]; simp), h.get]
  exact ⟨h.room, h.names, h.sure, h.changes, by simp [setF, opD, h.files]⟩
theorem Jc.sync {room : Int} {s B : List UInt8} {n : Nat} {d : Dsk} (h : Jc room s B n d) (he : syncE d s = 0) : Jc room s B B.length (syncD d s) := by
  unfold syncD
  rw [if_neg (by rw [he]; simp), h.get]
  exact ⟨h.room, h.names, h.sure, h.changes, by simp [setF, opD, h.files]⟩
theorem Js.write {room : Int} {s B : List UInt8} {d : Dsk} (h : Js room s B d) (l : List UInt8) (hr : (B.length : Int) + l.length ≤ room) : Js room s (B ++ l) (writeD d s l) := by
  refine ⟨h.jd.write l hr, ?_⟩
  unfold writeD
  rw [if_pos (h.jd.appendE l hr)]
  exact (h.jc.append l (h.jd.appendE l hr)).sync (h.jd.append l hr).syncE
theorem js_begin (room : Int) {s : List UInt8} (hs : nameD s = true) (h0 : 0 ≤ room) : Js room s [] (beginD (newD room) s) := by
  have hj := new_begin room hs h0
  refine ⟨hj, ⟨hj.room, hj.names, ?_, ?_, ?_⟩⟩
  · have h1 := hj.names
    unfold beginD at h1 ⊢
    rw [if_pos (new_createE room hs)] at h1 ⊢
    unfold dirSyncD at h1 ⊢
    rw [(new_create room hs h0).opE] at h1 ⊢
    exact h1
  · unfold beginD
    rw [if_pos (new_createE room hs)]
    unfold dirSyncD
    rw [(new_create room hs h0).opE]
    rfl
  · unfold beginD
    rw [if_pos (new_createE room hs)]
    unfold dirSyncD
    rw [(new_create room hs h0).opE]
    show (createD (newD room) s).files = _
    unfold createD
    rw [new_createE room hs]
    simp [changeD, opD, newD]
theorem Js.again {room : Int} {s B : List UInt8} {d : Dsk} (h : Js room s B d) (hs : nameD s = true) : beginE d s = 5 ∧ Js room s B (beginD d s) ∧ (beginD d s).ops = d.ops + 1 := by
  have hc : createE d s = 5 := by
    unfold createE
    rw [h.jd.opE, h.jd.get]
    simp [hs]
  unfold beginE beginD
  rw [hc, if_neg (by decide), if_neg (by decide)]
  unfold createD
  rw [hc, if_pos (by decide)]
  exact ⟨rfl, h.op, rfl⟩
theorem Jc.crash {room : Int} {s B : List UInt8} {n : Nat} {d : Dsk} (h : Jc room s B n d) (kept : List Int) (m : Nat) (hm : (m : Int) = n + min (max (kept.headD 0) 0) ((B.length : Int) - n)) (hn : n ≤ B.length) :
    Js room s (B.take m) (crashD d 0 kept) ∧ (crashD d 0 kept).ops = d.ops := by
  have hcut : cutF d.files kept = [(B.take m, n)] := by
    rw [h.files]
    unfold cutF
    by_cases hlt : n < B.length
    · simp only [if_pos hlt]
      have : m = n + (min (max (kept.headD 0) 0) ((B.length : Int) - n)).toNat := by omega
      rw [this]; rfl
    · simp only [if_neg hlt]
      have e1 : m = B.length := by omega
      rw [e1, List.take_length]; rfl
  have hnm : (d.changes.take (min (max 0 0) (d.changes.length : Int)).toNat).foldl turnD d.sure = [(s, 0)] := by rw [h.changes, h.sure]; simp
  have e : crashD d 0 kept = settleD { d with files := [(B.take m, n)], names := [(s, 0)] } := by
    unfold crashD; rw [hcut, hnm]
  have hjc : Jc room s (B.take m) (B.take m).length (crashD d 0 kept) := by
    rw [e]
    refine ⟨h.room, ?_, ?_, rfl, ?_⟩
    · simp [settleD, movedN, atN]
    · simp [settleD, movedN, atN]
    · have : (List.range [((B.take m), n)].length).filter (namedN [(s, 0)]) = [0] := by
        simp [namedN, List.range_succ]
      unfold settleD keepF
      simp only [this]
      rfl
  exact ⟨Js.of hjc (by rw [e]; rfl) (by rw [e]; rfl) (by rw [e]; rfl), by rw [e]; rfl⟩
theorem Js.crash {room : Int} {s B : List UInt8} {d : Dsk} (h : Js room s B d) (kept : List Int) : Js room s B (crashD d 0 kept) ∧ (crashD d 0 kept).ops = d.ops := by
  have := h.jc.crash kept B.length (by omega) (Nat.le_refl _)
  rwa [List.take_length] at this
theorem hexB_inj : ∀ i, i < 16 → ∀ j, j < 16 → hexB i = hexB j → i = j := by decide
theorem segB_xor (n : Nat) : segB (n ^^^ 1) ≠ segB n := by
  intro e
  have h := congrArg (fun l => l[16]?) e
  unfold segB hexS at h
  simp only [List.getElem?_cons_succ, List.getElem?_map] at h
  rw [List.getElem?_range (by decide)] at h
  simp only [Option.map_some, Option.some.injEq, nibB, Nat.reduceMul, Nat.reduceSub, Nat.pow_zero, Nat.div_one] at h
  have h2 := hexB_inj _ (Nat.mod_lt _ (by decide)) _ (Nat.mod_lt _ (by decide)) h
  have h3 : (n ^^^ 1).testBit 0 = (n.testBit 0 ^^ Nat.testBit 1 0) := Nat.testBit_xor ..
  simp only [Nat.testBit_zero] at h3
  have h4 : (n ^^^ 1) % 2 = n % 2 := by omega
  rw [h4] at h3
  have : decide (n % 2 = 1) = true ∨ decide (n % 2 = 1) = false := by cases decide (n % 2 = 1) <;> simp
  rcases this with h | h <;> rw [h] at h3 <;> cases h3
theorem xor1 (n : Nat) (hn : n < 4611686018427387904) : bits .xor .i64 (n : Int) 1 = ((n ^^^ 1 : Nat) : Int) ∧ n ^^^ 1 < 4611686018427387904 := by
  have hx : n ^^^ 1 < 2 ^ 62 := Nat.xor_lt_two_pow (by omega) (by decide)
  refine ⟨?_, by simpa using hx⟩
  have h1 : (BitVec.ofInt 64 (n : Int)).toNat = n := by
    rw [BitVec.toNat_ofInt]
    have h64 : ((2 ^ 64 : Nat) : Int) = 18446744073709551616 := by decide
    rw [h64, Int.emod_eq_of_lt (by omega) (by omega)]
    simp
  have h2 : (BitVec.ofInt 64 1).toNat = 1 := by decide
  unfold bits
  simp only
  show IntKind.i64.wrap ((BitVec.ofInt 64 (n : Int) ^^^ BitVec.ofInt 64 1).toNat : Int) = _
  rw [BitVec.toNat_xor, h1, h2]
  have hx2 : n ^^^ 1 < 4611686018427387904 := by simpa using hx
  exact IntWalk.i64_in _ (by omega)
theorem nget_one {s k : List UInt8} (h : k ≠ s) : nget [(s, 0)] k = none := by
  unfold nget; simp; exact fun e => h e.symm
end Go.Proofs.Ytpoohpmcopjklaa

/- Disk.Rename, Remove, Ops, Down. -/
namespace Go.Proofs.Ytpoohpmcopjklaa
open Go.RowKit

variable {w w' : World} {fp : List Nat} {b : Nat} {fv cv : Value} {nb sb : Nat} {hs : List HF} {d : Dsk}

def renameE (d : Dsk) (a b : List UInt8) : Int := if opE d ≠ 0 then opE d else if (nget d.names a).isNone then 4 else if ¬ nameD b then 2 else 0
def renameD (d : Dsk) (a b : List UInt8) : Dsk :=
  if renameE d a b ≠ 0 then opD d else if a = b then opD d else
  match nget d.names a with
  | none => opD d
  | some i => changeD (opD d) (a, b, i)
def removeE (d : Dsk) (s : List UInt8) : Int := if opE d ≠ 0 then opE d else if (nget d.names s).isNone then 4 else 0
def removeD (d : Dsk) (s : List UInt8) : Dsk := if removeE d s ≠ 0 then opD d else changeD (opD d) (s, [], 0)

set_option maxHeartbeats 400000 in
theorem Ops_any (h : Dk w fp b d) : Calls Try.prog 28 #[.pointer (some ⟨b, 0, none⟩)] w fun e w' => e = .returned (.int .i64 d.ops) ∧ w = w' := by
  obtain ⟨fv, cv, nb, sb, hs, h⟩ := h
  have q5 := h.box.cell 5
  simp [boxCells] at q5
  clear h
  go_enter Try.func28, Try.ntmps28
  go_wp2_with fail
  go_ret
  exact ⟨rfl, rfl⟩
set_option maxHeartbeats 400000 in
theorem Down_any (h : Dk w fp b d) : Calls Try.prog 34 #[.pointer (some ⟨b, 0, none⟩)] w fun e w' => e = .returned (.bool d.off) ∧ w = w' := by
  obtain ⟨fv, cv, nb, sb, hs, h⟩ := h
  have q8 := h.box.cell 8
  simp [boxCells] at q8
  clear h
  go_enter Try.func34, Try.ntmps34
  go_wp2_with fail
  go_ret
  exact ⟨rfl, rfl⟩

set_option maxHeartbeats 2000000 in
theorem Remove_any (h : Dk w fp b d) (s : List UInt8) (hsl : s.length ≤ 140737488355328) (hops : d.ops < 1073741824) :
    Calls Try.prog 33 #[.pointer (some ⟨b, 0, none⟩), .string (strB s)] w fun e w' => e = .returned (.int .i64 (removeE d s)) ∧ DkOut w fp b (removeD d s) w' := by
  obtain ⟨fv, cv, nb, sb, hs, h⟩ := h
  obtain ⟨CE, hCE⟩ : ∃ x, removeE d s = x := ⟨_, rfl⟩
  obtain ⟨CD, hCD⟩ : ∃ x, removeD d s = x := ⟨_, rfl⟩
  rw [hCE, hCD]
  have hCE2 := hCE
  unfold removeE at hCE2
  unfold removeD at hCD
  rw [hCE] at hCD
  have hgood := h.good
  clear hCE
  go_enter Try.func33, Try.ntmps33
  go_wp2_with fail
  refine (op_any h hops).mono ?_
  rintro e w1 ⟨rfl, h1, hc1, hz1⟩
  have hcf : Chg fp w w1 := hc1.mono (by simp only [List.mem_singleton]; rintro x rfl _; exact h.fpb)
  clear hc1 hz1 h
  by_cases hE : opE d = 0
  case neg =>
    rw [if_pos hE] at hCE2
    rw [if_pos (by rw [← hCE2]; exact hE)] at hCD
    subst hCD
    subst hCE2
    have hE' : (opE d == 0) = false := by simpa using hE
    have HF := hd (DkOut.same ⟨_, _, _, _, _, h1⟩ hcf)
    clear hE h1 hcf hgood
    go_wp2_with fail
    go_ret
    exact ⟨rfl, HF.out⟩
  rw [if_neg (by simpa using hE)] at hCE2
  rw [hE]
  clear hE
  have hfind := find_any h1 s hsl
  have hchg := change_any h1 s [] 0 hsl (by decide) (Nat.zero_le _) (fun h => absurd rfl h) (by have := hgood.nnames; show (d.names.length : Int) + 1 ≤ d.ops + 1; omega) (by have := hgood.nchanges; show (d.sure.length + d.changes.length : Int) + 1 ≤ d.ops + 1; omega)
  have H1 := hd h1
  have HCF := hd hcf
  have HCH := hd hchg
  clear h1 hcf hgood hchg
  rcases hi : nget d.names s with _ | i
  · rw [show nget (opD d).names s = none from hi] at hfind
    rw [hi, if_pos (by rfl)] at hCE2
    subst hCE2
    rw [if_pos (by decide)] at hCD
    subst hCD
    go_wp2_with fail
    refine (hfind).mono ?_
    rintro e w2 ⟨rfl, rfl⟩
    go_wp2_with fail
    go_ret
    exact ⟨rfl, DkOut.same ⟨_, _, _, _, _, H1.out⟩ HCF.out⟩
  · rw [show nget (opD d).names s = some i from hi] at hfind
    rw [hi, if_neg (by simp)] at hCE2
    subst hCE2
    rw [if_neg (by decide)] at hCD
    subst hCD
    clear hi
    go_wp2_with fail
    refine (hfind).mono ?_
    rintro e w2 ⟨rfl, g, c, rfl, hlt, rfl⟩
    have hch := HCH.out
    clear hfind hlt
    go_wp2_with fail
    refine (hch).mono ?_
    rintro e w3 ⟨rfl, h3⟩
    have HF := hd (h3.after HCF.out)
    clear hch h3
    go_wp2_with fail
    go_ret
    exact ⟨rfl, HF.out⟩

set_option maxHeartbeats 2000000 in
theorem Rename_any (h : Dk w fp b d) (a s : List UInt8) (hal : a.length ≤ 140737488355328) (hsl : s.length ≤ 140737488355328) (hops : d.ops < 1073741824) :
    Calls Try.prog 38 #[.pointer (some ⟨b, 0, none⟩), .string (strB a), .string (strB s)] w fun e w' => e = .returned (.int .i64 (renameE d a s)) ∧ DkOut w fp b (renameD d a s) w' := by
  obtain ⟨fv, cv, nb, sb, hs, h⟩ := h
  obtain ⟨CE, hCE⟩ : ∃ x, renameE d a s = x := ⟨_, rfl⟩
  obtain ⟨CD, hCD⟩ : ∃ x, renameD d a s = x := ⟨_, rfl⟩
  rw [hCE, hCD]
  have hCE2 := hCE
  unfold renameE at hCE2
  unfold renameD at hCD
  rw [hCE] at hCD
  have hgood := h.good
  clear hCE
  go_enter Try.func38, Try.ntmps38
  go_wp2_with fail
  refine (op_any h hops).mono ?_
  rintro e w1 ⟨rfl, h1, hc1, hz1⟩
  have hcf : Chg fp w w1 := hc1.mono (by simp only [List.mem_singleton]; rintro x rfl _; exact h.fpb)
  clear hc1 hz1 h
  by_cases hE : opE d = 0
  case neg =>
    rw [if_pos hE] at hCE2
    rw [if_pos (by rw [← hCE2]; exact hE)] at hCD
    subst hCD
    subst hCE2
    have hE' : (opE d == 0) = false := by simpa using hE
    have HF := hd (DkOut.same ⟨_, _, _, _, _, h1⟩ hcf)
    clear hE h1 hcf hgood
    go_wp2_with fail
    go_ret
    exact ⟨rfl, HF.out⟩
  rw [if_neg (by simpa using hE)] at hCE2
  rw [hE]
  clear hE
  have q2 := h1.box.cell 2
  simp [boxCells] at q2
  have hm : MapAt w1 nb d.names := h1.names
  rcases hi : nget d.names a with _ | i
  · rw [hi, if_pos (by rfl)] at hCE2
    subst hCE2
    rw [if_pos (by decide)] at hCD
    subst hCD
    have HF := hd (DkOut.same ⟨_, _, _, _, _, h1⟩ hcf)
    clear hgood h1 hcf
    go_wp2_with (at_lookup; refine wpLook rfl _ _ rfl nb _ a rfl rfl hm hal ?_; rw [hi]; dsimp only [Option.getD_none, Option.isSome_none])
    go_ret
    exact ⟨rfl, HF.out⟩
  rw [hi, if_neg (by simp)] at hCE2
  rw [hi] at hCD
  have hil : i < (opD d).files.length := hgood.named _ (nget_some_mem hi)
  have hchg := change_any h1 a s i hal hsl (Nat.le_of_lt hil) (fun _ => hil) (by have := hgood.nnames; show (d.names.length : Int) + 1 ≤ d.ops + 1; omega) (by have := hgood.nchanges; show (d.sure.length + d.changes.length : Int) + 1 ≤ d.ops + 1; omega)
  have hchk : ∀ wx, Chg [] w1 wx → Calls Try.prog 62 #[.pointer (some ⟨b, 0, none⟩), .agg #[.string (strB a), .string (strB s), .int .i64 (i : Int)]] wx fun e w' =>
      e = .returned (.tuple #[]) ∧ DkOut wx fp b (changeD (opD d) (a, s, i)) w' := fun wx hx => change_any (h1.k hx) a s i hal hsl (Nat.le_of_lt hil) (fun _ => hil) (by have := hgood.nnames; show (d.names.length : Int) + 1 ≤ d.ops + 1; omega) (by have := hgood.nchanges; show (d.sure.length + d.changes.length : Int) + 1 ≤ d.ops + 1; omega)
  have HCH := hd hchk
  have H1 := hd h1
  have HCF := hd hcf
  have HI := hd hi
  clear hchg hchk h1 hcf hgood hil hi
  go_upto_region 7 with (at_lookup; refine wpLook rfl _ _ rfl nb _ a rfl rfl hm hal ?_; rw [HI.out]; dsimp only [Option.getD_some, Option.isSome_some])
  clear q2 hm HI
  go_wp2_with fail
  refine (name_any w1 s hsl).mono ?_
  rintro e w2 ⟨rfl, hc2⟩
  have H2 := hd (H1.out.k hc2)
  have HC2 := hd (HCF.out.trans hc2 (by simp))
  have HC02 := hd hc2
  clear hc2 HCF
  by_cases hn : nameD s = true
  case neg =>
    rw [if_pos hn] at hCE2
    subst hCE2
    rw [if_pos (by decide)] at hCD
    subst hCD
    have hnf : nameD s = false := by simpa using hn
    rw [hnf]
    clear hn hnf
    go_wp2_with fail
    go_ret
    exact ⟨rfl, DkOut.same ⟨_, _, _, _, _, H2.out⟩ HC2.out⟩
  rw [if_neg (by simpa using hn)] at hCE2
  subst hCE2
  rw [if_neg (by decide)] at hCD
  rw [hn]
  clear hn
  by_cases has : a = s
  · subst has
    rw [if_pos rfl] at hCD
    subst hCD
    go_wp2_with fail
    go_ret
    exact ⟨rfl, DkOut.same ⟨_, _, _, _, _, H2.out⟩ HC2.out⟩
  · rw [if_neg has] at hCD
    subst hCD
    have hne1 : (strB a == strB s) = false := by rw [strB_beq]; simpa using has
    have hne2 : (a == s) = false := by simpa using has
    have hch := HCH.out w2 HC02.out
    clear has HC02
    go_wp2_with fail
    refine (hch).mono ?_
    rintro e w3 ⟨rfl, h3⟩
    have HF := hd (h3.after HC2.out)
    clear hch h3
    go_wp2_with fail
    go_ret
    exact ⟨rfl, HF.out⟩
end Go.Proofs.Ytpoohpmcopjklaa

/- Segments that are removed, as plain data. -/
namespace Go.Proofs.Ytpoohpmcopjklaa
open Go.RowKit

theorem segB_inj8 : ∀ i, i < 8 → ∀ j, j < 8 → segB i = segB j → i = j := by decide
/-- The disk has the segments of T, and nothing is amiss. -/
structure Dj (T : List Nat) (d : Dsk) : Prop where
  off : d.off = false
  down : d.down = -1
  fail : d.fail = -1
  small : ∀ t ∈ T, t < 8
  nodup : T.Nodup
  keys : d.names.map (·.1) = T.map segB
theorem Dj.opE {T : List Nat} {d : Dsk} (h : Dj T d) : opE d = 0 := opE_of h.off h.down h.fail
theorem Dj.op {T : List Nat} {d : Dsk} (h : Dj T d) : Dj T (opD d) := ⟨by simp [opD, h.off, h.down], h.down, h.fail, h.small, h.nodup, h.keys⟩
theorem Dj.len {T : List Nat} {d : Dsk} (h : Dj T d) : d.names.length = T.length := by have := congrArg List.length h.keys; simpa using this
theorem nget_keys {es : Nm} {s : List UInt8} : (nget es s).isSome = decide (s ∈ es.map (·.1)) := by
  unfold nget
  rw [Option.isSome_map, Bool.eq_iff_iff, List.find?_isSome]
  simp
theorem Dj.get {T : List Nat} {d : Dsk} (h : Dj T d) {k : Nat} (hk : k < 8) : (nget d.names (segB k)).isSome = decide (k ∈ T) := by
  rw [nget_keys, h.keys, Bool.eq_iff_iff]
  simp only [decide_eq_true_eq, List.mem_map]
  constructor
  · rintro ⟨t, ht, e⟩
    rw [← segB_inj8 t (h.small t ht) k hk e]; exact ht
  · intro ht; exact ⟨k, ht, rfl⟩
theorem Dj.ndel {T : List Nat} {d : Dsk} (h : Dj T d) {k : Nat} (hk : k < 8) : (ndel d.names (segB k)).map (·.1) = (T.filter (· ≠ k)).map segB := by
  rw [ndel_keys, h.keys, List.filter_map]
  congr 1
  apply List.filter_congr
  intro t ht
  rw [Bool.eq_iff_iff]
  simp only [Function.comp, Bool.not_eq_true', beq_eq_false_iff_ne, ne_eq, decide_eq_true_eq]
  constructor
  · intro hne e; exact hne (by rw [e])
  · intro hne e; exact hne (segB_inj8 t (h.small t ht) k hk e)
theorem Dj.begin_ {T : List Nat} {d : Dsk} (h : Dj T d) {k : Nat} (hk : k < 8) (hn : k ∉ T) (hl : T.length < 64) :
    beginE d (segB k) = 0 ∧ Dj (T ++ [k]) (beginD d (segB k)) ∧ (beginD d (segB k)).sure = (beginD d (segB k)).names ∧ (beginD d (segB k)).changes = [] ∧ (beginD d (segB k)).ops = d.ops + 2 := by
  have hg : (nget d.names (segB k)).isSome = false := by rw [h.get hk, decide_eq_false hn]
  have hC : createE d (segB k) = 0 := by
    unfold createE
    rw [h.opE, hg, h.len, if_neg (by decide), if_neg (by simp [nameD_seg k]), if_neg (by decide), if_neg (by omega)]
  have hne : segB k ≠ [] := by intro e; have := congrArg List.length e; rw [segB_length] at this; simp at this
  have hd1 : Dj (T ++ [k]) (createD d (segB k)) ∧ (createD d (segB k)).ops = d.ops + 1 := by
    unfold createD
    rw [hC, if_neg (by decide)]
    have ho := h.op
    refine ⟨⟨ho.off, ho.down, ho.fail, fun t ht => ?_, ?_, ?_⟩, rfl⟩
    · rcases List.mem_append.1 ht with ht | ht
      · exact h.small t ht
      · obtain rfl : t = k := by simpa using ht
        exact hk
    · rw [List.nodup_append]; exact ⟨h.nodup, by simp, fun a ha b hb => by simp at hb; subst hb; exact fun e => hn (e ▸ ha)⟩
    · show ((turnD d.names ([], segB k, d.files.length)).map (·.1)) = _
      unfold turnD
      simp only [if_true, if_neg hne]
      unfold nput
      rw [List.map_append, h.ndel hk, List.map_append, List.filter_eq_self.2 (fun t ht => by simpa using fun e : t = k => hn (e ▸ ht))]
      rfl
  unfold beginE beginD
  rw [if_pos hC, if_pos hC]
  unfold dirSyncD
  rw [hd1.1.opE, if_neg (by decide)]
  have ho := hd1.1.op
  exact ⟨rfl, ⟨ho.off, ho.down, ho.fail, ho.small, ho.nodup, ho.keys⟩, rfl, rfl, by show (createD d (segB k)).ops + 1 = _; rw [hd1.2]; omega⟩
theorem Dj.remove {T : List Nat} {d : Dsk} (h : Dj T d) {k : Nat} (hk : k < 8) :
    removeE d (segB k) = (if k ∈ T then 0 else 4) ∧ Dj (if k ∈ T then T.filter (· ≠ k) else T) (removeD d (segB k)) ∧ (removeD d (segB k)).ops = d.ops + 1 := by
  have hg := h.get hk
  have hne : segB k ≠ [] := by intro e; have := congrArg List.length e; rw [segB_length] at this; simp at this
  have hE : removeE d (segB k) = (if k ∈ T then 0 else 4) := by
    unfold removeE
    rw [h.opE, if_neg (by decide)]
    by_cases hm : k ∈ T
    · rw [decide_eq_true hm] at hg
      rw [if_pos hm, if_neg]
      rw [Option.isNone_iff_eq_none]; intro e; rw [e] at hg; cases hg
    · rw [decide_eq_false hm] at hg
      rw [if_neg hm, if_pos]
      rw [Option.isNone_iff_eq_none]; simpa using hg
  refine ⟨hE, ?_⟩
  unfold removeD
  rw [hE]
  have ho := h.op
  by_cases hm : k ∈ T
  · simp only [if_pos hm]
    rw [if_neg (by decide)]
    refine ⟨⟨ho.off, ho.down, ho.fail, fun t ht => h.small t (List.mem_filter.1 ht).1, h.nodup.filter _, ?_⟩, rfl⟩
    show ((turnD d.names (segB k, [], 0)).map (·.1)) = _
    unfold turnD
    simp only [if_true, if_neg hne]
    exact h.ndel hk
  · simp only [if_neg hm]
    rw [if_pos (by decide)]
    exact ⟨ho, rfl⟩
def rmsJ : Dsk → List Nat → Int × Dsk
  | d, [] => (0, d)
  | d, k :: ks => if removeE d (segB k) = 0 then rmsJ (removeD d (segB k)) ks else (removeE d (segB k), removeD d (segB k))
def remJ (d : Dsk) (ks : List Nat) : Int × Dsk := if (rmsJ d ks).1 ≠ 0 then rmsJ d ks else if ks = [] then (0, d) else (opE (rmsJ d ks).2, dirSyncD (rmsJ d ks).2)
theorem rmsJ_snoc (k : Nat) : ∀ (ks : List Nat) (d : Dsk), (rmsJ d ks).1 = 0 → rmsJ d (ks ++ [k]) = if removeE (rmsJ d ks).2 (segB k) = 0 then (0, removeD (rmsJ d ks).2 (segB k)) else (removeE (rmsJ d ks).2 (segB k), removeD (rmsJ d ks).2 (segB k))
  | [], d, _ => rfl
  | j :: ks, d, h => by
    simp only [List.cons_append, rmsJ] at h ⊢
    by_cases hj : removeE d (segB j) = 0
    · simp only [if_pos hj] at h ⊢
      exact rmsJ_snoc k ks _ h
    · simp only [if_neg hj] at h
      exact absurd h hj
theorem rmsJ_stop (r : List Nat) : ∀ (ks : List Nat) (d : Dsk), (rmsJ d ks).1 ≠ 0 → rmsJ d (ks ++ r) = rmsJ d ks
  | [], d, h => by simp [rmsJ] at h
  | j :: ks, d, h => by
    simp only [List.cons_append, rmsJ] at h ⊢
    by_cases hj : removeE d (segB j) = 0
    · simp only [if_pos hj] at h ⊢
      exact rmsJ_stop r ks _ h
    · simp only [if_neg hj]
theorem ops_remove (d : Dsk) (s : List UInt8) : (removeD d s).ops = d.ops + 1 := by unfold removeD; split <;> rfl
theorem rmsJ_ops : ∀ (ks : List Nat) (d : Dsk), (rmsJ d ks).2.ops ≤ d.ops + ks.length
  | [], d => by simp [rmsJ]
  | k :: ks, d => by
    simp only [rmsJ]
    split
    · have := rmsJ_ops ks (removeD d (segB k))
      rw [ops_remove] at this
      simp only [List.length_cons]
      omega
    · simp only [ops_remove, List.length_cons]; omega
/-- What the law says of the numbers. -/
def wantT : List Nat → List Nat → Int × List Nat
  | T, [] => (0, T)
  | T, k :: ks => if k ∈ T then wantT (T.filter (· ≠ k)) ks else (4, T)
theorem wantT_snoc (k : Nat) : ∀ (ks T : List Nat), wantT T (ks ++ [k]) = if (wantT T ks).1 = 0 then (if k ∈ (wantT T ks).2 then (0, (wantT T ks).2.filter (· ≠ k)) else (4, (wantT T ks).2)) else wantT T ks
  | [], T => by simp [wantT]
  | j :: ks, T => by
    simp only [List.cons_append, wantT]
    by_cases hj : j ∈ T
    · simp only [if_pos hj]; exact wantT_snoc k ks _
    · simp only [if_neg hj]; rw [if_neg (by decide)]
theorem Dj.rms : ∀ (ks T : List Nat) (d : Dsk), Dj T d → (∀ k ∈ ks, k < 8) → (rmsJ d ks).1 = (wantT T ks).1 ∧ Dj (wantT T ks).2 (rmsJ d ks).2
  | [], T, d, h, _ => ⟨rfl, h⟩
  | k :: ks, T, d, h, hk => by
    obtain ⟨h1, h2, -⟩ := h.remove (hk k (by simp))
    simp only [rmsJ, wantT]
    by_cases hm : k ∈ T
    · rw [if_pos hm] at h1 h2
      rw [if_pos h1, if_pos hm]
      exact Dj.rms ks _ _ h2 (fun j hj => hk j (by simp [hj]))
    · rw [if_neg hm] at h1 h2
      rw [if_neg (by rw [h1]; decide), if_neg hm]
      exact ⟨h1, h2⟩
theorem Dj.crash {T : List Nat} {d : Dsk} (h : Dj T d) (h1 : d.sure = d.names) (h2 : d.changes = []) : Dj T (crashD d 0 []) ∧ (crashD d 0 []).ops = d.ops := by
  have hnm : (d.changes.take (min (max 0 0) (d.changes.length : Int)).toNat).foldl turnD d.sure = d.names := by rw [h2, h1]; simp
  unfold crashD
  rw [hnm]
  refine ⟨⟨rfl, rfl, rfl, h.small, h.nodup, ?_⟩, rfl⟩
  show (movedN d.names).map (·.1) = _
  unfold movedN
  rw [List.map_map]
  exact h.keys
theorem Dj.remJ {T : List Nat} {d : Dsk} (h : Dj T d) (ks : List Nat) (hk : ∀ k ∈ ks, k < 8) (hs : d.sure = d.names ∧ d.changes = []) :
    (remJ d ks).1 = (wantT T ks).1 ∧ Dj (wantT T ks).2 (remJ d ks).2 ∧ ((wantT T ks).1 = 0 → (remJ d ks).2.sure = (remJ d ks).2.names ∧ (remJ d ks).2.changes = []) ∧ (ks = [] → (remJ d ks).2.ops = d.ops) ∧ (remJ d ks).2.ops ≤ d.ops + ks.length + 1 := by
  obtain ⟨h1, h2⟩ := Dj.rms ks T d h hk
  have ho := rmsJ_ops ks d
  unfold Go.Proofs.Ytpoohpmcopjklaa.remJ
  by_cases he : (rmsJ d ks).1 = 0
  · rw [if_neg (by simpa using he)]
    by_cases hn : ks = []
    · subst hn
      rw [if_pos rfl]
      exact ⟨rfl, h, fun _ => hs, fun _ => rfl, by simp; omega⟩
    · rw [if_neg hn]
      have hE := h2.opE
      refine ⟨by rw [← h1, he]; exact hE, ?_, fun _ => ?_, fun e => absurd e hn, ?_⟩
      · unfold dirSyncD
        rw [if_neg (by rw [hE]; decide)]
        have hop := h2.op
        exact ⟨hop.off, hop.down, hop.fail, hop.small, hop.nodup, hop.keys⟩
      · unfold dirSyncD
        rw [if_neg (by rw [hE]; decide)]
        exact ⟨rfl, rfl⟩
      · unfold dirSyncD
        rw [if_neg (by rw [hE]; decide)]
        show (rmsJ d ks).2.ops + 1 ≤ _
        omega
  · rw [if_pos he]
    refine ⟨h1, h2, fun e => absurd (h1.trans e) he, fun e => ?_, by omega⟩
    subst e
    exact absurd rfl he
end Go.Proofs.Ytpoohpmcopjklaa

/- journal.Remove. -/
namespace Go.Proofs.Ytpoohpmcopjklaa
open Go.RowKit

variable {w w' : World} {fp : List Nat} {b : Nat} {d : Dsk}

set_option maxHeartbeats 1000000 in
theorem JRemove_any (h : Dk w fp b d) (v : Value) (ks : List Nat) (hv : Fs w v (ks.map Int.ofNat)) (hk8 : ∀ k ∈ ks, k < 8) (hvf : 0 < ks.length → ∀ k, v.ownBlock = some k → k ∉ fp) (hl : ks.length ≤ 1000) (hops : d.ops ≤ 1000000) :
    Calls Try.prog 29 #[.pointer (some ⟨b, 0, none⟩), v] w fun e w' => e = .returned (.int .i64 (remJ d ks).1) ∧ DkOut w fp b (remJ d ks).2 w' := by
  have hlen : (ks.map Int.ofNat).length = ks.length := List.length_map _
  obtain ⟨ao, cap, bv, off, rfl, -, -, -, hao, hel⟩ := hv.open
  have hel' : ∀ j (h : j < ks.length), w.cell? ⟨bv, off + j, none⟩ = some (.int .i64 (Int.ofNat ks[j])) := fun j h => by
    have := hel j (by rw [hlen]; exact h)
    rwa [List.getElem_map] at this
  clear hel hv
  rw [hlen] at hao hvf ⊢
  obtain ⟨R, hR⟩ : ∃ R, remJ d ks = R := ⟨_, rfl⟩
  rw [hR]
  have HR := hd hR
  have HEL := hd hel'
  have H := hd h
  clear hR hlen hel' h
  go_enter Try.func29, Try.ntmps29
  go_wp2_with fail
  go_loopw [6, 7, 10] (fun _ _ t10 wr => ∃ i : Nat, i ≤ ks.length ∧ t10 = .int .i64 i ∧ Hd ((rmsJ d (ks.take i)).1 = 0) ∧ Hd (DkOut w fp b (rmsJ d (ks.take i)).2 wr)) (fun _ _ t10 _ => ks.length - (intOf t10).toNat)
  case atStart => exact ⟨0, by omega, rfl, hd rfl, hd (DkOut.same H.out (Chg.refl _ _))⟩
  case round =>
    obtain ⟨i, hi, rfl, hz, hD⟩ := hrel
    by_cases hlt : i < ks.length
    · have hlti : (i : Int) < (ks.length : Int) := by omega
      obtain rfl := hao (by omega)
      have hc0 := HEL.out i hlt
      have hbn : bv ∉ fp := hvf (by omega) bv rfl
      have hk := hk8 _ (List.getElem_mem hlt)
      have hsn := rmsJ_snoc ks[i] (ks.take i) d hz.out
      have htk : ks.take (i + 1) = ks.take i ++ [ks[i]] := by rw [List.take_succ_eq_append_getElem hlt]
      have hst : (rmsJ d (ks.take (i + 1))).1 ≠ 0 → R = rmsJ d (ks.take (i + 1)) := fun hne => by
        have h1 := rmsJ_stop (ks.drop (i + 1)) (ks.take (i + 1)) d hne
        rw [List.take_append_drop] at h1
        rw [← HR.out]
        unfold remJ
        rw [if_pos (by rw [h1]; exact hne), h1]
      rw [← htk] at hsn
      have hop := rmsJ_ops (ks.take i) d
      rw [List.length_take] at hop
      obtain ⟨fpx, hkx, hcx, hgx⟩ := hD.out
      have q0 := hcx.cellT hc0 hbn
      generalize ks[i]'hlt = K at *
      have hkc : Int.ofNat K = (K : Int) := rfl
      rw [hkc] at q0
      have HSN := hd hsn
      have HST := hd hst
      have HTK := hd htk
      generalize rmsJ d (ks.take i) = P at *
      have hops2 : P.2.ops < 1073741824 := by omega
      clear hc0 hsn hst hD htk hop hkc
      go_wp2_with fail
      refine (Segment_any wr K (by omega)).mono ?_
      rintro e w1 ⟨rfl, hc1⟩
      have hrm := Remove_any (hkx.k hc1) (segB K) (by rw [segB_length]; decide) hops2
      replace hcx := hcx.trans hc1 (by simp)
      clear hc1 hkx q0
      go_wp2_with fail
      refine (hrm).mono ?_
      rintro e w2 ⟨rfl, h2⟩
      have H2 := hd (h2.chain hcx hgx)
      clear hrm h2 hcx hgx
      by_cases hE : removeE P.2 (segB K) = 0
      · rw [hE]
        have hs := HSN.out
        rw [if_pos hE] at hs
        have HS := hd hs
        clear hs hE
        go_wp2_with fail
        go_roundw
        case rel => exact ⟨i + 1, by omega, by go_num, hd (by rw [HS.out]), hd (by rw [HS.out]; exact H2.out)⟩
        case measure => simp [intOf]; omega
      · have hs := HSN.out
        rw [if_neg hE] at hs
        have hRR := HST.out (by rw [hs]; exact hE)
        rw [hs] at hRR
        have hE' : (removeE P.2 (segB K) == 0) = false := by simpa using hE
        clear hs hE
        subst hRR
        go_wp2_with fail
        go_ret
        exact ⟨rfl, H2.out⟩
    · obtain rfl : i = ks.length := by omega
      have hz' := hz.out
      have hD' := hD.out
      rw [List.take_length] at hz' hD'
      have hop := rmsJ_ops ks d
      have hRR := HR.out
      unfold remJ at hRR
      rw [if_neg (by simpa using hz')] at hRR
      by_cases h0 : ks.length = 0
      · have hk0 : ks = [] := List.length_eq_zero_iff.1 h0
        subst hk0
        rw [if_pos rfl] at hRR
        subst hRR
        have HD := hd hD'
        clear hz' hD' hop h0 hz hD
        go_wp2_with fail
        go_ret
        exact ⟨rfl, HD.out⟩
      · have h0' : ((ks.length : Int) == 0) = false := by rw [beq_eq_false_iff_ne]; omega
        rw [if_neg (fun e => h0 (by rw [e]; rfl))] at hRR
        subst hRR
        obtain ⟨fpx, hkx, hcx, hgx⟩ := hD'
        have hds := DirSync_any hkx (by omega)
        clear hz hD hz' hop h0 hkx
        go_wp2_with fail
        refine (hds).mono ?_
        rintro e w2 ⟨rfl, h2⟩
        have H2 := hd (h2.chain hcx hgx)
        clear h2 hds hcx hgx
        go_wp2_with fail
        go_ret
        exact ⟨rfl, H2.out⟩
end Go.Proofs.Ytpoohpmcopjklaa

/- Maps of a call's own with int keys, as functions. -/
namespace Go.Proofs.Ytpoohpmcopjklaa
open Go.RowKit

theorem intKeyed : Maps.Keyed Try.prog 3 := Maps.int_keyed undInt
theorem undMapII : Try.prog.underlying 54 = some (.map 3 3) := by kernel_rfl
theorem undMapIB : Try.prog.underlying 138 = some (.map 3 4) := by kernel_rfl
theorem undBool : Try.prog.underlying 4 = some .bool := by kernel_rfl
theorem zeroBool (w : World) : (zeroValue 4).run Try.prog w = .ok (.bool false) w := by kernel_rfl
/-- Block b is a map from ints that says f, and z where it holds nothing; at most n entries. -/
def MapF (w : World) (et : TypeId) (b n : Nat) (z : Lit) (f : Int → Lit) : Prop :=
  ∃ D : DataW Unit, w.ownsMap Try.prog 3 (plainElem Try.prog et) b n D ∧ Maps.IsMap D ∧ ∀ i : Int, D.atKey (.int .i64 i) (.lit z) = .lit (f i)
theorem MapF.lt {w : World} {et : TypeId} {b n : Nat} {z : Lit} {f : Int → Lit} (h : MapF w et b n z f) : b < w.heap.size := let ⟨_, h1, _⟩ := h; h1.lt
theorem MapF.block {w w' : World} {et : TypeId} {b n : Nat} {z : Lit} {f : Int → Lit} (h : MapF w et b n z f) (hc : w'.heap[b]? = w.heap[b]?) : MapF w' et b n z f := by
  obtain ⟨D, ⟨xs, clock, hb, r⟩, hr⟩ := h
  exact ⟨D, ⟨xs, clock, hc.trans hb, r⟩, hr⟩
theorem MapF.chg {S : List Nat} {w w' : World} {et : TypeId} {b n : Nat} {z : Lit} {f : Int → Lit} (h : MapF w et b n z f) (hc : Chg S w w') (hn : b ∉ S) : MapF w' et b n z f := h.block (hc.block b h.lt hn)
theorem MapF.k {w w' : World} {et : TypeId} {b n : Nat} {z : Lit} {f : Int → Lit} (h : MapF w et b n z f) (hc : Chg [] w w') : MapF w' et b n z f := h.chg hc (by simp)
theorem MapF.heap {w : World} {et : TypeId} {b n : Nat} {z : Lit} {f : Int → Lit} (h : MapF w et b n z f) : ∃ xs c, w.heap[b]? = some (.map xs c) := by
  obtain ⟨_, ⟨xs, c, hb, _⟩, _⟩ := h; exact ⟨xs, c, hb⟩
theorem MapF.apartRow {w : World} {et : TypeId} {b n : Nat} {z : Lit} {f : Int → Lit} (h : MapF w et b n z f) {base : Nat} {e : TypeId} {size m : Nat} {v : Value} {xs : List Value} (hr : w.ownsRow base e size v m xs) : v.ownBlock ≠ some b := by
  intro he
  obtain ⟨ys, c, hx⟩ := h.heap
  rcases hr.2 with ⟨rfl, _⟩ | ⟨g, cap, cur, rfl, _, hg, _⟩
  · simp [Value.ownBlock] at he
  · simp only [Value.ownBlock, Option.some.injEq] at he
    subst he
    rw [hx] at hg
    simp at hg
theorem MapF.grown {w w' : World} {row : Option Nat} {et : TypeId} {b n : Nat} {z : Lit} {f : Int → Lit} (h : MapF w et b n z f) (hg : w.grownBy w' row) (hn : some b ≠ row) : MapF w' et b n z f := h.block (hg.block b h.lt hn)
theorem MapF.alloc {w : World} {et : TypeId} {b n : Nat} {z : Lit} {f : Int → Lit} (h : MapF w et b n z f) (o : Obj) : MapF (w.alloc o) et b n z f := h.k ((Chg.refl _ _).alloc o)
theorem MapF.new (w : World) (et : TypeId) (z : Lit) : MapF (w.alloc (.map #[] 0)) et w.heap.size 0 z (fun _ => z) := ⟨.map [], World.ownsMap_made w _ _ _, Maps.isMap_empty, fun _ => rfl⟩
theorem keyInt {i : Int} (h : (Lit.int .i64 i).wf = true) : keyOf Try.prog 3 (.int .i64 i) = some (.int .i64 i) := Maps.keyOf_int_mk undInt h
theorem int_ne {a b : Int} (h : a ≠ b) : (Lit.int .i64 a) ≠ Lit.int .i64 b := fun e => h (by injection e)
/-- 'm[k]' of ints. -/
theorem run_lookII {w : World} {b n : Nat} {f : Int → Lit} (h : MapF w 3 b n (.int .i64 0) f) {i : Int} (hi : (Lit.int .i64 i).wf = true) :
    ∃ c, (Instr.lookup 54 (.map (some b)) (.int .i64 i) false).run Try.prog w = .ok (.int .i64 c) w ∧ f i = .int .i64 c := by
  obtain ⟨D, hown, -, hat⟩ := h
  obtain ⟨c, hrun, hc, -⟩ := hown.lookup_int intKeyed undMapII undInt (zeroInt w) (keyInt hi)
  refine ⟨c, hrun, ?_⟩
  rw [hat] at hc
  simpa using hc
/-- 'm[k] = v' of ints, of bools. -/
theorem run_putF {w : World} {t et : TypeId} {b n : Nat} {z : Lit} {f : Int → Lit} (ht : Try.prog.underlying t = some (.map 3 et)) (h : MapF w et b n z f) (hn : n < maxLen) {i : Int} (hi : (Lit.int .i64 i).wf = true) {v : Value} {l : Lit} (hv : plainElem (H := Unit) Try.prog et v = some (.lit l, [])) :
    ∃ w', (Instr.mapUpdate t (.map (some b)) (.int .i64 i) v).run Try.prog w = .ok () w' ∧ MapF w' et b (n + 1) z (fun j => if j = i then l else f j) ∧ w.grownBy w' (some b) := by
  obtain ⟨D, hown, hm, hat⟩ := h
  obtain ⟨w', hrun, h1, h2⟩ := hown.update intKeyed ht hn (keyInt hi) hv
  refine ⟨w', hrun, ⟨_, h1, hm.put _ _, fun j => ?_⟩, h2⟩
  by_cases hj : j = i
  · subst hj; rw [Maps.atKey_put_same hm (intKeyed.key (keyInt hi))]; simp
  · simp only [if_neg hj]; rw [Maps.atKey_put_other (int_ne hj), hat]
theorem wpPutF {w : World} {ops : Array Oper} {rest : List Oper} {o : Oper} {a : Act} {Q : Exit → Act → World → Prop} (hg : o.guard = none) (hdst : o.dst = none) (m x v : Operand) (t et : TypeId) (hop : o.op = Op.mapUpdate t m x v) (ht : Try.prog.underlying t = some (.map 3 et))
    (b n : Nat) (z : Lit) (f : Int → Lit) (h : MapF w et b n z f) (hm : a.eval m = .map (some b)) (hn : n < maxLen) (i : Int) (hi : (Lit.int .i64 i).wf = true) (val : Value) (l : Lit) (hx : a.eval x = .int .i64 i) (hv : a.eval v = val) (hp : plainElem (H := Unit) Try.prog et val = some (.lit l, []))
    (hK : ∀ w', MapF w' et b (n + 1) z (fun j => if j = i then l else f j) → w.grownBy w' (some b) → wpList Try.prog ops Q rest a w') : wpList Try.prog ops Q (o :: rest) a w := by
  refine wpList_plain hg fun K' hK' => ?_
  obtain ⟨w', hrun, h1, h2⟩ := run_putF ht h hn hi hp
  unfold Oper.wp
  simp [execOp, hop, hm, hx, hv, hrun, Result.andThen]
  have e : a.put o.dst undef = a := by rw [hdst]; rfl
  exact hK' (a.put o.dst undef) w' (by rw [e]; exact hK w' h1 h2)
/-- 'm[k]' of bools. -/
theorem run_lookIB {w : World} {b n : Nat} {f : Int → Lit} (h : MapF w 4 b n (.bool false) f) {i : Int} (hi : (Lit.int .i64 i).wf = true) {x : Bool} (hx : f i = .bool x) :
    (Instr.lookup 138 (.map (some b)) (.int .i64 i) false).run Try.prog w = .ok (.bool x) w := by
  obtain ⟨D, hown, -, hat⟩ := h
  obtain ⟨v, ps, hrun, hv⟩ := hown.lookup intKeyed undMapIB (zeroBool w) (plainElem_bool undBool false) (keyInt hi)
  rw [hat, hx] at hv
  have : v = .bool x := by
    unfold plainElem at hv
    rw [undBool] at hv
    cases v <;> simp at hv
    rw [hv.1]
  rw [hrun, this]
end Go.Proofs.Ytpoohpmcopjklaa
