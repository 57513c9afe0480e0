/- bagatellelaw19.like. -/
import Derived.Test.YtdmokfplkhmijaaJFit
import Derived.Deep.Cut
namespace Go.Proofs.Ytdmokfplkhmijaa
open Go.RowKit

set_option maxRecDepth 100000 in
set_option maxHeartbeats 4000000 in
theorem like_any (w : World) (v1 : Value) (rs : List RecV) (base : Nat) (v2 : Value) (ps : List (Int × List UInt8)) (h1 : RecL w base v1 rs) (h2 : Rds EPart 2 w v2 ps) :
    Calls Try.prog 24 #[v1, v2] w fun e w' => e = .returned (.bool (decide (rs.map bare = numsR ps))) ∧ Chg [] w w' := by
  obtain ⟨ao1, cap1, rfl⟩ := h1.form
  obtain ⟨ao0, cap0, rfl⟩ := h2.form
  have H0 := hd h2
  have HR := hd h1
  clear h1 h2
  obtain ⟨R, hR⟩ : ∃ R, decide (rs.map bare = numsR ps) = R := ⟨_, rfl⟩
  have HD := hd hR
  rw [hR]
  clear hR
  go_enter Try.func24, Try.ntmps24
  by_cases hln : rs.length = ps.length
  case neg =>
    have hRf : R = false := by
      rw [← HD.out, decide_eq_false]
      intro e
      have := congrArg List.length e
      simp [numsR] at this
      exact hln this
    subst hRf
    have hln' : ((rs.length : Int) == (ps.length : Int)) = false := by simp; omega
    go_wp2_with fail
    go_ret
    exact ⟨rfl, Chg.refl _ _⟩
  have HLN := hd hln
  rw [hln]
  clear hln
  go_wp2_with fail
  go_loopw [5, 6, 14] (fun _ _ t wi => ∃ i : Nat, i ≤ ps.length ∧ t = .int .i64 i ∧ (rs.map bare).take i = (numsR ps).take i ∧ Chg [] w wi) (fun _ _ t _ => ps.length - (intOf t).toNat)
  case atStart => exact ⟨0, by omega, rfl, by simp, Chg.refl _ _⟩
  case round =>
    obtain ⟨i, hi, rfl, heq, hci⟩ := hrel
    have HEQ := hd heq
    clear heq
    by_cases hil : i < ps.length
    · obtain ⟨bR, capR, hvR, hatR⟩ := HR.out.at (by rw [HLN.out]; omega)
      rw [HLN.out] at hvR
      simp only [Value.slice.injEq, true_and] at hvR
      obtain ⟨rfl, rfl⟩ := hvR
      have hir : i < rs.length := by rw [HLN.out]; exact hil
      obtain ⟨aop, cp, -, r0, r1, hbp⟩ := hatR i hir
      have hg1 : (rs.map bare).take (i + 1) = (rs.map bare).take i ++ [bare rs[i]] := by
        rw [List.take_succ_eq_append_getElem (by simpa using hir)]; simp
      have hg2 := numsR_snoc ps i hil
      have hgi : (rs.map bare)[i]? = some (bare rs[i]) := by rw [List.getElem?_map, List.getElem?_eq_getElem hir]; rfl
      have hgn : (numsR ps)[i]? = some (ps[i].1 % 4611686018427387904, ps[i].2) := by unfold numsR; rw [List.getElem?_map, List.getElem?_eq_getElem hil]; rfl
      have hne : bare rs[i] ≠ (ps[i].1 % 4611686018427387904, ps[i].2) → R = false := by
        intro hx
        rw [← HD.out, decide_eq_false]
        intro e
        rw [e, hgn] at hgi
        exact hx (by simpa using hgi.symm)
      have hok : bare rs[i] = (ps[i].1 % 4611686018427387904, ps[i].2) → (rs.map bare).take (i + 1) = (numsR ps).take (i + 1) := by
        intro hx
        rw [hg1, hg2, HEQ.out, hx]
      have HNE := hd hne
      have HOK := hd hok
      clear hg1 hg2 hgi hgn hne hok
      generalize rs[i]'hir = ri at *
      obtain ⟨rn, rv, rp⟩ := ri
      simp only at r0 r1 hbp
      obtain ⟨b0, off0, capx, hv, hpc, hpm, hel⟩ := H0.out.at (by omega)
      have hpl : ps.length ≤ 9223372036854775807 := by unfold maxLen at hpm; omega
      simp only [Value.slice.injEq, true_and] at hv
      obtain ⟨rfl, rfl⟩ := hv
      obtain ⟨c, ⟨u, rfl, hbu, nlo, nhi, hll⟩, -, hcell⟩ := hel i hil
      have q0 := Chg.cellS hci (hcell 0 (by decide))
      have q1 := Chg.cellS hci (hcell 1 (by decide))
      simp at q0 q1
      obtain ⟨aou, cu, bu, ou, rfl, -⟩ := hbu.open
      replace hbu := hbu.k hci
      replace hbp := hbp.k hci
      replace r0 := hci.cellS r0
      replace r1 := hci.cellS r1
      clear hel hcell hatR
      generalize ps[i] = X at *
      obtain ⟨xn, xp⟩ := X
      simp only at q0 q1 hbu nlo nhi hll
      go_upto_region 6 with (fail)
      have hk14 := Blk.new wr #[.int .i64 rn, .slice aop rp.length cp] 80
      have hcA := (Chg.refl [] wr).alloc (.cells #[.int .i64 rn, .slice aop rp.length cp] 80)
      replace q0 := hcA.cellS q0
      replace q1 := hcA.cellS q1
      replace hci := hci.k hcA
      replace hbu := hbu.k hcA
      replace hbp := hbp.k hcA
      generalize wr.alloc (.cells #[.int .i64 rn, .slice aop rp.length cp] 80) = wj at *
      have q2 := hk14.cell 0
      have q3 := hk14.cell 1
      simp at q2 q3
      have Q0 := hd q0
      have Q1 := hd q1
      have Q2 := hd q2
      have Q3 := hd q3
      have HBU := hd hbu.strs
      have HBP := hd hbp.strs
      clear q0 q1 q2 q3 hbu hbp hcA hk14 r0 r1
      obtain ⟨m, hm⟩ : ∃ m, m = xn % 4611686018427387904 := ⟨_, rfl⟩
      have HM := hd hm
      clear hm
      by_cases hn : rn = m
      · by_cases hp : rp = xp
        · have hx := HOK.out (by rw [← HM.out]; exact Prod.ext hn hp)
          have HX := hd hx
          subst hn hp
          clear hx
          refine anyH_start (n := 21) (L := #[false, false, false, false, false, false, false, false, false, false, false, false, false, false, false, false, false, false, false, false, false]) (by kernel_rfl) (by kernel_rfl) (S := (fun wx => Chg [] wj wx)) ((Chg.refl _ _).drew) (fun hHeld => ?_)
          refine anyH_take (i := 0) (d := 19) (L' := #[true, false, false, false, false, false, false, false, false, false, false, false, false, false, false, false, false, false, false, false, false]) (v := ?v3) rfl rfl (by kernel_rfl) (fun _ _ _ h => h) (by rfl) ?hy3 (by assumption) ?rest3
          case hy3 => (intro wx hSw; (try dsimp only at hSw); (have t0 := Chg.cellS hSw Q0.out; have t1 := Chg.cellS hSw Q1.out; have t2 := Chg.cellS hSw Q2.out; have t3 := Chg.cellS hSw Q3.out); go_simp; (try with_reducible rfl))
          simp only [Act.put, List.setIfInBounds_toArray, List.set_cons_zero, List.set_cons_succ]
          refine anyH_take (i := 1) (d := 20) (L' := #[true, true, false, false, false, false, false, false, false, false, false, false, false, false, false, false, false, false, false, false, false]) (v := ?v4) rfl rfl (by kernel_rfl) (fun _ _ _ h => h) (by rfl) ?hy4 (by assumption) ?rest4
          case hy4 => (intro wx hSw; (try dsimp only at hSw); (have t0 := Chg.cellS hSw Q0.out; have t1 := Chg.cellS hSw Q1.out; have t2 := Chg.cellS hSw Q2.out; have t3 := Chg.cellS hSw Q3.out); go_simp; (try with_reducible rfl))
          simp only [Act.put, List.setIfInBounds_toArray, List.set_cons_zero, List.set_cons_succ]
          refine anyH_take (i := 2) (d := 21) (L' := #[true, true, true, false, false, false, false, false, false, false, false, false, false, false, false, false, false, false, false, false, false]) (v := ?v5) rfl rfl (by kernel_rfl) (fun _ _ _ h => h) (by rfl) ?hy5 (by assumption) ?rest5
          case hy5 => (intro wx hSw; (try dsimp only at hSw); (have t0 := Chg.cellS hSw Q0.out; have t1 := Chg.cellS hSw Q1.out; have t2 := Chg.cellS hSw Q2.out; have t3 := Chg.cellS hSw Q3.out); go_simp; (try with_reducible rfl))
          simp only [Act.put, List.setIfInBounds_toArray, List.set_cons_zero, List.set_cons_succ]
          refine anyH_take (i := 3) (d := 22) (L' := #[true, true, true, true, false, false, false, false, false, false, false, false, false, false, false, false, false, false, false, false, false]) (v := ?v6) rfl rfl (by kernel_rfl) (fun _ _ _ h => h) (by rfl) ?hy6 (by assumption) ?rest6
          case hy6 => (intro wx hSw; (try dsimp only at hSw); (have t0 := Chg.cellS hSw Q0.out; have t1 := Chg.cellS hSw Q1.out; have t2 := Chg.cellS hSw Q2.out; have t3 := Chg.cellS hSw Q3.out); go_simp; (try with_reducible rfl))
          simp only [Act.put, List.setIfInBounds_toArray, List.set_cons_zero, List.set_cons_succ]
          refine anyH_take (i := 4) (d := 23) (L' := #[true, true, true, true, true, false, false, false, false, false, false, false, false, false, false, false, false, false, false, false, false]) (v := ?v7) rfl rfl (by kernel_rfl) (fun _ _ _ h => h) (by rfl) ?hy7 (by assumption) ?rest7
          case hy7 => (intro wx hSw; (try dsimp only at hSw); (have t0 := Chg.cellS hSw Q0.out; have t1 := Chg.cellS hSw Q1.out; have t2 := Chg.cellS hSw Q2.out; have t3 := Chg.cellS hSw Q3.out); go_simp; (try with_reducible rfl))
          simp only [Act.put, List.setIfInBounds_toArray, List.set_cons_zero, List.set_cons_succ]
          refine anyH_take (i := 5) (d := 24) (L' := #[true, true, true, true, true, true, false, false, false, false, false, false, false, false, false, false, false, false, false, false, false]) (v := ?v8) rfl rfl (by kernel_rfl) (fun _ _ _ h => h) (by rfl) ?hy8 (by assumption) ?rest8
          case hy8 => (intro wx hSw; (try dsimp only at hSw); (have t0 := Chg.cellS hSw Q0.out; have t1 := Chg.cellS hSw Q1.out; have t2 := Chg.cellS hSw Q2.out; have t3 := Chg.cellS hSw Q3.out); go_simp; (try with_reducible rfl))
          simp only [Act.put, List.setIfInBounds_toArray, List.set_cons_zero, List.set_cons_succ]
          refine anyH_take (i := 6) (d := 25) (L' := #[true, true, true, true, true, true, true, false, false, false, false, false, false, false, false, false, false, false, false, false, false]) (v := ?v9) rfl rfl (by kernel_rfl) (fun _ _ _ h => h) (by rfl) ?hy9 (by assumption) ?rest9
          case hy9 => (intro wx hSw; (try dsimp only at hSw); (have t0 := Chg.cellS hSw Q0.out; have t1 := Chg.cellS hSw Q1.out; have t2 := Chg.cellS hSw Q2.out; have t3 := Chg.cellS hSw Q3.out); go_simp; (try with_reducible rfl))
          simp only [Act.put, List.setIfInBounds_toArray, List.set_cons_zero, List.set_cons_succ]
          refine anyH_run (i := 7) (L' := #[true, true, true, true, true, true, true, true, false, false, false, false, false, false, false, false, false, false, false, false, false]) rfl (by kernel_rfl) (by rfl) (fun KK hKK => ?_)
          go_simp
          (refine (number19_any _ _).mono ?_; rintro e wn ⟨rfl, rfl⟩; rw [← HM.out]; (try go_simp))
          refine hKK.out _ _ (by assumption) (fun hHeld => ?_)
          clear hKK KK
          try simp only [Act.put, List.setIfInBounds_toArray, List.set_cons_zero, List.set_cons_succ]
          refine anyH_run (i := 8) (L' := #[true, true, true, true, true, true, true, true, true, false, false, false, false, false, false, false, false, false, false, false, false]) rfl (by kernel_rfl) (by rfl) (fun KK hKK => ?_)
          go_simp
          (skip)
          refine hKK.out _ _ (by assumption) (fun hHeld => ?_)
          clear hKK KK
          try simp only [Act.put, List.setIfInBounds_toArray, List.set_cons_zero, List.set_cons_succ]
          refine anyH_run (i := 9) (L' := #[true, true, true, true, true, true, true, true, true, true, false, false, false, false, false, false, false, false, false, false, false]) rfl (by kernel_rfl) (by rfl) (fun KK hKK => ?_)
          go_simp
          (skip)
          refine hKK.out _ _ (by assumption) (fun hHeld => ?_)
          clear hKK KK
          try simp only [Act.put, List.setIfInBounds_toArray, List.set_cons_zero, List.set_cons_succ]
          refine anyH_take (i := 10) (d := 29) (L' := #[true, true, true, true, true, true, true, true, true, true, true, false, false, false, false, false, false, false, false, false, false]) (v := ?v13) rfl rfl (by kernel_rfl) (fun _ _ _ h => h) (by rfl) ?hy13 (by assumption) ?rest13
          case hy13 => (intro wx hSw; (try dsimp only at hSw); (have t0 := Chg.cellS hSw Q0.out; have t1 := Chg.cellS hSw Q1.out; have t2 := Chg.cellS hSw Q2.out; have t3 := Chg.cellS hSw Q3.out); go_simp; (try with_reducible rfl))
          simp only [Act.put, List.setIfInBounds_toArray, List.set_cons_zero, List.set_cons_succ]
          refine anyH_take (i := 11) (d := 30) (L' := #[true, true, true, true, true, true, true, true, true, true, true, true, false, false, false, false, false, false, false, false, false]) (v := ?v14) rfl rfl (by kernel_rfl) (fun _ _ _ h => h) (by rfl) ?hy14 (by assumption) ?rest14
          case hy14 => (intro wx hSw; (try dsimp only at hSw); (have t0 := Chg.cellS hSw Q0.out; have t1 := Chg.cellS hSw Q1.out; have t2 := Chg.cellS hSw Q2.out; have t3 := Chg.cellS hSw Q3.out); go_simp; (try with_reducible rfl))
          simp only [Act.put, List.setIfInBounds_toArray, List.set_cons_zero, List.set_cons_succ]
          refine anyH_take (i := 12) (d := 31) (L' := #[true, true, true, true, true, true, true, true, true, true, true, true, true, false, false, false, false, false, false, false, false]) (v := ?v15) rfl rfl (by kernel_rfl) (fun _ _ _ h => h) (by rfl) ?hy15 (by assumption) ?rest15
          case hy15 => (intro wx hSw; (try dsimp only at hSw); (have t5 := HBP.out _ hSw); go_simp; (try with_reducible rfl))
          simp only [Act.put, List.setIfInBounds_toArray, List.set_cons_zero, List.set_cons_succ]
          refine anyH_take (i := 13) (d := 32) (L' := #[true, true, true, true, true, true, true, true, true, true, true, true, true, true, false, false, false, false, false, false, false]) (v := ?v16) rfl rfl (by kernel_rfl) (fun _ _ _ h => h) (by rfl) ?hy16 (by assumption) ?rest16
          case hy16 => (intro wx hSw; (try dsimp only at hSw); (have t0 := Chg.cellS hSw Q0.out; have t1 := Chg.cellS hSw Q1.out; have t2 := Chg.cellS hSw Q2.out; have t3 := Chg.cellS hSw Q3.out); go_simp; (try with_reducible rfl))
          simp only [Act.put, List.setIfInBounds_toArray, List.set_cons_zero, List.set_cons_succ]
          refine anyH_take (i := 14) (d := 33) (L' := #[true, true, true, true, true, true, true, true, true, true, true, true, true, true, true, false, false, false, false, false, false]) (v := ?v17) rfl rfl (by kernel_rfl) (fun _ _ _ h => h) (by rfl) ?hy17 (by assumption) ?rest17
          case hy17 => (intro wx hSw; (try dsimp only at hSw); (have t0 := Chg.cellS hSw Q0.out; have t1 := Chg.cellS hSw Q1.out; have t2 := Chg.cellS hSw Q2.out; have t3 := Chg.cellS hSw Q3.out); go_simp; (try with_reducible rfl))
          simp only [Act.put, List.setIfInBounds_toArray, List.set_cons_zero, List.set_cons_succ]
          refine anyH_take (i := 15) (d := 34) (L' := #[true, true, true, true, true, true, true, true, true, true, true, true, true, true, true, true, false, false, false, false, false]) (v := ?v18) rfl rfl (by kernel_rfl) (fun _ _ _ h => h) (by rfl) ?hy18 (by assumption) ?rest18
          case hy18 => (intro wx hSw; (try dsimp only at hSw); (have t0 := Chg.cellS hSw Q0.out; have t1 := Chg.cellS hSw Q1.out; have t2 := Chg.cellS hSw Q2.out; have t3 := Chg.cellS hSw Q3.out); go_simp; (try with_reducible rfl))
          simp only [Act.put, List.setIfInBounds_toArray, List.set_cons_zero, List.set_cons_succ]
          refine anyH_take (i := 16) (d := 35) (L' := #[true, true, true, true, true, true, true, true, true, true, true, true, true, true, true, true, true, false, false, false, false]) (v := ?v19) rfl rfl (by kernel_rfl) (fun _ _ _ h => h) (by rfl) ?hy19 (by assumption) ?rest19
          case hy19 => (intro wx hSw; (try dsimp only at hSw); (have t0 := Chg.cellS hSw Q0.out; have t1 := Chg.cellS hSw Q1.out; have t2 := Chg.cellS hSw Q2.out; have t3 := Chg.cellS hSw Q3.out); go_simp; (try with_reducible rfl))
          simp only [Act.put, List.setIfInBounds_toArray, List.set_cons_zero, List.set_cons_succ]
          refine anyH_take (i := 17) (d := 36) (L' := #[true, true, true, true, true, true, true, true, true, true, true, true, true, true, true, true, true, true, false, false, false]) (v := ?v20) rfl rfl (by kernel_rfl) (fun _ _ _ h => h) (by rfl) ?hy20 (by assumption) ?rest20
          case hy20 => (intro wx hSw; (try dsimp only at hSw); (have t0 := Chg.cellS hSw Q0.out; have t1 := Chg.cellS hSw Q1.out; have t2 := Chg.cellS hSw Q2.out; have t3 := Chg.cellS hSw Q3.out); go_simp; (try with_reducible rfl))
          simp only [Act.put, List.setIfInBounds_toArray, List.set_cons_zero, List.set_cons_succ]
          refine anyH_take (i := 18) (d := 37) (L' := #[true, true, true, true, true, true, true, true, true, true, true, true, true, true, true, true, true, true, true, false, false]) (v := ?v21) rfl rfl (by kernel_rfl) (fun _ _ _ h => h) (by rfl) ?hy21 (by assumption) ?rest21
          case hy21 => (intro wx hSw; (try dsimp only at hSw); (have t5 := HBU.out _ hSw); go_simp; (try with_reducible rfl))
          simp only [Act.put, List.setIfInBounds_toArray, List.set_cons_zero, List.set_cons_succ]
          refine anyH_take (i := 19) (d := 38) (L' := #[true, true, true, true, true, true, true, true, true, true, true, true, true, true, true, true, true, true, true, true, false]) (v := ?v22) rfl rfl (by kernel_rfl) (fun _ _ _ h => h) (by rfl) ?hy22 (by assumption) ?rest22
          case hy22 => (intro wx hSw; (try dsimp only at hSw); (have t0 := Chg.cellS hSw Q0.out; have t1 := Chg.cellS hSw Q1.out; have t2 := Chg.cellS hSw Q2.out; have t3 := Chg.cellS hSw Q3.out); go_simp; (try with_reducible rfl))
          simp only [Act.put, List.setIfInBounds_toArray, List.set_cons_zero, List.set_cons_succ]
          refine anyH_run (i := 20) (L' := #[true, true, true, true, true, true, true, true, true, true, true, true, true, true, true, true, true, true, true, true, true]) rfl (by kernel_rfl) (by rfl) (fun KK hKK => ?_)
          go_simp
          (skip)
          refine hKK.out _ _ (by assumption) (fun hHeld => ?_)
          clear hKK KK
          try simp only [Act.put, List.setIfInBounds_toArray, List.set_cons_zero, List.set_cons_succ]
          refine wpAnyH_done (by kernel_rfl) ?_ _
          go_wp2_with fail
          go_roundw
          case rel => exact ⟨i + 1, by omega, by go_num, HX.out, hci.drew⟩
          case measure => simp [intOf]; omega
        · have hRf := HNE.out (by rw [← HM.out]; intro e; exact hp (congrArg Prod.snd e))
          subst hRf
          subst hn
          have hp1 : (strB rp == strB xp) = false := by rw [strB_beq]; simpa using hp
          have hp2 : (rp == xp) = false := by simpa using hp
          clear hp
          refine anyH_start (n := 21) (L := #[false, false, false, false, false, false, false, false, false, false, false, false, false, false, false, false, false, false, false, false, false]) (by kernel_rfl) (by kernel_rfl) (S := (fun wx => Chg [] wj wx)) ((Chg.refl _ _).drew) (fun hHeld => ?_)
          refine anyH_take (i := 0) (d := 19) (L' := #[true, false, false, false, false, false, false, false, false, false, false, false, false, false, false, false, false, false, false, false, false]) (v := ?v26) rfl rfl (by kernel_rfl) (fun _ _ _ h => h) (by rfl) ?hy26 (by assumption) ?rest26
          case hy26 => (intro wx hSw; (try dsimp only at hSw); (have t0 := Chg.cellS hSw Q0.out; have t1 := Chg.cellS hSw Q1.out; have t2 := Chg.cellS hSw Q2.out; have t3 := Chg.cellS hSw Q3.out); go_simp; (try with_reducible rfl))
          simp only [Act.put, List.setIfInBounds_toArray, List.set_cons_zero, List.set_cons_succ]
          refine anyH_take (i := 1) (d := 20) (L' := #[true, true, false, false, false, false, false, false, false, false, false, false, false, false, false, false, false, false, false, false, false]) (v := ?v27) rfl rfl (by kernel_rfl) (fun _ _ _ h => h) (by rfl) ?hy27 (by assumption) ?rest27
          case hy27 => (intro wx hSw; (try dsimp only at hSw); (have t0 := Chg.cellS hSw Q0.out; have t1 := Chg.cellS hSw Q1.out; have t2 := Chg.cellS hSw Q2.out; have t3 := Chg.cellS hSw Q3.out); go_simp; (try with_reducible rfl))
          simp only [Act.put, List.setIfInBounds_toArray, List.set_cons_zero, List.set_cons_succ]
          refine anyH_take (i := 2) (d := 21) (L' := #[true, true, true, false, false, false, false, false, false, false, false, false, false, false, false, false, false, false, false, false, false]) (v := ?v28) rfl rfl (by kernel_rfl) (fun _ _ _ h => h) (by rfl) ?hy28 (by assumption) ?rest28
          case hy28 => (intro wx hSw; (try dsimp only at hSw); (have t0 := Chg.cellS hSw Q0.out; have t1 := Chg.cellS hSw Q1.out; have t2 := Chg.cellS hSw Q2.out; have t3 := Chg.cellS hSw Q3.out); go_simp; (try with_reducible rfl))
          simp only [Act.put, List.setIfInBounds_toArray, List.set_cons_zero, List.set_cons_succ]
          refine anyH_take (i := 3) (d := 22) (L' := #[true, true, true, true, false, false, false, false, false, false, false, false, false, false, false, false, false, false, false, false, false]) (v := ?v29) rfl rfl (by kernel_rfl) (fun _ _ _ h => h) (by rfl) ?hy29 (by assumption) ?rest29
          case hy29 => (intro wx hSw; (try dsimp only at hSw); (have t0 := Chg.cellS hSw Q0.out; have t1 := Chg.cellS hSw Q1.out; have t2 := Chg.cellS hSw Q2.out; have t3 := Chg.cellS hSw Q3.out); go_simp; (try with_reducible rfl))
          simp only [Act.put, List.setIfInBounds_toArray, List.set_cons_zero, List.set_cons_succ]
          refine anyH_take (i := 4) (d := 23) (L' := #[true, true, true, true, true, false, false, false, false, false, false, false, false, false, false, false, false, false, false, false, false]) (v := ?v30) rfl rfl (by kernel_rfl) (fun _ _ _ h => h) (by rfl) ?hy30 (by assumption) ?rest30
          case hy30 => (intro wx hSw; (try dsimp only at hSw); (have t0 := Chg.cellS hSw Q0.out; have t1 := Chg.cellS hSw Q1.out; have t2 := Chg.cellS hSw Q2.out; have t3 := Chg.cellS hSw Q3.out); go_simp; (try with_reducible rfl))
          simp only [Act.put, List.setIfInBounds_toArray, List.set_cons_zero, List.set_cons_succ]
          refine anyH_take (i := 5) (d := 24) (L' := #[true, true, true, true, true, true, false, false, false, false, false, false, false, false, false, false, false, false, false, false, false]) (v := ?v31) rfl rfl (by kernel_rfl) (fun _ _ _ h => h) (by rfl) ?hy31 (by assumption) ?rest31
          case hy31 => (intro wx hSw; (try dsimp only at hSw); (have t0 := Chg.cellS hSw Q0.out; have t1 := Chg.cellS hSw Q1.out; have t2 := Chg.cellS hSw Q2.out; have t3 := Chg.cellS hSw Q3.out); go_simp; (try with_reducible rfl))
          simp only [Act.put, List.setIfInBounds_toArray, List.set_cons_zero, List.set_cons_succ]
          refine anyH_take (i := 6) (d := 25) (L' := #[true, true, true, true, true, true, true, false, false, false, false, false, false, false, false, false, false, false, false, false, false]) (v := ?v32) rfl rfl (by kernel_rfl) (fun _ _ _ h => h) (by rfl) ?hy32 (by assumption) ?rest32
          case hy32 => (intro wx hSw; (try dsimp only at hSw); (have t0 := Chg.cellS hSw Q0.out; have t1 := Chg.cellS hSw Q1.out; have t2 := Chg.cellS hSw Q2.out; have t3 := Chg.cellS hSw Q3.out); go_simp; (try with_reducible rfl))
          simp only [Act.put, List.setIfInBounds_toArray, List.set_cons_zero, List.set_cons_succ]
          refine anyH_run (i := 7) (L' := #[true, true, true, true, true, true, true, true, false, false, false, false, false, false, false, false, false, false, false, false, false]) rfl (by kernel_rfl) (by rfl) (fun KK hKK => ?_)
          go_simp
          (refine (number19_any _ _).mono ?_; rintro e wn ⟨rfl, rfl⟩; rw [← HM.out]; (try go_simp))
          refine hKK.out _ _ (by assumption) (fun hHeld => ?_)
          clear hKK KK
          try simp only [Act.put, List.setIfInBounds_toArray, List.set_cons_zero, List.set_cons_succ]
          refine anyH_run (i := 8) (L' := #[true, true, true, true, true, true, true, true, true, false, false, false, false, false, false, false, false, false, false, false, false]) rfl (by kernel_rfl) (by rfl) (fun KK hKK => ?_)
          go_simp
          (skip)
          refine hKK.out _ _ (by assumption) (fun hHeld => ?_)
          clear hKK KK
          try simp only [Act.put, List.setIfInBounds_toArray, List.set_cons_zero, List.set_cons_succ]
          refine anyH_run (i := 9) (L' := #[true, true, true, true, true, true, true, true, true, true, false, false, false, false, false, false, false, false, false, false, false]) rfl (by kernel_rfl) (by rfl) (fun KK hKK => ?_)
          go_simp
          (skip)
          refine hKK.out _ _ (by assumption) (fun hHeld => ?_)
          clear hKK KK
          try simp only [Act.put, List.setIfInBounds_toArray, List.set_cons_zero, List.set_cons_succ]
          refine anyH_take (i := 10) (d := 29) (L' := #[true, true, true, true, true, true, true, true, true, true, true, false, false, false, false, false, false, false, false, false, false]) (v := ?v36) rfl rfl (by kernel_rfl) (fun _ _ _ h => h) (by rfl) ?hy36 (by assumption) ?rest36
          case hy36 => (intro wx hSw; (try dsimp only at hSw); (have t0 := Chg.cellS hSw Q0.out; have t1 := Chg.cellS hSw Q1.out; have t2 := Chg.cellS hSw Q2.out; have t3 := Chg.cellS hSw Q3.out); go_simp; (try with_reducible rfl))
          simp only [Act.put, List.setIfInBounds_toArray, List.set_cons_zero, List.set_cons_succ]
          refine anyH_take (i := 11) (d := 30) (L' := #[true, true, true, true, true, true, true, true, true, true, true, true, false, false, false, false, false, false, false, false, false]) (v := ?v37) rfl rfl (by kernel_rfl) (fun _ _ _ h => h) (by rfl) ?hy37 (by assumption) ?rest37
          case hy37 => (intro wx hSw; (try dsimp only at hSw); (have t0 := Chg.cellS hSw Q0.out; have t1 := Chg.cellS hSw Q1.out; have t2 := Chg.cellS hSw Q2.out; have t3 := Chg.cellS hSw Q3.out); go_simp; (try with_reducible rfl))
          simp only [Act.put, List.setIfInBounds_toArray, List.set_cons_zero, List.set_cons_succ]
          refine anyH_take (i := 12) (d := 31) (L' := #[true, true, true, true, true, true, true, true, true, true, true, true, true, false, false, false, false, false, false, false, false]) (v := ?v38) rfl rfl (by kernel_rfl) (fun _ _ _ h => h) (by rfl) ?hy38 (by assumption) ?rest38
          case hy38 => (intro wx hSw; (try dsimp only at hSw); (have t5 := HBP.out _ hSw); go_simp; (try with_reducible rfl))
          simp only [Act.put, List.setIfInBounds_toArray, List.set_cons_zero, List.set_cons_succ]
          refine anyH_take (i := 13) (d := 32) (L' := #[true, true, true, true, true, true, true, true, true, true, true, true, true, true, false, false, false, false, false, false, false]) (v := ?v39) rfl rfl (by kernel_rfl) (fun _ _ _ h => h) (by rfl) ?hy39 (by assumption) ?rest39
          case hy39 => (intro wx hSw; (try dsimp only at hSw); (have t0 := Chg.cellS hSw Q0.out; have t1 := Chg.cellS hSw Q1.out; have t2 := Chg.cellS hSw Q2.out; have t3 := Chg.cellS hSw Q3.out); go_simp; (try with_reducible rfl))
          simp only [Act.put, List.setIfInBounds_toArray, List.set_cons_zero, List.set_cons_succ]
          refine anyH_take (i := 14) (d := 33) (L' := #[true, true, true, true, true, true, true, true, true, true, true, true, true, true, true, false, false, false, false, false, false]) (v := ?v40) rfl rfl (by kernel_rfl) (fun _ _ _ h => h) (by rfl) ?hy40 (by assumption) ?rest40
          case hy40 => (intro wx hSw; (try dsimp only at hSw); (have t0 := Chg.cellS hSw Q0.out; have t1 := Chg.cellS hSw Q1.out; have t2 := Chg.cellS hSw Q2.out; have t3 := Chg.cellS hSw Q3.out); go_simp; (try with_reducible rfl))
          simp only [Act.put, List.setIfInBounds_toArray, List.set_cons_zero, List.set_cons_succ]
          refine anyH_take (i := 15) (d := 34) (L' := #[true, true, true, true, true, true, true, true, true, true, true, true, true, true, true, true, false, false, false, false, false]) (v := ?v41) rfl rfl (by kernel_rfl) (fun _ _ _ h => h) (by rfl) ?hy41 (by assumption) ?rest41
          case hy41 => (intro wx hSw; (try dsimp only at hSw); (have t0 := Chg.cellS hSw Q0.out; have t1 := Chg.cellS hSw Q1.out; have t2 := Chg.cellS hSw Q2.out; have t3 := Chg.cellS hSw Q3.out); go_simp; (try with_reducible rfl))
          simp only [Act.put, List.setIfInBounds_toArray, List.set_cons_zero, List.set_cons_succ]
          refine anyH_take (i := 16) (d := 35) (L' := #[true, true, true, true, true, true, true, true, true, true, true, true, true, true, true, true, true, false, false, false, false]) (v := ?v42) rfl rfl (by kernel_rfl) (fun _ _ _ h => h) (by rfl) ?hy42 (by assumption) ?rest42
          case hy42 => (intro wx hSw; (try dsimp only at hSw); (have t0 := Chg.cellS hSw Q0.out; have t1 := Chg.cellS hSw Q1.out; have t2 := Chg.cellS hSw Q2.out; have t3 := Chg.cellS hSw Q3.out); go_simp; (try with_reducible rfl))
          simp only [Act.put, List.setIfInBounds_toArray, List.set_cons_zero, List.set_cons_succ]
          refine anyH_take (i := 17) (d := 36) (L' := #[true, true, true, true, true, true, true, true, true, true, true, true, true, true, true, true, true, true, false, false, false]) (v := ?v43) rfl rfl (by kernel_rfl) (fun _ _ _ h => h) (by rfl) ?hy43 (by assumption) ?rest43
          case hy43 => (intro wx hSw; (try dsimp only at hSw); (have t0 := Chg.cellS hSw Q0.out; have t1 := Chg.cellS hSw Q1.out; have t2 := Chg.cellS hSw Q2.out; have t3 := Chg.cellS hSw Q3.out); go_simp; (try with_reducible rfl))
          simp only [Act.put, List.setIfInBounds_toArray, List.set_cons_zero, List.set_cons_succ]
          refine anyH_take (i := 18) (d := 37) (L' := #[true, true, true, true, true, true, true, true, true, true, true, true, true, true, true, true, true, true, true, false, false]) (v := ?v44) rfl rfl (by kernel_rfl) (fun _ _ _ h => h) (by rfl) ?hy44 (by assumption) ?rest44
          case hy44 => (intro wx hSw; (try dsimp only at hSw); (have t5 := HBU.out _ hSw); go_simp; (try with_reducible rfl))
          simp only [Act.put, List.setIfInBounds_toArray, List.set_cons_zero, List.set_cons_succ]
          refine anyH_take (i := 19) (d := 38) (L' := #[true, true, true, true, true, true, true, true, true, true, true, true, true, true, true, true, true, true, true, true, false]) (v := ?v45) rfl rfl (by kernel_rfl) (fun _ _ _ h => h) (by rfl) ?hy45 (by assumption) ?rest45
          case hy45 => (intro wx hSw; (try dsimp only at hSw); (have t0 := Chg.cellS hSw Q0.out; have t1 := Chg.cellS hSw Q1.out; have t2 := Chg.cellS hSw Q2.out; have t3 := Chg.cellS hSw Q3.out); go_simp; (try with_reducible rfl))
          simp only [Act.put, List.setIfInBounds_toArray, List.set_cons_zero, List.set_cons_succ]
          refine anyH_run (i := 20) (L' := #[true, true, true, true, true, true, true, true, true, true, true, true, true, true, true, true, true, true, true, true, true]) rfl (by kernel_rfl) (by rfl) (fun KK hKK => ?_)
          go_simp
          (skip)
          refine hKK.out _ _ (by assumption) (fun hHeld => ?_)
          clear hKK KK
          try simp only [Act.put, List.setIfInBounds_toArray, List.set_cons_zero, List.set_cons_succ]
          refine wpAnyH_done (by kernel_rfl) ?_ _
          go_wp2_with fail
          go_ret
          exact ⟨rfl, hci.drew⟩
      · have hRf := HNE.out (by rw [← HM.out]; intro e; exact hn (congrArg Prod.fst e))
        subst hRf
        have hn1 : (rn == m) = false := by simpa using hn
        have hn3 : (rn != m) = true := by simpa using hn
        refine anyH_start (n := 21) (L := #[false, false, false, false, false, false, false, false, false, false, false, false, false, false, false, false, false, false, false, false, false]) (by kernel_rfl) (by kernel_rfl) (S := (fun wx => Chg [] wj wx)) ((Chg.refl _ _).drew) (fun hHeld => ?_)
        refine anyH_take (i := 0) (d := 19) (L' := #[true, false, false, false, false, false, false, false, false, false, false, false, false, false, false, false, false, false, false, false, false]) (v := ?v49) rfl rfl (by kernel_rfl) (fun _ _ _ h => h) (by rfl) ?hy49 (by assumption) ?rest49
        case hy49 => (intro wx hSw; (try dsimp only at hSw); (have t0 := Chg.cellS hSw Q0.out; have t1 := Chg.cellS hSw Q1.out; have t2 := Chg.cellS hSw Q2.out; have t3 := Chg.cellS hSw Q3.out); go_simp; (try with_reducible rfl))
        simp only [Act.put, List.setIfInBounds_toArray, List.set_cons_zero, List.set_cons_succ]
        refine anyH_take (i := 1) (d := 20) (L' := #[true, true, false, false, false, false, false, false, false, false, false, false, false, false, false, false, false, false, false, false, false]) (v := ?v50) rfl rfl (by kernel_rfl) (fun _ _ _ h => h) (by rfl) ?hy50 (by assumption) ?rest50
        case hy50 => (intro wx hSw; (try dsimp only at hSw); (have t0 := Chg.cellS hSw Q0.out; have t1 := Chg.cellS hSw Q1.out; have t2 := Chg.cellS hSw Q2.out; have t3 := Chg.cellS hSw Q3.out); go_simp; (try with_reducible rfl))
        simp only [Act.put, List.setIfInBounds_toArray, List.set_cons_zero, List.set_cons_succ]
        refine anyH_take (i := 2) (d := 21) (L' := #[true, true, true, false, false, false, false, false, false, false, false, false, false, false, false, false, false, false, false, false, false]) (v := ?v51) rfl rfl (by kernel_rfl) (fun _ _ _ h => h) (by rfl) ?hy51 (by assumption) ?rest51
        case hy51 => (intro wx hSw; (try dsimp only at hSw); (have t0 := Chg.cellS hSw Q0.out; have t1 := Chg.cellS hSw Q1.out; have t2 := Chg.cellS hSw Q2.out; have t3 := Chg.cellS hSw Q3.out); go_simp; (try with_reducible rfl))
        simp only [Act.put, List.setIfInBounds_toArray, List.set_cons_zero, List.set_cons_succ]
        refine anyH_take (i := 3) (d := 22) (L' := #[true, true, true, true, false, false, false, false, false, false, false, false, false, false, false, false, false, false, false, false, false]) (v := ?v52) rfl rfl (by kernel_rfl) (fun _ _ _ h => h) (by rfl) ?hy52 (by assumption) ?rest52
        case hy52 => (intro wx hSw; (try dsimp only at hSw); (have t0 := Chg.cellS hSw Q0.out; have t1 := Chg.cellS hSw Q1.out; have t2 := Chg.cellS hSw Q2.out; have t3 := Chg.cellS hSw Q3.out); go_simp; (try with_reducible rfl))
        simp only [Act.put, List.setIfInBounds_toArray, List.set_cons_zero, List.set_cons_succ]
        refine anyH_take (i := 4) (d := 23) (L' := #[true, true, true, true, true, false, false, false, false, false, false, false, false, false, false, false, false, false, false, false, false]) (v := ?v53) rfl rfl (by kernel_rfl) (fun _ _ _ h => h) (by rfl) ?hy53 (by assumption) ?rest53
        case hy53 => (intro wx hSw; (try dsimp only at hSw); (have t0 := Chg.cellS hSw Q0.out; have t1 := Chg.cellS hSw Q1.out; have t2 := Chg.cellS hSw Q2.out; have t3 := Chg.cellS hSw Q3.out); go_simp; (try with_reducible rfl))
        simp only [Act.put, List.setIfInBounds_toArray, List.set_cons_zero, List.set_cons_succ]
        refine anyH_take (i := 5) (d := 24) (L' := #[true, true, true, true, true, true, false, false, false, false, false, false, false, false, false, false, false, false, false, false, false]) (v := ?v54) rfl rfl (by kernel_rfl) (fun _ _ _ h => h) (by rfl) ?hy54 (by assumption) ?rest54
        case hy54 => (intro wx hSw; (try dsimp only at hSw); (have t0 := Chg.cellS hSw Q0.out; have t1 := Chg.cellS hSw Q1.out; have t2 := Chg.cellS hSw Q2.out; have t3 := Chg.cellS hSw Q3.out); go_simp; (try with_reducible rfl))
        simp only [Act.put, List.setIfInBounds_toArray, List.set_cons_zero, List.set_cons_succ]
        refine anyH_take (i := 6) (d := 25) (L' := #[true, true, true, true, true, true, true, false, false, false, false, false, false, false, false, false, false, false, false, false, false]) (v := ?v55) rfl rfl (by kernel_rfl) (fun _ _ _ h => h) (by rfl) ?hy55 (by assumption) ?rest55
        case hy55 => (intro wx hSw; (try dsimp only at hSw); (have t0 := Chg.cellS hSw Q0.out; have t1 := Chg.cellS hSw Q1.out; have t2 := Chg.cellS hSw Q2.out; have t3 := Chg.cellS hSw Q3.out); go_simp; (try with_reducible rfl))
        simp only [Act.put, List.setIfInBounds_toArray, List.set_cons_zero, List.set_cons_succ]
        refine anyH_run (i := 7) (L' := #[true, true, true, true, true, true, true, true, false, false, false, false, false, false, false, false, false, false, false, false, false]) rfl (by kernel_rfl) (by rfl) (fun KK hKK => ?_)
        go_simp
        (refine (number19_any _ _).mono ?_; rintro e wn ⟨rfl, rfl⟩; rw [← HM.out]; (try go_simp))
        refine hKK.out _ _ (by assumption) (fun hHeld => ?_)
        clear hKK KK
        try simp only [Act.put, List.setIfInBounds_toArray, List.set_cons_zero, List.set_cons_succ]
        refine anyH_run (i := 8) (L' := #[true, true, true, true, true, true, true, true, true, false, false, false, false, false, false, false, false, false, false, false, false]) rfl (by kernel_rfl) (by rfl) (fun KK hKK => ?_)
        go_simp
        (skip)
        refine hKK.out _ _ (by assumption) (fun hHeld => ?_)
        clear hKK KK
        try simp only [Act.put, List.setIfInBounds_toArray, List.set_cons_zero, List.set_cons_succ]
        refine anyH_run (i := 9) (L' := #[true, true, true, true, true, true, true, true, true, true, false, false, false, false, false, false, false, false, false, false, false]) rfl (by kernel_rfl) (by rfl) (fun KK hKK => ?_)
        go_simp
        (skip)
        refine hKK.out _ _ (by assumption) (fun hHeld => ?_)
        clear hKK KK
        try simp only [Act.put, List.setIfInBounds_toArray, List.set_cons_zero, List.set_cons_succ]
        refine anyH_skip (i := 10) (d := 29) (L' := #[true, true, true, true, true, true, true, true, true, true, true, false, false, false, false, false, false, false, false, false, false]) rfl rfl (by kernel_rfl) (fun _ _ _ h => h) (by rfl) (by assumption) ?_
        simp only [Act.put, List.setIfInBounds_toArray, List.set_cons_zero, List.set_cons_succ]
        refine anyH_skip (i := 11) (d := 30) (L' := #[true, true, true, true, true, true, true, true, true, true, true, true, false, false, false, false, false, false, false, false, false]) rfl rfl (by kernel_rfl) (fun _ _ _ h => h) (by rfl) (by assumption) ?_
        simp only [Act.put, List.setIfInBounds_toArray, List.set_cons_zero, List.set_cons_succ]
        refine anyH_skip (i := 12) (d := 31) (L' := #[true, true, true, true, true, true, true, true, true, true, true, true, true, false, false, false, false, false, false, false, false]) rfl rfl (by kernel_rfl) (fun _ _ _ h => h) (by rfl) (by assumption) ?_
        simp only [Act.put, List.setIfInBounds_toArray, List.set_cons_zero, List.set_cons_succ]
        refine anyH_skip (i := 13) (d := 32) (L' := #[true, true, true, true, true, true, true, true, true, true, true, true, true, true, false, false, false, false, false, false, false]) rfl rfl (by kernel_rfl) (fun _ _ _ h => h) (by rfl) (by assumption) ?_
        simp only [Act.put, List.setIfInBounds_toArray, List.set_cons_zero, List.set_cons_succ]
        refine anyH_skip (i := 14) (d := 33) (L' := #[true, true, true, true, true, true, true, true, true, true, true, true, true, true, true, false, false, false, false, false, false]) rfl rfl (by kernel_rfl) (fun _ _ _ h => h) (by rfl) (by assumption) ?_
        simp only [Act.put, List.setIfInBounds_toArray, List.set_cons_zero, List.set_cons_succ]
        refine anyH_skip (i := 15) (d := 34) (L' := #[true, true, true, true, true, true, true, true, true, true, true, true, true, true, true, true, false, false, false, false, false]) rfl rfl (by kernel_rfl) (fun _ _ _ h => h) (by rfl) (by assumption) ?_
        simp only [Act.put, List.setIfInBounds_toArray, List.set_cons_zero, List.set_cons_succ]
        refine anyH_skip (i := 16) (d := 35) (L' := #[true, true, true, true, true, true, true, true, true, true, true, true, true, true, true, true, true, false, false, false, false]) rfl rfl (by kernel_rfl) (fun _ _ _ h => h) (by rfl) (by assumption) ?_
        simp only [Act.put, List.setIfInBounds_toArray, List.set_cons_zero, List.set_cons_succ]
        refine anyH_skip (i := 17) (d := 36) (L' := #[true, true, true, true, true, true, true, true, true, true, true, true, true, true, true, true, true, true, false, false, false]) rfl rfl (by kernel_rfl) (fun _ _ _ h => h) (by rfl) (by assumption) ?_
        simp only [Act.put, List.setIfInBounds_toArray, List.set_cons_zero, List.set_cons_succ]
        refine anyH_skip (i := 18) (d := 37) (L' := #[true, true, true, true, true, true, true, true, true, true, true, true, true, true, true, true, true, true, true, false, false]) rfl rfl (by kernel_rfl) (fun _ _ _ h => h) (by rfl) (by assumption) ?_
        simp only [Act.put, List.setIfInBounds_toArray, List.set_cons_zero, List.set_cons_succ]
        refine anyH_skip (i := 19) (d := 38) (L' := #[true, true, true, true, true, true, true, true, true, true, true, true, true, true, true, true, true, true, true, true, false]) rfl rfl (by kernel_rfl) (fun _ _ _ h => h) (by rfl) (by assumption) ?_
        simp only [Act.put, List.setIfInBounds_toArray, List.set_cons_zero, List.set_cons_succ]
        refine anyH_run (i := 20) (L' := #[true, true, true, true, true, true, true, true, true, true, true, true, true, true, true, true, true, true, true, true, true]) rfl (by kernel_rfl) (by rfl) (fun KK hKK => ?_)
        go_simp
        (skip)
        refine hKK.out _ _ (by assumption) (fun hHeld => ?_)
        clear hKK KK
        try simp only [Act.put, List.setIfInBounds_toArray, List.set_cons_zero, List.set_cons_succ]
        refine wpAnyH_done (by kernel_rfl) ?_ _
        go_wp2_with fail
        go_ret
        exact ⟨rfl, hci.drew⟩
    · obtain rfl : i = ps.length := by omega
      have hRt : R = true := by
        rw [← HD.out, decide_eq_true]
        have h := HEQ.out
        rw [List.take_of_length_le (by simp [HLN.out]), List.take_of_length_le (by simp [numsR])] at h
        exact h
      subst hRt
      go_wp2_with fail
      go_ret
      exact ⟨rfl, hci⟩
end Go.Proofs.Ytdmokfplkhmijaa
