/- FrameAlls: for every input the law returns true. -/
import Derived.Test.YteeanpbdnpmpaaaFrameFit
import Derived.Test.YteeanpbdnpmpaaaFrameAllsMath
import Derived.Test.YteeanpbdnpmpaaaPart16
import Derived.Deep.Cut
namespace Go.Proofs.Yteeanpbdnpmpaaa
open Go.RowKit

def AllsI (ps : List (Int × List UInt8)) (w1 : World) (t7 t8 t34 : Value) (wr : World) : Prop :=
  ∃ k a7 c7 a8 c8, k ≤ ps.length ∧ t34 = .int .i64 (k : Nat) ∧ (∀ j (h : j < ps.length), j < k → (ps[j]).2.length ≤ 200) ∧ recLen ((numsR ps).take k) ≤ 220 * k ∧
    t7 = .slice a7 (recLen ((numsR ps).take k)) c7 ∧ OwB wr w1.heap.size (.slice a7 (recLen ((numsR ps).take k)) c7) (catF ((numsR ps).take k)) ∧
    t8 = .slice a8 k c8 ∧ OwI wr w1.heap.size (.slice a8 k c8) (endsR (numsR ps) k) ∧ Chg [] w1 wr

attribute [local go_sem] andFFFF
set_option maxRecDepth 100000 in
set_option maxHeartbeats 4000000 in
theorem FrameAlls_law (v0 : Value) (ps : List (Int × List UInt8)) (cut : Int) (v2 : Value) (l2 : List UInt8) (w : World) (h0 : Rds EPart 2 w v0 ps)
    (_lo : -9223372036854775808 ≤ cut) (_hi : cut ≤ 9223372036854775807) (h2 : Bs w v2 l2) (_hl2 : l2.length ≤ 140737488351232) :
    Calls Try.prog 13 #[v0, .int .i64 cut, v2] w fun e w' => e = .returned (.bool true) ∧ Chg [] w w' := by
  obtain ⟨ao0, cap0, rfl⟩ := h0.form
  obtain ⟨ao2, cap2, b2, off2, rfl, -⟩ := h2.open
  go_enter Try.func13, Try.ntmps13
  go_wp2_with fail
  refine (fit16_any _).mono ?_
  rintro e w1 ⟨rfl, hc⟩
  replace h0 := h0.k (fun _ _ h => h.k hc) hc
  clear h2
  by_cases hbig : 12 < (ps.length : Int)
  · go_wp2_with fail
    go_ret
    exact ⟨rfl, hc⟩
  by_cases hbig2 : 200 < (l2.length : Int)
  · go_wp2_with fail
    go_ret
    exact ⟨rfl, hc⟩
  have H0 := hd h0
  clear h0
  go_wp2_with fail
  go_loopw [7, 8, 34] (fun t7 t8 t34 wr => AllsI ps w1 t7 t8 t34 wr) (fun _ _ t34 _ => ps.length - (intOf t34).toNat)
  case atStart => exact ⟨0, none, 0, none, 0, by omega, rfl, fun j _ h => absurd h (by omega), by simp [recLen], rfl, OwB.nil _ _, rfl, OwI.nil _ _, Chg.refl _ _⟩
  case round =>
    obtain ⟨k, a7, c7, a8, c8, hk, rfl, hsh, hrl, rfl, hB, rfl, hE, hch⟩ := hrel
    by_cases hlt : k < ps.length
    · obtain ⟨b0, off0, capx, hv, -, -, hel⟩ := H0.out.at (by omega)
      simp only [Value.slice.injEq, true_and] at hv
      obtain ⟨rfl, rfl⟩ := hv
      obtain ⟨c, ⟨u, rfl, hbu, nlo, nhi⟩, -, hcell⟩ := hel k hlt
      have q0 := Chg.cellS hch (hcell 0 (by decide))
      have q1 := Chg.cellS hch (hcell 1 (by decide))
      simp at q0 q1
      obtain ⟨aou, cu, bu, ou, rfl, -⟩ := hbu.open
      replace hbu := hbu.k hch
      clear hel hcell
      generalize hX : ps[k] = X at *
      obtain ⟨xn, xp⟩ := X
      simp only at q0 q1 hbu nlo nhi
      go_upto_region 10 with (fail)
      have hk10 := Blk.new wr #[.int .i64 xn, .slice aou xp.length cu] 65
      have hcA := (Chg.refl [] wr).alloc (.cells #[.int .i64 xn, .slice aou xp.length cu] 65)
      replace hbu := hbu.k hcA
      replace hB := hB.k hcA
      replace hE := hE.k hcA
      replace hch := hch.k hcA
      clear hcA q0 q1
      generalize wr.alloc (.cells #[.int .i64 xn, .slice aou xp.length cu] 65) = wq at *
      have q0 := hk10.cell 0
      have q1 := hk10.cell 1
      simp at q0 q1
      by_cases hbig3 : 200 < (xp.length : Int)
      · go_wp2_with fail
        go_ret
        exact ⟨rfl, hc.k hch⟩
      go_upto_region 12 with (fail)
      have Q0 := hd q0
      have Q1 := hd q1
      have HBU := hd hbu
      have HB := hd hB
      have HE := hd hE
      have HK := hd hk10
      have hT := numsR_snoc ps k hlt
      rw [hX] at hT
      simp only at hT
      have hT2 : (catF ((numsR ps).take k)).length + (frameB (xn % 4611686018427387904) xp).length = recLen ((numsR ps).take (k + 1)) := by
        rw [hT, recLen_app, catF_length, frameB_length]; simp [recLen]
      have hT3 : catF ((numsR ps).take k) ++ frameB (xn % 4611686018427387904) xp = catF ((numsR ps).take (k + 1)) := by
        rw [hT, catF_app]; simp [catF]
      have hT4 : recLen ((numsR ps).take (k + 1)) ≤ 220 * (k + 1) := by
        rw [← hT2, catF_length, frameB_length]; omega
      have HT2 := hd hT2
      have HT3 := hd hT3
      have HX := hd hX
      clear q0 q1 hbu hB hE hk10 hT hT2 hT3 hX
      refine anyH_start (n := 9) (L := #[false, false, false, false, false, false, false, false, false]) (by kernel_rfl) (by kernel_rfl) (S := (fun wx => wx.cell? ⟨wr.heap.size, 0, none⟩ = some (.int .i64 xn) ∧ wx.cell? ⟨wr.heap.size, 1, none⟩ = some (.slice aou xp.length cu))) ⟨Q0.out, Q1.out⟩ (fun hHeld => ?_)
      refine anyH_take (i := 0) (d := 42) (L' := #[true, false, false, false, false, false, false, false, false]) (v := ?v4) rfl rfl (by kernel_rfl) (fun _ _ _ h => h) (by rfl) ?hy4 (by assumption) ?rest4
      case hy4 => (intro wx hSw; (try dsimp only at hSw); (obtain ⟨t0, t1⟩ := hSw); go_simp; (try with_reducible rfl))
      simp only [Act.put, List.setIfInBounds_toArray, List.set_cons_zero, List.set_cons_succ]
      refine anyH_take (i := 1) (d := 43) (L' := #[true, true, false, false, false, false, false, false, false]) (v := ?v5) rfl rfl (by kernel_rfl) (fun _ _ _ h => h) (by rfl) ?hy5 (by assumption) ?rest5
      case hy5 => (intro wx hSw; (try dsimp only at hSw); (obtain ⟨t0, t1⟩ := hSw); go_simp; (try with_reducible rfl))
      simp only [Act.put, List.setIfInBounds_toArray, List.set_cons_zero, List.set_cons_succ]
      refine anyH_take (i := 2) (d := 44) (L' := #[true, true, true, false, false, false, false, false, false]) (v := ?v6) rfl rfl (by kernel_rfl) (fun _ _ _ h => h) (by rfl) ?hy6 (by assumption) ?rest6
      case hy6 => (intro wx hSw; (try dsimp only at hSw); (obtain ⟨t0, t1⟩ := hSw); go_simp; (try with_reducible rfl))
      simp only [Act.put, List.setIfInBounds_toArray, List.set_cons_zero, List.set_cons_succ]
      refine anyH_take (i := 4) (d := 46) (L' := #[true, true, true, false, true, false, false, false, false]) (v := ?v7) rfl rfl (by kernel_rfl) (fun _ _ _ h => h) (by rfl) ?hy7 (by assumption) ?rest7
      case hy7 => (intro wx hSw; (try dsimp only at hSw); (obtain ⟨t0, t1⟩ := hSw); go_simp; (try with_reducible rfl))
      simp only [Act.put, List.setIfInBounds_toArray, List.set_cons_zero, List.set_cons_succ]
      refine anyH_take (i := 5) (d := 47) (L' := #[true, true, true, false, true, true, false, false, false]) (v := ?v8) rfl rfl (by kernel_rfl) (fun _ _ _ h => h) (by rfl) ?hy8 (by assumption) ?rest8
      case hy8 => (intro wx hSw; (try dsimp only at hSw); (obtain ⟨t0, t1⟩ := hSw); go_simp; (try with_reducible rfl))
      simp only [Act.put, List.setIfInBounds_toArray, List.set_cons_zero, List.set_cons_succ]
      refine anyH_run (i := 3) (L' := #[true, true, true, true, true, true, false, false, false]) rfl (by kernel_rfl) (by rfl) (fun KK hKK => ?_)
      go_simp
      (refine (number_any _ _).mono ?_; rintro e wn ⟨rfl, rfl⟩; try go_simp)
      refine hKK.out _ _ (by assumption) (fun hHeld => ?_)
      clear hKK KK
      try simp only [Act.put, List.setIfInBounds_toArray, List.set_cons_zero, List.set_cons_succ]
      refine anyH_run (i := 6) (L' := #[true, true, true, true, true, true, true, false, false]) rfl (by kernel_rfl) (by rfl) (fun KK hKK => ?_)
      go_simp
      (refine (Laid_any _ _ xp _ (HBU.out.k (Chg.refl _ _).drew) (by omega)).mono ?_; rintro e w6 ⟨rfl, hc6⟩; have hm := (Chg.refl [] wq).drew.k hc6; have hS6 : w6.cell? ⟨wr.heap.size, 0, none⟩ = some (.int .i64 xn) ∧ w6.cell? ⟨wr.heap.size, 1, none⟩ = some (.slice aou xp.length cu) := ⟨hm.cellS Q0.out, hm.cellS Q1.out⟩; clear hc6; have HS6 := hd hS6; have HM := hd hm; clear hS6 hm; try go_simp; try (have hS6 := HS6.out))
      refine hKK.out _ _ (by assumption) (fun hHeld => ?_)
      clear hKK KK
      try simp only [Act.put, List.setIfInBounds_toArray, List.set_cons_zero, List.set_cons_succ]
      refine anyH_run (i := 7) (L' := #[true, true, true, true, true, true, true, true, false]) rfl (by kernel_rfl) (by rfl) (fun KK hKK => ?_)
      (have hm := HM.out; refine wp_appS _ _ rfl w1.heap.size _ _ rfl (HB.out.k hm) _ rfl (by rw [HT2.out]; omega) (hch.k hm).size ?_; intro ao7 c7' w7 hB7 hg7; have hk7 := (HK.out.k hm).grown hg7 (ownsRow_apart (HB.out.k hm) (HK.out.k hm) (by decide)); have hS7 : w7.cell? ⟨wr.heap.size, 0, none⟩ = some (.int .i64 xn) ∧ w7.cell? ⟨wr.heap.size, 1, none⟩ = some (.slice aou xp.length cu) := ⟨by have := hk7.cell 0; simpa using this, by have := hk7.cell 1; simpa using this⟩)
      refine hKK.out _ _ (by assumption) (fun hHeld => ?_)
      clear hKK KK
      try simp only [Act.put, List.setIfInBounds_toArray, List.set_cons_zero, List.set_cons_succ]
      refine anyH_run (i := 8) (L' := #[true, true, true, true, true, true, true, true, true]) rfl (by kernel_rfl) (by rfl) (fun KK hKK => ?_)
      go_simp
      (skip)
      refine hKK.out _ _ (by assumption) (fun hHeld => ?_)
      clear hKK KK
      try simp only [Act.put, List.setIfInBounds_toArray, List.set_cons_zero, List.set_cons_succ]
      refine wpAnyH_done (by kernel_rfl) ?_ _
      have hE7 : w7.ownsRow w1.heap.size 3 1 (.slice a8 k c8) k ((endsR (numsR ps) k).map (Value.int .i64)) := by
        have := ownsRow_grow (HE.out.k hm) (HB.out.k hm) (by decide) hg7
        rwa [endsR_length] at this
      have hch7 := (hch.k hm).grown hg7 (fun kk hk hlt => by have := ((HB.out.k hm).lo kk hk).1; omega)
      rw [HT2.out, HT3.out] at hB7
      rw [HT2.out]
      have hone := Rd.lit w7 1 1 [.int .i64 ((recLen ((numsR ps).take (k + 1)) : Nat) : Int)] _ 3 rfl rfl (by decide)
      have HB7 := hd hB7
      clear hg7 hk7 hS7 hS6 HS6 HB HE HK HBU Q0 Q1 hm HM hch hB7
      go_wp2_with (refine wpApp rowInt rfl _ _ rfl w1.heap.size _ k _ rfl (World.ownsRow.alloc hE7 _) _ 1 [.int .i64 ((recLen ((numsR ps).take (k + 1)) : Nat) : Int)] rfl hone (by simp [Value.oneCell']) (by omega) (by omega) (by have := hch7.size; simp; omega) ?_; intro ao8 c8' w8 hE8 hg8 _ _)
      have hB8 : OwB w8 w1.heap.size (.slice ao7 (recLen ((numsR ps).take (k + 1))) c7') (catF ((numsR ps).take (k + 1))) := ownsRow_grow (HB7.out.alloc _) (World.ownsRow.alloc hE7 _) (by decide) hg8
      have hch8 := (hch7.alloc _).ownGrow (World.ownsRow.alloc hE7 _) hg8 (Nat.le_refl _)
      clear hg8 hE7 hch7 hone HB7
      go_roundw
      case rel =>
        refine ⟨k + 1, ao7, c7', ao8, c8', by omega, by go_num, fun j hj hjk => ?_, hT4, rfl, hB8, rfl, ?_, hch8⟩
        · rcases Nat.lt_or_ge j k with hj2 | hj2
          · exact hsh j hj hj2
          · have : j = k := by omega
            subst this
            rw [HX.out]; simp only; omega
        · unfold OwI
          rw [endsR_length, endsR_snoc, List.map_append]
          exact hE8
      case measure => simp [intOf]; omega
    · have hkn : k = ps.length := by omega
      subst hkn
      have hRl : (numsR ps).take ps.length = numsR ps := List.take_of_length_le (by simp [numsR])
      rw [hRl] at hB hrl ⊢
      have hfine : FineR (numsR ps) := by
        intro r hr
        obtain ⟨i, hi, rfl⟩ := List.getElem_of_mem hr
        have hi' : i < ps.length := by simpa [numsR] using hi
        have := hsh i hi' hi'
        simp only [numsR, List.getElem_map]
        omega
      have hmost : ∀ r ∈ numsR ps, (r.2.length : Int) ≤ 200 := by
        intro r hr
        obtain ⟨i, hi, rfl⟩ := List.getElem_of_mem hr
        have hi' : i < ps.length := by simpa [numsR] using hi
        have := hsh i hi' hi'
        simp only [numsR, List.getElem_map]
        omega
      have hcl := hd (catF_length (numsR ps))
      have hB0 := hB.bs
      have Hfine := hd hfine
      have Hmost := hd hmost
      have Hsh := hd hsh
      clear hfine hmost hsh hRl
      have HE := hd hE
      go_wp2_with (first | (refine wpClone rfl _ rfl _ _ rfl hB0 (by rw [hcl.out]; omega) ?_; intro aoC cC wC hC hcC; have hZ := OwB.lit wC wC.heap.size [1, 2, 3] #[.int .u8 1, .int .u8 2, .int .u8 3] rfl (Nat.le_refl _) (by decide)) | (refine wpAppB rfl (.tmp 58) _ rfl wr.heap.size _ _ rfl (hC.alloc _) _ _ rfl hZ.bs (by rw [hcl.out]; simp; omega) (Nat.le_trans hcC.size (by simp)) ?_; intro ao60 c60 w60 hD hgD _))
      have hcD := (hcC.alloc _).app (hC.alloc _) hgD (Nat.le_refl _)
      replace hch := hch.k hcD
      replace hE := hE.k hcD
      replace hB0 := hB0.k hcD
      obtain ⟨L, hL⟩ : ∃ L, L = catF (numsR ps) ++ [1, 2, 3] := ⟨_, rfl⟩
      have hLl : (catF (numsR ps)).length + 3 = L.length := by rw [hL]; simp
      have hD' : Bs w60 (.slice ao60 L.length c60) L := by rw [← hLl, hL]; exact hD.bs
      have hsc : scanB 200 L = numsR ps := by rw [hL]; exact scanB_cat 200 _ (nextB_few _ _ (by simp)) _ Hfine.out Hmost.out
      have hLs : L.length ≤ 100000 := by rw [← hLl, hcl.out]; omega
      rw [hLl]
      clear hL hLl hgD hD hZ hC hcC hcD HE hB
      refine (All_any ao60 c60 L 200 _ hD' (by omega)).mono ?_
      rintro e w61 ⟨v, rs, rfl, hrs, hR, hc61⟩
      replace hch := hch.k hc61
      replace hE := hE.k hc61
      replace hB0 := hB0.k hc61
      rw [hsc] at hrs
      obtain ⟨aoR, cR, rfl⟩ := hR.form
      have hrsl : rs.length = ps.length := by have := congrArg List.length hrs; simpa [numsR] using this
      have hrec : recLen (rs.map bare) = recLen (numsR ps) := by rw [hrs]
      rw [hrsl, hrec]
      have HRS := hd hrs
      have HRL := hd hrsl
      have HR := hd hR
      have HE := hd hE
      have HB0 := hd hB0
      clear hD' hsc hc61 hrs hrsl hrec hR hE hB0 hbig hbig2
      go_wp2_with fail
      go_loopw [77] (fun t77 wi => ∃ i : Nat, i ≤ ps.length ∧ t77 = .int .i64 i ∧ Chg [] w61 wi) (fun t77 _ => ps.length - (intOf t77).toNat)
      case atStart => exact ⟨0, by omega, rfl, Chg.refl _ _⟩
      case round =>
        obtain ⟨i, hi, rfl, hci⟩ := hrel
        by_cases hil : i < ps.length
        · obtain ⟨bR, capR, hvR, hatR⟩ := HR.out.at (by rw [HRL.out]; omega)
          simp only [Value.slice.injEq] at hvR
          obtain ⟨rfl, -, rfl⟩ := hvR
          obtain ⟨aop, cp, -, r0, r1, hbp⟩ := hatR i (by rw [HRL.out]; exact hil)
          have hbi : bare (rs[i]'(by rw [HRL.out]; exact hil)) = (ps[i].1 % 4611686018427387904, ps[i].2) := by
            have h := congrArg (fun l => l[i]?) HRS.out
            simp only [List.getElem?_map, numsR] at h
            rw [List.getElem?_eq_getElem (by rw [HRL.out]; exact hil), List.getElem?_eq_getElem hil] at h
            simpa using h
          generalize rs[i]'(by rw [HRL.out]; exact hil) = ri at *
          obtain ⟨rn, rv, rp⟩ := ri
          simp only [bare, Prod.mk.injEq] at hbi r0 r1 hbp
          obtain ⟨b0, off0, capx, hv, -, -, hel⟩ := H0.out.at (by omega)
          simp only [Value.slice.injEq, true_and] at hv
          obtain ⟨rfl, rfl⟩ := hv
          obtain ⟨c, ⟨u, rfl, hbu, nlo, nhi⟩, -, hcell⟩ := hel i hil
          have q0 := Chg.cellS (hch.k hci) (hcell 0 (by decide))
          have q1 := Chg.cellS (hch.k hci) (hcell 1 (by decide))
          simp at q0 q1
          obtain ⟨aou, cu, bu, ou, rfl, -⟩ := hbu.open
          replace hbu := hbu.k (hch.k hci)
          replace hbp := hbp.k hci
          replace r0 := hci.cellS r0
          replace r1 := hci.cellS r1
          clear hel hcell hatR
          generalize ps[i] = X at *
          obtain ⟨xn, xp⟩ := X
          simp only at q0 q1 hbu nlo nhi hbi
          obtain ⟨rfl, rfl⟩ := hbi
          go_upto_region 21 with (fail)
          have hk14 := Blk.new wr #[.int .i64 (xn % 4611686018427387904), .slice aop rp.length cp] 55
          have hcA := (Chg.refl [] wr).alloc (.cells #[.int .i64 (xn % 4611686018427387904), .slice aop rp.length cp] 55)
          replace q0 := hcA.cellS q0
          replace q1 := hcA.cellS q1
          replace hci := hci.k hcA
          replace hbu := hbu.k hcA
          replace hbp := hbp.k hcA
          generalize wr.alloc (.cells #[.int .i64 (xn % 4611686018427387904), .slice aop rp.length cp] 55) = wj at *
          have q2 := hk14.cell 0
          have q3 := hk14.cell 1
          simp at q2 q3
          have Q0 := hd q0
          have Q1 := hd q1
          have Q2 := hd q2
          have Q3 := hd q3
          have HBU := hd hbu.strs
          have HBP := hd hbp.strs
          clear q0 q1 q2 q3 hbu hbp hcA hk14 r0 r1
          refine anyH_start (n := 21) (L := #[false, false, false, false, false, false, false, false, false, false, false, false, false, false, false, false, false, false, false, false, false]) (by kernel_rfl) (by kernel_rfl) (S := (fun wx => Chg [] wj wx)) ((Chg.refl _ _).drew) (fun hHeld => ?_)
          refine anyH_take (i := 0) (d := 82) (L' := #[true, false, false, false, false, false, false, false, false, false, false, false, false, false, false, false, false, false, false, false, false]) (v := ?v19) rfl rfl (by kernel_rfl) (fun _ _ _ h => h) (by rfl) ?hy19 (by assumption) ?rest19
          case hy19 => (intro wx hSw; (try dsimp only at hSw); (have t0 := Chg.cellS hSw Q0.out; have t1 := Chg.cellS hSw Q1.out; have t2 := Chg.cellS hSw Q2.out; have t3 := Chg.cellS hSw Q3.out); go_simp; (try with_reducible rfl))
          simp only [Act.put, List.setIfInBounds_toArray, List.set_cons_zero, List.set_cons_succ]
          refine anyH_take (i := 1) (d := 83) (L' := #[true, true, false, false, false, false, false, false, false, false, false, false, false, false, false, false, false, false, false, false, false]) (v := ?v20) rfl rfl (by kernel_rfl) (fun _ _ _ h => h) (by rfl) ?hy20 (by assumption) ?rest20
          case hy20 => (intro wx hSw; (try dsimp only at hSw); (have t0 := Chg.cellS hSw Q0.out; have t1 := Chg.cellS hSw Q1.out; have t2 := Chg.cellS hSw Q2.out; have t3 := Chg.cellS hSw Q3.out); go_simp; (try with_reducible rfl))
          simp only [Act.put, List.setIfInBounds_toArray, List.set_cons_zero, List.set_cons_succ]
          refine anyH_take (i := 2) (d := 84) (L' := #[true, true, true, false, false, false, false, false, false, false, false, false, false, false, false, false, false, false, false, false, false]) (v := ?v21) rfl rfl (by kernel_rfl) (fun _ _ _ h => h) (by rfl) ?hy21 (by assumption) ?rest21
          case hy21 => (intro wx hSw; (try dsimp only at hSw); (have t0 := Chg.cellS hSw Q0.out; have t1 := Chg.cellS hSw Q1.out; have t2 := Chg.cellS hSw Q2.out; have t3 := Chg.cellS hSw Q3.out); go_simp; (try with_reducible rfl))
          simp only [Act.put, List.setIfInBounds_toArray, List.set_cons_zero, List.set_cons_succ]
          refine anyH_take (i := 3) (d := 85) (L' := #[true, true, true, true, false, false, false, false, false, false, false, false, false, false, false, false, false, false, false, false, false]) (v := ?v22) rfl rfl (by kernel_rfl) (fun _ _ _ h => h) (by rfl) ?hy22 (by assumption) ?rest22
          case hy22 => (intro wx hSw; (try dsimp only at hSw); (have t0 := Chg.cellS hSw Q0.out; have t1 := Chg.cellS hSw Q1.out; have t2 := Chg.cellS hSw Q2.out; have t3 := Chg.cellS hSw Q3.out); go_simp; (try with_reducible rfl))
          simp only [Act.put, List.setIfInBounds_toArray, List.set_cons_zero, List.set_cons_succ]
          refine anyH_take (i := 4) (d := 86) (L' := #[true, true, true, true, true, false, false, false, false, false, false, false, false, false, false, false, false, false, false, false, false]) (v := ?v23) rfl rfl (by kernel_rfl) (fun _ _ _ h => h) (by rfl) ?hy23 (by assumption) ?rest23
          case hy23 => (intro wx hSw; (try dsimp only at hSw); (have t0 := Chg.cellS hSw Q0.out; have t1 := Chg.cellS hSw Q1.out; have t2 := Chg.cellS hSw Q2.out; have t3 := Chg.cellS hSw Q3.out); go_simp; (try with_reducible rfl))
          simp only [Act.put, List.setIfInBounds_toArray, List.set_cons_zero, List.set_cons_succ]
          refine anyH_take (i := 5) (d := 87) (L' := #[true, true, true, true, true, true, false, false, false, false, false, false, false, false, false, false, false, false, false, false, false]) (v := ?v24) rfl rfl (by kernel_rfl) (fun _ _ _ h => h) (by rfl) ?hy24 (by assumption) ?rest24
          case hy24 => (intro wx hSw; (try dsimp only at hSw); (have t0 := Chg.cellS hSw Q0.out; have t1 := Chg.cellS hSw Q1.out; have t2 := Chg.cellS hSw Q2.out; have t3 := Chg.cellS hSw Q3.out); go_simp; (try with_reducible rfl))
          simp only [Act.put, List.setIfInBounds_toArray, List.set_cons_zero, List.set_cons_succ]
          refine anyH_take (i := 6) (d := 88) (L' := #[true, true, true, true, true, true, true, false, false, false, false, false, false, false, false, false, false, false, false, false, false]) (v := ?v25) rfl rfl (by kernel_rfl) (fun _ _ _ h => h) (by rfl) ?hy25 (by assumption) ?rest25
          case hy25 => (intro wx hSw; (try dsimp only at hSw); (have t0 := Chg.cellS hSw Q0.out; have t1 := Chg.cellS hSw Q1.out; have t2 := Chg.cellS hSw Q2.out; have t3 := Chg.cellS hSw Q3.out); go_simp; (try with_reducible rfl))
          simp only [Act.put, List.setIfInBounds_toArray, List.set_cons_zero, List.set_cons_succ]
          refine anyH_run (i := 7) (L' := #[true, true, true, true, true, true, true, true, false, false, false, false, false, false, false, false, false, false, false, false, false]) rfl (by kernel_rfl) (by rfl) (fun KK hKK => ?_)
          go_simp
          (refine (number_any _ _).mono ?_; rintro e wn ⟨rfl, rfl⟩; try go_simp)
          refine hKK.out _ _ (by assumption) (fun hHeld => ?_)
          clear hKK KK
          try simp only [Act.put, List.setIfInBounds_toArray, List.set_cons_zero, List.set_cons_succ]
          refine anyH_run (i := 8) (L' := #[true, true, true, true, true, true, true, true, true, false, false, false, false, false, false, false, false, false, false, false, false]) rfl (by kernel_rfl) (by rfl) (fun KK hKK => ?_)
          go_simp
          (skip)
          refine hKK.out _ _ (by assumption) (fun hHeld => ?_)
          clear hKK KK
          try simp only [Act.put, List.setIfInBounds_toArray, List.set_cons_zero, List.set_cons_succ]
          refine anyH_run (i := 9) (L' := #[true, true, true, true, true, true, true, true, true, true, false, false, false, false, false, false, false, false, false, false, false]) rfl (by kernel_rfl) (by rfl) (fun KK hKK => ?_)
          go_simp
          (skip)
          refine hKK.out _ _ (by assumption) (fun hHeld => ?_)
          clear hKK KK
          try simp only [Act.put, List.setIfInBounds_toArray, List.set_cons_zero, List.set_cons_succ]
          refine anyH_take (i := 10) (d := 92) (L' := #[true, true, true, true, true, true, true, true, true, true, true, false, false, false, false, false, false, false, false, false, false]) (v := ?v29) rfl rfl (by kernel_rfl) (fun _ _ _ h => h) (by rfl) ?hy29 (by assumption) ?rest29
          case hy29 => (intro wx hSw; (try dsimp only at hSw); (have t0 := Chg.cellS hSw Q0.out; have t1 := Chg.cellS hSw Q1.out; have t2 := Chg.cellS hSw Q2.out; have t3 := Chg.cellS hSw Q3.out); go_simp; (try with_reducible rfl))
          simp only [Act.put, List.setIfInBounds_toArray, List.set_cons_zero, List.set_cons_succ]
          refine anyH_take (i := 11) (d := 93) (L' := #[true, true, true, true, true, true, true, true, true, true, true, true, false, false, false, false, false, false, false, false, false]) (v := ?v30) rfl rfl (by kernel_rfl) (fun _ _ _ h => h) (by rfl) ?hy30 (by assumption) ?rest30
          case hy30 => (intro wx hSw; (try dsimp only at hSw); (have t0 := Chg.cellS hSw Q0.out; have t1 := Chg.cellS hSw Q1.out; have t2 := Chg.cellS hSw Q2.out; have t3 := Chg.cellS hSw Q3.out); go_simp; (try with_reducible rfl))
          simp only [Act.put, List.setIfInBounds_toArray, List.set_cons_zero, List.set_cons_succ]
          refine anyH_take (i := 12) (d := 94) (L' := #[true, true, true, true, true, true, true, true, true, true, true, true, true, false, false, false, false, false, false, false, false]) (v := ?v31) rfl rfl (by kernel_rfl) (fun _ _ _ h => h) (by rfl) ?hy31 (by assumption) ?rest31
          case hy31 => (intro wx hSw; (try dsimp only at hSw); (have t0 := HBP.out _ hSw); go_simp; (try with_reducible rfl))
          simp only [Act.put, List.setIfInBounds_toArray, List.set_cons_zero, List.set_cons_succ]
          refine anyH_take (i := 13) (d := 95) (L' := #[true, true, true, true, true, true, true, true, true, true, true, true, true, true, false, false, false, false, false, false, false]) (v := ?v32) rfl rfl (by kernel_rfl) (fun _ _ _ h => h) (by rfl) ?hy32 (by assumption) ?rest32
          case hy32 => (intro wx hSw; (try dsimp only at hSw); (have t0 := Chg.cellS hSw Q0.out; have t1 := Chg.cellS hSw Q1.out; have t2 := Chg.cellS hSw Q2.out; have t3 := Chg.cellS hSw Q3.out); go_simp; (try with_reducible rfl))
          simp only [Act.put, List.setIfInBounds_toArray, List.set_cons_zero, List.set_cons_succ]
          refine anyH_take (i := 14) (d := 96) (L' := #[true, true, true, true, true, true, true, true, true, true, true, true, true, true, true, false, false, false, false, false, false]) (v := ?v33) rfl rfl (by kernel_rfl) (fun _ _ _ h => h) (by rfl) ?hy33 (by assumption) ?rest33
          case hy33 => (intro wx hSw; (try dsimp only at hSw); (have t0 := Chg.cellS hSw Q0.out; have t1 := Chg.cellS hSw Q1.out; have t2 := Chg.cellS hSw Q2.out; have t3 := Chg.cellS hSw Q3.out); go_simp; (try with_reducible rfl))
          simp only [Act.put, List.setIfInBounds_toArray, List.set_cons_zero, List.set_cons_succ]
          refine anyH_take (i := 15) (d := 97) (L' := #[true, true, true, true, true, true, true, true, true, true, true, true, true, true, true, true, false, false, false, false, false]) (v := ?v34) rfl rfl (by kernel_rfl) (fun _ _ _ h => h) (by rfl) ?hy34 (by assumption) ?rest34
          case hy34 => (intro wx hSw; (try dsimp only at hSw); (have t0 := Chg.cellS hSw Q0.out; have t1 := Chg.cellS hSw Q1.out; have t2 := Chg.cellS hSw Q2.out; have t3 := Chg.cellS hSw Q3.out); go_simp; (try with_reducible rfl))
          simp only [Act.put, List.setIfInBounds_toArray, List.set_cons_zero, List.set_cons_succ]
          refine anyH_take (i := 16) (d := 98) (L' := #[true, true, true, true, true, true, true, true, true, true, true, true, true, true, true, true, true, false, false, false, false]) (v := ?v35) rfl rfl (by kernel_rfl) (fun _ _ _ h => h) (by rfl) ?hy35 (by assumption) ?rest35
          case hy35 => (intro wx hSw; (try dsimp only at hSw); (have t0 := Chg.cellS hSw Q0.out; have t1 := Chg.cellS hSw Q1.out; have t2 := Chg.cellS hSw Q2.out; have t3 := Chg.cellS hSw Q3.out); go_simp; (try with_reducible rfl))
          simp only [Act.put, List.setIfInBounds_toArray, List.set_cons_zero, List.set_cons_succ]
          refine anyH_take (i := 17) (d := 99) (L' := #[true, true, true, true, true, true, true, true, true, true, true, true, true, true, true, true, true, true, false, false, false]) (v := ?v36) rfl rfl (by kernel_rfl) (fun _ _ _ h => h) (by rfl) ?hy36 (by assumption) ?rest36
          case hy36 => (intro wx hSw; (try dsimp only at hSw); (have t0 := Chg.cellS hSw Q0.out; have t1 := Chg.cellS hSw Q1.out; have t2 := Chg.cellS hSw Q2.out; have t3 := Chg.cellS hSw Q3.out); go_simp; (try with_reducible rfl))
          simp only [Act.put, List.setIfInBounds_toArray, List.set_cons_zero, List.set_cons_succ]
          refine anyH_take (i := 18) (d := 100) (L' := #[true, true, true, true, true, true, true, true, true, true, true, true, true, true, true, true, true, true, true, false, false]) (v := ?v37) rfl rfl (by kernel_rfl) (fun _ _ _ h => h) (by rfl) ?hy37 (by assumption) ?rest37
          case hy37 => (intro wx hSw; (try dsimp only at hSw); (have t0 := HBU.out _ hSw); go_simp; (try with_reducible rfl))
          simp only [Act.put, List.setIfInBounds_toArray, List.set_cons_zero, List.set_cons_succ]
          refine anyH_take (i := 19) (d := 101) (L' := #[true, true, true, true, true, true, true, true, true, true, true, true, true, true, true, true, true, true, true, true, false]) (v := ?v38) rfl rfl (by kernel_rfl) (fun _ _ _ h => h) (by rfl) ?hy38 (by assumption) ?rest38
          case hy38 => (intro wx hSw; (try dsimp only at hSw); (have t0 := Chg.cellS hSw Q0.out; have t1 := Chg.cellS hSw Q1.out; have t2 := Chg.cellS hSw Q2.out; have t3 := Chg.cellS hSw Q3.out); go_simp; (try with_reducible rfl))
          simp only [Act.put, List.setIfInBounds_toArray, List.set_cons_zero, List.set_cons_succ]
          refine anyH_run (i := 20) (L' := #[true, true, true, true, true, true, true, true, true, true, true, true, true, true, true, true, true, true, true, true, true]) rfl (by kernel_rfl) (by rfl) (fun KK hKK => ?_)
          go_simp
          (skip)
          refine hKK.out _ _ (by assumption) (fun hHeld => ?_)
          clear hKK KK
          try simp only [Act.put, List.setIfInBounds_toArray, List.set_cons_zero, List.set_cons_succ]
          refine wpAnyH_done (by kernel_rfl) ?_ _
          go_wp2_with fail
          go_roundw
          case rel => exact ⟨i + 1, by omega, by go_num, hci.drew⟩
          case measure => simp [intOf]; omega
        · have hin : i = ps.length := by omega
          subst hin
          replace hch := hch.k hci
          have hz : 0 ≤ cut % 65536 ∧ cut % 65536 < 65536 := by omega
          obtain ⟨hz0, hz1⟩ := hz
          obtain ⟨K, hK⟩ : ∃ K : Nat, cut % 65536 % ((recLen (numsR ps) : Int) + 1) = K := ⟨(cut % 65536 % ((recLen (numsR ps) : Int) + 1)).toNat, by rw [Int.toNat_of_nonneg]; exact Int.emod_nonneg _ (by omega)⟩
          have hKl : K ≤ recLen (numsR ps) := by have := Int.emod_lt_of_pos (cut % 65536) (show (0 : Int) < (recLen (numsR ps) : Int) + 1 by omega); omega
          obtain ⟨m, t, i1, i2, i3, i4, i5⟩ := cut_cat 200 (numsR ps) K Hfine.out hKl
          have hsc : scanB 200 ((catF (numsR ps)).take K) = (numsR ps).take m := by
            rw [i4]
            exact scanB_cat 200 t i5 _ (fun r hr => Hfine.out r (List.mem_of_mem_take hr)) (fun r hr => Hmost.out r (List.mem_of_mem_take hr))
          have hm : m ≤ ps.length := by simpa [numsR] using i1
          have hB1 := HB0.out.k hci
          have hE1 := HE.out.k hci
          have HK := hd hK
          have HSC := hd hsc
          have HKL : Hd (((catF (numsR ps)).take K).length = K) := hd (by rw [List.length_take, hcl.out]; omega)
          have hn : (numsR ps).length = ps.length := by simp [numsR]
          have HI3 : Hd (m < ps.length → K < recLen ((numsR ps).take (m + 1))) := hd (by rw [← hn]; exact i3)
          have HI2 := hd i2
          have HE1 := hd hE1
          clear hK hsc i4 i5 i1 i2 i3 hn hci hE1
          go_upto_region 25 with (fail)
          rw [HK.out]
          go_wp2_with (refine wpCutB rfl _ _ _ rfl _ _ rfl hB1 0 K (.inl ⟨rfl, rfl⟩) (.inr ⟨.i64, rfl⟩) (by omega) (by rw [hcl.out]; exact hKl) ?_; intro aoK cK hKs _)
          have hKs' : Bs wr (.slice aoK ((catF (numsR ps)).take K).length cK) ((catF (numsR ps)).take K) := by rw [HKL.out]; simpa using hKs
          have hAll := All_any aoK cK ((catF (numsR ps)).take K) 200 _ hKs' (by rw [HKL.out]; omega)
          rw [HKL.out] at hAll
          clear hKs hKs'
          refine (hAll).mono ?_
          rintro e w62 ⟨v, rs2, rfl, hrs, hR2, hc62⟩
          have hE2 := HE1.out.k hc62
          replace hch := hch.k hc62
          rw [HSC.out] at hrs
          obtain ⟨aoR2, cR2, rfl⟩ := hR2.form
          have hrsl : rs2.length = m := by have := congrArg List.length hrs; simp [numsR] at this; omega
          rw [hrsl, hrs]
          clear hrs hrsl hR2 hc62 hB1 HE1 HSC HKL HR HRS HRL
          obtain ⟨aoE, capE, bE, offE, hvE, -, -, -, haoE, hcE⟩ := hE2.fs.open
          rw [endsR_length] at hvE haoE
          simp only [Value.slice.injEq, true_and] at hvE
          obtain ⟨rfl, rfl⟩ := hvE
          have HCE := hd hcE
          clear hcE hE2
          go_wp2_with fail
          go_loopw [18, 19, 119] (fun t18 t19 t119 wi => ∃ i : Nat, i ≤ ps.length ∧ t119 = .int .i64 i ∧ t18 = .int .i64 ((min i m : Nat) : Int) ∧ t19 = .int .i64 ((recLen ((numsR ps).take (min i m)) : Nat) : Int) ∧ wi = w62) (fun _ _ t119 _ => ps.length - (intOf t119).toNat)
          case atStart => exact ⟨0, by omega, rfl, by simp, by simp [recLen], rfl⟩
          case round =>
            obtain ⟨i, hi, rfl, rfl, rfl, rfl⟩ := hrel
            by_cases hil : i < ps.length
            · obtain rfl := haoE (by omega)
              have hx := HCE.out i (by rw [endsR_length]; exact hil)
              have hg : (endsR (numsR ps) ps.length)[i]'(by rw [endsR_length]; exact hil) = ((recLen ((numsR ps).take (i + 1)) : Nat) : Int) := by simp [endsR]
              rw [hg] at hx
              clear hg
              by_cases him : i < m
              · have hle : ((recLen ((numsR ps).take (i + 1)) : Nat) : Int) ≤ (K : Int) := by
                  have := recLen_take_mono (numsR ps) (show i + 1 ≤ m by omega)
                  have := HI2.out
                  omega
                have e1 : min i m = i := by omega
                have e2 : min (i + 1) m = i + 1 := by omega
                rw [e1]
                have E2 := hd e2
                clear e1 e2
                go_wp2_with fail
                go_roundw
                case rel => exact ⟨i + 1, by omega, by go_num, by rw [E2.out]; go_num, by rw [E2.out], trivial⟩
                case measure => simp [intOf]; omega
              · have hgt : ¬ ((recLen ((numsR ps).take (i + 1)) : Nat) : Int) ≤ (K : Int) := by
                  have h1 := recLen_take_mono (numsR ps) (show m + 1 ≤ i + 1 by omega)
                  have h2 := HI3.out (by omega)
                  omega
                have e1 : min i m = m := by omega
                have e2 : min (i + 1) m = m := by omega
                rw [e1]
                have E2 := hd e2
                clear e1 e2
                go_wp2_with fail
                go_roundw
                case rel => exact ⟨i + 1, by omega, by go_num, by rw [E2.out], by rw [E2.out], trivial⟩
                case measure => simp [intOf]; omega
            · have hin : i = ps.length := by omega
              subst hin
              have e1 : min ps.length m = m := by omega
              rw [e1]
              clear e1
              go_wp2_with fail
              go_ret
              exact ⟨rfl, hc.k hch⟩
end Go.Proofs.Yteeanpbdnpmpaaa
