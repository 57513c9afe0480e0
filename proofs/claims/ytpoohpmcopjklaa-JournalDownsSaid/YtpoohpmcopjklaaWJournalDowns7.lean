/- Words and walks that JournalDowns rests on, part 7. -/
import Derived.Test.YtpoohpmcopjklaaWJournalDowns5
import Derived.Test.YtpoohpmcopjklaaWJournalDowns6
import Derived.Test.YtpoohpmcopjklaaWJournalDowns4
import Derived.Test.YtpoohpmcopjklaaWJournalDowns1
/- JournalWrites: the walk. -/
namespace Go.Proofs.Ytpoohpmcopjklaa
open Go.RowKit

theorem fine_nums {ps : List (Int × List UInt8)} (hlt : lightN ps ≤ 2000) : FineR (numsR ps) ∧ ∀ q ∈ numsR ps, (q.2.length : Int) ≤ 16384 := by
  have one : ∀ x ∈ ps, 1 + x.2.length ≤ lightN ps := fun x hx => by
    obtain ⟨j, hj, rfl⟩ := List.getElem_of_mem hx
    have := lightN_snoc ps j hj
    have := lightN_take ps (j + 1)
    omega
  refine ⟨fun q hq => ?_, fun q hq => ?_⟩
  · obtain ⟨x, hx, rfl⟩ := List.mem_map.1 hq
    have := one x hx
    exact ⟨Int.emod_nonneg _ (by decide), by have := Int.emod_lt_of_pos x.1 (show (0 : Int) < 4611686018427387904 by decide); omega, by simp only; omega⟩
  · obtain ⟨x, hx, rfl⟩ := List.mem_map.1 hq
    have := one x hx
    simp only
    omega
theorem RecL.low {S : List Nat} {w w' : World} {base : Nat} {v : Value} {rs : List RecV} (h : RecL w base v rs) (hc : Chg S w w') (hS : ∀ x ∈ S, x < base) : RecL w' base v rs :=
  ⟨ownsRow_chg h.1 hc fun k hk hx => by have h1 := (World.ownsRow.lt h.1 k hk).1; have h2 := hS k hx; omega, fun r hr => ⟨OwB.chg (h.2 r hr).1 hc fun k hk hx => by have h1 := ((h.2 r hr).1.lo k hk).1; have h2 := hS k hx; omega, (h.2 r hr).2⟩⟩
theorem light_count (ps : List (Int × List UInt8)) : ps.length ≤ lightN ps := by
  unfold lightN
  induction ps with
  | nil => simp
  | cons x ps ih => simp only [List.map_cons, List.sum_cons, List.length_cons]; omega

section
attribute [local go_sem] and62
set_option maxRecDepth 100000 in
set_option maxHeartbeats 1500000 in
theorem JournalWrites_law (seq : Int) (v1 : Value) (ps : List (Int × List UInt8)) (v2 : Value) (tl : List UInt8) (w : World) (_lo : -9223372036854775808 ≤ seq) (_hi : seq ≤ 9223372036854775807) (h1 : Rds EPart 2 w v1 ps) (h2 : Bs w v2 tl) (_hl2 : tl.length ≤ 140737488351232) :
    Calls Try.prog 4 #[.int .i64 seq, v1, v2] w fun e w' => e = .returned (.bool true) ∧ Chg [] w w' := by
  obtain ⟨ao1, cap1, rfl⟩ := h1.form
  obtain ⟨ao2, cap2, b2, off2, rfl, -⟩ := h2.open
  have H1 := hd h1
  have H2 := hd h2
  go_enter Try.func4, Try.ntmps4
  go_wp2_with fail
  refine (fit19_any _).mono ?_
  rintro e w1 ⟨rfl, hc⟩
  go_wp2_with fail
  refine (light_any w1 _ ps (h1.k (fun _ _ h => h.k hc) hc)).mono ?_
  rintro e w2 ⟨rfl, hc2⟩
  replace hc := hc.k hc2
  clear hc2 h1 h2
  by_cases hlt : lightN ps ≤ 2000
  case neg =>
    rw [decide_eq_false hlt]
    go_wp2_with fail
    go_ret
    exact ⟨rfl, hc⟩
  rw [decide_eq_true hlt]
  by_cases htl : tl.length ≤ 15
  case neg =>
    have htl' : (15 : Int) < (tl.length : Int) := by omega
    go_wp2_with fail
    go_ret
    exact ⟨rfl, hc⟩
  have htl' : ¬ (15 : Int) < (tl.length : Int) := by omega
  have hplen : ps.length ≤ 2000 := Nat.le_trans (light_count ps) hlt
  obtain ⟨n, hn⟩ : ∃ n : Nat, seq % 4611686018427387904 = (n : Int) := ⟨(seq % 4611686018427387904).toNat, by rw [Int.toNat_of_nonneg]; exact Int.emod_nonneg _ (by decide)⟩
  have hnl : n < 4611686018427387904 := by have := Int.emod_lt_of_pos seq (show (0 : Int) < 4611686018427387904 by decide); omega
  have hs0 := nameD_seg n
  have J0 := js_begin 1048576 hs0 (by decide)
  have E0 := new_beginE 1048576 hs0 (by decide)
  have O0 := ops_begin 1048576 hs0 (by decide)
  go_wp2_with fail
  refine (number19_any _ _).mono ?_
  rintro e wx ⟨rfl, rfl⟩
  rw [hn]
  clear hn
  go_wp2_with fail
  refine (DNew_any _ 1048576 (by decide)).mono ?_
  rintro e w3 ⟨b, fp, rfl, hk3, hc3, hf3⟩
  go_wp2_with fail
  refine (Begin_any hk3 n (by omega) (by decide)).mono ?_
  rintro e w4 ⟨rfl, h4⟩
  have hS4 := h4.ds (w0 := w) (hc.k hc3) (fun k hk => Nat.le_trans hc.size (hf3 k hk))
  generalize beginD (newD 1048576) (segB n) = d0 at *
  rw [E0]
  obtain ⟨hag1, hag2, hag3⟩ := J0.again hs0
  obtain ⟨fp4, hk4, hc4, hf4⟩ := hS4
  have HO0 := hd O0
  clear h4 hk3 hc3 hf3 O0 hs0 J0 E0
  go_wp2_with fail
  refine (Begin_any hk4 n (by omega) (by rw [HO0.out]; decide)).mono ?_
  rintro e w5 ⟨rfl, h5⟩
  rw [hag1]
  have hS5 := h5.ds hc4 hf4
  have hOO : (beginD d0 (segB n)).ops = 3 := by rw [hag3, HO0.out]; rfl
  generalize beginD d0 (segB n) = d1 at *
  have HJ0 := hd hag2
  have HO1 := hd hOO
  have HS5 := hd hS5
  clear h5 hk4 hc4 hf4 hS5 hag1 hag2 hag3 HO0 hOO
  go_wp2_with fail
  go_loopw [9, 43] (fun _ i wr => ∃ k : Nat, ∃ d : Dsk, k ≤ ps.length ∧ i = .int .i64 k ∧ Hd (d.ops ≤ 3 + 2 * (k : Int)) ∧ Hd (Js 1048576 (segB n) (toldB (ps.take k)) d) ∧ Hd (DS w wr b d)) (fun _ i _ => ps.length - (intOf i).toNat)
  case atStart => exact ⟨0, d1, by omega, rfl, hd (by rw [HO1.out]; decide), HJ0, HS5⟩
  case round =>
    obtain ⟨k, d, hk, rfl, hO, hJ, hS⟩ := hrel
    by_cases hlt2 : k < ps.length
    · obtain ⟨b0, off0, capx, hv, hpc, hpm, hel⟩ := H1.out.at (by omega)
      simp only [Value.slice.injEq, true_and] at hv
      obtain ⟨rfl, rfl⟩ := hv
      obtain ⟨c, ⟨u, rfl, hbu, nlo, nhi, hll⟩, -, hcell⟩ := hel k hlt2
      have hch := hS.out.chg
      have q0 := Chg.cellS hch (hcell 0 (by decide))
      have q1 := Chg.cellS hch (hcell 1 (by decide))
      simp at q0 q1
      obtain ⟨aou, cu, bu, ou, rfl, -⟩ := hbu.open
      replace hbu := hbu.k hch
      have hT := toldB_snoc ps k hlt2
      have hTl : (toldB (ps.take k)).length ≤ 40000 := by have := toldB_length (ps.take k); have := lightN_take ps k; omega
      have hxl : ps[k].2.length ≤ 2000 := by have h1 := lightN_snoc ps k hlt2; have h2 := lightN_take ps (k + 1); omega
      clear hel hcell hch
      generalize hX : ps[k] = X at *
      obtain ⟨xn, xp⟩ := X
      simp only at q0 q1 hbu nlo nhi hll hT hxl
      obtain ⟨m, hm⟩ : ∃ m, m = xn % 4611686018427387904 := ⟨_, rfl⟩
      rw [← hm] at hT
      have HM := hd hm
      have hroom : ((toldB (ps.take k)).length : Int) + ((frameB m xp).length : Int) ≤ 1048576 := by rw [frameB_length]; omega
      have hJ2 := hJ.out.write (frameB m xp) hroom
      have hWE := hJ.out.jd.writeE (frameB m xp) hroom
      have hO2 := ops_writeD d (segB n) (frameB m xp)
      have hrm := hJ.out.jd.room
      rw [← hT] at hJ2
      have HJ2 := hd hJ2
      have HO2 := hd hO2
      have HRM := hd hrm
      have HWE := hd hWE
      clear hT hJ2 hO2 hm hrm hX hWE hroom
      obtain ⟨fpx, hkx, hcx, hfx⟩ := hS.out
      go_upto_region 12 with (fail)
      have k9 := Blk.new wr #[.int .i64 xn, .slice aou xp.length cu] 32
      have n9 : wr.heap.size ∉ fpx := fun h => by have := hkx.fpl _ h; omega
      have hcA := (Chg.refl [] wr).alloc (.cells #[.int .i64 xn, .slice aou xp.length cu] 32)
      replace hkx := hkx.k hcA
      replace hcx := hcx.k hcA
      replace hbu := hbu.k hcA
      clear hcA
      generalize wr.alloc (.cells #[.int .i64 xn, .slice aou xp.length cu] 32) = wq at *
      have r0 := k9.cell 0
      have r1 := k9.cell 1
      simp at r0 r1
      have R0 := hd r0
      have R1 := hd r1
      have HBU := hd hbu
      have HKX := hd hkx
      clear r0 r1 k9 hbu q0 q1 hkx
      refine anyH_start (n := 9) (L := #[false, false, false, false, false, false, false, false, false]) (by kernel_rfl) (by kernel_rfl) (S := (fun wx => Chg fpx wq wx)) ((Chg.refl _ _).drew) (fun hHeld => ?_)
      refine anyH_take (i := 0) (d := 47) (L' := #[true, false, false, false, false, false, false, false, false]) (v := ?v9) rfl rfl (by kernel_rfl) (fun _ _ _ h => h) (by rfl) ?hy9 (by assumption) ?rest9
      case hy9 => (intro wx hSw; (try dsimp only at hSw); (have t0 := hSw.cellT R0.out n9; have t1 := hSw.cellT R1.out n9); go_simp; (try with_reducible rfl))
      simp only [Act.put, List.setIfInBounds_toArray, List.set_cons_zero, List.set_cons_succ]
      refine anyH_take (i := 1) (d := 48) (L' := #[true, true, false, false, false, false, false, false, false]) (v := ?v10) rfl rfl (by kernel_rfl) (fun _ _ _ h => h) (by rfl) ?hy10 (by assumption) ?rest10
      case hy10 => (intro wx hSw; (try dsimp only at hSw); (have t0 := hSw.cellT R0.out n9; have t1 := hSw.cellT R1.out n9); go_simp; (try with_reducible rfl))
      simp only [Act.put, List.setIfInBounds_toArray, List.set_cons_zero, List.set_cons_succ]
      refine anyH_take (i := 2) (d := 49) (L' := #[true, true, true, false, false, false, false, false, false]) (v := ?v11) rfl rfl (by kernel_rfl) (fun _ _ _ h => h) (by rfl) ?hy11 (by assumption) ?rest11
      case hy11 => (intro wx hSw; (try dsimp only at hSw); (have t0 := hSw.cellT R0.out n9; have t1 := hSw.cellT R1.out n9); go_simp; (try with_reducible rfl))
      simp only [Act.put, List.setIfInBounds_toArray, List.set_cons_zero, List.set_cons_succ]
      refine anyH_take (i := 3) (d := 50) (L' := #[true, true, true, true, false, false, false, false, false]) (v := ?v12) rfl rfl (by kernel_rfl) (fun _ _ _ h => h) (by rfl) ?hy12 (by assumption) ?rest12
      case hy12 => (intro wx hSw; (try dsimp only at hSw); (have t0 := hSw.cellT R0.out n9; have t1 := hSw.cellT R1.out n9); go_simp; (try with_reducible rfl))
      simp only [Act.put, List.setIfInBounds_toArray, List.set_cons_zero, List.set_cons_succ]
      refine anyH_take (i := 5) (d := 52) (L' := #[true, true, true, true, false, true, false, false, false]) (v := ?v13) rfl rfl (by kernel_rfl) (fun _ _ _ h => h) (by rfl) ?hy13 (by assumption) ?rest13
      case hy13 => (intro wx hSw; (try dsimp only at hSw); (have t0 := hSw.cellT R0.out n9; have t1 := hSw.cellT R1.out n9); go_simp; (try with_reducible rfl))
      simp only [Act.put, List.setIfInBounds_toArray, List.set_cons_zero, List.set_cons_succ]
      refine anyH_take (i := 6) (d := 53) (L' := #[true, true, true, true, false, true, true, false, false]) (v := ?v14) rfl rfl (by kernel_rfl) (fun _ _ _ h => h) (by rfl) ?hy14 (by assumption) ?rest14
      case hy14 => (intro wx hSw; (try dsimp only at hSw); (have t0 := hSw.cellT R0.out n9; have t1 := hSw.cellT R1.out n9); go_simp; (try with_reducible rfl))
      simp only [Act.put, List.setIfInBounds_toArray, List.set_cons_zero, List.set_cons_succ]
      refine anyH_run (i := 4) (L' := #[true, true, true, true, true, true, true, false, false]) rfl (by kernel_rfl) (by rfl) (fun KK hKK => ?_)
      go_simp
      (refine (number19_any _ _).mono ?_; rintro e wn ⟨rfl, rfl⟩; rw [← HM.out]; (try go_simp))
      refine hKK.out _ _ (by assumption) (fun hHeld => ?_)
      clear hKK KK
      try simp only [Act.put, List.setIfInBounds_toArray, List.set_cons_zero, List.set_cons_succ]
      refine anyH_run (i := 7) (L' := #[true, true, true, true, true, true, true, true, false]) rfl (by kernel_rfl) (by rfl) (fun KK hKK => ?_)
      go_simp
      (refine (Write_any (HKX.out.k ((Chg.refl [] wq).drew)) n (by omega) m _ xp (HBU.out.k ((Chg.refl [] wq).drew)) (by omega) (.inr (by rw [HRM.out]; decide)) (by have := hO.out; omega)).mono ?_; rintro e w6 ⟨rfl, h6⟩; rw [HWE.out]; have hcq : Chg fpx wq w6 := (Chg.refl fpx wq).drew.trans h6.chg (fun _ h _ => h); have hS6 := hd ((h6.after ((Chg.refl fpx wq).drew)).ds hcx hfx); clear h6; (try go_simp))
      refine hKK.out _ _ (by assumption) (fun hHeld => ?_)
      clear hKK KK
      try simp only [Act.put, List.setIfInBounds_toArray, List.set_cons_zero, List.set_cons_succ]
      refine anyH_run (i := 8) (L' := #[true, true, true, true, true, true, true, true, true]) rfl (by kernel_rfl) (by rfl) (fun KK hKK => ?_)
      go_simp
      (skip)
      refine hKK.out _ _ (by assumption) (fun hHeld => ?_)
      clear hKK KK
      try simp only [Act.put, List.setIfInBounds_toArray, List.set_cons_zero, List.set_cons_succ]
      refine wpAnyH_done (by kernel_rfl) ?_ _
      go_wp2_with fail
      go_roundw
      case rel => exact ⟨k + 1, writeD d (segB n) (frameB m xp), by omega, by go_num, hd (by have := hO.out; have := HO2.out; omega), HJ2, hS6⟩
      case measure => simp [intOf]; omega
    · obtain rfl : k = ps.length := by omega
      have hJF := hJ.out
      rw [List.take_length] at hJF
      obtain ⟨fpx, hkx, hcx, hfx⟩ := hS.out
      have hJC := hJF.crash []
      have hcr := Crash_any hkx 0 (.slice none 0 0) [] (OwI.nil wr 0).fs (by simp [Value.ownBlock])
      have hO3 : d.ops ≤ 5000 := by have := hO.out; omega
      clear hS hJF hJ hO
      go_wp2_with fail
      refine (hcr).mono ?_
      rintro e w5 ⟨rfl, h5⟩
      obtain ⟨fp5, hk5, hc5, hf5⟩ := h5.ds hcx hfx
      obtain ⟨hJC, hOC⟩ := hJC
      have hO4 : (crashD d 0 []).ops ≤ 5000 := by rw [hOC]; exact hO3
      clear h5 hcr hkx hcx hfx hO3 hOC
      generalize crashD d 0 [] = d2 at *
      have HJ2 := hd hJC
      have HO2 := hd hO4
      clear hJC hO4
      go_wp2_with fail
      refine (Segment_any w5 n (by omega)).mono ?_
      rintro e w6 ⟨rfl, hc6⟩
      replace hk5 := hk5.k hc6
      replace hc5 := hc5.k hc6
      clear hc6
      go_wp2_with fail
      refine (Read_any hk5 (segB n) (by rw [segB_length]; decide) (by have := HO2.out; omega)).mono ?_
      rintro e w7 ⟨ao7, n7, c7, rfl, hb7, hk7, hc7⟩
      have hD7 := DS.same hk7 hk5 hc5 hf5 hc7
      have hx7 := hD7.chg
      rw [HJ2.out.jd.syncE, if_pos rfl, HJ2.out.jd.bytes] at hb7
      rw [HJ2.out.jd.syncE]
      have hBl : (toldB ps).length ≤ 40000 := by have := toldB_length ps; omega
      have htold : ∀ wx, Chg [] w7 wx → Calls Try.prog 20 #[.slice ao1 ps.length cap1] wx fun e w' => e = .returned (.string (strB (toldB ps))) ∧ Chg [] wx w' := fun wx hx => told_any wx _ ps (H1.out.k (fun _ _ h => h.k (hx7.k hx)) (hx7.k hx)) hlt
      have HJ3 := hd HJ2.out.op
      obtain ⟨ao', c', e⟩ := hb7.form
      simp only [Value.slice.injEq] at e
      obtain ⟨rfl, rfl, rfl⟩ := e
      have HS7 := hd hb7.bs.strs
      have HK7 := hd hk7
      have HX7 := hd hx7
      have HTOLD := hd htold
      have HF5 := hd hf5
      have HO3 : Hd ((opD d2).ops ≤ 5001) := hd (by show d2.ops + 1 ≤ 5001; have := HO2.out; omega)
      clear hb7 hk7 hx7 htold hk5 hc5 hf5 hc7 hD7
      generalize opD d2 = d3 at *
      obtain ⟨B, hB⟩ : ∃ B, B = toldB ps := ⟨_, rfl⟩
      rw [← hB] at HTOLD HS7 HJ3 hBl ⊢
      have HB := hd hB
      clear hB HJ2 HO2
      go_upto_region 17 with (fail)
      refine anyH_start (n := 9) (L := #[false, false, false, false, false, false, false, false, false]) (by kernel_rfl) (by kernel_rfl) (S := (fun wx => Chg [] w7 wx)) ((Chg.refl _ _).drew) (fun hHeld => ?_)
      refine anyH_take (i := 0) (d := 66) (L' := #[true, false, false, false, false, false, false, false, false]) (v := ?v23) rfl rfl (by kernel_rfl) (fun _ _ _ h => h) (by rfl) ?hy23 (by assumption) ?rest23
      case hy23 => (intro wx hSw; (try dsimp only at hSw); (skip); go_simp; (try with_reducible rfl))
      simp only [Act.put, List.setIfInBounds_toArray, List.set_cons_zero, List.set_cons_succ]
      refine anyH_take (i := 1) (d := 67) (L' := #[true, true, false, false, false, false, false, false, false]) (v := ?v24) rfl rfl (by kernel_rfl) (fun _ _ _ h => h) (by rfl) ?hy24 (by assumption) ?rest24
      case hy24 => (intro wx hSw; (try dsimp only at hSw); (skip); go_simp; (try with_reducible rfl))
      simp only [Act.put, List.setIfInBounds_toArray, List.set_cons_zero, List.set_cons_succ]
      refine anyH_take (i := 2) (d := 68) (L' := #[true, true, true, false, false, false, false, false, false]) (v := ?v25) rfl rfl (by kernel_rfl) (fun _ _ _ h => h) (by rfl) ?hy25 (by assumption) ?rest25
      case hy25 => (intro wx hSw; (try dsimp only at hSw); (skip); go_simp; (try with_reducible rfl))
      simp only [Act.put, List.setIfInBounds_toArray, List.set_cons_zero, List.set_cons_succ]
      refine anyH_take (i := 3) (d := 69) (L' := #[true, true, true, true, false, false, false, false, false]) (v := ?v26) rfl rfl (by kernel_rfl) (fun _ _ _ h => h) (by rfl) ?hy26 (by assumption) ?rest26
      case hy26 => (intro wx hSw; (try dsimp only at hSw); (skip); go_simp; (try with_reducible rfl))
      simp only [Act.put, List.setIfInBounds_toArray, List.set_cons_zero, List.set_cons_succ]
      refine anyH_take (i := 4) (d := 70) (L' := #[true, true, true, true, true, false, false, false, false]) (v := ?v27) rfl rfl (by kernel_rfl) (fun _ _ _ h => h) (by rfl) ?hy27 (by assumption) ?rest27
      case hy27 => (intro wx hSw; (try dsimp only at hSw); (have t0 := HS7.out _ hSw); go_simp; (try with_reducible rfl))
      simp only [Act.put, List.setIfInBounds_toArray, List.set_cons_zero, List.set_cons_succ]
      refine anyH_take (i := 5) (d := 71) (L' := #[true, true, true, true, true, true, false, false, false]) (v := ?v28) rfl rfl (by kernel_rfl) (fun _ _ _ h => h) (by rfl) ?hy28 (by assumption) ?rest28
      case hy28 => (intro wx hSw; (try dsimp only at hSw); (skip); go_simp; (try with_reducible rfl))
      simp only [Act.put, List.setIfInBounds_toArray, List.set_cons_zero, List.set_cons_succ]
      refine anyH_run (i := 6) (L' := #[true, true, true, true, true, true, true, false, false]) rfl (by kernel_rfl) (by rfl) (fun KK hKK => ?_)
      go_simp
      (refine (HTOLD.out _ hHeld).mono ?_; rintro e w8 ⟨rfl, hc8⟩; have hm8 := Chg.k hHeld hc8; clear hc8; (try go_simp))
      refine hKK.out _ _ (by assumption) (fun hHeld => ?_)
      clear hKK KK
      try simp only [Act.put, List.setIfInBounds_toArray, List.set_cons_zero, List.set_cons_succ]
      refine anyH_run (i := 7) (L' := #[true, true, true, true, true, true, true, true, false]) rfl (by kernel_rfl) (by rfl) (fun KK hKK => ?_)
      go_simp
      (skip)
      refine hKK.out _ _ (by assumption) (fun hHeld => ?_)
      clear hKK KK
      try simp only [Act.put, List.setIfInBounds_toArray, List.set_cons_zero, List.set_cons_succ]
      refine anyH_run (i := 8) (L' := #[true, true, true, true, true, true, true, true, true]) rfl (by kernel_rfl) (by rfl) (fun KK hKK => ?_)
      go_simp
      (skip)
      refine hKK.out _ _ (by assumption) (fun hHeld => ?_)
      clear hKK KK
      try simp only [Act.put, List.setIfInBounds_toArray, List.set_cons_zero, List.set_cons_succ]
      refine wpAnyH_done (by kernel_rfl) ?_ _
      clear HTOLD HS7
      replace HK7 := hd (HK7.out.k hm8)
      have HX8 := hd (HX7.out.k hm8)
      clear hm8 HX7
      go_wp2_with fail
      refine (Segment_any w8 n (by omega)).mono ?_
      rintro e w9 ⟨rfl, hc9⟩
      replace HK7 := hd (HK7.out.k hc9)
      replace HX8 := hd (HX8.out.k hc9)
      clear hc9
      have hroom2 : (B.length : Int) + (tl.length : Int) ≤ 1048576 := by omega
      have hap := Append_any HK7.out (segB n) (by rw [segB_length]; decide) (by have := HO3.out; omega) _ tl (H2.out.k HX8.out) (by omega)
        (fun hp k hk hf => by
          have h1 := HF5.out k hf
          have := H2.out.lt hp k hk
          omega) (.inr (by rw [HJ3.out.jd.room]; decide))
      have hJ4 := hd (HJ3.out.jd.append tl hroom2)
      have hO4 : Hd ((appendD d3 (segB n) tl).ops ≤ 5002) := hd (by rw [ops_append]; have := HO3.out; omega)
      clear HJ3 HO3 hroom2 HK7 hBl
      generalize appendE d3 (segB n) tl = ae at *
      generalize appendD d3 (segB n) tl = d4 at *
      go_wp2_with fail
      refine (hap).mono ?_
      rintro e w10 ⟨rfl, h10⟩
      obtain ⟨fpA, hkA, hcA, hfA⟩ := h10.ds HX8.out HF5.out
      clear h10 hap HX8 HF5
      have hby := hJ4.out.bytes
      have hsy := hJ4.out.syncE
      have hBl : B.length ≤ 40000 := by rw [HB.out]; have := toldB_length ps; omega
      go_wp2_with fail
      refine (Scan_any hkA n (by omega) (by have := hO4.out; omega) (by rw [hby, List.length_append]; omega)).mono ?_
      rintro e w11 hsc
      obtain ⟨hk11, hc11, hsc⟩ := hsc
      have hD11 := DS.same hk11 hkA hcA hfA hc11
      have hx11 := hD11.chg
      rcases hsc with ⟨hne, -⟩ | ⟨-, v, rs, rfl, hrs, hrl⟩
      · exact absurd hsy hne
      rw [hby] at hrs ⊢
      obtain ⟨hfine, hmost⟩ := fine_nums hlt
      have hBc : B = catF (numsR ps) := HB.out
      rw [hBc, scanB_cat 16384 tl (nextB_few tl _ (by omega)) _ hfine hmost] at hrs
      have hlen : decide (recLen (rs.map bare) = (B ++ tl).length) = decide (tl.length = 0) := by
        rw [hrs, List.length_append, hBc, catF_length]
        by_cases h0 : tl.length = 0
        · rw [decide_eq_true h0, decide_eq_true (by omega)]
        · rw [decide_eq_false h0, decide_eq_false (by omega)]
      rw [hlen]
      obtain ⟨wh, hwh⟩ : ∃ wh, decide (tl.length = 0) = wh := ⟨_, rfl⟩
      rw [hwh]
      have HWH := hd hwh
      have hbA : b < w10.heap.size := by obtain ⟨_, _, _, _, _, hp⟩ := hkA; exact hp.fpl _ hp.fpb
      clear hwh
      obtain ⟨hx1, hx2⟩ := xor1 n hnl
      have hxs := segB_xor n
      obtain ⟨aoR, cR, rfl⟩ := hrl.form
      have HJ5 := hd hJ4.out.op
      have HRS := hd hrs
      have HRL := hd hrl
      have HK11 := hd hk11
      have HX11 := hd hx11
      have HFA := hd hfA
      have HO5 : Hd ((opD d4).ops ≤ 5003) := hd (by show d4.ops + 1 ≤ 5003; have := hO4.out; omega)
      clear hrs hrl hk11 hx11 hlen hfine hmost hBc hsy hby hkA hcA hfA hc11 hD11 hJ4 hO4 hBl
      generalize opD d4 = d5 at *
      generalize n ^^^ 1 = n' at *
      have hsy : syncE d5 (segB n') = 4 := by
        unfold syncE
        rw [HJ5.out.opE, HJ5.out.names, nget_one hxs]
        simp
      have hb0 : bytesD d5 (segB n') = [] := by
        unfold bytesD
        rw [HJ5.out.names, nget_one hxs]
      go_wp2_with fail
      refine (Scan_any HK11.out n' (by omega) (by have := HO5.out; omega) (by rw [hb0]; decide)).mono ?_
      rintro e w12 hsc2
      obtain ⟨hk12, hc12, hsc2⟩ := hsc2
      rcases hsc2 with ⟨-, rfl⟩ | ⟨h0, -⟩
      case inr => rw [hsy] at h0; cases h0
      rw [hsy]
      obtain ⟨bb, hbb⟩ : ∃ q, q = b := ⟨_, rfl⟩
      have hx12 : Chg [] w w12 := HX11.out.trans hc12 (fun x hx hl => by
        obtain rfl : x = b := by simpa using hx
        obtain ⟨_, _, _, _, _, hp⟩ := HK11.out
        have := HFA.out _ hp.fpb
        omega)
      have hrl12 : RecL w12 w10.heap.size (.slice aoR rs.length cR) rs := HRL.out.low hc12 (by simpa using hbA)
      have h1c := H1.out.k (fun _ _ h => h.k hx12) hx12
      have hlike := like_any w12 _ rs _ _ ps hrl12 h1c
      rw [decide_eq_true HRS.out] at hlike
      clear hk12 hc12 hsy hb0 hx1 hx2 hxs hrl12 h1c HK11 HJ5 hbb
      by_cases h0 : tl.length = 0
      · have h0' : ((tl.length : Int) == 0) = true := by rw [beq_iff_eq]; omega
        obtain rfl : wh = true := by rw [← HWH.out]; exact decide_eq_true h0
        clear htl' h0
        go_wp2_with fail
        refine (hlike).mono ?_
        rintro e w13 ⟨rfl, hc13⟩
        have HFIN := hd (hx12.k hc13)
        clear hx12 hc13 hlike
        go_wp2_with fail
        go_ret
        exact ⟨rfl, HFIN.out⟩
      · have h0' : ((tl.length : Int) == 0) = false := by rw [beq_eq_false_iff_ne]; omega
        obtain rfl : wh = false := by rw [← HWH.out]; exact decide_eq_false h0
        clear htl' h0
        go_wp2_with fail
        refine (hlike).mono ?_
        rintro e w13 ⟨rfl, hc13⟩
        have HFIN := hd (hx12.k hc13)
        clear hx12 hc13 hlike
        go_wp2_with fail
        go_ret
        exact ⟨rfl, HFIN.out⟩
end
end Go.Proofs.Ytpoohpmcopjklaa

/- Cutting a slice of parts. -/
namespace Go.Proofs.Ytpoohpmcopjklaa
open Go.RowKit

theorem rowPart19 : RowT Try.prog 22 32 2 32 := RowT.mk (z := .agg #[.int .i64 0, .slice none 0 0]) (by kernel_rfl) (by kernel_rfl) rfl (by decide)
theorem flatten_take (css : List (List Value)) (size : Nat) (h : ∀ c ∈ css, c.length = size) (q : Nat) : (css.take q).flatten = css.flatten.take (q * size) := by
  induction css generalizing q with
  | nil => simp
  | cons c css ih =>
    cases q with
    | zero => simp
    | succ q =>
      have hc : c.length = size := h c (by simp)
      rw [List.take_succ_cons, List.flatten_cons, List.flatten_cons, ih (fun x hx => h x (by simp [hx])), List.take_append, hc, List.take_of_length_le (l := c) (by rw [hc, Nat.succ_mul]; omega), Nat.succ_mul, Nat.add_sub_cancel]
theorem wpCutS {w : World} {ops : Array Oper} {rest : List Oper} {o : Oper} {a : Act} {Q : Exit → Act → World → Prop} (hgd : Region.wanted o (yielded ops a.tmps) = true) (x : Operand) (hi : Option Operand)
    (ho : o.op = .slice 22 x none hi none) (v : Value) (ps : List (Int × List UInt8)) (hx : a.eval x = v) (hv : Rds EPart 2 w v ps) (q : Nat) (hhi : Bound (hi.map a.eval) q ps.length) (hq : q ≤ ps.length)
    (h : ∀ ao c, Rds EPart 2 w (.slice ao q c) (ps.take q) → wpList Try.prog ops Q rest (a.put o.dst (.slice ao q c)) w) : wpList Try.prog ops Q (o :: rest) a w := by
  obtain ⟨css, h1, h2, h3⟩ := hv
  have hall : ∀ c ∈ css, c.length = 2 := by
    intro c hc
    obtain ⟨i, hi, rfl⟩ := List.getElem_of_mem hc
    exact (h2 i (by omega) hi).2
  refine wpCut rowPart19 hgd x none hi ho v ps.length css.flatten hx h3 0 q (.inl ⟨rfl, rfl⟩) hhi (Nat.zero_le _) hq fun ao c h4 _ => ?_
  rw [Nat.sub_zero] at h4 ⊢
  have hlen : (ps.take q).length = q := by rw [List.length_take]; omega
  refine h ao c ⟨css.take q, by rw [List.length_take, List.length_take, h1], fun i hi hi' => ?_, ?_⟩
  · simp only [List.getElem_take]
    simp only [List.length_take] at hi
    exact h2 i (by omega) (by omega)
  · rw [hlen, flatten_take css 2 hall q]
    simpa using h4

/-- The same, told of an elder world. -/
theorem wpCutS0 {w w0 : World} {ops : Array Oper} {rest : List Oper} {o : Oper} {a : Act} {Q : Exit → Act → World → Prop} (hgd : Region.wanted o (yielded ops a.tmps) = true) (x : Operand) (hi : Option Operand)
    (ho : o.op = .slice 22 x none hi none) (v : Value) (ps : List (Int × List UInt8)) (hx : a.eval x = v) (hv : Rds EPart 2 w0 v ps) (q : Nat) (hhi : Bound (hi.map a.eval) q ps.length) (hq : q ≤ ps.length)
    (h : ∀ ao c, Rds EPart 2 w0 (.slice ao q c) (ps.take q) → wpList Try.prog ops Q rest (a.put o.dst (.slice ao q c)) w) : wpList Try.prog ops Q (o :: rest) a w := by
  obtain ⟨css, h1, h2, h3⟩ := hv
  have hall : ∀ c ∈ css, c.length = 2 := by
    intro c hc
    obtain ⟨i, hi, rfl⟩ := List.getElem_of_mem hc
    exact (h2 i (by omega) hi).2
  refine BigFrame.wpList_want hgd fun _ hK => ?_
  obtain ⟨ao, c, hr, h4, -⟩ := run_cut rowPart19 h3 (lo := none) (hi := hi.map a.eval) (p := 0) (q := q) (.inl ⟨rfl, rfl⟩) hhi (Nat.zero_le _) hq
  unfold Oper.wp execOp
  simp only [ho, Sem.run_bind, Sem.run_pure, Result.andThen_ok, Option.map_none, hx, hr]
  rw [Nat.sub_zero] at h4 ⊢
  have hlen : (ps.take q).length = q := by rw [List.length_take]; omega
  refine hK _ _ (h ao c ⟨css.take q, by rw [List.length_take, List.length_take, h1], fun i hi hi' => ?_, ?_⟩)
  · simp only [List.getElem_take]
    simp only [List.length_take] at hi
    exact h2 i (by omega) (by omega)
  · rw [hlen, flatten_take css 2 hall q]
    simpa using h4
end Go.Proofs.Ytpoohpmcopjklaa

/- JournalDowns: the walk. -/
namespace Go.Proofs.Ytpoohpmcopjklaa
open Go.RowKit

theorem and3 (x : Int) : bits .and .i64 x 3 = x % 4 := and_mask x 2 (by decide)
section
attribute [local go_sem] and62 and3
set_option maxRecDepth 100000 in
set_option maxHeartbeats 2000000 in
theorem JournalDowns_law (v0 : Value) (ps : List (Int × List UInt8)) (x1 x2 : Int) (kept : Int) (w : World) (h0 : Rds EPart 2 w v0 ps) (_x1 : -9223372036854775808 ≤ x1 ∧ x1 ≤ 9223372036854775807) (_x2 : -9223372036854775808 ≤ x2 ∧ x2 ≤ 9223372036854775807) (_lo : -9223372036854775808 ≤ kept) (_hi : kept ≤ 9223372036854775807) :
    Calls Try.prog 5 #[v0, .agg #[.int .i64 x1, .int .i64 x2], .int .i64 kept] w fun e w' => e = .returned (.bool true) ∧ Chg [] w w' := by
  obtain ⟨ao0, cap0, rfl⟩ := h0.form
  have H0 := hd h0
  go_enter Try.func5, Try.ntmps5
  go_upto_region 1 with (fail)
  have kb := Blk.new w #[.int .i64 x1, .int .i64 x2] 50
  have hcw := (Chg.refl [] w).alloc (.cells #[.int .i64 x1, .int .i64 x2] 50)
  replace h0 := h0.k (fun _ _ h => h.k hcw) hcw
  generalize w.alloc (.cells #[.int .i64 x1, .int .i64 x2] 50) = wa at *
  have HCW := hd hcw
  have KB := hd kb
  replace H0 := hd h0
  clear hcw kb
  go_wp2_with fail
  refine (fit19_any _).mono ?_
  rintro e w1 ⟨rfl, hc⟩
  go_wp2_with fail
  refine (light_any w1 _ ps (h0.k (fun _ _ h => h.k hc) hc)).mono ?_
  rintro e w2 ⟨rfl, hc2⟩
  replace hc := hc.k hc2
  clear hc2 h0
  by_cases hlt : lightN ps ≤ 2000
  case neg =>
    rw [decide_eq_false hlt]
    go_wp2_with fail
    go_ret
    exact ⟨rfl, HCW.out.k hc⟩
  rw [decide_eq_true hlt]
  by_cases hpz : ps.length = 0
  · have hpz' : (ps.length : Int) = 0 := by omega
    go_wp2_with fail
    go_ret
    exact ⟨rfl, HCW.out.k hc⟩
  have hpz' : ((ps.length : Int) == 0) = false := by rw [beq_eq_false_iff_ne]; omega
  have hplen : ps.length ≤ 2000 := Nat.le_trans (light_count ps) hlt
  obtain ⟨n, hn⟩ : ∃ n, ps.length = n + 1 := ⟨ps.length - 1, by omega⟩
  have hs0 := nameD_seg 0
  have J0 := js_begin 1048576 hs0 (by decide)
  have E0 := new_beginE 1048576 hs0 (by decide)
  have O0 := ops_begin 1048576 hs0 (by decide)
  have HN := hd hn
  clear hn hpz
  go_wp2_with fail
  refine (DNew_any _ 1048576 (by decide)).mono ?_
  rintro e w3 ⟨b, fp, rfl, hk3, hc3, hf3⟩
  go_wp2_with fail
  refine (Begin_any hk3 0 (by decide) (by decide)).mono ?_
  rintro e w4 ⟨rfl, h4⟩
  have hS4 := h4.ds (w0 := wa) (hc.k hc3) (fun k hk => Nat.le_trans hc.size (hf3 k hk))
  generalize beginD (newD 1048576) (segB 0) = d0 at *
  rw [E0]
  have HJ0 := hd J0
  have HO0 := hd O0
  have HS4 := hd hS4
  have hnw : IntKind.i64.wrap ((ps.length : Int) - 1) = (n : Int) := by have := HN.out; rw [IntWalk.i64_in _ (by omega)]; omega
  have hn1 : (ps.length : Int) - 1 = (n : Int) := by have := HN.out; omega
  clear h4 hk3 hc3 hf3 J0 E0 O0 hS4 hs0 hpz' hc
  go_wp2_with (refine wpCutS0 rfl _ _ rfl _ ps rfl H0.out n (.inr ⟨.i64, by first | rfl | (rw [← hn1]; rfl)⟩) (by have := HN.out; omega) ?_; intro ao8 c8 h8; have H8 := hd h8; clear h8)
  have hnp : (ps.take n).length = n := by rw [List.length_take]; have := HN.out; omega
  have HNP := hd hnp
  clear hnw hn1 hnp
  go_loopw [10, 39] (fun _ i wr => ∃ k : Nat, ∃ d : Dsk, k ≤ n ∧ i = .int .i64 k ∧ Hd (d.ops ≤ 2 + 2 * (k : Int)) ∧ Hd (Js 1048576 (segB 0) (toldB (ps.take k)) d) ∧ Hd (DS wa wr b d)) (fun _ i _ => n - (intOf i).toNat)
  case atStart => exact ⟨0, d0, by omega, rfl, hd (by rw [HO0.out]; decide), HJ0, HS4⟩
  case round =>
    obtain ⟨k, d, hk, rfl, hO, hJ, hS⟩ := hrel
    by_cases hlt2 : k < n
    · have hkp : k < ps.length := by have := HN.out; omega
      obtain ⟨b0, off0, capx, hv, hpc, hpm, hel⟩ := H8.out.at (by rw [HNP.out]; omega)
      rw [HNP.out] at hv
      simp only [Value.slice.injEq, true_and] at hv
      obtain ⟨rfl, rfl⟩ := hv
      obtain ⟨c, ⟨u, rfl, hbu, nlo, nhi, hll⟩, -, hcell⟩ := hel k (by rw [HNP.out]; exact hlt2)
      have hch := hS.out.chg
      have q0 := Chg.cellS hch (hcell 0 (by decide))
      have q1 := Chg.cellS hch (hcell 1 (by decide))
      simp at q0 q1
      simp only [List.getElem_take] at hbu nlo nhi hll q0
      obtain ⟨aou, cu, bu, ou, rfl, -⟩ := hbu.open
      replace hbu := hbu.k hch
      have hT := toldB_snoc ps k hkp
      have hTl : (toldB (ps.take k)).length ≤ 40000 := by have := toldB_length (ps.take k); have := lightN_take ps k; omega
      have hxl : ps[k].2.length ≤ 2000 := by have h1 := lightN_snoc ps k hkp; have h2 := lightN_take ps (k + 1); omega
      clear hel hcell hch
      generalize hX : ps[k] = X at *
      obtain ⟨xn, xp⟩ := X
      simp only at q0 q1 hbu nlo nhi hll hT hxl
      obtain ⟨m, hm⟩ : ∃ m, m = xn % 4611686018427387904 := ⟨_, rfl⟩
      rw [← hm] at hT
      have HM := hd hm
      have hroom : ((toldB (ps.take k)).length : Int) + ((frameB m xp).length : Int) ≤ 1048576 := by rw [frameB_length]; omega
      have hJ2 := hJ.out.write (frameB m xp) hroom
      have hWE := hJ.out.jd.writeE (frameB m xp) hroom
      have hO2 := ops_writeD d (segB 0) (frameB m xp)
      have hrm := hJ.out.jd.room
      rw [← hT] at hJ2
      have HJ2 := hd hJ2
      have HO2 := hd hO2
      have HRM := hd hrm
      have HWE := hd hWE
      clear hT hJ2 hO2 hm hrm hX hWE hroom
      obtain ⟨fpx, hkx, hcx, hfx⟩ := hS.out
      go_upto_region 12 with (fail)
      have k9 := Blk.new wr #[.int .i64 xn, .slice aou xp.length cu] 32
      have n9 : wr.heap.size ∉ fpx := fun h => by have := hkx.fpl _ h; omega
      have hcA := (Chg.refl [] wr).alloc (.cells #[.int .i64 xn, .slice aou xp.length cu] 32)
      replace hkx := hkx.k hcA
      replace hcx := hcx.k hcA
      replace hbu := hbu.k hcA
      clear hcA
      generalize wr.alloc (.cells #[.int .i64 xn, .slice aou xp.length cu] 32) = wq at *
      have r0 := k9.cell 0
      have r1 := k9.cell 1
      simp at r0 r1
      have R0 := hd r0
      have R1 := hd r1
      have HBU := hd hbu
      have HKX := hd hkx
      clear r0 r1 k9 hbu q0 q1 hkx
      refine anyH_start (n := 8) (L := #[false, false, false, false, false, false, false, false]) (by kernel_rfl) (by kernel_rfl) (S := (fun wx => Chg fpx wq wx)) ((Chg.refl _ _).drew) (fun hHeld => ?_)
      refine anyH_take (i := 0) (d := 43) (L' := #[true, false, false, false, false, false, false, false]) (v := ?v8) rfl rfl (by kernel_rfl) (fun _ _ _ h => h) (by rfl) ?hy8 (by assumption) ?rest8
      case hy8 => (intro wx hSw; (try dsimp only at hSw); (have t0 := hSw.cellT R0.out n9; have t1 := hSw.cellT R1.out n9); go_simp; (try with_reducible rfl))
      simp only [Act.put, List.setIfInBounds_toArray, List.set_cons_zero, List.set_cons_succ]
      refine anyH_take (i := 1) (d := 44) (L' := #[true, true, false, false, false, false, false, false]) (v := ?v9) rfl rfl (by kernel_rfl) (fun _ _ _ h => h) (by rfl) ?hy9 (by assumption) ?rest9
      case hy9 => (intro wx hSw; (try dsimp only at hSw); (have t0 := hSw.cellT R0.out n9; have t1 := hSw.cellT R1.out n9); go_simp; (try with_reducible rfl))
      simp only [Act.put, List.setIfInBounds_toArray, List.set_cons_zero, List.set_cons_succ]
      refine anyH_take (i := 2) (d := 45) (L' := #[true, true, true, false, false, false, false, false]) (v := ?v10) rfl rfl (by kernel_rfl) (fun _ _ _ h => h) (by rfl) ?hy10 (by assumption) ?rest10
      case hy10 => (intro wx hSw; (try dsimp only at hSw); (have t0 := hSw.cellT R0.out n9; have t1 := hSw.cellT R1.out n9); go_simp; (try with_reducible rfl))
      simp only [Act.put, List.setIfInBounds_toArray, List.set_cons_zero, List.set_cons_succ]
      refine anyH_take (i := 4) (d := 47) (L' := #[true, true, true, false, true, false, false, false]) (v := ?v11) rfl rfl (by kernel_rfl) (fun _ _ _ h => h) (by rfl) ?hy11 (by assumption) ?rest11
      case hy11 => (intro wx hSw; (try dsimp only at hSw); (have t0 := hSw.cellT R0.out n9; have t1 := hSw.cellT R1.out n9); go_simp; (try with_reducible rfl))
      simp only [Act.put, List.setIfInBounds_toArray, List.set_cons_zero, List.set_cons_succ]
      refine anyH_take (i := 5) (d := 48) (L' := #[true, true, true, false, true, true, false, false]) (v := ?v12) rfl rfl (by kernel_rfl) (fun _ _ _ h => h) (by rfl) ?hy12 (by assumption) ?rest12
      case hy12 => (intro wx hSw; (try dsimp only at hSw); (have t0 := hSw.cellT R0.out n9; have t1 := hSw.cellT R1.out n9); go_simp; (try with_reducible rfl))
      simp only [Act.put, List.setIfInBounds_toArray, List.set_cons_zero, List.set_cons_succ]
      refine anyH_run (i := 3) (L' := #[true, true, true, true, true, true, false, false]) rfl (by kernel_rfl) (by rfl) (fun KK hKK => ?_)
      go_simp
      (refine (number19_any _ _).mono ?_; rintro e wn ⟨rfl, rfl⟩; rw [← HM.out]; (try go_simp))
      refine hKK.out _ _ (by assumption) (fun hHeld => ?_)
      clear hKK KK
      try simp only [Act.put, List.setIfInBounds_toArray, List.set_cons_zero, List.set_cons_succ]
      refine anyH_run (i := 6) (L' := #[true, true, true, true, true, true, true, false]) rfl (by kernel_rfl) (by rfl) (fun KK hKK => ?_)
      go_simp
      (refine (Write_any (HKX.out.k ((Chg.refl [] wq).drew)) 0 (by decide) m _ xp (HBU.out.k ((Chg.refl [] wq).drew)) (by omega) (.inr (by rw [HRM.out]; decide)) (by have := hO.out; omega)).mono ?_; rintro e w6 ⟨rfl, h6⟩; rw [HWE.out]; have hcq : Chg fpx wq w6 := (Chg.refl fpx wq).drew.trans h6.chg (fun _ h _ => h); have hS6 := hd ((h6.after ((Chg.refl fpx wq).drew)).ds hcx hfx); clear h6; (try go_simp))
      refine hKK.out _ _ (by assumption) (fun hHeld => ?_)
      clear hKK KK
      try simp only [Act.put, List.setIfInBounds_toArray, List.set_cons_zero, List.set_cons_succ]
      refine anyH_run (i := 7) (L' := #[true, true, true, true, true, true, true, true]) rfl (by kernel_rfl) (by rfl) (fun KK hKK => ?_)
      go_simp
      (skip)
      refine hKK.out _ _ (by assumption) (fun hHeld => ?_)
      clear hKK KK
      try simp only [Act.put, List.setIfInBounds_toArray, List.set_cons_zero, List.set_cons_succ]
      refine wpAnyH_done (by kernel_rfl) ?_ _
      go_wp2_with fail
      go_roundw
      case rel => exact ⟨k + 1, writeD d (segB 0) (frameB m xp), by omega, by go_num, hd (by have := hO.out; have := HO2.out; omega), HJ2, hS6⟩
      case measure => simp [intOf]; omega
    · obtain rfl : k = n := by omega
      clear H8 HNP
      have q0 := (KB.out.k hS.out.chg).cell 0
      have q1 := (KB.out.k hS.out.chg).cell 1
      simp at q0 q1
      have Q0 := hd q0
      have Q1 := hd q1
      clear q0 q1
      go_upto_region 15 with (fail)
      refine anyH_start (n := 8) (L := #[false, false, false, false, false, false, false, false]) (by kernel_rfl) (by kernel_rfl) (S := (fun wx => Chg [] wr wx)) ((Chg.refl _ _).drew) (fun hHeld => ?_)
      refine anyH_take (i := 0) (d := 52) (L' := #[true, false, false, false, false, false, false, false]) (v := ?v18) rfl rfl (by kernel_rfl) (fun _ _ _ h => h) (by rfl) ?hy18 (by assumption) ?rest18
      case hy18 => (intro wx hSw; (try dsimp only at hSw); (have t0 := Chg.cellS hSw Q0.out; have t1 := Chg.cellS hSw Q1.out); go_simp; (try with_reducible rfl))
      simp only [Act.put, List.setIfInBounds_toArray, List.set_cons_zero, List.set_cons_succ]
      refine anyH_take (i := 1) (d := 53) (L' := #[true, true, false, false, false, false, false, false]) (v := ?v19) rfl rfl (by kernel_rfl) (fun _ _ _ h => h) (by rfl) ?hy19 (by assumption) ?rest19
      case hy19 => (intro wx hSw; (try dsimp only at hSw); (have t0 := Chg.cellS hSw Q0.out; have t1 := Chg.cellS hSw Q1.out); go_simp; (try with_reducible rfl))
      simp only [Act.put, List.setIfInBounds_toArray, List.set_cons_zero, List.set_cons_succ]
      refine anyH_take (i := 2) (d := 54) (L' := #[true, true, true, false, false, false, false, false]) (v := ?v20) rfl rfl (by kernel_rfl) (fun _ _ _ h => h) (by rfl) ?hy20 (by assumption) ?rest20
      case hy20 => (intro wx hSw; (try dsimp only at hSw); (have t0 := Chg.cellS hSw Q0.out; have t1 := Chg.cellS hSw Q1.out); go_simp; (try with_reducible rfl))
      simp only [Act.put, List.setIfInBounds_toArray, List.set_cons_zero, List.set_cons_succ]
      refine anyH_take (i := 3) (d := 55) (L' := #[true, true, true, true, false, false, false, false]) (v := ?v21) rfl rfl (by kernel_rfl) (fun _ _ _ h => h) (by rfl) ?hy21 (by assumption) ?rest21
      case hy21 => (intro wx hSw; (try dsimp only at hSw); (have t0 := Chg.cellS hSw Q0.out; have t1 := Chg.cellS hSw Q1.out); go_simp; (try with_reducible rfl))
      simp only [Act.put, List.setIfInBounds_toArray, List.set_cons_zero, List.set_cons_succ]
      refine anyH_take (i := 4) (d := 56) (L' := #[true, true, true, true, true, false, false, false]) (v := ?v22) rfl rfl (by kernel_rfl) (fun _ _ _ h => h) (by rfl) ?hy22 (by assumption) ?rest22
      case hy22 => (intro wx hSw; (try dsimp only at hSw); (have t0 := Chg.cellS hSw Q0.out; have t1 := Chg.cellS hSw Q1.out); go_simp; (try with_reducible rfl))
      simp only [Act.put, List.setIfInBounds_toArray, List.set_cons_zero, List.set_cons_succ]
      refine anyH_take (i := 5) (d := 57) (L' := #[true, true, true, true, true, true, false, false]) (v := ?v23) rfl rfl (by kernel_rfl) (fun _ _ _ h => h) (by rfl) ?hy23 (by assumption) ?rest23
      case hy23 => (intro wx hSw; (try dsimp only at hSw); (have t0 := Chg.cellS hSw Q0.out; have t1 := Chg.cellS hSw Q1.out); go_simp; (try with_reducible rfl))
      simp only [Act.put, List.setIfInBounds_toArray, List.set_cons_zero, List.set_cons_succ]
      refine anyH_take (i := 6) (d := 11) (L' := #[true, true, true, true, true, true, true, false]) (v := ?v24) rfl rfl (by kernel_rfl) (fun _ _ _ h => h) (by rfl) ?hy24 (by assumption) ?rest24
      case hy24 => (intro wx hSw; (try dsimp only at hSw); (have t0 := Chg.cellS hSw Q0.out; have t1 := Chg.cellS hSw Q1.out); go_simp; (try with_reducible rfl))
      simp only [Act.put, List.setIfInBounds_toArray, List.set_cons_zero, List.set_cons_succ]
      refine anyH_take (i := 7) (d := 12) (L' := #[true, true, true, true, true, true, true, true]) (v := ?v25) rfl rfl (by kernel_rfl) (fun _ _ _ h => h) (by rfl) ?hy25 (by assumption) ?rest25
      case hy25 => (intro wx hSw; (try dsimp only at hSw); (have t0 := Chg.cellS hSw Q0.out; have t1 := Chg.cellS hSw Q1.out); go_simp; (try with_reducible rfl))
      simp only [Act.put, List.setIfInBounds_toArray, List.set_cons_zero, List.set_cons_succ]
      refine wpAnyH_done (by kernel_rfl) ?_ _
      obtain ⟨dn, hdn⟩ : ∃ dn : Nat, x1 % 4 = (dn : Int) := ⟨(x1 % 4).toNat, by omega⟩
      obtain ⟨fl, hfl⟩ : ∃ fl : Nat, x2 % 4 = (fl : Int) := ⟨(x2 % 4).toNat, by omega⟩
      have hd4 : dn < 4 := by omega
      have hf4 : fl < 4 := by omega
      rw [hdn, hfl]
      clear hdn hfl hHeld
      obtain ⟨fpx, hkx, hcx, hfx⟩ := hS.out
      replace hkx := hkx.k (Chg.refl [] wr).drew
      replace hcx := hcx.k (Chg.refl [] wr).drew
      clear hS
      generalize wr.drew = wq at *
      go_wp2_with fail
      refine (Arm_any hkx dn fl).mono ?_
      rintro e w6 ⟨rfl, h6⟩
      obtain ⟨fp6, hk6, hc6, hf6⟩ := h6.ds hcx hfx
      have hTl : (toldB (ps.take k)).length ≤ 40000 := by have := toldB_length (ps.take k); have := lightN_take ps k; omega
      have HK6 := hd hk6
      have HC6 := hd hc6
      have HF6 := hd hf6
      have HO6 : Hd (0 ≤ d.ops ∧ d.ops ≤ 5000) := hd ⟨hkx.good.ops.1, by have h1 := hO.out; have h2 := HN.out; omega⟩
      clear h6 hkx hcx hfx hk6 hc6 hf6 hO Q0 Q1
      go_wp2_with fail
      go_loopw [13, 14, 62] (fun t13 _ t62 wi => ∃ i : Nat, i ≤ 2 ∧ t62 = .int .i64 i ∧ t13 = .int .i64 (if i = 0 then 0 else if i = 1 then (if dn = 0 then 8 else if fl = 0 then 7 else 0) else wantE dn fl) ∧ wi = w6) (fun _ _ t62 _ => 2 - (intOf t62).toNat)
      case atStart => exact ⟨0, by omega, rfl, rfl, rfl⟩
      case round =>
        obtain ⟨i, hi, rfl, rfl, rfl⟩ := hrel
        have h3 : i = 0 ∨ i = 1 ∨ i = 2 := by omega
        rcases h3 with rfl | rfl | rfl
        · simp only [if_pos]
          by_cases e1 : dn = 0
          · subst e1
            go_wp2_with fail
            go_roundw
            case rel => exact ⟨1, by omega, by go_num, by simp, by trivial⟩
            case measure => simp [intOf]
          · have e1' : ¬ (dn : Int) ≤ 0 := by omega
            by_cases e2 : fl = 0
            · subst e2
              go_wp2_with fail
              go_roundw
              case rel => exact ⟨1, by omega, by go_num, by simp [e1], by trivial⟩
              case measure => simp [intOf]
            · have e2' : ((0 : Int) == (fl : Int)) = false := by rw [beq_eq_false_iff_ne]; omega
              have E1 := hd e1
              have E2 := hd e2
              clear e1 e2
              go_wp2_with fail
              go_roundw
              case rel => exact ⟨1, by omega, by go_num, by have e1 := E1.out; have e2 := E2.out; simp [e1, e2], by trivial⟩
              case measure => simp [intOf]
        · by_cases e1 : dn = 0
          · subst e1
            simp only [if_pos, if_neg (show ¬ (1 : Nat) = 0 by decide)]
            go_wp2_with fail
            go_roundw
            case rel => exact ⟨2, by omega, by go_num, by simp [wantE], by trivial⟩
            case measure => simp [intOf]
          · by_cases e2 : fl = 0
            · subst e2
              simp only [if_pos, if_neg (show ¬ (1 : Nat) = 0 by decide), if_neg e1]
              have E1 := hd e1
              clear e1
              go_wp2_with fail
              go_roundw
              case rel => exact ⟨2, by omega, by go_num, by have e1 := E1.out; simp [wantE, e1], by trivial⟩
              case measure => simp [intOf]
            · simp only [if_pos, if_neg (show ¬ (1 : Nat) = 0 by decide), if_neg e1, if_neg e2]
              by_cases e3 : dn = 1
              · subst e3
                clear e1
                have E2 := hd e2
                clear e2
                go_wp2_with fail
                go_roundw
                case rel => exact ⟨2, by omega, by go_num, by have e2 := E2.out; simp [wantE, e2], by trivial⟩
                case measure => simp [intOf]
              · have e3' : ¬ (dn : Int) ≤ 1 := by omega
                by_cases e4 : fl = 1
                · subst e4
                  have E1 := hd e1
                  have E3 := hd e3
                  clear e1 e3 e2
                  go_wp2_with fail
                  go_roundw
                  case rel => exact ⟨2, by omega, by go_num, by have e1 := E1.out; have e3 := E3.out; simp [wantE, e1, e3], by trivial⟩
                  case measure => simp [intOf]
                · have e4' : ((1 : Int) == (fl : Int)) = false := by rw [beq_eq_false_iff_ne]; omega
                  have E1 := hd e1
                  have E2 := hd e2
                  have E3 := hd e3
                  have E4 := hd e4
                  clear e1 e2 e3 e4
                  go_wp2_with fail
                  go_roundw
                  case rel => exact ⟨2, by omega, by go_num, by have e1 := E1.out; have e2 := E2.out; have e3 := E3.out; have e4 := E4.out; simp [wantE, e1, e2, e3, e4], by trivial⟩
                  case measure => simp [intOf]
        · simp only [if_neg (show ¬ (2 : Nat) = 0 by decide), if_neg (show ¬ (2 : Nat) = 1 by decide)]
          obtain ⟨W, hW⟩ : ∃ W, wantE dn fl = W := ⟨_, rfl⟩
          rw [hW]
          have HW := hd hW
          clear hW
          have hkp : k < ps.length := by have := HN.out; omega
          obtain ⟨b0, off0, capx, hv, hpc, hpm, hel⟩ := H0.out.at (by omega)
          simp only [Value.slice.injEq, true_and] at hv
          obtain ⟨rfl, rfl⟩ := hv
          obtain ⟨c, ⟨u, rfl, hbu, nlo, nhi, hll⟩, -, hcell⟩ := hel k hkp
          have hb0 : b0 < wa.heap.size := World.block_lt_of_cell? wa _ (hcell 0 (by decide))
          have q0 := Chg.cellS HC6.out (hcell 0 (by decide))
          have q1 := Chg.cellS HC6.out (hcell 1 (by decide))
          simp at q0 q1
          obtain ⟨aou, cu, bu, ou, rfl, -⟩ := hbu.open
          replace hbu := hbu.k HC6.out
          have hT := toldB_snoc ps k hkp
          have hxl : ps[k].2.length ≤ 2000 := by have h1 := lightN_snoc ps k hkp; have h2 := lightN_take ps (k + 1); omega
          have hpk : ps.take (k + 1) = ps := List.take_of_length_le (by have := HN.out; omega)
          rw [hpk] at hT
          clear hel hcell hpk
          generalize hX : ps[k] = X at *
          obtain ⟨xn, xp⟩ := X
          simp only at q0 q1 hbu nlo nhi hll hT hxl
          obtain ⟨m, hm⟩ : ∃ m, m = xn % 4611686018427387904 := ⟨_, rfl⟩
          rw [← hm] at hT
          have HM := hd hm
          have HT := hd hT
          have hroom : ((toldB (ps.take k)).length : Int) + ((frameB m xp).length : Int) ≤ 1048576 := by rw [frameB_length]; omega
          obtain ⟨hWE, -, -⟩ := down_write hJ.out dn fl hd4 hf4 HO6.out.1 hroom
          have hDC := down_crash hJ.out dn fl hd4 hf4 HO6.out.1 hroom kept
          have hrm : (armD d dn fl).room = 1048576 := hJ.out.jd.room
          have hao : (armD d dn fl).ops = d.ops := rfl
          have hwo := ops_writeD (armD d dn fl) (segB 0) (frameB m xp)
          rw [HW.out] at hWE hDC
          generalize armD d dn fl = d2 at *
          have HDC := hd hDC
          have HWE := hd hWE
          have HRM := hd hrm
          have hops2 : d2.ops ≤ 5000 := by rw [hao]; exact HO6.out.2
          have Q0 := hd q0
          have Q1 := hd q1
          have HBU := hd hbu
          have n0 : b0 ∉ fp6 := fun h => by have := HF6.out _ h; omega
          clear hm hX hT hWE hDC hrm hao hwo hroom q0 q1 hbu hTl
          go_upto_region 26 with (fail)
          have hkl : (k : Int) < (ps.length : Int) := by omega
          refine anyH_start (n := 15) (L := #[false, false, false, false, false, false, false, false, false, false, false, false, false, false, false]) (by kernel_rfl) (by kernel_rfl) (S := (fun wx => Chg fp6 wr wx)) ((Chg.refl _ _).drew) (fun hHeld => ?_)
          refine anyH_take (i := 0) (d := 80) (L' := #[true, false, false, false, false, false, false, false, false, false, false, false, false, false, false]) (v := ?v29) rfl rfl (by kernel_rfl) (fun _ _ _ h => h) (by rfl) ?hy29 (by assumption) ?rest29
          case hy29 => (intro wx hSw; (try dsimp only at hSw); (have t0 := hSw.cellT Q0.out n0; have t1 := hSw.cellT Q1.out n0); go_simp; (try with_reducible rfl))
          simp only [Act.put, List.setIfInBounds_toArray, List.set_cons_zero, List.set_cons_succ]
          refine anyH_take (i := 1) (d := 81) (L' := #[true, true, false, false, false, false, false, false, false, false, false, false, false, false, false]) (v := ?v30) rfl rfl (by kernel_rfl) (fun _ _ _ h => h) (by rfl) ?hy30 (by assumption) ?rest30
          case hy30 => (intro wx hSw; (try dsimp only at hSw); (have t0 := hSw.cellT Q0.out n0; have t1 := hSw.cellT Q1.out n0); go_simp; (try with_reducible rfl))
          simp only [Act.put, List.setIfInBounds_toArray, List.set_cons_zero, List.set_cons_succ]
          refine anyH_take (i := 2) (d := 82) (L' := #[true, true, true, false, false, false, false, false, false, false, false, false, false, false, false]) (v := ?v31) rfl rfl (by kernel_rfl) (fun _ _ _ h => h) (by rfl) ?hy31 (by assumption) ?rest31
          case hy31 => (intro wx hSw; (try dsimp only at hSw); (have t0 := hSw.cellT Q0.out n0; have t1 := hSw.cellT Q1.out n0); go_simp; (try with_reducible rfl))
          simp only [Act.put, List.setIfInBounds_toArray, List.set_cons_zero, List.set_cons_succ]
          refine anyH_take (i := 3) (d := 83) (L' := #[true, true, true, true, false, false, false, false, false, false, false, false, false, false, false]) (v := ?v32) rfl rfl (by kernel_rfl) (fun _ _ _ h => h) (by rfl) ?hy32 (by assumption) ?rest32
          case hy32 => (intro wx hSw; (try dsimp only at hSw); (have t0 := hSw.cellT Q0.out n0; have t1 := hSw.cellT Q1.out n0); go_simp; (try with_reducible rfl))
          simp only [Act.put, List.setIfInBounds_toArray, List.set_cons_zero, List.set_cons_succ]
          refine anyH_take (i := 4) (d := 84) (L' := #[true, true, true, true, true, false, false, false, false, false, false, false, false, false, false]) (v := ?v33) rfl rfl (by kernel_rfl) (fun _ _ _ h => h) (by rfl) ?hy33 (by assumption) ?rest33
          case hy33 => (intro wx hSw; (try dsimp only at hSw); (have t0 := hSw.cellT Q0.out n0; have t1 := hSw.cellT Q1.out n0); go_simp; (try with_reducible rfl))
          simp only [Act.put, List.setIfInBounds_toArray, List.set_cons_zero, List.set_cons_succ]
          refine anyH_take (i := 5) (d := 85) (L' := #[true, true, true, true, true, true, false, false, false, false, false, false, false, false, false]) (v := ?v34) rfl rfl (by kernel_rfl) (fun _ _ _ h => h) (by rfl) ?hy34 (by assumption) ?rest34
          case hy34 => (intro wx hSw; (try dsimp only at hSw); (have t0 := hSw.cellT Q0.out n0; have t1 := hSw.cellT Q1.out n0); go_simp; (try with_reducible rfl))
          simp only [Act.put, List.setIfInBounds_toArray, List.set_cons_zero, List.set_cons_succ]
          refine anyH_take (i := 7) (d := 87) (L' := #[true, true, true, true, true, true, false, true, false, false, false, false, false, false, false]) (v := ?v35) rfl rfl (by kernel_rfl) (fun _ _ _ h => h) (by rfl) ?hy35 (by assumption) ?rest35
          case hy35 => (intro wx hSw; (try dsimp only at hSw); (have t0 := hSw.cellT Q0.out n0; have t1 := hSw.cellT Q1.out n0); go_simp; (try with_reducible rfl))
          simp only [Act.put, List.setIfInBounds_toArray, List.set_cons_zero, List.set_cons_succ]
          refine anyH_take (i := 8) (d := 88) (L' := #[true, true, true, true, true, true, false, true, true, false, false, false, false, false, false]) (v := ?v36) rfl rfl (by kernel_rfl) (fun _ _ _ h => h) (by rfl) ?hy36 (by assumption) ?rest36
          case hy36 => (intro wx hSw; (try dsimp only at hSw); (have t0 := hSw.cellT Q0.out n0; have t1 := hSw.cellT Q1.out n0); go_simp; (try with_reducible rfl))
          simp only [Act.put, List.setIfInBounds_toArray, List.set_cons_zero, List.set_cons_succ]
          refine anyH_take (i := 9) (d := 89) (L' := #[true, true, true, true, true, true, false, true, true, true, false, false, false, false, false]) (v := ?v37) rfl rfl (by kernel_rfl) (fun _ _ _ h => h) (by rfl) ?hy37 (by assumption) ?rest37
          case hy37 => (intro wx hSw; (try dsimp only at hSw); (have t0 := hSw.cellT Q0.out n0; have t1 := hSw.cellT Q1.out n0); go_simp; (try with_reducible rfl))
          simp only [Act.put, List.setIfInBounds_toArray, List.set_cons_zero, List.set_cons_succ]
          refine anyH_take (i := 10) (d := 90) (L' := #[true, true, true, true, true, true, false, true, true, true, true, false, false, false, false]) (v := ?v38) rfl rfl (by kernel_rfl) (fun _ _ _ h => h) (by rfl) ?hy38 (by assumption) ?rest38
          case hy38 => (intro wx hSw; (try dsimp only at hSw); (have t0 := hSw.cellT Q0.out n0; have t1 := hSw.cellT Q1.out n0); go_simp; (try with_reducible rfl))
          simp only [Act.put, List.setIfInBounds_toArray, List.set_cons_zero, List.set_cons_succ]
          refine anyH_take (i := 11) (d := 91) (L' := #[true, true, true, true, true, true, false, true, true, true, true, true, false, false, false]) (v := ?v39) rfl rfl (by kernel_rfl) (fun _ _ _ h => h) (by rfl) ?hy39 (by assumption) ?rest39
          case hy39 => (intro wx hSw; (try dsimp only at hSw); (have t0 := hSw.cellT Q0.out n0; have t1 := hSw.cellT Q1.out n0); go_simp; (try with_reducible rfl))
          simp only [Act.put, List.setIfInBounds_toArray, List.set_cons_zero, List.set_cons_succ]
          refine anyH_take (i := 13) (d := 93) (L' := #[true, true, true, true, true, true, false, true, true, true, true, true, false, true, false]) (v := ?v40) rfl rfl (by kernel_rfl) (fun _ _ _ h => h) (by rfl) ?hy40 (by assumption) ?rest40
          case hy40 => (intro wx hSw; (try dsimp only at hSw); (have t0 := hSw.cellT Q0.out n0; have t1 := hSw.cellT Q1.out n0); go_simp; (try with_reducible rfl))
          simp only [Act.put, List.setIfInBounds_toArray, List.set_cons_zero, List.set_cons_succ]
          refine anyH_run (i := 6) (L' := #[true, true, true, true, true, true, true, true, true, true, true, true, false, true, false]) rfl (by kernel_rfl) (by rfl) (fun KK hKK => ?_)
          go_simp
          (refine (number19_any _ _).mono ?_; rintro e wn ⟨rfl, rfl⟩; rw [← HM.out]; (try go_simp))
          refine hKK.out _ _ (by assumption) (fun hHeld => ?_)
          clear hKK KK
          try simp only [Act.put, List.setIfInBounds_toArray, List.set_cons_zero, List.set_cons_succ]
          refine anyH_run (i := 12) (L' := #[true, true, true, true, true, true, true, true, true, true, true, true, true, true, false]) rfl (by kernel_rfl) (by rfl) (fun KK hKK => ?_)
          go_simp
          (refine (Write_any (HK6.out.k ((Chg.refl [] wr).drew)) 0 (by decide) m _ xp (HBU.out.k ((Chg.refl [] wr).drew)) (by omega) (.inr (by rw [HRM.out]; decide)) (by omega)).mono ?_; rintro e w7 ⟨rfl, h7⟩; rw [HWE.out]; have hcq : Chg fp6 wr w7 := (Chg.refl fp6 wr).drew.trans h7.chg (fun _ h _ => h); have hS7 := hd ((h7.after ((Chg.refl fp6 wr).drew)).ds HC6.out HF6.out); clear h7; (try go_simp))
          refine hKK.out _ _ (by assumption) (fun hHeld => ?_)
          clear hKK KK
          try simp only [Act.put, List.setIfInBounds_toArray, List.set_cons_zero, List.set_cons_succ]
          refine anyH_run (i := 14) (L' := #[true, true, true, true, true, true, true, true, true, true, true, true, true, true, true]) rfl (by kernel_rfl) (by rfl) (fun KK hKK => ?_)
          go_simp
          (skip)
          refine hKK.out _ _ (by assumption) (fun hHeld => ?_)
          clear hKK KK
          try simp only [Act.put, List.setIfInBounds_toArray, List.set_cons_zero, List.set_cons_succ]
          refine wpAnyH_done (by kernel_rfl) ?_ _
          clear hkl Q0 Q1 HBU n0
          obtain ⟨fp7, hk7, hc7, hf7⟩ := hS7.out
          generalize writeD d2 (segB 0) (frameB m xp) = d3 at *
          go_upto_region 28 with (fail)
          have hbs : ∀ k ∈ fp7, k < w7.heap.size := hk7.fpl
          have hlit := Fs.lit w7 [kept] #[.int .i64 kept] 3 1 rfl rfl (by simp)
          have hcA := (Chg.refl [] w7).alloc (.cells #[.int .i64 kept] 3)
          replace hk7 := hk7.k hcA
          replace hc7 := hc7.k hcA
          have hcr := Crash_any hk7 0 _ [kept] hlit (by simp only [Value.ownBlock]; rintro j ⟨rfl⟩ hj; have := hbs _ hj; omega)
          clear hcA hlit hbs hS7 HK6 hcq
          go_wp2_with fail
          refine (hcr).mono ?_
          rintro e w8 ⟨rfl, h8⟩
          obtain ⟨fp8, hk8, hc8, hf8⟩ := h8.ds hc7 hf7
          obtain ⟨j, hj, hJ8, hjw, ho8⟩ := HDC.out
          have hopsd := HO6.out.2
          clear h8 hcr hk7 hc7 hf7 HDC
          generalize crashD d3 0 [kept] = d4 at *
          have hby := hJ8.jd.bytes
          have hsy := hJ8.jd.syncE
          have hTl : (toldB (ps.take k)).length ≤ 40000 := by have := toldB_length (ps.take k); have := lightN_take ps k; omega
          have hFl := frameB_length m xp
          have hCl : (toldB (ps.take k) ++ (frameB m xp).take j).length ≤ 50000 := by rw [List.length_append, List.length_take]; omega
          have HFL := hd hFl
          clear hJ8 hFl hTl
          go_wp2_with fail
          refine (Scan_any hk8 0 (by decide) (by omega) (by rw [hby]; omega)).mono ?_
          rintro e w9 hsc
          obtain ⟨hk9, hc9, hsc⟩ := hsc
          have hx9 := (DS.same hk9 hk8 hc8 hf8 hc9).chg
          rcases hsc with ⟨hne, -⟩ | ⟨-, v, rs, rfl, hrs, hrl⟩
          · exact absurd hsy hne
          rw [hby] at hrs ⊢
          have hRS : rs.map bare = if j = (frameB m xp).length then numsR ps else numsR (ps.take k) := by
            rw [hrs]
            by_cases hjF : j = (frameB m xp).length
            · rw [if_pos hjF, hjF, List.take_length, ← HT.out]
              obtain ⟨hfine, hmost⟩ := fine_nums hlt
              have h := scanB_cat 16384 [] (nextB_nil _) _ hfine hmost
              rw [List.append_nil] at h
              exact h
            · rw [if_neg hjF]
              obtain ⟨hfine, hmost⟩ := fine_nums (Nat.le_trans (lightN_take ps k) hlt)
              have hm0 : 0 ≤ m := by rw [HM.out]; exact Int.emod_nonneg _ (by decide)
              have hm1 : m ≤ 9223372036854775807 := by rw [HM.out]; have := Int.emod_lt_of_pos xn (show (0 : Int) < 4611686018427387904 by decide); omega
              exact scanB_cat 16384 _ (nextB_cut m xp 16384 j hm0 hm1 (by omega) (by have := HFL.out; omega)) _ hfine hmost
          have HRS := hd hRS
          have hX9 := hd (HCW.out.k hx9)
          have h0c := H0.out.k (fun _ _ h => h.k hx9) hx9
          obtain ⟨aoR, cR, rfl⟩ := hrl.form
          have hlikeA := fun (wx : World) (hx : Chg [] w9 wx) => like_any wx _ rs _ _ ps (hrl.k hx) (h0c.k (fun _ _ h => h.k hx) hx)
          have hlikeB := fun v h => like_any w9 _ rs _ v (ps.take k) hrl h
          have HLA := hd hlikeA
          have HLB := hd hlikeB
          have H0C := hd h0c
          have hne : numsR ps ≠ numsR (ps.take k) := fun e => by
            have := congrArg List.length e
            rw [numsR_length, numsR_length, List.length_take] at this
            omega
          have HNE := hd hne
          clear hrs hRS hlikeA hlikeB h0c hrl hk9 hc9 hsy hby hk8 hc8 hf8 hCl hne hx9
          generalize decide (recLen (List.map bare rs) = (toldB (ps.take k) ++ (frameB m xp).take j).length) = D at *
          by_cases hWz : W = 0
          · subst hWz
            have hjF := hjw rfl
            have hla := HLA.out w9 (Chg.refl _ _)
            rw [HRS.out, if_pos hjF, decide_eq_true rfl] at hla
            clear hjF hjw
            go_wp2_with fail
            refine (hla).mono ?_
            rintro e w10 ⟨rfl, hc10⟩
            have HFIN := hd (hX9.out.k hc10)
            clear hla hc10
            go_wp2_with fail
            go_ret
            exact ⟨rfl, HFIN.out⟩
          · have hWz' : (W == 0) = false := by rw [beq_eq_false_iff_ne]; exact hWz
            clear hWz hjw
            have hkle : k ≤ ps.length := by omega
            have hbd : Bound (some (Value.int .i64 (k : Int))) k ps.length := .inr ⟨.i64, rfl⟩
            by_cases hjF : j = (frameB m xp).length
            · have hla : ∀ wx, Chg [] w9 wx → Calls Try.prog 24 #[.slice aoR rs.length cR, .slice (some ⟨b0, off0, none⟩) ps.length cap0] wx fun e w' => e = .returned (.bool true) ∧ Chg [] wx w' := fun wx hx => by
                have := HLA.out wx hx
                rwa [HRS.out, if_pos hjF, decide_eq_true rfl] at this
              have HLA2 := hd hla
              clear hla
              have hrsv := HRS.out
              rw [if_pos hjF] at hrsv
              have HRV := hd hrsv
              clear hrsv hjF
              go_wp2_with (refine wpCutS rfl _ _ rfl _ ps rfl H0C.out k hbd hkle ?_; intro ao13 c13 h13; have H13 := hd h13; clear h13)
              have hlb := HLB.out _ H13.out
              rw [HRV.out, decide_eq_false HNE.out] at hlb
              refine (hlb).mono ?_
              rintro e w10 ⟨rfl, hc10⟩
              have hla := HLA2.out w10 hc10
              have HX10 := hd (hX9.out.k hc10)
              clear hlb hc10 hX9
              go_wp2_with fail
              refine (hla).mono ?_
              rintro e w11 ⟨rfl, hc11⟩
              have HFIN := hd (HX10.out.k hc11)
              clear hla hc11
              go_wp2_with fail
              go_ret
              exact ⟨rfl, HFIN.out⟩
            · have hrsv := HRS.out
              rw [if_neg hjF] at hrsv
              have HRV := hd hrsv
              clear hrsv hjF
              go_wp2_with (refine wpCutS rfl _ _ rfl _ ps rfl H0C.out k hbd hkle ?_; intro ao13 c13 h13; have H13 := hd h13; clear h13)
              have hlb := HLB.out _ H13.out
              rw [HRV.out, decide_eq_true rfl] at hlb
              refine (hlb).mono ?_
              rintro e w10 ⟨rfl, hc10⟩
              have HFIN := hd (hX9.out.k hc10)
              clear hlb hc10
              go_wp2_with fail
              go_ret
              exact ⟨rfl, HFIN.out⟩
end
end Go.Proofs.Ytpoohpmcopjklaa

/- A pair of ints that is read: [2]int. -/
namespace Go.Proofs.Ytpoohpmcopjklaa
open Go.RowKit Go.ChangeShapes Go.WideShapes
variable {H : Type} {enc : TypeId × Value → H} {P : Program} {w : World} {base : Nat} {spare : Nat → Bool} {held : Bool}
theorem open_arr2i {t e : TypeId} {r : Reach} {b0 : Nat} {v : Value} {d : DataW H} {ps : List MemPlace} (ht : P.underlying t = some (.array 2 e)) (he : P.underlying e = some (.int .i64)) (hC : P.cellsOf e = 1) (hCt : P.cellsOf t = 2)
    (hv : Value.okWide P w r b0 t v) (h : DataW.Trod enc P w base spare held t v d ps) :
    ∃ x0 x1 : Int, v = .agg #[.int .i64 x0, .int .i64 x1] ∧ (-9223372036854775808 ≤ x0 ∧ x0 ≤ 9223372036854775807) ∧ (-9223372036854775808 ≤ x1 ∧ x1 ≤ 9223372036854775807) := by
  obtain ⟨cs, rfl, hsz⟩ := okWide_arr ht hv
  obtain ⟨fuel, hf⟩ := h
  obtain ⟨xs, m, _, hx, hl, hn, hg⟩ := DataW.trod_array ht hf
  simp only [Value.cells] at hl hg
  have one : ∀ i, i < 2 → ∃ x : Int, cs.toList[i]? = some (.int .i64 x) ∧ -9223372036854775808 ≤ x ∧ x ≤ 9223372036854775807 := by
    intro i hi
    have h1 := hg i hi
    rw [hC, Nat.mul_one] at h1
    have hxi : i < xs.length := by omega
    rw [List.getElem?_eq_getElem hxi] at h1
    obtain ⟨n, hn', _, hw⟩ := DataW.trod_int he h1
    refine ⟨n, ?_, wf_i64 hw⟩
    have : (cs.toList.drop i).take 1 = [.int .i64 n] := hn'
    have h2 := congrArg (fun l => l[0]?) this
    simpa using h2
  obtain ⟨x0, e0, b0⟩ := one 0 (by decide)
  obtain ⟨x1, e1, b1⟩ := one 1 (by decide)
  refine ⟨x0, x1, ?_, b0, b1⟩
  have hlen : cs.toList.length = 2 := by rw [hl, hCt]
  congr 1
  apply Array.toList_inj.1
  apply List.ext_getElem?
  intro i
  rcases Nat.lt_or_ge i 2 with hi | hi
  · have : i = 0 ∨ i = 1 := by omega
    rcases this with rfl | rfl
    · rw [e0]; rfl
    · rw [e1]; rfl
  · rw [List.getElem?_eq_none (by omega), List.getElem?_eq_none (by simpa using hi)]
end Go.Proofs.Ytpoohpmcopjklaa
