/- Words and walks that JournalWrites rests on, part 7. -/
import Derived.Test.YtpoohpmcopjklaaWJournalWrites5
import Derived.Test.YtpoohpmcopjklaaWJournalWrites6
/- JournalWrites: the walk. -/
namespace Go.Proofs.Ytpoohpmcopjklaa
open Go.RowKit

theorem fine_nums {ps : List (Int × List UInt8)} (hlt : lightN ps ≤ 2000) : FineR (numsR ps) ∧ ∀ q ∈ numsR ps, (q.2.length : Int) ≤ 16384 := by
  have one : ∀ x ∈ ps, 1 + x.2.length ≤ lightN ps := fun x hx => by
    obtain ⟨j, hj, rfl⟩ := List.getElem_of_mem hx
    have := lightN_snoc ps j hj
    have := lightN_take ps (j + 1)
    omega
  refine ⟨fun q hq => ?_, fun q hq => ?_⟩
  · obtain ⟨x, hx, rfl⟩ := List.mem_map.1 hq
    have := one x hx
    exact ⟨Int.emod_nonneg _ (by decide), by have := Int.emod_lt_of_pos x.1 (show (0 : Int) < 4611686018427387904 by decide); omega, by simp only; omega⟩
  · obtain ⟨x, hx, rfl⟩ := List.mem_map.1 hq
    have := one x hx
    simp only
    omega
theorem RecL.low {S : List Nat} {w w' : World} {base : Nat} {v : Value} {rs : List RecV} (h : RecL w base v rs) (hc : Chg S w w') (hS : ∀ x ∈ S, x < base) : RecL w' base v rs :=
  ⟨ownsRow_chg h.1 hc fun k hk hx => by have h1 := (World.ownsRow.lt h.1 k hk).1; have h2 := hS k hx; omega, fun r hr => ⟨OwB.chg (h.2 r hr).1 hc fun k hk hx => by have h1 := ((h.2 r hr).1.lo k hk).1; have h2 := hS k hx; omega, (h.2 r hr).2⟩⟩
theorem light_count (ps : List (Int × List UInt8)) : ps.length ≤ lightN ps := by
  unfold lightN
  induction ps with
  | nil => simp
  | cons x ps ih => simp only [List.map_cons, List.sum_cons, List.length_cons]; omega

section
attribute [local go_sem] and62
set_option maxRecDepth 100000 in
set_option maxHeartbeats 1500000 in
theorem JournalWrites_law (seq : Int) (v1 : Value) (ps : List (Int × List UInt8)) (v2 : Value) (tl : List UInt8) (w : World) (_lo : -9223372036854775808 ≤ seq) (_hi : seq ≤ 9223372036854775807) (h1 : Rds EPart 2 w v1 ps) (h2 : Bs w v2 tl) (_hl2 : tl.length ≤ 140737488351232) :
    Calls Try.prog 4 #[.int .i64 seq, v1, v2] w fun e w' => e = .returned (.bool true) ∧ Chg [] w w' := by
  obtain ⟨ao1, cap1, rfl⟩ := h1.form
  obtain ⟨ao2, cap2, b2, off2, rfl, -⟩ := h2.open
  have H1 := hd h1
  have H2 := hd h2
  go_enter Try.func4, Try.ntmps4
  go_wp2_with fail
  refine (fit19_any _).mono ?_
  rintro e w1 ⟨rfl, hc⟩
  go_wp2_with fail
  refine (light_any w1 _ ps (h1.k (fun _ _ h => h.k hc) hc)).mono ?_
  rintro e w2 ⟨rfl, hc2⟩
  replace hc := hc.k hc2
  clear hc2 h1 h2
  by_cases hlt : lightN ps ≤ 2000
  case neg =>
    rw [decide_eq_false hlt]
    go_wp2_with fail
    go_ret
    exact ⟨rfl, hc⟩
  rw [decide_eq_true hlt]
  by_cases htl : tl.length ≤ 15
  case neg =>
    have htl' : (15 : Int) < (tl.length : Int) := by omega
    go_wp2_with fail
    go_ret
    exact ⟨rfl, hc⟩
  have htl' : ¬ (15 : Int) < (tl.length : Int) := by omega
  have hplen : ps.length ≤ 2000 := Nat.le_trans (light_count ps) hlt
  obtain ⟨n, hn⟩ : ∃ n : Nat, seq % 4611686018427387904 = (n : Int) := ⟨(seq % 4611686018427387904).toNat, by rw [Int.toNat_of_nonneg]; exact Int.emod_nonneg _ (by decide)⟩
  have hnl : n < 4611686018427387904 := by have := Int.emod_lt_of_pos seq (show (0 : Int) < 4611686018427387904 by decide); omega
  have hs0 := nameD_seg n
  have J0 := js_begin 1048576 hs0 (by decide)
  have E0 := new_beginE 1048576 hs0 (by decide)
  have O0 := ops_begin 1048576 hs0 (by decide)
  go_wp2_with fail
  refine (number19_any _ _).mono ?_
  rintro e wx ⟨rfl, rfl⟩
  rw [hn]
  clear hn
  go_wp2_with fail
  refine (DNew_any _ 1048576 (by decide)).mono ?_
  rintro e w3 ⟨b, fp, rfl, hk3, hc3, hf3⟩
  go_wp2_with fail
  refine (Begin_any hk3 n (by omega) (by decide)).mono ?_
  rintro e w4 ⟨rfl, h4⟩
  have hS4 := h4.ds (w0 := w) (hc.k hc3) (fun k hk => Nat.le_trans hc.size (hf3 k hk))
  generalize beginD (newD 1048576) (segB n) = d0 at *
  rw [E0]
  obtain ⟨hag1, hag2, hag3⟩ := J0.again hs0
  obtain ⟨fp4, hk4, hc4, hf4⟩ := hS4
  have HO0 := hd O0
  clear h4 hk3 hc3 hf3 O0 hs0 J0 E0
  go_wp2_with fail
  refine (Begin_any hk4 n (by omega) (by rw [HO0.out]; decide)).mono ?_
  rintro e w5 ⟨rfl, h5⟩
  rw [hag1]
  have hS5 := h5.ds hc4 hf4
  have hOO : (beginD d0 (segB n)).ops = 3 := by rw [hag3, HO0.out]; rfl
  generalize beginD d0 (segB n) = d1 at *
  have HJ0 := hd hag2
  have HO1 := hd hOO
  have HS5 := hd hS5
  clear h5 hk4 hc4 hf4 hS5 hag1 hag2 hag3 HO0 hOO
  go_wp2_with fail
  go_loopw [9, 43] (fun _ i wr => ∃ k : Nat, ∃ d : Dsk, k ≤ ps.length ∧ i = .int .i64 k ∧ Hd (d.ops ≤ 3 + 2 * (k : Int)) ∧ Hd (Js 1048576 (segB n) (toldB (ps.take k)) d) ∧ Hd (DS w wr b d)) (fun _ i _ => ps.length - (intOf i).toNat)
  case atStart => exact ⟨0, d1, by omega, rfl, hd (by rw [HO1.out]; decide), HJ0, HS5⟩
  case round =>
    obtain ⟨k, d, hk, rfl, hO, hJ, hS⟩ := hrel
    by_cases hlt2 : k < ps.length
    · obtain ⟨b0, off0, capx, hv, hpc, hpm, hel⟩ := H1.out.at (by omega)
      simp only [Value.slice.injEq, true_and] at hv
      obtain ⟨rfl, rfl⟩ := hv
      obtain ⟨c, ⟨u, rfl, hbu, nlo, nhi, hll⟩, -, hcell⟩ := hel k hlt2
      have hch := hS.out.chg
      have q0 := Chg.cellS hch (hcell 0 (by decide))
      have q1 := Chg.cellS hch (hcell 1 (by decide))
      simp at q0 q1
      obtain ⟨aou, cu, bu, ou, rfl, -⟩ := hbu.open
      replace hbu := hbu.k hch
      have hT := toldB_snoc ps k hlt2
      have hTl : (toldB (ps.take k)).length ≤ 40000 := by have := toldB_length (ps.take k); have := lightN_take ps k; omega
      have hxl : ps[k].2.length ≤ 2000 := by have h1 := lightN_snoc ps k hlt2; have h2 := lightN_take ps (k + 1); omega
      clear hel hcell hch
      generalize hX : ps[k] = X at *
      obtain ⟨xn, xp⟩ := X
      simp only at q0 q1 hbu nlo nhi hll hT hxl
      obtain ⟨m, hm⟩ : ∃ m, m = xn % 4611686018427387904 := ⟨_, rfl⟩
      rw [← hm] at hT
      have HM := hd hm
      have hroom : ((toldB (ps.take k)).length : Int) + ((frameB m xp).length : Int) ≤ 1048576 := by rw [frameB_length]; omega
      have hJ2 := hJ.out.write (frameB m xp) hroom
      have hWE := hJ.out.jd.writeE (frameB m xp) hroom
      have hO2 := ops_writeD d (segB n) (frameB m xp)
      have hrm := hJ.out.jd.room
      rw [← hT] at hJ2
      have HJ2 := hd hJ2
      have HO2 := hd hO2
      have HRM := hd hrm
      have HWE := hd hWE
      clear hT hJ2 hO2 hm hrm hX hWE hroom
      obtain ⟨fpx, hkx, hcx, hfx⟩ := hS.out
      go_upto_region 12 with (fail)
      have k9 := Blk.new wr #[.int .i64 xn, .slice aou xp.length cu] 32
      have n9 : wr.heap.size ∉ fpx := fun h => by have := hkx.fpl _ h; omega
      have hcA := (Chg.refl [] wr).alloc (.cells #[.int .i64 xn, .slice aou xp.length cu] 32)
      replace hkx := hkx.k hcA
      replace hcx := hcx.k hcA
      replace hbu := hbu.k hcA
      clear hcA
      generalize wr.alloc (.cells #[.int .i64 xn, .slice aou xp.length cu] 32) = wq at *
      have r0 := k9.cell 0
      have r1 := k9.cell 1
      simp at r0 r1
      have R0 := hd r0
      have R1 := hd r1
      have HBU := hd hbu
      have HKX := hd hkx
      clear r0 r1 k9 hbu q0 q1 hkx
      refine anyH_start (n := 9) (L := #[false, false, false, false, false, false, false, false, false]) (by kernel_rfl) (by kernel_rfl) (S := (fun wx => Chg fpx wq wx)) ((Chg.refl _ _).drew) (fun hHeld => ?_)
      refine anyH_take (i := 0) (d := 47) (L' := #[true, false, false, false, false, false, false, false, false]) (v := ?v9) rfl rfl (by kernel_rfl) (fun _ _ _ h => h) (by rfl) ?hy9 (by assumption) ?rest9
      case hy9 => (intro wx hSw; (try dsimp only at hSw); (have t0 := hSw.cellT R0.out n9; have t1 := hSw.cellT R1.out n9); go_simp; (try with_reducible rfl))
      simp only [Act.put, List.setIfInBounds_toArray, List.set_cons_zero, List.set_cons_succ]
      refine anyH_take (i := 1) (d := 48) (L' := #[true, true, false, false, false, false, false, false, false]) (v := ?v10) rfl rfl (by kernel_rfl) (fun _ _ _ h => h) (by rfl) ?hy10 (by assumption) ?rest10
      case hy10 => (intro wx hSw; (try dsimp only at hSw); (have t0 := hSw.cellT R0.out n9; have t1 := hSw.cellT R1.out n9); go_simp; (try with_reducible rfl))
      simp only [Act.put, List.setIfInBounds_toArray, List.set_cons_zero, List.set_cons_succ]
      refine anyH_take (i := 2) (d := 49) (L' := #[true, true, true, false, false, false, false, false, false]) (v := ?v11) rfl rfl (by kernel_rfl) (fun _ _ _ h => h) (by rfl) ?hy11 (by assumption) ?rest11
      case hy11 => (intro wx hSw; (try dsimp only at hSw); (have t0 := hSw.cellT R0.out n9; have t1 := hSw.cellT R1.out n9); go_simp; (try with_reducible rfl))
      simp only [Act.put, List.setIfInBounds_toArray, List.set_cons_zero, List.set_cons_succ]
      refine anyH_take (i := 3) (d := 50) (L' := #[true, true, true, true, false, false, false, false, false]) (v := ?v12) rfl rfl (by kernel_rfl) (fun _ _ _ h => h) (by rfl) ?hy12 (by assumption) ?rest12
      case hy12 => (intro wx hSw; (try dsimp only at hSw); (have t0 := hSw.cellT R0.out n9; have t1 := hSw.cellT R1.out n9); go_simp; (try with_reducible rfl))
      simp only [Act.put, List.setIfInBounds_toArray, List.set_cons_zero, List.set_cons_succ]
      refine anyH_take (i := 5) (d := 52) (L' := #[true, true, true, true, false, true, false, false, false]) (v := ?v13) rfl rfl (by kernel_rfl) (fun _ _ _ h => h) (by rfl) ?hy13 (by assumption) ?rest13
      case hy13 => (intro wx hSw; (try dsimp only at hSw); (have t0 := hSw.cellT R0.out n9; have t1 := hSw.cellT R1.out n9); go_simp; (try with_reducible rfl))
      simp only [Act.put, List.setIfInBounds_toArray, List.set_cons_zero, List.set_cons_succ]
      refine anyH_take (i := 6) (d := 53) (L' := #[true, true, true, true, false, true, true, false, false]) (v := ?v14) rfl rfl (by kernel_rfl) (fun _ _ _ h => h) (by rfl) ?hy14 (by assumption) ?rest14
      case hy14 => (intro wx hSw; (try dsimp only at hSw); (have t0 := hSw.cellT R0.out n9; have t1 := hSw.cellT R1.out n9); go_simp; (try with_reducible rfl))
      simp only [Act.put, List.setIfInBounds_toArray, List.set_cons_zero, List.set_cons_succ]
      refine anyH_run (i := 4) (L' := #[true, true, true, true, true, true, true, false, false]) rfl (by kernel_rfl) (by rfl) (fun KK hKK => ?_)
      go_simp
      (refine (number19_any _ _).mono ?_; rintro e wn ⟨rfl, rfl⟩; rw [← HM.out]; (try go_simp))
      refine hKK.out _ _ (by assumption) (fun hHeld => ?_)
      clear hKK KK
      try simp only [Act.put, List.setIfInBounds_toArray, List.set_cons_zero, List.set_cons_succ]
      refine anyH_run (i := 7) (L' := #[true, true, true, true, true, true, true, true, false]) rfl (by kernel_rfl) (by rfl) (fun KK hKK => ?_)
      go_simp
      (refine (Write_any (HKX.out.k ((Chg.refl [] wq).drew)) n (by omega) m _ xp (HBU.out.k ((Chg.refl [] wq).drew)) (by omega) (.inr (by rw [HRM.out]; decide)) (by have := hO.out; omega)).mono ?_; rintro e w6 ⟨rfl, h6⟩; rw [HWE.out]; have hcq : Chg fpx wq w6 := (Chg.refl fpx wq).drew.trans h6.chg (fun _ h _ => h); have hS6 := hd ((h6.after ((Chg.refl fpx wq).drew)).ds hcx hfx); clear h6; (try go_simp))
      refine hKK.out _ _ (by assumption) (fun hHeld => ?_)
      clear hKK KK
      try simp only [Act.put, List.setIfInBounds_toArray, List.set_cons_zero, List.set_cons_succ]
      refine anyH_run (i := 8) (L' := #[true, true, true, true, true, true, true, true, true]) rfl (by kernel_rfl) (by rfl) (fun KK hKK => ?_)
      go_simp
      (skip)
      refine hKK.out _ _ (by assumption) (fun hHeld => ?_)
      clear hKK KK
      try simp only [Act.put, List.setIfInBounds_toArray, List.set_cons_zero, List.set_cons_succ]
      refine wpAnyH_done (by kernel_rfl) ?_ _
      go_wp2_with fail
      go_roundw
      case rel => exact ⟨k + 1, writeD d (segB n) (frameB m xp), by omega, by go_num, hd (by have := hO.out; have := HO2.out; omega), HJ2, hS6⟩
      case measure => simp [intOf]; omega
    · obtain rfl : k = ps.length := by omega
      have hJF := hJ.out
      rw [List.take_length] at hJF
      obtain ⟨fpx, hkx, hcx, hfx⟩ := hS.out
      have hJC := hJF.crash []
      have hcr := Crash_any hkx 0 (.slice none 0 0) [] (OwI.nil wr 0).fs (by simp [Value.ownBlock])
      have hO3 : d.ops ≤ 5000 := by have := hO.out; omega
      clear hS hJF hJ hO
      go_wp2_with fail
      refine (hcr).mono ?_
      rintro e w5 ⟨rfl, h5⟩
      obtain ⟨fp5, hk5, hc5, hf5⟩ := h5.ds hcx hfx
      obtain ⟨hJC, hOC⟩ := hJC
      have hO4 : (crashD d 0 []).ops ≤ 5000 := by rw [hOC]; exact hO3
      clear h5 hcr hkx hcx hfx hO3 hOC
      generalize crashD d 0 [] = d2 at *
      have HJ2 := hd hJC
      have HO2 := hd hO4
      clear hJC hO4
      go_wp2_with fail
      refine (Segment_any w5 n (by omega)).mono ?_
      rintro e w6 ⟨rfl, hc6⟩
      replace hk5 := hk5.k hc6
      replace hc5 := hc5.k hc6
      clear hc6
      go_wp2_with fail
      refine (Read_any hk5 (segB n) (by rw [segB_length]; decide) (by have := HO2.out; omega)).mono ?_
      rintro e w7 ⟨ao7, n7, c7, rfl, hb7, hk7, hc7⟩
      have hD7 := DS.same hk7 hk5 hc5 hf5 hc7
      have hx7 := hD7.chg
      rw [HJ2.out.jd.syncE, if_pos rfl, HJ2.out.jd.bytes] at hb7
      rw [HJ2.out.jd.syncE]
      have hBl : (toldB ps).length ≤ 40000 := by have := toldB_length ps; omega
      have htold : ∀ wx, Chg [] w7 wx → Calls Try.prog 20 #[.slice ao1 ps.length cap1] wx fun e w' => e = .returned (.string (strB (toldB ps))) ∧ Chg [] wx w' := fun wx hx => told_any wx _ ps (H1.out.k (fun _ _ h => h.k (hx7.k hx)) (hx7.k hx)) hlt
      have HJ3 := hd HJ2.out.op
      obtain ⟨ao', c', e⟩ := hb7.form
      simp only [Value.slice.injEq] at e
      obtain ⟨rfl, rfl, rfl⟩ := e
      have HS7 := hd hb7.bs.strs
      have HK7 := hd hk7
      have HX7 := hd hx7
      have HTOLD := hd htold
      have HF5 := hd hf5
      have HO3 : Hd ((opD d2).ops ≤ 5001) := hd (by show d2.ops + 1 ≤ 5001; have := HO2.out; omega)
      clear hb7 hk7 hx7 htold hk5 hc5 hf5 hc7 hD7
      generalize opD d2 = d3 at *
      obtain ⟨B, hB⟩ : ∃ B, B = toldB ps := ⟨_, rfl⟩
      rw [← hB] at HTOLD HS7 HJ3 hBl ⊢
      have HB := hd hB
      clear hB HJ2 HO2
      go_upto_region 17 with (fail)
      refine anyH_start (n := 9) (L := #[false, false, false, false, false, false, false, false, false]) (by kernel_rfl) (by kernel_rfl) (S := (fun wx => Chg [] w7 wx)) ((Chg.refl _ _).drew) (fun hHeld => ?_)
      refine anyH_take (i := 0) (d := 66) (L' := #[true, false, false, false, false, false, false, false, false]) (v := ?v23) rfl rfl (by kernel_rfl) (fun _ _ _ h => h) (by rfl) ?hy23 (by assumption) ?rest23
      case hy23 => (intro wx hSw; (try dsimp only at hSw); (skip); go_simp; (try with_reducible rfl))
      simp only [Act.put, List.setIfInBounds_toArray, List.set_cons_zero, List.set_cons_succ]
      refine anyH_take (i := 1) (d := 67) (L' := #[true, true, false, false, false, false, false, false, false]) (v := ?v24) rfl rfl (by kernel_rfl) (fun _ _ _ h => h) (by rfl) ?hy24 (by assumption) ?rest24
      case hy24 => (intro wx hSw; (try dsimp only at hSw); (skip); go_simp; (try with_reducible rfl))
      simp only [Act.put, List.setIfInBounds_toArray, List.set_cons_zero, List.set_cons_succ]
      refine anyH_take (i := 2) (d := 68) (L' := #[true, true, true, false, false, false, false, false, false]) (v := ?v25) rfl rfl (by kernel_rfl) (fun _ _ _ h => h) (by rfl) ?hy25 (by assumption) ?rest25
      case hy25 => (intro wx hSw; (try dsimp only at hSw); (skip); go_simp; (try with_reducible rfl))
      simp only [Act.put, List.setIfInBounds_toArray, List.set_cons_zero, List.set_cons_succ]
      refine anyH_take (i := 3) (d := 69) (L' := #[true, true, true, true, false, false, false, false, false]) (v := ?v26) rfl rfl (by kernel_rfl) (fun _ _ _ h => h) (by rfl) ?hy26 (by assumption) ?rest26
      case hy26 => (intro wx hSw; (try dsimp only at hSw); (skip); go_simp; (try with_reducible rfl))
      simp only [Act.put, List.setIfInBounds_toArray, List.set_cons_zero, List.set_cons_succ]
      refine anyH_take (i := 4) (d := 70) (L' := #[true, true, true, true, true, false, false, false, false]) (v := ?v27) rfl rfl (by kernel_rfl) (fun _ _ _ h => h) (by rfl) ?hy27 (by assumption) ?rest27
      case hy27 => (intro wx hSw; (try dsimp only at hSw); (have t0 := HS7.out _ hSw); go_simp; (try with_reducible rfl))
      simp only [Act.put, List.setIfInBounds_toArray, List.set_cons_zero, List.set_cons_succ]
      refine anyH_take (i := 5) (d := 71) (L' := #[true, true, true, true, true, true, false, false, false]) (v := ?v28) rfl rfl (by kernel_rfl) (fun _ _ _ h => h) (by rfl) ?hy28 (by assumption) ?rest28
      case hy28 => (intro wx hSw; (try dsimp only at hSw); (skip); go_simp; (try with_reducible rfl))
      simp only [Act.put, List.setIfInBounds_toArray, List.set_cons_zero, List.set_cons_succ]
      refine anyH_run (i := 6) (L' := #[true, true, true, true, true, true, true, false, false]) rfl (by kernel_rfl) (by rfl) (fun KK hKK => ?_)
      go_simp
      (refine (HTOLD.out _ hHeld).mono ?_; rintro e w8 ⟨rfl, hc8⟩; have hm8 := Chg.k hHeld hc8; clear hc8; (try go_simp))
      refine hKK.out _ _ (by assumption) (fun hHeld => ?_)
      clear hKK KK
      try simp only [Act.put, List.setIfInBounds_toArray, List.set_cons_zero, List.set_cons_succ]
      refine anyH_run (i := 7) (L' := #[true, true, true, true, true, true, true, true, false]) rfl (by kernel_rfl) (by rfl) (fun KK hKK => ?_)
      go_simp
      (skip)
      refine hKK.out _ _ (by assumption) (fun hHeld => ?_)
      clear hKK KK
      try simp only [Act.put, List.setIfInBounds_toArray, List.set_cons_zero, List.set_cons_succ]
      refine anyH_run (i := 8) (L' := #[true, true, true, true, true, true, true, true, true]) rfl (by kernel_rfl) (by rfl) (fun KK hKK => ?_)
      go_simp
      (skip)
      refine hKK.out _ _ (by assumption) (fun hHeld => ?_)
      clear hKK KK
      try simp only [Act.put, List.setIfInBounds_toArray, List.set_cons_zero, List.set_cons_succ]
      refine wpAnyH_done (by kernel_rfl) ?_ _
      clear HTOLD HS7
      replace HK7 := hd (HK7.out.k hm8)
      have HX8 := hd (HX7.out.k hm8)
      clear hm8 HX7
      go_wp2_with fail
      refine (Segment_any w8 n (by omega)).mono ?_
      rintro e w9 ⟨rfl, hc9⟩
      replace HK7 := hd (HK7.out.k hc9)
      replace HX8 := hd (HX8.out.k hc9)
      clear hc9
      have hroom2 : (B.length : Int) + (tl.length : Int) ≤ 1048576 := by omega
      have hap := Append_any HK7.out (segB n) (by rw [segB_length]; decide) (by have := HO3.out; omega) _ tl (H2.out.k HX8.out) (by omega)
        (fun hp k hk hf => by
          have h1 := HF5.out k hf
          have := H2.out.lt hp k hk
          omega) (.inr (by rw [HJ3.out.jd.room]; decide))
      have hJ4 := hd (HJ3.out.jd.append tl hroom2)
      have hO4 : Hd ((appendD d3 (segB n) tl).ops ≤ 5002) := hd (by rw [ops_append]; have := HO3.out; omega)
      clear HJ3 HO3 hroom2 HK7 hBl
      generalize appendE d3 (segB n) tl = ae at *
      generalize appendD d3 (segB n) tl = d4 at *
      go_wp2_with fail
      refine (hap).mono ?_
      rintro e w10 ⟨rfl, h10⟩
      obtain ⟨fpA, hkA, hcA, hfA⟩ := h10.ds HX8.out HF5.out
      clear h10 hap HX8 HF5
      have hby := hJ4.out.bytes
      have hsy := hJ4.out.syncE
      have hBl : B.length ≤ 40000 := by rw [HB.out]; have := toldB_length ps; omega
      go_wp2_with fail
      refine (Scan_any hkA n (by omega) (by have := hO4.out; omega) (by rw [hby, List.length_append]; omega)).mono ?_
      rintro e w11 hsc
      obtain ⟨hk11, hc11, hsc⟩ := hsc
      have hD11 := DS.same hk11 hkA hcA hfA hc11
      have hx11 := hD11.chg
      rcases hsc with ⟨hne, -⟩ | ⟨-, v, rs, rfl, hrs, hrl⟩
      · exact absurd hsy hne
      rw [hby] at hrs ⊢
      obtain ⟨hfine, hmost⟩ := fine_nums hlt
      have hBc : B = catF (numsR ps) := HB.out
      rw [hBc, scanB_cat 16384 tl (nextB_few tl _ (by omega)) _ hfine hmost] at hrs
      have hlen : decide (recLen (rs.map bare) = (B ++ tl).length) = decide (tl.length = 0) := by
        rw [hrs, List.length_append, hBc, catF_length]
        by_cases h0 : tl.length = 0
        · rw [decide_eq_true h0, decide_eq_true (by omega)]
        · rw [decide_eq_false h0, decide_eq_false (by omega)]
      rw [hlen]
      obtain ⟨wh, hwh⟩ : ∃ wh, decide (tl.length = 0) = wh := ⟨_, rfl⟩
      rw [hwh]
      have HWH := hd hwh
      have hbA : b < w10.heap.size := by obtain ⟨_, _, _, _, _, hp⟩ := hkA; exact hp.fpl _ hp.fpb
      clear hwh
      obtain ⟨hx1, hx2⟩ := xor1 n hnl
      have hxs := segB_xor n
      obtain ⟨aoR, cR, rfl⟩ := hrl.form
      have HJ5 := hd hJ4.out.op
      have HRS := hd hrs
      have HRL := hd hrl
      have HK11 := hd hk11
      have HX11 := hd hx11
      have HFA := hd hfA
      have HO5 : Hd ((opD d4).ops ≤ 5003) := hd (by show d4.ops + 1 ≤ 5003; have := hO4.out; omega)
      clear hrs hrl hk11 hx11 hlen hfine hmost hBc hsy hby hkA hcA hfA hc11 hD11 hJ4 hO4 hBl
      generalize opD d4 = d5 at *
      generalize n ^^^ 1 = n' at *
      have hsy : syncE d5 (segB n') = 4 := by
        unfold syncE
        rw [HJ5.out.opE, HJ5.out.names, nget_one hxs]
        simp
      have hb0 : bytesD d5 (segB n') = [] := by
        unfold bytesD
        rw [HJ5.out.names, nget_one hxs]
      go_wp2_with fail
      refine (Scan_any HK11.out n' (by omega) (by have := HO5.out; omega) (by rw [hb0]; decide)).mono ?_
      rintro e w12 hsc2
      obtain ⟨hk12, hc12, hsc2⟩ := hsc2
      rcases hsc2 with ⟨-, rfl⟩ | ⟨h0, -⟩
      case inr => rw [hsy] at h0; cases h0
      rw [hsy]
      obtain ⟨bb, hbb⟩ : ∃ q, q = b := ⟨_, rfl⟩
      have hx12 : Chg [] w w12 := HX11.out.trans hc12 (fun x hx hl => by
        obtain rfl : x = b := by simpa using hx
        obtain ⟨_, _, _, _, _, hp⟩ := HK11.out
        have := HFA.out _ hp.fpb
        omega)
      have hrl12 : RecL w12 w10.heap.size (.slice aoR rs.length cR) rs := HRL.out.low hc12 (by simpa using hbA)
      have h1c := H1.out.k (fun _ _ h => h.k hx12) hx12
      have hlike := like_any w12 _ rs _ _ ps hrl12 h1c
      rw [decide_eq_true HRS.out] at hlike
      clear hk12 hc12 hsy hb0 hx1 hx2 hxs hrl12 h1c HK11 HJ5 hbb
      by_cases h0 : tl.length = 0
      · have h0' : ((tl.length : Int) == 0) = true := by rw [beq_iff_eq]; omega
        obtain rfl : wh = true := by rw [← HWH.out]; exact decide_eq_true h0
        clear htl' h0
        go_wp2_with fail
        refine (hlike).mono ?_
        rintro e w13 ⟨rfl, hc13⟩
        have HFIN := hd (hx12.k hc13)
        clear hx12 hc13 hlike
        go_wp2_with fail
        go_ret
        exact ⟨rfl, HFIN.out⟩
      · have h0' : ((tl.length : Int) == 0) = false := by rw [beq_eq_false_iff_ne]; omega
        obtain rfl : wh = false := by rw [← HWH.out]; exact decide_eq_false h0
        clear htl' h0
        go_wp2_with fail
        refine (hlike).mono ?_
        rintro e w13 ⟨rfl, hc13⟩
        have HFIN := hd (hx12.k hc13)
        clear hx12 hc13 hlike
        go_wp2_with fail
        go_ret
        exact ⟨rfl, HFIN.out⟩
end
end Go.Proofs.Ytpoohpmcopjklaa
