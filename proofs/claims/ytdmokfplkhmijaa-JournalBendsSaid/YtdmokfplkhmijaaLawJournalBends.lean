/- JournalBends: the walk. -/
import Derived.Test.YtdmokfplkhmijaaJFit2
import Derived.Test.YtdmokfplkhmijaaJBendMath
namespace Go.Proofs.Ytdmokfplkhmijaa
open Go.RowKit

theorem rowPart19 : RowT Try.prog 22 32 2 32 := RowT.mk (z := .agg #[.int .i64 0, .slice none 0 0]) (by kernel_rfl) (by kernel_rfl) rfl (by decide)
theorem flatten_take (css : List (List Value)) (size : Nat) (h : ∀ c ∈ css, c.length = size) (q : Nat) : (css.take q).flatten = css.flatten.take (q * size) := by
  induction css generalizing q with
  | nil => simp
  | cons c css ih =>
    cases q with
    | zero => simp
    | succ q =>
      have hc : c.length = size := h c (by simp)
      rw [List.take_succ_cons, List.flatten_cons, List.flatten_cons, ih (fun x hx => h x (by simp [hx])), List.take_append, hc, List.take_of_length_le (l := c) (by rw [hc, Nat.succ_mul]; omega), Nat.succ_mul, Nat.add_sub_cancel]
theorem wpCutS {w : World} {ops : Array Oper} {rest : List Oper} {o : Oper} {a : Act} {Q : Exit → Act → World → Prop} (hgd : Region.wanted o (yielded ops a.tmps) = true) (x : Operand) (hi : Option Operand)
    (ho : o.op = .slice 22 x none hi none) (v : Value) (ps : List (Int × List UInt8)) (hx : a.eval x = v) (hv : Rds EPart 2 w v ps) (q : Nat) (hhi : Bound (hi.map a.eval) q ps.length) (hq : q ≤ ps.length)
    (h : ∀ ao c, Rds EPart 2 w (.slice ao q c) (ps.take q) → wpList Try.prog ops Q rest (a.put o.dst (.slice ao q c)) w) : wpList Try.prog ops Q (o :: rest) a w := by
  obtain ⟨css, h1, h2, h3⟩ := hv
  have hall : ∀ c ∈ css, c.length = 2 := by
    intro c hc
    obtain ⟨i, hi, rfl⟩ := List.getElem_of_mem hc
    exact (h2 i (by omega) hi).2
  refine wpCut rowPart19 hgd x none hi ho v ps.length css.flatten hx h3 0 q (.inl ⟨rfl, rfl⟩) hhi (Nat.zero_le _) hq fun ao c h4 _ => ?_
  rw [Nat.sub_zero] at h4 ⊢
  have hlen : (ps.take q).length = q := by rw [List.length_take]; omega
  refine h ao c ⟨css.take q, by rw [List.length_take, List.length_take, h1], fun i hi hi' => ?_, ?_⟩
  · simp only [List.getElem_take]
    simp only [List.length_take] at hi
    exact h2 i (by omega) (by omega)
  · rw [hlen, flatten_take css 2 hall q]
    simpa using h4

theorem and4095 (x : Int) : bits .and .i64 x 4095 = x % 4096 := and_mask x 12 (by decide)
theorem and65535 (x : Int) : bits .and .i64 x 65535 = x % 65536 := and_mask x 16 (by decide)
section
attribute [local go_sem] and62 and4095 and65535
set_option maxRecDepth 100000 in
set_option maxHeartbeats 1500000 in
theorem JournalBends_law (v0 : Value) (ps : List (Int × List UInt8)) (at_ : Int) (mask : UInt32) (w : World) (h0 : Rds EPart 2 w v0 ps) (_lo : -9223372036854775808 ≤ at_) (_hi : at_ ≤ 9223372036854775807) :
    Calls Try.prog 3 #[v0, .int .i64 at_, .int .u32 (n32 mask)] w fun e w' => e = .returned (.bool true) ∧ Chg [] w w' := by
  obtain ⟨ao0, cap0, rfl⟩ := h0.form
  have H0 := hd h0
  go_enter Try.func3, Try.ntmps3
  go_wp2_with fail
  refine (fit19_any _).mono ?_
  rintro e w1 ⟨rfl, hc⟩
  go_wp2_with fail
  refine (light_any w1 _ ps (h0.k (fun _ _ h => h.k hc) hc)).mono ?_
  rintro e w2 ⟨rfl, hc2⟩
  replace hc := hc.k hc2
  clear hc2 h0
  by_cases hlt : lightN ps ≤ 2000
  case neg =>
    rw [decide_eq_false hlt]
    go_wp2_with fail
    go_ret
    exact ⟨rfl, hc⟩
  rw [decide_eq_true hlt]
  by_cases hpz : ps.length = 0
  · have hpz' : (ps.length : Int) = 0 := by omega
    go_wp2_with fail
    go_ret
    exact ⟨rfl, hc⟩
  have hpz' : ((ps.length : Int) == 0) = false := by rw [beq_eq_false_iff_ne]; omega
  have hplen : ps.length ≤ 2000 := by
    have : ps.length ≤ lightN ps := by
      unfold lightN
      clear H0 hlt hpz hpz'
      induction ps with
      | nil => simp
      | cons x ps ih => simp only [List.map_cons, List.sum_cons, List.length_cons]; omega
    omega
  have hs0 := nameD_seg 0
  have J0 := new_begin 1048576 hs0 (by decide)
  have O0 := ops_begin 1048576 hs0 (by decide)
  go_wp2_with fail
  refine (DNew_any _ 1048576 (by decide)).mono ?_
  rintro e w3 ⟨b, fp, rfl, hk3, hc3, hf3⟩
  go_wp2_with fail
  refine (Begin_any hk3 0 (by decide) (by decide)).mono ?_
  rintro e w4 ⟨rfl, h4⟩
  have hS4 := h4.ds (w0 := w) (hc.k hc3) (fun k hk => Nat.le_trans hc.size (hf3 k hk))
  generalize beginD (newD 1048576) (segB 0) = d0 at *
  have HJ0 := hd J0
  have HO0 := hd O0
  have HS4 := hd hS4
  clear h4 hk3 hc3 hf3 J0 O0 hS4 hs0 hpz'
  go_wp2_with fail
  go_loopw [9, 40] (fun _ i wr => ∃ k : Nat, ∃ d : Dsk, k ≤ ps.length ∧ i = .int .i64 k ∧ Hd (d.ops ≤ 2 + 2 * (k : Int)) ∧ Hd (Jd 1048576 (segB 0) (toldB (ps.take k)) d) ∧ Hd (DS w wr b d)) (fun _ i _ => ps.length - (intOf i).toNat)
  case atStart => exact ⟨0, d0, by omega, rfl, hd (by rw [HO0.out]; decide), HJ0, HS4⟩
  case round =>
    obtain ⟨k, d, hk, rfl, hO, hJ, hS⟩ := hrel
    by_cases hlt2 : k < ps.length
    · obtain ⟨b0, off0, capx, hv, hpc, hpm, hel⟩ := H0.out.at (by omega)
      simp only [Value.slice.injEq, true_and] at hv
      obtain ⟨rfl, rfl⟩ := hv
      obtain ⟨c, ⟨u, rfl, hbu, nlo, nhi, hll⟩, -, hcell⟩ := hel k hlt2
      have hch := hS.out.chg
      have q0 := Chg.cellS hch (hcell 0 (by decide))
      have q1 := Chg.cellS hch (hcell 1 (by decide))
      simp at q0 q1
      obtain ⟨aou, cu, bu, ou, rfl, -⟩ := hbu.open
      replace hbu := hbu.k hch
      have hT := toldB_snoc ps k hlt2
      have hTl : (toldB (ps.take k)).length ≤ 40000 := by have := toldB_length (ps.take k); have := lightN_take ps k; omega
      have hxl : ps[k].2.length ≤ 2000 := by have h1 := lightN_snoc ps k hlt2; have h2 := lightN_take ps (k + 1); omega
      clear hel hcell hch
      generalize hX : ps[k] = X at *
      obtain ⟨xn, xp⟩ := X
      simp only at q0 q1 hbu nlo nhi hll hT hxl
      obtain ⟨m, hm⟩ : ∃ m, m = xn % 4611686018427387904 := ⟨_, rfl⟩
      rw [← hm] at hT
      have HM := hd hm
      have hJ2 := hJ.out.write (frameB m xp) (by rw [frameB_length]; omega)
      have hO2 := ops_writeD d (segB 0) (frameB m xp)
      have hrm := hJ.out.room
      rw [← hT] at hJ2
      have HJ2 := hd hJ2
      have HO2 := hd hO2
      have HRM := hd hrm
      clear hT hJ2 hO2 hm hrm hX
      obtain ⟨fpx, hkx, hcx, hfx⟩ := hS.out
      go_upto_region 10 with (fail)
      have k9 := Blk.new wr #[.int .i64 xn, .slice aou xp.length cu] 32
      have n9 : wr.heap.size ∉ fpx := fun h => by have := hkx.fpl _ h; omega
      have hcA := (Chg.refl [] wr).alloc (.cells #[.int .i64 xn, .slice aou xp.length cu] 32)
      replace hkx := hkx.k hcA
      replace hcx := hcx.k hcA
      replace hbu := hbu.k hcA
      clear hcA
      generalize wr.alloc (.cells #[.int .i64 xn, .slice aou xp.length cu] 32) = wq at *
      have r0 := k9.cell 0
      have r1 := k9.cell 1
      simp at r0 r1
      have R0 := hd r0
      have R1 := hd r1
      have HBU := hd hbu
      have HKX := hd hkx
      clear r0 r1 k9 hbu q0 q1 hkx
      refine anyH_start (n := 7) (L := #[false, false, false, false, false, false, false]) (by kernel_rfl) (by kernel_rfl) (S := (fun wx => Chg fpx wq wx)) ((Chg.refl _ _).drew) (fun hHeld => ?_)
      refine anyH_take (i := 0) (d := 44) (L' := #[true, false, false, false, false, false, false]) (v := ?v7) rfl rfl (by kernel_rfl) (fun _ _ _ h => h) (by rfl) ?hy7 (by assumption) ?rest7
      case hy7 => (intro wx hSw; (try dsimp only at hSw); (have t0 := hSw.cellT R0.out n9; have t1 := hSw.cellT R1.out n9); go_simp; (try with_reducible rfl))
      simp only [Act.put, List.setIfInBounds_toArray, List.set_cons_zero, List.set_cons_succ]
      refine anyH_take (i := 1) (d := 45) (L' := #[true, true, false, false, false, false, false]) (v := ?v8) rfl rfl (by kernel_rfl) (fun _ _ _ h => h) (by rfl) ?hy8 (by assumption) ?rest8
      case hy8 => (intro wx hSw; (try dsimp only at hSw); (have t0 := hSw.cellT R0.out n9; have t1 := hSw.cellT R1.out n9); go_simp; (try with_reducible rfl))
      simp only [Act.put, List.setIfInBounds_toArray, List.set_cons_zero, List.set_cons_succ]
      refine anyH_take (i := 2) (d := 46) (L' := #[true, true, true, false, false, false, false]) (v := ?v9) rfl rfl (by kernel_rfl) (fun _ _ _ h => h) (by rfl) ?hy9 (by assumption) ?rest9
      case hy9 => (intro wx hSw; (try dsimp only at hSw); (have t0 := hSw.cellT R0.out n9; have t1 := hSw.cellT R1.out n9); go_simp; (try with_reducible rfl))
      simp only [Act.put, List.setIfInBounds_toArray, List.set_cons_zero, List.set_cons_succ]
      refine anyH_take (i := 4) (d := 48) (L' := #[true, true, true, false, true, false, false]) (v := ?v10) rfl rfl (by kernel_rfl) (fun _ _ _ h => h) (by rfl) ?hy10 (by assumption) ?rest10
      case hy10 => (intro wx hSw; (try dsimp only at hSw); (have t0 := hSw.cellT R0.out n9; have t1 := hSw.cellT R1.out n9); go_simp; (try with_reducible rfl))
      simp only [Act.put, List.setIfInBounds_toArray, List.set_cons_zero, List.set_cons_succ]
      refine anyH_take (i := 5) (d := 49) (L' := #[true, true, true, false, true, true, false]) (v := ?v11) rfl rfl (by kernel_rfl) (fun _ _ _ h => h) (by rfl) ?hy11 (by assumption) ?rest11
      case hy11 => (intro wx hSw; (try dsimp only at hSw); (have t0 := hSw.cellT R0.out n9; have t1 := hSw.cellT R1.out n9); go_simp; (try with_reducible rfl))
      simp only [Act.put, List.setIfInBounds_toArray, List.set_cons_zero, List.set_cons_succ]
      refine anyH_run (i := 3) (L' := #[true, true, true, true, true, true, false]) rfl (by kernel_rfl) (by rfl) (fun KK hKK => ?_)
      go_simp
      (refine (number19_any _ _).mono ?_; rintro e wn ⟨rfl, rfl⟩; rw [← HM.out]; (try go_simp))
      refine hKK.out _ _ (by assumption) (fun hHeld => ?_)
      clear hKK KK
      try simp only [Act.put, List.setIfInBounds_toArray, List.set_cons_zero, List.set_cons_succ]
      refine anyH_run (i := 6) (L' := #[true, true, true, true, true, true, true]) rfl (by kernel_rfl) (by rfl) (fun KK hKK => ?_)
      go_simp
      (refine (Write_any (HKX.out.k ((Chg.refl [] wq).drew)) 0 (by decide) m _ xp (HBU.out.k ((Chg.refl [] wq).drew)) (by omega) (.inr (by rw [HRM.out]; decide)) (by have := hO.out; omega)).mono ?_; rintro e w6 ⟨rfl, h6⟩; have hcq : Chg fpx wq w6 := (Chg.refl fpx wq).drew.trans h6.chg (fun _ h _ => h); have hS6 := hd ((h6.after ((Chg.refl fpx wq).drew)).ds hcx hfx); clear h6; (try go_simp))
      refine hKK.out _ _ (by assumption) (fun hHeld => ?_)
      clear hKK KK
      try simp only [Act.put, List.setIfInBounds_toArray, List.set_cons_zero, List.set_cons_succ]
      refine wpAnyH_done (by kernel_rfl) ?_ _
      go_wp2_with fail
      go_roundw
      case rel => exact ⟨k + 1, writeD d (segB 0) (frameB m xp), by omega, by go_num, hd (by have := hO.out; have := HO2.out; omega), HJ2, hS6⟩
      case measure => simp [intOf]; omega
    · obtain rfl : k = ps.length := by omega
      have hJF := hJ.out
      rw [List.take_length] at hJF
      have HJF := hd hJF
      clear hJF hJ
      go_upto_region 12 with (fail)
      obtain ⟨fpx, hkx, hcx, hfx⟩ := hS.out
      clear hS
      go_wp2_with fail
      refine (Segment_any wr 0 (by decide)).mono ?_
      rintro e w5 ⟨rfl, hc5⟩
      replace hkx := hkx.k hc5
      replace hcx := hcx.k hc5
      clear hc5
      go_wp2_with fail
      refine (Read_any hkx (segB 0) (by rw [segB_length]; decide) (by have := hO.out; omega)).mono ?_
      rintro e w6 ⟨ao6, n6, c6, rfl, hb6, hk6, hc6⟩
      have hx6 := (DS.same hk6 hkx hcx hfx hc6).chg
      have hb6n : ∀ k, (Value.slice ao6 n6 c6).ownBlock = some k → k ∉ fpx := fun k hk hf => by have := (hb6.lo k hk).1; have := hkx.fpl k hf; omega
      rw [HJF.out.syncE, if_pos rfl, HJF.out.bytes] at hb6
      rw [HJF.out.syncE]
      have hBl : (toldB ps).length ≤ 40000 := by have := toldB_length ps; omega
      have htold : ∀ wx, Chg [] w6 wx → Calls Try.prog 20 #[.slice ao0 ps.length cap0] wx fun e w' => e = .returned (.string (strB (toldB ps))) ∧ Chg [] wx w' := fun wx hx => told_any wx _ ps (H0.out.k (fun _ _ h => h.k (hx6.k hx)) (hx6.k hx)) hlt
      have hJF2 := HJF.out.op
      generalize hB : toldB ps = B at *
      obtain ⟨ao', c', e⟩ := hb6.form
      simp only [Value.slice.injEq] at e
      obtain ⟨rfl, rfl, rfl⟩ := e
      have HB6 := hd hb6.bs
      have HS6 := hd hb6.bs.strs
      have HK6 := hd hk6
      have HX6 := hd hx6
      have HN6 := hd hb6n
      have HFX := hd hfx
      have HTOLD := hd htold
      have HBB := hd hB
      have HJ6 := hd hJF2
      have HO6 : Hd ((opD d).ops ≤ 5000) := hd (by show d.ops + 1 ≤ 5000; have := hO.out; omega)
      clear hb6 hk6 hx6 hb6n hfx htold hB hJF2 hkx hcx hc6 HJF hO
      generalize opD d = d6 at *
      go_upto_region 14 with (fail)
      refine anyH_start (n := 9) (L := #[false, false, false, false, false, false, false, false, false]) (by kernel_rfl) (by kernel_rfl) (S := (fun wx => Chg [] w6 wx)) ((Chg.refl _ _).drew) (fun hHeld => ?_)
      refine anyH_take (i := 0) (d := 59) (L' := #[true, false, false, false, false, false, false, false, false]) (v := ?v18) rfl rfl (by kernel_rfl) (fun _ _ _ h => h) (by rfl) ?hy18 (by assumption) ?rest18
      case hy18 => (intro wx hSw; (try dsimp only at hSw); (skip); go_simp; (try with_reducible rfl))
      simp only [Act.put, List.setIfInBounds_toArray, List.set_cons_zero, List.set_cons_succ]
      refine anyH_take (i := 1) (d := 60) (L' := #[true, true, false, false, false, false, false, false, false]) (v := ?v19) rfl rfl (by kernel_rfl) (fun _ _ _ h => h) (by rfl) ?hy19 (by assumption) ?rest19
      case hy19 => (intro wx hSw; (try dsimp only at hSw); (skip); go_simp; (try with_reducible rfl))
      simp only [Act.put, List.setIfInBounds_toArray, List.set_cons_zero, List.set_cons_succ]
      refine anyH_take (i := 2) (d := 61) (L' := #[true, true, true, false, false, false, false, false, false]) (v := ?v20) rfl rfl (by kernel_rfl) (fun _ _ _ h => h) (by rfl) ?hy20 (by assumption) ?rest20
      case hy20 => (intro wx hSw; (try dsimp only at hSw); (skip); go_simp; (try with_reducible rfl))
      simp only [Act.put, List.setIfInBounds_toArray, List.set_cons_zero, List.set_cons_succ]
      refine anyH_take (i := 3) (d := 62) (L' := #[true, true, true, true, false, false, false, false, false]) (v := ?v21) rfl rfl (by kernel_rfl) (fun _ _ _ h => h) (by rfl) ?hy21 (by assumption) ?rest21
      case hy21 => (intro wx hSw; (try dsimp only at hSw); (skip); go_simp; (try with_reducible rfl))
      simp only [Act.put, List.setIfInBounds_toArray, List.set_cons_zero, List.set_cons_succ]
      refine anyH_take (i := 4) (d := 63) (L' := #[true, true, true, true, true, false, false, false, false]) (v := ?v22) rfl rfl (by kernel_rfl) (fun _ _ _ h => h) (by rfl) ?hy22 (by assumption) ?rest22
      case hy22 => (intro wx hSw; (try dsimp only at hSw); (have t0 := HS6.out _ hSw); go_simp; (try with_reducible rfl))
      simp only [Act.put, List.setIfInBounds_toArray, List.set_cons_zero, List.set_cons_succ]
      refine anyH_take (i := 5) (d := 64) (L' := #[true, true, true, true, true, true, false, false, false]) (v := ?v23) rfl rfl (by kernel_rfl) (fun _ _ _ h => h) (by rfl) ?hy23 (by assumption) ?rest23
      case hy23 => (intro wx hSw; (try dsimp only at hSw); (skip); go_simp; (try with_reducible rfl))
      simp only [Act.put, List.setIfInBounds_toArray, List.set_cons_zero, List.set_cons_succ]
      refine anyH_run (i := 6) (L' := #[true, true, true, true, true, true, true, false, false]) rfl (by kernel_rfl) (by rfl) (fun KK hKK => ?_)
      go_simp
      (refine (HTOLD.out _ hHeld).mono ?_; rintro e w7 ⟨rfl, hc7⟩; have hm7 := Chg.k hHeld hc7; clear hc7; (try go_simp))
      refine hKK.out _ _ (by assumption) (fun hHeld => ?_)
      clear hKK KK
      try simp only [Act.put, List.setIfInBounds_toArray, List.set_cons_zero, List.set_cons_succ]
      refine anyH_run (i := 7) (L' := #[true, true, true, true, true, true, true, true, false]) rfl (by kernel_rfl) (by rfl) (fun KK hKK => ?_)
      go_simp
      (skip)
      refine hKK.out _ _ (by assumption) (fun hHeld => ?_)
      clear hKK KK
      try simp only [Act.put, List.setIfInBounds_toArray, List.set_cons_zero, List.set_cons_succ]
      refine anyH_run (i := 8) (L' := #[true, true, true, true, true, true, true, true, true]) rfl (by kernel_rfl) (by rfl) (fun KK hKK => ?_)
      go_simp
      (skip)
      refine hKK.out _ _ (by assumption) (fun hHeld => ?_)
      clear hKK KK
      try simp only [Act.put, List.setIfInBounds_toArray, List.set_cons_zero, List.set_cons_succ]
      refine wpAnyH_done (by kernel_rfl) ?_ _
      clear HTOLD HS6
      have hx7 := HX6.out.k hm7
      replace HK6 := hd (HK6.out.k hm7)
      replace HB6 := hd (HB6.out.k hm7)
      have HX7 := hd hx7
      clear hx7 hm7 HX6
      go_upto_region 16 with (fail)
      obtain ⟨K, hK⟩ : ∃ K : Nat, at_ % 4096 % (ps.length : Int) = K := ⟨(at_ % 4096 % (ps.length : Int)).toNat, by rw [Int.toNat_of_nonneg]; exact Int.emod_nonneg _ (by omega)⟩
      have hKl : K < ps.length := by have := Int.emod_lt_of_pos (at_ % 4096) (show (0 : Int) < (ps.length : Int) by omega); omega
      have hz0 : 0 ≤ at_ % 4096 ∧ at_ % 4096 < 4096 := by omega
      obtain ⟨hz1, hz2⟩ := hz0
      have hpz2 : ((ps.length : Int) == 0) = false := by rw [beq_eq_false_iff_ne]; omega
      have HK := hd hK
      clear hK
      go_upto_region 18 with (fail)
      rw [HK.out]
      have h0c := H0.out.k (fun _ _ h => h.k HX7.out) HX7.out
      have hK1 : K + 1 ≤ ps.length := by omega
      have hbd : Bound (some (Value.int .i64 ((K : Int) + 1))) (K + 1) ps.length := .inr ⟨.i64, rfl⟩
      clear hz1 hz2 hpz2
      go_wp2_with (refine wpCutS rfl _ _ rfl _ ps rfl h0c (K + 1) hbd hK1 ?_; intro ao8 c8 h8)
      have H8 := hd h8
      clear h0c h8 hbd
      have hlen8 : (ps.take (K + 1)).length = K + 1 := by rw [List.length_take]; omega
      go_loopw [14, 15, 16, 17, 18, 78] (fun t14 t15 _ _ _ t78 wi => ∃ i : Nat, i ≤ K + 1 ∧ t78 = .int .i64 i ∧ t14 = .int .i64 (recLen (numsR (ps.take (min i K))) : Nat) ∧ t15 = .int .i64 (if i ≤ K then 0 else recLen (numsR (ps.take (K + 1))) : Nat) ∧ Chg [] w7 wi) (fun _ _ _ _ _ t78 _ => K + 1 - (intOf t78).toNat)
      case atStart => exact ⟨0, by omega, by simp, by simp [numsR, recLen], by simp, Chg.refl _ _⟩
      case round =>
        obtain ⟨i, hi, rfl, rfl, rfl, hci⟩ := hrel
        by_cases hil : i < K + 1
        · obtain ⟨b8, off8, cap8, hv8, -, -, hel8⟩ := H8.out.at (by rw [hlen8]; omega)
          rw [hlen8] at hv8
          simp only [Value.slice.injEq, true_and] at hv8
          obtain ⟨rfl, rfl⟩ := hv8
          obtain ⟨c, ⟨u, rfl, hbu, nlo, nhi, hll⟩, -, hcell⟩ := hel8 i (by rw [hlen8]; exact hil)
          have q0 := Chg.cellS hci (hcell 0 (by decide))
          have q1 := Chg.cellS hci (hcell 1 (by decide))
          simp at q0 q1
          simp only [List.getElem_take] at hbu nlo nhi hll q0
          obtain ⟨aou, cu, bu, ou, rfl, -⟩ := hbu.open
          have hip : i < ps.length := by omega
          have hrs : recLen (numsR (ps.take (i + 1))) = recLen (numsR (ps.take i)) + (ps[i].2.length + 20) := by
            rw [← numsR_take, numsR_snoc ps i hip, recLen_app, numsR_take]; simp [recLen]
          have hrl : recLen (numsR (ps.take (i + 1))) ≤ 40000 := by have h1 := toldB_length (ps.take (i + 1)); unfold toldB at h1; rw [catF_length] at h1; have h2 := lightN_take ps (i + 1); omega
          have hmin : min i K = i := by omega
          rw [hmin, if_pos (by omega)]
          clear hel8 hcell hbu
          generalize hA : recLen (numsR (ps.take i)) = A at *
          have HA := hd hA
          clear hA
          generalize ps[i] = X at *
          obtain ⟨xn, xp⟩ := X
          simp only at q0 q1 nlo nhi hll hrs
          have hb1 : A + (xp.length + 20) ≤ 40000 := by omega
          have HRS := hd hrs
          clear hrs hrl hmin
          by_cases hiK : i = K
          · have hiK2 : ((i : Int) == (K : Int)) = true := by rw [beq_iff_eq, hiK]
            have HIK := hd hiK
            clear hiK
            go_wp2_with fail
            go_roundw
            case rel =>
              have h1 : min (i + 1) K = i := by have := HIK.out; omega
              have h2 : ¬ i + 1 ≤ K := by have := HIK.out; omega
              refine ⟨i + 1, by omega, by go_num, by rw [h1, HA.out], ?_, hci.alloc _⟩
              rw [if_neg h2, ← HIK.out, HRS.out]
              congr 1
              omega
            case measure => simp [intOf]; omega
          · have hiK2 : ((i : Int) == (K : Int)) = false := by rw [beq_eq_false_iff_ne]; omega
            have HIK := hd hiK
            clear hiK
            go_wp2_with fail
            go_roundw
            case rel =>
              have h1 : min (i + 1) K = i + 1 := by have := HIK.out; omega
              have h2 : i + 1 ≤ K := by have := HIK.out; omega
              refine ⟨i + 1, by omega, by go_num, ?_, by rw [if_pos h2], hci.alloc _⟩
              rw [h1, HRS.out]
              congr 1
              omega
            case measure => simp [intOf]; omega
        · obtain rfl : i = K + 1 := by omega
          have hmin : min (K + 1) K = K := by omega
          rw [hmin, if_neg (by omega)]
          clear hmin
          have hx9 := HX7.out.k hci
          replace HK6 := hd (HK6.out.k hci)
          replace HB6 := hd (HB6.out.k hci)
          have HX9 := hd hx9
          clear hx9 hci HX7 H8
          have hrs : recLen (numsR (ps.take (K + 1))) = recLen (numsR (ps.take K)) + (ps[K].2.length + 20) := by
            rw [← numsR_take, numsR_snoc ps K hKl, recLen_app, numsR_take]; simp [recLen]
          have hcat : B = catF (numsR (ps.take K)) ++ (frameB (ps[K].1 % 4611686018427387904) ps[K].2 ++ catF (numsR (ps.drop (K + 1)))) := by
            rw [← HBB.out]
            have h1 : ps = ps.take K ++ (ps[K] :: ps.drop (K + 1)) := by rw [List.getElem_cons_drop, List.take_append_drop]
            conv => lhs; rw [h1]
            unfold toldB numsR
            rw [List.map_append, catF_app, List.map_cons]
            rfl
          have hAl := catF_length (numsR (ps.take K))
          have hFl := frameB_length (ps[K].1 % 4611686018427387904) ps[K].2
          have hBl2 : B.length = (catF (numsR (ps.take K))).length + ((frameB (ps[K].1 % 4611686018427387904) ps[K].2).length + (catF (numsR (ps.drop (K + 1)))).length) := by rw [hcat, List.length_append, List.length_append]
          have HCAT := hd hcat
          rw [← hFl] at hrs
          have HRS := hd hrs
          have HAL := hd hAl
          clear hcat
          generalize hF : frameB (ps[K].1 % 4611686018427387904) ps[K].2 = F at *
          have HF := hd hF
          rw [← hAl] at hrs ⊢
          generalize hA : catF (numsR (ps.take K)) = A at *
          have HA := hd hA
          generalize hPO : catF (numsR (ps.drop (K + 1))) = PO at *
          have HPO := hd hPO
          rw [hrs]
          have hFp : 0 < F.length := by omega
          have hbig : A.length + F.length ≤ 40000 := by omega
          have HBL := hd hBl2
          clear hrs hF hA hPO hAl hBl2
          have HFL := hd hFl
          obtain ⟨r, hr⟩ : ∃ r : Nat, at_ / 4096 % 65536 % (8 * ((A.length : Int) + (F.length : Int) - (A.length : Int))) = r := ⟨(at_ / 4096 % 65536 % (8 * ((A.length : Int) + (F.length : Int) - (A.length : Int)))).toNat, by rw [Int.toNat_of_nonneg]; exact Int.emod_nonneg _ (by omega)⟩
          have hrl : (r : Int) < 8 * (F.length : Int) := by have := Int.emod_lt_of_pos (at_ / 4096 % 65536) (show (0 : Int) < 8 * ((A.length : Int) + (F.length : Int) - (A.length : Int)) by omega); omega
          have hz3 : 0 ≤ at_ / 4096 % 65536 ∧ at_ / 4096 % 65536 < 65536 := by omega
          obtain ⟨hz4, hz5⟩ := hz3
          have hF8 : ¬ (8 * ((A.length : Int) + (F.length : Int) - (A.length : Int))) = 0 := by omega
          clear hFl
          go_upto_region 27 with (fail)
          clear hr hz4 hz5 hF8
          go_wp2_with fail
          go_loopw [2, 20, 109] (fun t2 _ t109 wi => ∃ i : Nat, i ≤ 32 ∧ t109 = .int .i64 i ∧ t2 = .int .u32 (n32 (clipM (8 * A.length + r) (8 * (A.length + F.length)) mask i)) ∧ wi = wr) (fun _ _ t109 _ => 32 - (intOf t109).toNat)
          case atStart => exact ⟨0, by omega, by simp, rfl, rfl⟩
          case round =>
            obtain ⟨i, hi3, rfl, rfl, rfl⟩ := hrel
            by_cases hi32 : i < 32
            · have hcs := clipM_succ (8 * A.length + r) (8 * (A.length + F.length)) mask i
              have HCS := hd hcs
              clear hcs
              generalize clipM (8 * A.length + r) (8 * (A.length + F.length)) mask i = M at *
              by_cases hge : 8 * (A.length + F.length) ≤ 8 * A.length + r + i
              · have hge' : 8 * ((A.length : Int) + (F.length : Int)) ≤ 8 * (A.length : Int) + (r : Int) + (i : Int) := by omega
                have hx := HCS.out
                rw [if_pos hge] at hx
                have HX := hd hx
                clear hx
                go_wp2_with fail
                go_roundw
                case rel => exact ⟨i + 1, by omega, by go_num, by rw [u32_clear _ _ hi32, HX.out], by trivial⟩
                case measure => simp [intOf]; omega
              · have hge' : ¬ 8 * ((A.length : Int) + (F.length : Int)) ≤ 8 * (A.length : Int) + (r : Int) + (i : Int) := by omega
                have hx := HCS.out
                rw [if_neg hge] at hx
                have HX := hd hx
                clear hx
                go_wp2_with fail
                go_roundw
                case rel => exact ⟨i + 1, by omega, by go_num, by rw [HX.out], by trivial⟩
                case measure => simp [intOf]; omega
            · obtain rfl : i = 32 := by omega
              have hclip := clipM_bit (8 * A.length + r) (8 * (A.length + F.length)) mask 32 (by decide)
              generalize hMM : clipM (8 * A.length + r) (8 * (A.length + F.length)) mask 32 = M at *
              clear hMM
              have hM : ∀ i, i < 32 → 8 * F.length ≤ r + i → M.toNat.testBit i = false := fun i hi hle => hclip i hi (by omega)
              have hplace : (8 * (A.length : Int) + (r : Int)) = ((8 * A.length + r : Nat) : Int) := by omega
              have hbent : bendB B (8 * (A.length : Int) + (r : Int)) M = A ++ (bendB F r M ++ PO) := by rw [HCAT.out, hplace]; exact bend_mid A F PO r M hM
              have hJB := HJ6.out.bend (8 * (A.length : Int) + (r : Int)) M
              have hops : (bendDsk d6 (segB 0) (8 * (A.length : Int) + (r : Int)) M).ops = d6.ops := by unfold bendDsk; split <;> rfl
              have hxw := HX9.out
              have hBend := DBend_any HK6.out (segB 0) (by rw [segB_length]; decide) (8 * (A.length : Int) + (r : Int)) M (by omega) (by omega)
              rw [HJ6.out.get] at hBend
              have HBN := hd hbent
              have HM := hd hM
              have HJB := hd hJB
              have HOP := hd hops
              clear hclip hM hplace hbent hJB hops
              generalize hCC : bendB B (8 * (A.length : Int) + (r : Int)) M = C at *
              have HCC := hd hCC
              clear hCC
              generalize bendDsk d6 (segB 0) (8 * (A.length : Int) + (r : Int)) M = d7 at *
              go_upto_region 33 with (fail)
              go_wp2_with fail
              refine (hBend).mono ?_
              rintro e w8 ⟨rfl, h8⟩
              have hbx : b ∈ fpx := let ⟨_, _, _, _, _, h⟩ := HK6.out; h.fpb
              have hB8 := HB6.out.keep h8.chg (fun _ => HN6.out)
              obtain ⟨fp8, hk8, hx8, hf8⟩ := h8.ds HX9.out HFX.out
              have hsy := HJB.out.syncE
              have hby := HJB.out.bytes
              have hJ9 := HJB.out.op
              have hCl : C.length = B.length := by rw [← HCC.out, bendB_length]
              clear h8 hBend hxw
              go_wp2_with fail
              refine (Read_any hk8 (segB 0) (by rw [segB_length]; decide) (by rw [HOP.out]; have := HO6.out; omega)).mono ?_
              rintro e w9 ⟨ao9, n9, c9, rfl, hb9, hk9, hc9⟩
              rw [hsy, if_pos rfl, hby] at hb9
              rw [hsy]
              have hB9 := hB8.keep hc9 (fun _ k hk => by simpa using fun e => HN6.out k hk (by rw [e]; exact hbx))
              have hD9 := DS.same hk9 hk8 hx8 hf8 hc9
              have hx9 := hD9.chg
              obtain ⟨ao', c', e⟩ := hb9.form
              simp only [Value.slice.injEq] at e
              obtain ⟨rfl, rfl, rfl⟩ := e
              have HS9 := hd hb9.bs.strs
              have HB9 := hd hB9
              have HK9 := hd hk9
              have HX := hd hx9
              have HCL := hd hCl
              have HJ9 := hd hJ9
              have HO9 : Hd ((opD d7).ops ≤ 6000) := hd (by show d7.ops + 1 ≤ 6000; rw [HOP.out]; have := HO6.out; omega)
              clear hb9 hk9 hk8 hx8 hf8 hsy hby hJ9 hB8 hB9 hD9 hx9 hCl hc9 HJB HOP
              generalize opD d7 = d9 at *
              go_upto_region 35 with (fail)
              refine anyH_start (n := 8) (L := #[false, false, false, false, false, false, false, false]) (by kernel_rfl) (by kernel_rfl) (S := (fun wx => Chg [] w9 wx)) ((Chg.refl _ _).drew) (fun hHeld => ?_)
              refine anyH_take (i := 0) (d := 134) (L' := #[true, false, false, false, false, false, false, false]) (v := ?v31) rfl rfl (by kernel_rfl) (fun _ _ _ h => h) (by rfl) ?hy31 (by assumption) ?rest31
              case hy31 => (intro wx hSw; (try dsimp only at hSw); (skip); go_simp; (try with_reducible rfl))
              simp only [Act.put, List.setIfInBounds_toArray, List.set_cons_zero, List.set_cons_succ]
              refine anyH_take (i := 1) (d := 135) (L' := #[true, true, false, false, false, false, false, false]) (v := ?v32) rfl rfl (by kernel_rfl) (fun _ _ _ h => h) (by rfl) ?hy32 (by assumption) ?rest32
              case hy32 => (intro wx hSw; (try dsimp only at hSw); (have t0 := HS9.out _ hSw); go_simp; (try with_reducible rfl))
              simp only [Act.put, List.setIfInBounds_toArray, List.set_cons_zero, List.set_cons_succ]
              refine anyH_take (i := 2) (d := 136) (L' := #[true, true, true, false, false, false, false, false]) (v := ?v33) rfl rfl (by kernel_rfl) (fun _ _ _ h => h) (by rfl) ?hy33 (by assumption) ?rest33
              case hy33 => (intro wx hSw; (try dsimp only at hSw); (skip); go_simp; (try with_reducible rfl))
              simp only [Act.put, List.setIfInBounds_toArray, List.set_cons_zero, List.set_cons_succ]
              refine anyH_take (i := 3) (d := 137) (L' := #[true, true, true, true, false, false, false, false]) (v := ?v34) rfl rfl (by kernel_rfl) (fun _ _ _ h => h) (by rfl) ?hy34 (by assumption) ?rest34
              case hy34 => (intro wx hSw; (try dsimp only at hSw); (skip); go_simp; (try with_reducible rfl))
              simp only [Act.put, List.setIfInBounds_toArray, List.set_cons_zero, List.set_cons_succ]
              refine anyH_take (i := 4) (d := 138) (L' := #[true, true, true, true, true, false, false, false]) (v := ?v35) rfl rfl (by kernel_rfl) (fun _ _ _ h => h) (by rfl) ?hy35 (by assumption) ?rest35
              case hy35 => (intro wx hSw; (try dsimp only at hSw); (skip); go_simp; (try with_reducible rfl))
              simp only [Act.put, List.setIfInBounds_toArray, List.set_cons_zero, List.set_cons_succ]
              refine anyH_run (i := 5) (L' := #[true, true, true, true, true, true, false, false]) rfl (by kernel_rfl) (by rfl) (fun KK hKK => ?_)
              go_simp
              (refine (Bend_any _ B (8 * (A.length : Int) + (r : Int)) M _ (HB9.out.k hHeld) (by omega) (by omega) (by omega)).mono ?_; rintro e w10 ⟨ao10, c10, rfl, hb10, hc10⟩; rw [HCC.out] at hb10; have hm10 := Chg.k hHeld hc10; have s10 := run_str hb10.bs; clear hb10 hc10; (try go_simp))
              refine hKK.out _ _ (by assumption) (fun hHeld => ?_)
              clear hKK KK
              try simp only [Act.put, List.setIfInBounds_toArray, List.set_cons_zero, List.set_cons_succ]
              refine anyH_run (i := 6) (L' := #[true, true, true, true, true, true, true, false]) rfl (by kernel_rfl) (by rfl) (fun KK hKK => ?_)
              go_simp
              (skip)
              refine hKK.out _ _ (by assumption) (fun hHeld => ?_)
              clear hKK KK
              try simp only [Act.put, List.setIfInBounds_toArray, List.set_cons_zero, List.set_cons_succ]
              refine anyH_run (i := 7) (L' := #[true, true, true, true, true, true, true, true]) rfl (by kernel_rfl) (by rfl) (fun KK hKK => ?_)
              go_simp
              (skip)
              refine hKK.out _ _ (by assumption) (fun hHeld => ?_)
              clear hKK KK
              try simp only [Act.put, List.setIfInBounds_toArray, List.set_cons_zero, List.set_cons_succ]
              refine wpAnyH_done (by kernel_rfl) ?_ _
              clear s10 HS9 HB9
              replace HK9 := hd (HK9.out.k hm10)
              replace HX := hd (HX.out.k hm10)
              clear hm10
              go_upto_region 37 with (fail)
              have hsy := HJ9.out.syncE
              have hby := HJ9.out.bytes
              go_wp2_with fail
              refine (Scan_any HK9.out 0 (by decide) (by have := HO9.out; omega) (by rw [hby, HCL.out]; omega)).mono ?_
              rintro e w11 hsc
              obtain ⟨hk11, hc11, hsc⟩ := hsc
              have hx11 : Chg [] w w11 := HX.out.trans hc11 (fun x hx hl => by
                obtain rfl : x = b := by simpa using hx
                have := HFX.out _ hbx
                omega)
              rcases hsc with ⟨hne, -⟩ | ⟨-, v, rs, rfl, hrs, hrl⟩
              · exact absurd hsy hne
              rw [hby] at hrs ⊢
              have hfine : FineR (numsR ps) := fun q hq => by
                obtain ⟨x, hx, rfl⟩ := List.mem_map.1 hq
                have h1 : 1 + x.2.length ≤ lightN ps := by
                  obtain ⟨j, hj, rfl⟩ := List.getElem_of_mem hx
                  have := lightN_snoc ps j hj
                  have := lightN_take ps (j + 1)
                  omega
                exact ⟨Int.emod_nonneg _ (by decide), by have := Int.emod_lt_of_pos x.1 (show (0 : Int) < 4611686018427387904 by decide); omega, by simp only; omega⟩
              have hmost : ∀ q ∈ numsR ps, (q.2.length : Int) ≤ 16384 := fun q hq => by
                obtain ⟨x, hx, rfl⟩ := List.mem_map.1 hq
                have h1 : 1 + x.2.length ≤ lightN ps := by
                  obtain ⟨j, hj, rfl⟩ := List.getElem_of_mem hx
                  have := lightN_snoc ps j hj
                  have := lightN_take ps (j + 1)
                  omega
                simp only
                omega
              clear hk11 hc11 HK9 HX hsy hby
              obtain ⟨aoR, cR, rfl⟩ := hrl.form
              have h0c := H0.out.k (fun _ _ h => h.k hx11) hx11
              by_cases hM0 : M = 0
              · subst hM0
                have hCB : C = B := by rw [← HCC.out, bend_none]
                have hBc : B = catF (numsR ps) ++ [] := by rw [List.append_nil]; exact HBB.out.symm
                rw [hCB, hBc, scanB_cat 16384 [] (nextB_nil _) _ hfine hmost] at hrs
                have hlen : recLen (rs.map bare) = C.length := by rw [hrs, hCB, ← catF_length]; exact congrArg List.length HBB.out
                rw [decide_eq_true hlen]
                have hrl2 := hrl
                have hlike := like_any w11 _ rs _ _ ps hrl h0c
                rw [decide_eq_true hrs] at hlike
                have hm0 : (n32 0 == 0) = true := by decide
                clear hlen hrs hCB hBc hrl hrl2 h0c hfine hmost
                go_wp2_with fail
                refine (hlike).mono ?_
                rintro e w12 ⟨rfl, hc12⟩
                have HF12 := hd (hx11.k hc12)
                clear hx11 hc12 hlike
                go_wp2_with fail
                go_ret
                exact ⟨rfl, HF12.out⟩
              · have hne : bendB F r M ≠ F := bend_ne F r M HM.out hM0
                have hnb : nextB (bendB F r M ++ PO) 16384 = none := by
                  have hp := hfine (ps[K].1 % 4611686018427387904, ps[K].2) (List.mem_map.2 ⟨ps[K], List.getElem_mem hKl, rfl⟩)
                  have := nextB_bend (ps[K].1 % 4611686018427387904) ps[K].2 PO 16384 r M hp.1 hp.2.1 (by have := hp.2.2; simp only at this; omega) (by rw [HF.out]; exact hne)
                  rwa [HF.out] at this
                have hCc : C = catF (numsR (ps.take K)) ++ (bendB F r M ++ PO) := by rw [HBN.out, HA.out]
                have htk : numsR (ps.take K) = (numsR ps).take K := (numsR_take ps K).symm
                rw [hCc, scanB_cat 16384 _ hnb _ (by rw [htk]; exact fun q hq => hfine q (List.mem_of_mem_take hq)) (by rw [htk]; exact fun q hq => hmost q (List.mem_of_mem_take hq))] at hrs
                have hlen : ¬ recLen (rs.map bare) = C.length := by
                  rw [hrs, HBN.out, ← HAL.out, List.length_append, List.length_append, bendB_length]; omega
                rw [decide_eq_false hlen]
                have hm0 : (n32 M == 0) = false := by
                  rw [beq_eq_false_iff_ne]
                  intro e
                  exact hM0 (n32_inj.1 (show n32 M = n32 0 by rw [e]; rfl))
                have hbd : Bound (some (Value.int .i64 (K : Int))) K ps.length := .inr ⟨.i64, rfl⟩
                have HRS2 := hd hrs
                have HRL := hd hrl
                have HX11 := hd hx11
                have hKle : K ≤ ps.length := by omega
                have hrsl : rs.length = K := by have := congrArg List.length hrs; simp [numsR] at this; omega
                clear hlen hrs hCc hrl hfine hmost hne hnb htk hM0 hx11
                go_wp2_with (refine wpCutS rfl _ _ rfl _ ps rfl h0c K hbd hKle ?_; intro ao13 c13 h13; have H13 := hd h13; clear h13)
                have hrl := HRL.out
                rw [hrsl] at hrl
                have hlike := like_any w11 _ rs _ _ (ps.take K) hrl H13.out
                rw [decide_eq_true HRS2.out] at hlike
                clear hrl h0c
                refine (hlike).mono ?_
                rintro e w12 ⟨rfl, hc12⟩
                have HF12 := hd (HX11.out.k hc12)
                clear hc12 hlike
                go_wp2_with fail
                go_ret
                exact ⟨rfl, HF12.out⟩
end
end Go.Proofs.Ytdmokfplkhmijaa
