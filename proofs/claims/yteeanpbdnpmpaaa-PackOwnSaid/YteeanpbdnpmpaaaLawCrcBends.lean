/- CrcBends: for every input the law returns true. -/
import Derived.Test.YteeanpbdnpmpaaaCrcBendMath
import Derived.Test.YteeanpbdnpmpaaaCrcFit
import Derived.Test.YteeanpbdnpmpaaaLawCrcApart
import Derived.Deep.RegionHeld
import Derived.Deep.Cut
namespace Go.Proofs.Yteeanpbdnpmpaaa
open Go.RowKit

theorem b2_xor (a b : Bool) : b2 a ^^^ b2 b = b2 (a ^^ b) := by cases a <;> cases b <;> rfl
theorem msg_at (l : List UInt8) (k : Nat) (h : k / 8 < l.length) : (l[k / 8] >>> UInt8.ofNat (k % 8)) &&& 1 = b2 (msg l k) := by
  rw [← bitAt_msg]; unfold bitAt; rw [List.getD_eq_getElem?_getD, List.getElem?_eq_getElem h]; rfl
theorem bit_msg (l : List UInt8) (k : Nat) (h : k / 8 < l.length) : bits .and .u8 (n8 l[k / 8] / 2 ^ (k % 8)) 1 = n8 (b2 (msg l k)) := by
  rw [u8_bit_and _ _ (Nat.mod_lt _ (by decide)), msg_at]
theorem mask_b2 (mask : UInt32) (j : Nat) (hj : j < 32) : mask >>> UInt32.ofNat j &&& 1 = if mask.toNat.testBit j then 1 else 0 := by
  by_cases h : mask.toNat.testBit j = true
  · rw [if_pos h]; exact (mask_bit mask j hj).2 h
  · rw [if_neg h]
    have h2 := mt (mask_bit mask j hj).1 h
    rw [and1] at h2 ⊢
    split
    · rename_i h3; rw [if_pos h3] at h2; exact absurd rfl h2
    · rfl
theorem mask_cv (mask : UInt32) (j : Nat) (hj : j < 32) : n32 (mask >>> UInt32.ofNat j &&& 1) % 256 = n8 (b2 (mask.toNat.testBit j)) := by
  rw [mask_b2 mask j hj]; cases mask.toNat.testBit j <;> rfl

attribute [local go_sem] andFFFF and7 u8_xor' u32_and_1

set_option maxRecDepth 100000 in
set_option maxHeartbeats 2000000 in
theorem CrcBends_law (v0 : Value) (l0 : List UInt8) (at_ : Int) (mask : UInt32) (w : World) (h0 : Bs w v0 l0) (_hl0 : l0.length ≤ 140737488351232) (_lo : -9223372036854775808 ≤ at_) (_hi : at_ ≤ 9223372036854775807) :
    Calls Try.prog 8 #[v0, .int .i64 at_, .int .u32 (n32 mask)] w fun e w' => e = .returned (.bool true) ∧ Chg [] w w' := by
  obtain ⟨ao0, cap0, b0, off0, rfl, -⟩ := h0.open
  go_enter Try.func8, Try.ntmps8
  go_wp2_with fail
  refine (fit13_any _).mono ?_
  rintro e w1 ⟨rfl, hc1⟩
  by_cases hbig : 2000 < (l0.length : Int)
  · go_wp2_with fail
    go_ret
    exact ⟨rfl, hc1⟩
  have g0 := h0.stays hc1
  go_wp2_with fail
  refine (Seal_any _ l0 _ g0 (by omega)).mono ?_
  rintro e w2 ⟨ao1, c1, rfl, hS, hc2⟩
  have hc2' := hc1.trans hc2 (by simp)
  have hSl := sealB_length l0
  obtain ⟨N, hN⟩ : ∃ N, N = l0.length + 4 := ⟨_, rfl⟩
  rw [← hN] at hS hSl
  generalize hSS : sealB l0 = S at *
  have HSS := hd hSS
  have HSl := hd hSl
  clear hSS hSl
  obtain ⟨K, hK⟩ : ∃ K : Nat, at_ % 65536 % (8 * (N : Int)) = K := ⟨(at_ % 65536 % (8 * (N : Int))).toNat, by rw [Int.toNat_of_nonneg]; exact Int.emod_nonneg _ (by omega)⟩
  have hKl : K < 8 * N := by have := Int.emod_lt_of_pos (at_ % 65536) (show (0 : Int) < 8 * (N : Int) by omega); omega
  have hNb : 4 ≤ N ∧ N ≤ 2004 := by omega
  obtain ⟨hN1, hN2⟩ := hNb
  rw [← hN]
  have HN := hd hN
  clear hN
  go_wp2_with fail
  rw [hK]
  refine (Bend_any _ S K mask _ hS.bs (by omega) (by omega) (by rw [HSl.out]; omega)).mono ?_
  rintro e w3 ⟨ao2, c2, rfl, hB, hc3⟩
  rw [HSl.out] at hB ⊢
  have hc3' := hc2'.trans hc3 (by simp)
  have hS3 := hS.chg hc3 (by simp)
  obtain ⟨B, hBB⟩ : ∃ B, B = bendB S K mask := ⟨_, rfl⟩
  rw [← hBB] at hB
  have hB2 : bendB B K mask = S := by rw [hBB, bend_twice]
  have hBl : B.length = N := by rw [hBB, bendB_length, HSl.out]
  have hbits : ∀ k, k < 8 * N → msg B k = (msg S k ^^ (decide ((K : Int) ≤ k ∧ (k : Int) - K < 32) && mask.toNat.testBit ((k : Int) - K).toNat)) := by
    intro k hk
    rw [hBB]
    exact msg_bend S K mask k (by rw [HSl.out]; exact hk)
  have HB2 := hd hB2
  have HBl := hd hBl
  have HBB := hd hBB
  have Hbits := hd hbits
  clear hB2 hBl hBB hbits
  go_wp2_with fail
  go_cut [45] from 31 (fun t wx => t = .bool false ∧ Chg [] w3 wx)
  case first =>
    have hSd := hS3.bs.stays ((Chg.refl [] w3).drew)
    have hBd := hB.bs.stays ((Chg.refl [] w3).drew)
    have hS0 := hS3.bs
    clear hS3 hB hS hSd hc3 hc3' hc2 hc2' hc1 g0 h0 Hbits HSS HBB HN hK
    have s7 : ∀ wx : World, Chg [] w3 wx → (convert 22 9 (.slice ao1 N c1)).run Try.prog wx = .ok (.string (strB S)) wx := fun wx hx => by
      have := run_str (hS0.stays hx); exact this
    refine wp_region_held_drew (S := (fun wx => Chg [] w3 wx)) (by kernel_rfl) ((Chg.refl _ _).drew) (fun hHeld => ?_)
    refine wpAnyH_take (i := 0) (v := ?v2) rfl (by kernel_rfl) (by kernel_rfl) (by kernel_rfl) (fun _ _ _ h => h) (Or.inl ⟨by rfl, ?hy2⟩) (by assumption) ?rest2
    case hy2 => (intro wx hSw; (try dsimp only at hSw); (skip); go_simp; (try with_reducible rfl))
    try simp only [Act.put, List.setIfInBounds_toArray, List.set_cons_zero, List.set_cons_succ]
    refine wpAnyH_take (i := 1) (v := ?v3) rfl (by kernel_rfl) (by kernel_rfl) (by kernel_rfl) (fun _ _ _ h => h) (Or.inl ⟨by rfl, ?hy3⟩) (by assumption) ?rest3
    case hy3 => (intro wx hSw; (try dsimp only at hSw); (skip); go_simp; (try with_reducible rfl))
    try simp only [Act.put, List.setIfInBounds_toArray, List.set_cons_zero, List.set_cons_succ]
    refine wpAnyH_take (i := 2) (v := ?v4) rfl (by kernel_rfl) (by kernel_rfl) (by kernel_rfl) (fun _ _ _ h => h) (Or.inl ⟨by rfl, ?hy4⟩) (by assumption) ?rest4
    case hy4 => (intro wx hSw; (try dsimp only at hSw); (skip); go_simp; (try with_reducible rfl))
    try simp only [Act.put, List.setIfInBounds_toArray, List.set_cons_zero, List.set_cons_succ]
    refine wpAnyH_take (i := 5) (v := ?v5) rfl (by kernel_rfl) (by kernel_rfl) (by kernel_rfl) (fun _ _ _ h => h) (Or.inl ⟨by rfl, ?hy5⟩) (by assumption) ?rest5
    case hy5 => (intro wx hSw; (try dsimp only at hSw); (skip); go_simp; (try with_reducible rfl))
    try simp only [Act.put, List.setIfInBounds_toArray, List.set_cons_zero, List.set_cons_succ]
    refine wpAnyH_take (i := 6) (v := ?v6) rfl (by kernel_rfl) (by kernel_rfl) (by kernel_rfl) (fun _ _ _ h => h) (Or.inl ⟨by rfl, ?hy6⟩) (by assumption) ?rest6
    case hy6 => (intro wx hSw; (try dsimp only at hSw); (have q7 := s7 _ (by assumption)); go_simp; (try with_reducible rfl))
    try simp only [Act.put, List.setIfInBounds_toArray, List.set_cons_zero, List.set_cons_succ]
    refine wpAnyH_ready (rs := [3]) (by kernel_rfl) (by simp) (AllReadyH.cons rfl (fun KK hKK => ?_) AllReadyH.nil)
    go_simp
    (go_at_call 33; refine (Bend_any _ B K mask _ hBd (by omega) (by omega) (by rw [HBl.out]; omega)).mono ?_; rintro e w4 ⟨ao3, c3, rfl, hT, hc4⟩; rw [HBl.out] at hT ⊢; rw [HB2.out] at hT; have sT := run_str hT.bs; have hm := (Chg.refl [] w3).drew.trans hc4 (by simp); clear hT hc4 hBd HB2; try go_simp)
    refine hKK.out _ _ (by assumption) (fun hHeld => ?_)
    clear hKK KK
    try simp only [Act.put, List.setIfInBounds_toArray, List.set_cons_zero, List.set_cons_succ]
    refine wpAnyH_ready (rs := [4]) (by kernel_rfl) (by simp) (AllReadyH.cons rfl (fun KK hKK => ?_) AllReadyH.nil)
    go_simp
    (skip)
    refine hKK.out _ _ (by assumption) (fun hHeld => ?_)
    clear hKK KK
    try simp only [Act.put, List.setIfInBounds_toArray, List.set_cons_zero, List.set_cons_succ]
    refine wpAnyH_ready (rs := [7]) (by kernel_rfl) (by simp) (AllReadyH.cons rfl (fun KK hKK => ?_) AllReadyH.nil)
    go_simp
    (skip)
    refine hKK.out _ _ (by assumption) (fun hHeld => ?_)
    clear hKK KK
    try simp only [Act.put, List.setIfInBounds_toArray, List.set_cons_zero, List.set_cons_succ]
    refine wpAnyH_ready (rs := [8]) (by kernel_rfl) (by simp) (AllReadyH.cons rfl (fun KK hKK => ?_) AllReadyH.nil)
    go_simp
    (skip)
    refine hKK.out _ _ (by assumption) (fun hHeld => ?_)
    clear hKK KK
    try simp only [Act.put, List.setIfInBounds_toArray, List.set_cons_zero, List.set_cons_succ]
    refine wpAnyH_take (i := 9) (v := ?v11) rfl (by kernel_rfl) (by kernel_rfl) (by kernel_rfl) (fun _ _ _ h => h) (Or.inl ⟨by rfl, ?hy11⟩) (by assumption) ?rest11
    case hy11 => (intro wx hSw; (try dsimp only at hSw); (skip); go_simp; (try with_reducible rfl))
    try simp only [Act.put, List.setIfInBounds_toArray, List.set_cons_zero, List.set_cons_succ]
    refine wpAnyH_take (i := 10) (v := ?v12) rfl (by kernel_rfl) (by kernel_rfl) (by kernel_rfl) (fun _ _ _ h => h) (Or.inl ⟨by rfl, ?hy12⟩) (by assumption) ?rest12
    case hy12 => (intro wx hSw; (try dsimp only at hSw); (skip); go_simp; (try with_reducible rfl))
    try simp only [Act.put, List.setIfInBounds_toArray, List.set_cons_zero, List.set_cons_succ]
    refine wpAnyH_ready (rs := [11]) (by kernel_rfl) (by simp) (AllReadyH.cons rfl (fun KK hKK => ?_) AllReadyH.nil)
    go_simp
    (skip)
    refine hKK.out _ _ (by assumption) (fun hHeld => ?_)
    clear hKK KK
    try simp only [Act.put, List.setIfInBounds_toArray, List.set_cons_zero, List.set_cons_succ]
    refine wpAnyH_ready (rs := [12]) (by kernel_rfl) (by simp) (AllReadyH.cons rfl (fun KK hKK => ?_) AllReadyH.nil)
    go_simp
    (skip)
    refine hKK.out _ _ (by assumption) (fun hHeld => ?_)
    clear hKK KK
    try simp only [Act.put, List.setIfInBounds_toArray, List.set_cons_zero, List.set_cons_succ]
    refine wpAnyH_ready (rs := [13]) (by kernel_rfl) (by simp) (AllReadyH.cons rfl (fun KK hKK => ?_) AllReadyH.nil)
    go_simp
    (skip)
    refine hKK.out _ _ (by assumption) (fun hHeld => ?_)
    clear hKK KK
    try simp only [Act.put, List.setIfInBounds_toArray, List.set_cons_zero, List.set_cons_succ]
    refine wpAnyH_ready (rs := [14]) (by kernel_rfl) (by simp) (AllReadyH.cons rfl (fun KK hKK => ?_) AllReadyH.nil)
    go_simp
    (skip)
    refine hKK.out _ _ (by assumption) (fun hHeld => ?_)
    clear hKK KK
    try simp only [Act.put, List.setIfInBounds_toArray, List.set_cons_zero, List.set_cons_succ]
    refine wpAnyH_done (by kernel_rfl) ?_ _
    go_wp2_with fail
    go_meet
    exact ⟨rfl, by assumption⟩
  case rest =>
    obtain ⟨rfl, hc⟩ := hcut
    have hS4 := hS3.chg hc (by simp)
    have hB4 := hB.chg hc (by simp)
    have hcw := hc3'.trans hc (by simp)
    have hz2 : w.heap.size ≤ w1.heap.size := hc1.size
    have hz3 : w.heap.size ≤ w2.heap.size := hc2'.size
    obtain ⟨g7, rfl, -, hg7, hg7'⟩ := hS4.addr (by rw [HSl.out]; omega)
    obtain ⟨g8, rfl, -, hg8, hg8'⟩ := hB4.addr (by rw [HBl.out]; omega)
    clear hc hS hB hS3 hc3 hc3' hc2 hc2' hc1
    go_wp2_with fail
    go_loopw [9, 10, 11, 49] (fun _ _ _ i wr => ∃ k : Nat, k ≤ 8 * N ∧ i = .int .i64 k ∧ Chg [] wc wr)
      (fun _ _ _ i _ => 8 * N - (intOf i).toNat)
    case atStart => exact ⟨0, by omega, rfl, Chg.refl _ _⟩
    case round =>
      obtain ⟨k, hk, rfl, hch⟩ := hrel
      by_cases hlt : k < 8 * N
      · have hx := (hS4.chg hch (by simp)).cell (k / 8) (by rw [HSl.out]; omega)
        have hy := (hB4.chg hch (by simp)).cell (k / 8) (by rw [HBl.out]; omega)
        have bx := bit_msg S k (by rw [HSl.out]; omega)
        have by_ := bit_msg B k (by rw [HBl.out]; omega)
        rw [Hbits.out k hlt] at by_
        have hi8 : (k : Int) / 8 < (N : Int) := by omega
        generalize S[k / 8]'(by rw [HSl.out]; omega) = x at *
        generalize B[k / 8]'(by rw [HBl.out]; omega) = y at *
        generalize msg S k = β at *
        by_cases hin : (K : Int) ≤ k ∧ (k : Int) - K < 32
        · obtain ⟨j, hj⟩ : ∃ j : Nat, (k : Int) - K = j := ⟨k - K, by omega⟩
          have hj32 : j < 32 := by omega
          rw [decide_eq_true hin, Bool.true_and, hj, Int.toNat_natCast, ← b2_xor] at by_
          have hcv := mask_cv mask j hj32
          generalize mask.toNat.testBit j = μ at *
          have hxor : bits .xor .u8 (n8 (b2 β)) (bits .and .u32 (n32 mask / 2 ^ (k - K)) 1 % 256) = n8 (b2 β ^^^ b2 μ) := by rw [show k - K = j by omega, u32_div_k mask j hj32, u32_and_1, hcv, u8_xor']
          have HJ := hd hj
          have HIN := hd hin
          have hk1 : (K : Int) ≤ k := hin.1
          have hk2 : (k : Int) - K < 32 := hin.2
          clear hj hin
          go_wp2_with fail
          go_roundw
          case rel => exact ⟨k + 1, by omega, by go_num, hch⟩
          case measure => simp [intOf]; omega
        · rw [decide_eq_false hin, Bool.false_and, Bool.xor_false] at by_
          by_cases hk1 : (K : Int) ≤ k
          · have hk2 : ¬ (k : Int) - K < 32 := fun h => hin ⟨hk1, h⟩
            clear hin
            go_wp2_with fail
            go_roundw
            case rel => exact ⟨k + 1, by omega, by go_num, hch⟩
            case measure => simp [intOf]; omega
          · clear hin
            go_wp2_with fail
            go_roundw
            case rel => exact ⟨k + 1, by omega, by go_num, hch⟩
            case measure => simp [intOf]; omega
      · have hcw2 := hcw.trans hch (by simp)
        have hS5 := hS4.chg hch (by simp)
        have hB5 := hB4.chg hch (by simp)
        clear hS4 hB4 hch hcw
        by_cases hBS : B = S
        · have hbs := hB5.bs
          rw [hBS, ← HSS.out] at hbs
          have hyes := Open_yes _ l0 _ hbs (by omega)
          have HBS := hd hBS
          clear hBS hbs
          go_wp2_with fail
          refine hyes.mono ?_
          rintro e w4 ⟨ao, c, rfl, -, hc4⟩
          have hS6 := hS5.bs.stays hc4
          have hB6 := hB5.bs.stays hc4
          have s7 := run_str hS6
          have s8 := run_str hB6
          rw [HBS.out] at s8
          go_wp2_with fail
          go_ret
          exact ⟨rfl, hcw2.trans hc4 (by simp)⟩
        · have hbs := hB5.bs
          have hno := Open_no _ B _ hbs (by rw [HBl.out]; omega) (by
            intro x hx
            apply hBS
            rw [hx, ← HSS.out]
            have hlx : (sealB x).length = (sealB l0).length := by rw [← hx, HBl.out, HSS.out, HSl.out]
            refine sealed_window hlx K ?_
            intro i hi hor
            rw [← hx, HSS.out]
            rw [← hx, HBl.out] at hi
            rw [Hbits.out i hi, decide_eq_false (by omega), Bool.false_and, Bool.xor_false])
          have hne : (B == S) = false := beq_eq_false_iff_ne.2 hBS
          clear hBS hbs
          go_wp2_with fail
          refine hno.mono ?_
          rintro e w4 ⟨rfl, hc4⟩
          have hS6 := hS5.bs.stays hc4
          have hB6 := hB5.bs.stays hc4
          have s7 := run_str hS6
          have s8 := run_str hB6
          go_wp2_with fail
          go_ret
          exact ⟨rfl, hcw2.trans hc4 (by simp)⟩
end Go.Proofs.Yteeanpbdnpmpaaa
