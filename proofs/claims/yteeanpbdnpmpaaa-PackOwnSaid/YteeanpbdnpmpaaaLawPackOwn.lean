/- PackOwn: for every input the law returns true. -/
import Derived.Test.YteeanpbdnpmpaaaPackV
import Derived.Test.YteeanpbdnpmpaaaLawCrcBends
namespace Go.Proofs.Yteeanpbdnpmpaaa
open Go.RowKit

theorem Wr.chg {w w' : World} {base b : Nat} {l : List UInt8} (h : Wr w base b l) (hc : Chg [] w w') : Wr w' base b l := by
  obtain ⟨v, h1, h2⟩ := h
  exact ⟨v, h1.chg hc (by simp), h2.chg hc (by simp)⟩
theorem WF_nil (a : Value) (w : World) :
    Calls Try.prog 31 #[a, .slice none 0 0] w fun e w' => e = .returned a ∧ w = w' := by
  go_enter Try.func31, Try.ntmps31
  go_wp2_with fail
  refine wp_loop_once ?_
  go_wp2_with fail
  go_ret
  exact ⟨rfl, rfl⟩
theorem WV_nil (a : Value) (w : World) :
    Calls Try.prog 30 #[a, .slice none 0 0] w fun e w' => e = .returned a ∧ w = w' := by
  go_enter Try.func30, Try.ntmps30
  go_wp2_with fail
  refine wp_loop_once ?_
  go_wp2_with fail
  go_ret
  exact ⟨rfl, rfl⟩
theorem leB1 (c : UInt8) : leB 1 (n8 c) = [c] := by
  simp only [leB, List.cons.injEq, and_true]
  apply n8_inj.1
  have := c.toNat_lt
  rw [n8_ofInt]; unfold n8; omega
theorem leB1' (c : UInt8) : leB 1 (256 + n8 c) = [c] := by
  simp only [leB, List.cons.injEq, and_true]
  apply n8_inj.1
  have := c.toNat_lt
  rw [n8_ofInt]; unfold n8; omega

theorem strB_append (a b : List UInt8) : strB a ++ strB b = strB (a ++ b) := by
  apply ByteArray.ext
  simp [strB, ByteArray.data_append]

attribute [local go_sem] andFFF strB_append

set_option maxRecDepth 100000 in
set_option maxHeartbeats 2000000 in
theorem PackOwn_law (v0 : Value) (l0 : List UInt8) (v1 : Value) (l1 : List UInt8) (x : Int) (w : World) (h0 : Bs w v0 l0) (_hl0 : l0.length ≤ 140737488351232) (h1 : Bs w v1 l1) (_hl1 : l1.length ≤ 140737488351232) (_lo : -9223372036854775808 ≤ x) (_hi : x ≤ 9223372036854775807) :
    Calls Try.prog 7 #[v0, v1, .int .i64 x] w fun e w' => e = .returned (.bool true) ∧ Chg [] w w' := by
  have hlt0 := h0.lt
  have hlt1 := h1.lt
  obtain ⟨ao0, cap0, b0, off0, rfl, -, -, -, hao0, hc0⟩ := h0.open
  obtain ⟨ao1, cap1, b1, off1, rfl, -, -, -, hao1, hc1⟩ := h1.open
  go_enter Try.func7, Try.ntmps7
  go_wp2_with fail
  refine (fit14_any _).mono ?_
  rintro e w1 ⟨rfl, hf1⟩
  by_cases hbig : 300 < (l0.length : Int) + l1.length
  · go_wp2_with fail
    go_ret
    exact ⟨rfl, hf1⟩
  have HC0 := hd hc0
  have HC1 := hd hc1
  have HL0 := hd hlt0
  have HL1 := hd hlt1
  clear hc0 hc1 hlt0 hlt1
  go_wp2_with fail
  have hw0 : Wr (w1.alloc (.cells #[.slice none 0 0] 42)) w1.heap.size w1.heap.size [] := ⟨_, Blk.new _ _ _, OwB.nil _ _⟩
  have hb0 := ((Chg.refl [] w1).alloc (.cells #[.slice none 0 0] 42)).new
  go_loopw [9, 23] (fun _ i wr => ∃ k : Nat, k ≤ l0.length ∧ i = .int .i64 k ∧ Wr wr w1.heap.size w1.heap.size (l0.take k) ∧ Below w1.heap.size w1 wr)
    (fun _ i _ => l0.length - (intOf i).toNat)
  case atStart => exact ⟨0, by omega, rfl, hw0, hb0⟩
  case round =>
    obtain ⟨k, hk, rfl, hw, hbl⟩ := hrel
    have hch := hf1.trans (Chg.ofBelow hbl) (by simp)
    by_cases hlt : k < l0.length
    · obtain rfl := hao0 (by omega)
      have hb0' : b0 < w.heap.size := HL0.out (by omega) b0 rfl
      have hx := (hch.cell (p := ⟨b0, off0 + k, none⟩) hb0' (by simp)).trans (HC0.out k hlt)
      have hs := hd (show l0.take (k + 1) = l0.take k ++ leB (1 : Int).toNat (n8 l0[k]) by rw [show (1 : Int).toNat = 1 from rfl, leB1, List.take_succ_eq_append_getElem hlt])
      generalize l0[k] = c at *
      have hnum := WNum_any 1 (n8 c) w1.heap.size w1.heap.size (l0.take k) _ hw (Nat.le_refl _) (by decide) (by decide) (by rw [List.length_take]; omega)
      have q1 := n8_lo c
      have q2 := n8_hi c
      clear hw
      go_wp2_with fail
      refine hnum.mono ?_
      rintro e w2 ⟨rfl, hw2, hb2⟩
      rw [← hs.out] at hw2
      go_wp2_with fail
      go_roundw
      case rel => exact ⟨k + 1, by omega, by go_num, hw2, hbl.trans hb2⟩
      case measure => simp [intOf]; omega
    · have hkn : k = l0.length := by omega
      subst hkn
      rw [List.take_length] at hw
      go_wp2_with fail
      refine (WBytes_any _ _ _ _ hw (by omega)).mono ?_
      rintro e w2 ⟨ao2, c2, rfl, ho2, hf2⟩
      have hch2 := hch.trans hf2 (by simp)
      have s10 := run_str ho2.bs
      have s0 := run_str (h0.stays hch2)
      have hw2 := hw.chg hf2
      have hz2 := hf2.size
      go_upto_if 39 with (fail)
      go_cut [] from 21 (fun wx => Chg [] wr wx)
      case first =>
        by_cases hpos : 0 < (l0.length : Int)
        · obtain ⟨g, rfl, -, hg1, hg2⟩ := ho2.addr (by omega)
          obtain ⟨K, hK⟩ : ∃ K : Nat, x % 4096 % (l0.length : Int) = K := ⟨(x % 4096 % (l0.length : Int)).toNat, by rw [Int.toNat_of_nonneg]; exact Int.emod_nonneg _ (by omega)⟩
          have hKl : K < l0.length := by have := Int.emod_lt_of_pos (x % 4096) hpos; omega
          have hcell := ho2.cell K hKl
          have hfree := ho2.free K
          generalize l0[K] = y at *
          go_wp2_with fail
          go_meet
          exact hf2.setCell _ _ (by simp; omega)
        · go_wp2_with fail
          go_meet
          exact hf2
      case rest =>
        have hwc := hw.chg hcut
        have hbc := hbl.trans (hcut.below hbl.size (by simp))
        have hf1' : Chg [] w w1 := hf1
        clear ho2 hf2 hch2 s10 s0 hw2 hz2 hcut hw hbl hch hw0 hb0 hk hlt
        go_wp2_with fail
        go_loopw [12, 52] (fun _ i wi => ∃ k : Nat, k ≤ l1.length ∧ i = .int .i64 k ∧ Wr wi w1.heap.size w1.heap.size (l0 ++ l1.take k) ∧ Below w1.heap.size w1 wi)
          (fun _ i _ => l1.length - (intOf i).toNat)
        case atStart => exact ⟨0, by omega, rfl, by simpa using hwc, hbc⟩
        case round =>
          obtain ⟨k, hk, rfl, hw, hbl⟩ := hrel
          have hch := hf1.trans (Chg.ofBelow hbl) (by simp)
          by_cases hlt : k < l1.length
          · obtain rfl := hao1 (by omega)
            have hb1' : b1 < w.heap.size := HL1.out (by omega) b1 rfl
            have hx := (hch.cell (p := ⟨b1, off1 + k, none⟩) hb1' (by simp)).trans (HC1.out k hlt)
            have hs := hd (show l0 ++ l1.take (k + 1) = l0 ++ l1.take k ++ leB (1 : Int).toNat (256 + n8 l1[k]) by rw [show (1 : Int).toNat = 1 from rfl, leB1', List.append_assoc, List.take_succ_eq_append_getElem hlt])
            generalize l1[k] = c at *
            have hnum := WNum_any 1 (256 + n8 c) w1.heap.size w1.heap.size _ _ hw (Nat.le_refl _) (by decide) (by decide) (by rw [List.length_append, List.length_take]; omega)
            have q1 := n8_lo c
            have q2 := n8_hi c
            clear hw
            go_wp2_with fail
            refine hnum.mono ?_
            rintro e w2 ⟨rfl, hw2, hb2⟩
            rw [← hs.out] at hw2
            go_wp2_with fail
            go_roundw
            case rel => exact ⟨k + 1, by omega, by go_num, hw2, hbl.trans hb2⟩
            case measure => simp [intOf]; omega
          · have hkn : k = l1.length := by omega
            subst hkn
            rw [List.take_length] at hw
            have f0 : ∀ wx : World, Chg [] wr wx → (convert 22 9 (.slice ao0 l0.length cap0)).run Try.prog wx = .ok (.string (strB l0)) wx := fun wx hx => run_str (h0.stays (hch.trans hx (by simp)))
            have f1 : ∀ wx : World, Chg [] wr wx → (convert 22 9 (.slice ao1 l1.length cap1)).run Try.prog wx = .ok (.string (strB l1)) wx := fun wx hx => run_str (h1.stays (hch.trans hx (by simp)))
            clear HC0 HC1 HL0 HL1 hbl
            go_wp2_with fail
            refine wp_region_held_drew (S := (fun wx => Chg [] wr wx)) (by kernel_rfl) ((Chg.refl _ _).drew) (fun hHeld => ?_)
            refine wpAnyH_take (i := 2) (v := ?v2) rfl (by kernel_rfl) (by kernel_rfl) (by kernel_rfl) (fun _ _ _ h => h) (Or.inl ⟨by rfl, ?hy2⟩) (by assumption) ?rest2
            case hy2 => (intro wx hSw; (try dsimp only at hSw); (skip); go_simp; (try with_reducible rfl))
            try simp only [Act.put, List.setIfInBounds_toArray, List.set_cons_zero, List.set_cons_succ]
            refine wpAnyH_take (i := 3) (v := ?v3) rfl (by kernel_rfl) (by kernel_rfl) (by kernel_rfl) (fun _ _ _ h => h) (Or.inl ⟨by rfl, ?hy3⟩) (by assumption) ?rest3
            case hy3 => (intro wx hSw; (try dsimp only at hSw); (have q7 := f0 _ (by assumption)); go_simp; (try with_reducible rfl))
            try simp only [Act.put, List.setIfInBounds_toArray, List.set_cons_zero, List.set_cons_succ]
            refine wpAnyH_take (i := 4) (v := ?v4) rfl (by kernel_rfl) (by kernel_rfl) (by kernel_rfl) (fun _ _ _ h => h) (Or.inl ⟨by rfl, ?hy4⟩) (by assumption) ?rest4
            case hy4 => (intro wx hSw; (try dsimp only at hSw); (skip); go_simp; (try with_reducible rfl))
            try simp only [Act.put, List.setIfInBounds_toArray, List.set_cons_zero, List.set_cons_succ]
            refine wpAnyH_take (i := 5) (v := ?v5) rfl (by kernel_rfl) (by kernel_rfl) (by kernel_rfl) (fun _ _ _ h => h) (Or.inl ⟨by rfl, ?hy5⟩) (by assumption) ?rest5
            case hy5 => (intro wx hSw; (try dsimp only at hSw); (have q7 := f1 _ (by assumption)); go_simp; (try with_reducible rfl))
            try simp only [Act.put, List.setIfInBounds_toArray, List.set_cons_zero, List.set_cons_succ]
            refine wpAnyH_take (i := 6) (v := ?v6) rfl (by kernel_rfl) (by kernel_rfl) (by kernel_rfl) (fun _ _ _ h => h) (Or.inl ⟨by rfl, ?hy6⟩) (by assumption) ?rest6
            case hy6 => (intro wx hSw; (try dsimp only at hSw); (have q8 : ¬ 9223372036854775807 < l0.length + l1.length := by omega); go_simp; (try with_reducible rfl))
            try simp only [Act.put, List.setIfInBounds_toArray, List.set_cons_zero, List.set_cons_succ]
            refine wpAnyH_ready (rs := [0]) (by kernel_rfl) (by simp) (AllReadyH.cons rfl (fun KK hKK => ?_) AllReadyH.nil)
            go_simp
            (go_at_call 29; refine (WBytes_any _ _ _ _ (hw.chg (Chg.refl _ _).drew) (by rw [List.length_append]; omega)).mono ?_; rintro e w4 ⟨ao3, c3, rfl, hT, hc4⟩; have sT := run_str hT.bs; rw [List.length_append] at sT; have hm := (Chg.refl [] wr).drew.trans hc4 (by simp); have hw4 := hw.chg hm; clear hT hc4; try go_simp)
            refine hKK.out _ _ (by assumption) (fun hHeld => ?_)
            clear hKK KK
            try simp only [Act.put, List.setIfInBounds_toArray, List.set_cons_zero, List.set_cons_succ]
            refine wpAnyH_ready (rs := [1]) (by kernel_rfl) (by simp) (AllReadyH.cons rfl (fun KK hKK => ?_) AllReadyH.nil)
            go_simp
            (skip)
            refine hKK.out _ _ (by assumption) (fun hHeld => ?_)
            clear hKK KK
            try simp only [Act.put, List.setIfInBounds_toArray, List.set_cons_zero, List.set_cons_succ]
            refine wpAnyH_ready (rs := [7]) (by kernel_rfl) (by simp) (AllReadyH.cons rfl (fun KK hKK => ?_) AllReadyH.nil)
            go_simp
            (skip)
            refine hKK.out _ _ (by assumption) (fun hHeld => ?_)
            clear hKK KK
            try simp only [Act.put, List.setIfInBounds_toArray, List.set_cons_zero, List.set_cons_succ]
            refine wpAnyH_ready (rs := [8]) (by kernel_rfl) (by simp) (AllReadyH.cons rfl (fun KK hKK => ?_) AllReadyH.nil)
            go_simp
            (skip)
            refine hKK.out _ _ (by assumption) (fun hHeld => ?_)
            clear hKK KK
            try simp only [Act.put, List.setIfInBounds_toArray, List.set_cons_zero, List.set_cons_succ]
            refine wpAnyH_take (i := 13) (v := ?v11) rfl (by kernel_rfl) (by kernel_rfl) (by kernel_rfl) (fun _ _ _ h => h) (Or.inl ⟨by rfl, ?hy11⟩) (by assumption) ?rest11
            case hy11 => (intro wx hSw; (try dsimp only at hSw); (skip); go_simp; (try with_reducible rfl))
            try simp only [Act.put, List.setIfInBounds_toArray, List.set_cons_zero, List.set_cons_succ]
            refine wpAnyH_take (i := 14) (v := ?v12) rfl (by kernel_rfl) (by kernel_rfl) (by kernel_rfl) (fun _ _ _ h => h) (Or.inl ⟨by rfl, ?hy12⟩) (by assumption) ?rest12
            case hy12 => (intro wx hSw; (try dsimp only at hSw); (skip); go_simp; (try with_reducible rfl))
            try simp only [Act.put, List.setIfInBounds_toArray, List.set_cons_zero, List.set_cons_succ]
            refine wpAnyH_take (i := 15) (v := ?v13) rfl (by kernel_rfl) (by kernel_rfl) (by kernel_rfl) (fun _ _ _ h => h) (Or.inl ⟨by rfl, ?hy13⟩) (by assumption) ?rest13
            case hy13 => (intro wx hSw; (try dsimp only at hSw); (skip); go_simp; (try with_reducible rfl))
            try simp only [Act.put, List.setIfInBounds_toArray, List.set_cons_zero, List.set_cons_succ]
            refine wpAnyH_take (i := 16) (v := ?v14) rfl (by kernel_rfl) (by kernel_rfl) (by kernel_rfl) (fun _ _ _ h => h) (Or.inl ⟨by rfl, ?hy14⟩) (by assumption) ?rest14
            case hy14 => (intro wx hSw; (try dsimp only at hSw); (skip); go_simp; (try with_reducible rfl))
            try simp only [Act.put, List.setIfInBounds_toArray, List.set_cons_zero, List.set_cons_succ]
            refine wpAnyH_take (i := 17) (v := ?v15) rfl (by kernel_rfl) (by kernel_rfl) (by kernel_rfl) (fun _ _ _ h => h) (Or.inl ⟨by rfl, ?hy15⟩) (by assumption) ?rest15
            case hy15 => (intro wx hSw; (try dsimp only at hSw); (skip); go_simp; (try with_reducible rfl))
            try simp only [Act.put, List.setIfInBounds_toArray, List.set_cons_zero, List.set_cons_succ]
            refine wpAnyH_ready (rs := [9]) (by kernel_rfl) (by simp) (AllReadyH.cons rfl (fun KK hKK => ?_) AllReadyH.nil)
            go_simp
            (go_at_call 30; refine (WV_nil _ _).mono ?_; rintro e w5 ⟨rfl, rfl⟩; try go_simp)
            refine hKK.out _ _ (by assumption) (fun hHeld => ?_)
            clear hKK KK
            try simp only [Act.put, List.setIfInBounds_toArray, List.set_cons_zero, List.set_cons_succ]
            refine wpAnyH_ready (rs := [10]) (by kernel_rfl) (by simp) (AllReadyH.cons rfl (fun KK hKK => ?_) AllReadyH.nil)
            go_simp
            (go_at_call 31; refine (WF_nil _ _).mono ?_; rintro e w5 ⟨rfl, rfl⟩; try go_simp)
            refine hKK.out _ _ (by assumption) (fun hHeld => ?_)
            clear hKK KK
            try simp only [Act.put, List.setIfInBounds_toArray, List.set_cons_zero, List.set_cons_succ]
            refine wpAnyH_ready (rs := [11]) (by kernel_rfl) (by simp) (AllReadyH.cons rfl (fun KK hKK => ?_) AllReadyH.nil)
            go_simp
            (go_at_call 29; refine (WBytes_any _ _ _ _ hw4 (by rw [List.length_append]; omega)).mono ?_; rintro e w5 ⟨ao4, c4, rfl, hU, hc5⟩; have hm5 := hm.trans hc5 (by simp); clear hU hc5; try go_simp)
            refine hKK.out _ _ (by assumption) (fun hHeld => ?_)
            clear hKK KK
            try simp only [Act.put, List.setIfInBounds_toArray, List.set_cons_zero, List.set_cons_succ]
            refine wpAnyH_ready (rs := [12]) (by kernel_rfl) (by simp) (AllReadyH.cons rfl (fun KK hKK => ?_) AllReadyH.nil)
            go_simp
            (skip)
            refine hKK.out _ _ (by assumption) (fun hHeld => ?_)
            clear hKK KK
            try simp only [Act.put, List.setIfInBounds_toArray, List.set_cons_zero, List.set_cons_succ]
            refine wpAnyH_ready (rs := [18]) (by kernel_rfl) (by simp) (AllReadyH.cons rfl (fun KK hKK => ?_) AllReadyH.nil)
            go_simp
            (skip)
            refine hKK.out _ _ (by assumption) (fun hHeld => ?_)
            clear hKK KK
            try simp only [Act.put, List.setIfInBounds_toArray, List.set_cons_zero, List.set_cons_succ]
            refine wpAnyH_ready (rs := [19]) (by kernel_rfl) (by simp) (AllReadyH.cons rfl (fun KK hKK => ?_) AllReadyH.nil)
            go_simp
            (skip)
            refine hKK.out _ _ (by assumption) (fun hHeld => ?_)
            clear hKK KK
            try simp only [Act.put, List.setIfInBounds_toArray, List.set_cons_zero, List.set_cons_succ]
            refine wpAnyH_ready (rs := [20]) (by kernel_rfl) (by simp) (AllReadyH.cons rfl (fun KK hKK => ?_) AllReadyH.nil)
            go_simp
            (skip)
            refine hKK.out _ _ (by assumption) (fun hHeld => ?_)
            clear hKK KK
            try simp only [Act.put, List.setIfInBounds_toArray, List.set_cons_zero, List.set_cons_succ]
            refine wpAnyH_done (by kernel_rfl) ?_ _
            go_wp2_with fail
            go_ret
            have hwr : IntKind.i64.wrap ((l0.length : Int) + l1.length) = l0.length + l1.length := by rw [IntKind.wrap_i64]; omega
            have hbe : ((l0.length : Int) + l1.length == IntKind.i64.wrap ((l0.length : Int) + l1.length)) = true := by rw [hwr]; exact beq_self_eq_true _
            exact ⟨ret_of (congrArg Value.bool hbe), hch.trans (by assumption) (by simp)⟩
end Go.Proofs.Yteeanpbdnpmpaaa
