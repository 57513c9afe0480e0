/- CrcEdges: for every input the law returns true. -/
import Derived.Test.YteeanpbdnpmpaaaCrcEdgeMath
import Derived.Test.YteeanpbdnpmpaaaCrcFit
import Derived.Test.YteeanpbdnpmpaaaLawCrcBends
namespace Go.Proofs.Yteeanpbdnpmpaaa
open Go.RowKit

theorem u8_bit0 (z : Nat) (hz : z < 256) : bits .and .u8 (z : Int) 1 = ((z % 2 : Nat) : Int) := by
  have h : ∀ z : Fin 256, bits .and .u8 (z.1 : Int) 1 = ((z.1 % 2 : Nat) : Int) := by decide +kernel
  exact h ⟨z, hz⟩
theorem n8_nat (c : UInt8) : n8 c = (c.toNat : Int) := rfl
theorem held_cv (mask : UInt32) (j : Nat) (hj : j < 32) : bits .and .u32 (n32 mask / 2 ^ j) 1 = ((mask.toNat.testBit j).toNat : Int) := by
  rw [u32_div_k mask j hj, u32_and_1, mask_b2 mask j hj]; cases mask.toNat.testBit j <;> rfl

attribute [local go_sem] u8_xor'

set_option maxRecDepth 100000 in
set_option maxHeartbeats 2000000 in
theorem CrcEdges_law (v0 : Value) (l0 : List UInt8) (at_ : Int) (mask : UInt32) (w : World) (h0 : Bs w v0 l0) (_hl0 : l0.length ≤ 140737488351232) (_lo : -9223372036854775808 ≤ at_) (_hi : at_ ≤ 9223372036854775807) :
    Calls Try.prog 9 #[v0, .int .i64 at_, .int .u32 (n32 mask)] w fun e w' => e = .returned (.bool true) ∧ Chg [] w w' := by
  have hlt0 := h0.lt
  obtain ⟨ao0, cap0, b0, off0, rfl, -, -, -, hao, hc⟩ := h0.open
  go_enter Try.func9, Try.ntmps9
  go_wp2_with fail
  refine (fit13_any _).mono ?_
  rintro e w1 ⟨rfl, hc1⟩
  by_cases hbig : 200 < (l0.length : Int)
  · go_wp2_with fail
    go_ret
    exact ⟨rfl, hc1⟩
  by_cases hlo : at_ < -1099511627776
  · go_wp2_with fail
    go_ret
    exact ⟨rfl, hc1⟩
  by_cases hhi : 1099511627776 < at_
  · go_wp2_with fail
    go_ret
    exact ⟨rfl, hc1⟩
  have g0 := h0.stays hc1
  go_wp2_with fail
  refine (Bend_any _ l0 at_ mask _ g0 (by omega) (by omega) (by omega)).mono ?_
  rintro e w2 ⟨ao2, c2, rfl, hB, hc2⟩
  have hc2' := hc1.trans hc2 (by simp)
  have g2 := g0.stays hc2
  have hBl := bendB_length l0 at_ mask
  have hparts := parts_bend l0 at_ mask
  generalize bendB l0 at_ mask = B at *
  have HC := hd hc
  have HL := hd hlt0
  clear hc hlt0
  have HBl := hd hBl
  have HP := hd hparts
  clear hBl hparts h0 g0
  go_wp2_with fail
  go_loopw [8, 9, 10, 33] (fun t _ _ i wr => ∃ k : Nat, k ≤ l0.length ∧ i = .int .i64 k ∧ t = .int .i64 (parts l0 B k : Nat) ∧ Chg [] w2 wr)
    (fun _ _ _ i _ => l0.length - (intOf i).toNat)
  case atStart => exact ⟨0, by omega, rfl, rfl, Chg.refl _ _⟩
  case round =>
    obtain ⟨k, hk, rfl, rfl, hch⟩ := hrel
    by_cases hlt : k < l0.length
    · obtain rfl := hao (by omega)
      have hb0 : b0 < w.heap.size := HL.out (by omega) b0 rfl
      have hcw := hc2'.trans hch (by simp)
      have hB4 := hB.chg hch (by simp)
      obtain ⟨g8, rfl, -, hg8, hg8'⟩ := hB4.addr (by rw [HBl.out]; omega)
      have hx := (hcw.cell (p := ⟨b0, off0 + k, none⟩) hb0 (by simp)).trans (HC.out k hlt)
      have hy := hB4.cell k (by rw [HBl.out]; exact hlt)
      have hstep := parts_succ l0 B k hlt (by rw [HBl.out]; exact hlt)
      have hpl := cnt_le (8 * (k + 1)) (fun i => msg l0 i ^^ msg B i)
      change parts l0 B (k + 1) ≤ _ at hpl
      generalize l0[k]'hlt = x at *
      generalize B[k]'(by rw [HBl.out]; exact hlt) = y at *
      generalize hT : parts l0 B (k + 1) = t1 at *
      have HT := hd hT
      clear hT
      generalize parts l0 B k = t0 at *
      have hz := (x ^^^ y).toNat_lt
      have HS := hd hstep
      have HPL := hd hpl
      clear hstep hpl
      go_wp2_with fail
      go_quiet (fail)
      go_wp2_with fail
      rw [n8_nat]
      generalize (x ^^^ y).toNat = z0 at *
      go_loopw [8, 10] (fun t c wi => ∃ z a : Nat, z < 256 ∧ t = .int .i64 (a : Nat) ∧ c = .int .u8 (z : Nat) ∧ a + pop8 z = t1 ∧ wi = wr.drewN nq)
        (fun _ c _ => (intOf c).toNat)
      case atStart => exact ⟨z0, t0, by omega, rfl, rfl, HS.out.symm, rfl⟩
      case round =>
        obtain ⟨z, a, hz, rfl, rfl, hsum, rfl⟩ := hrel
        have hand := u8_bit0 z hz
        by_cases h0 : 0 < (z : Int)
        · have hst := pop8_step z hz
          have HST := hd hst
          have HSU := hd hsum
          have hab : a ≤ 8 * (l0.length + 1) := by have := HPL.out; omega
          clear hst hsum
          go_wp2_with fail
          go_roundw
          case rel => exact ⟨z / 2, a + z % 2, by omega, by go_num, by go_num, by have := HST.out; have := HSU.out; omega, trivial⟩
          case measure => simp [intOf]; omega
        · have hz0 : z = 0 := by omega
          subst hz0
          rw [pop8_zero, Nat.add_zero] at hsum
          subst hsum
          go_wp2_with fail
          go_roundw
          case rel => exact ⟨k + 1, by omega, by go_num, by rw [HT.out], hch.drewN _⟩
          case measure => simp [intOf]; omega
    · have hkn : k = l0.length := by omega
      subst hkn
      have hcw := hc2'.trans hch (by simp)
      rw [HP.out]
      clear hB hch hc2 hc2' g2 HP
      generalize hM : mask.toNat.testBit = M at *
      go_wp2_with fail
      go_loopw [11, 12, 13, 55] (fun t _ _ i wi => ∃ k : Nat, k ≤ 32 ∧ i = .int .i64 k ∧ t = .int .i64 (cnt k (held at_ M (8 * l0.length)) : Nat) ∧ wi = wr)
        (fun _ _ _ i _ => 32 - (intOf i).toNat)
      case atStart => exact ⟨0, by omega, rfl, rfl, rfl⟩
      case round =>
        obtain ⟨k, hk, rfl, rfl, rfl⟩ := hrel
        by_cases hlt : k < 32
        · have hb := held_cv mask k hlt
          rw [hM] at hb
          have hcs : cnt (k + 1) (held at_ M (8 * l0.length)) = cnt k (held at_ M (8 * l0.length)) + (held at_ M (8 * l0.length) k).toNat := rfl
          have hle := cnt_le k (held at_ M (8 * l0.length))
          have hm1 := (M k).toNat_le
          unfold held at hcs
          change cnt (k + 1) (held at_ M (8 * l0.length)) = cnt k (held at_ M (8 * l0.length)) + _ at hcs
          have HCS := hd hcs
          clear hcs
          generalize hT1 : cnt (k + 1) (held at_ M (8 * l0.length)) = t1 at *
          have HT1 := hd hT1
          clear hT1
          generalize cnt k (held at_ M (8 * l0.length)) = t0 at *
          by_cases hin : 0 ≤ at_ + k ∧ at_ + k < (8 * l0.length : Nat)
          · rw [decide_eq_true hin, Bool.true_and] at HCS
            obtain ⟨i1, i2⟩ := hin
            generalize (M k).toNat = q at *
            go_wp2_with fail
            go_roundw
            case rel => exact ⟨k + 1, by omega, by go_num, by rw [HT1.out, HCS.out]; simp, trivial⟩
            case measure => simp [intOf]; omega
          · rw [decide_eq_false hin, Bool.false_and] at HCS
            by_cases i1 : 0 ≤ at_ + k
            · have i2 : ¬ at_ + k < 8 * (l0.length : Int) := by omega
              clear hin
              go_wp2_with fail
              go_roundw
              case rel => exact ⟨k + 1, by omega, by go_num, by rw [HT1.out, HCS.out]; simp, trivial⟩
              case measure => simp [intOf]; omega
            · clear hin
              go_wp2_with fail
              go_roundw
              case rel => exact ⟨k + 1, by omega, by go_num, by rw [HT1.out, HCS.out]; simp, trivial⟩
              case measure => simp [intOf]; omega
        · have hk32 : k = 32 := by omega
          subst hk32
          go_wp2_with fail
          go_ret
          exact ⟨rfl, hcw⟩
end Go.Proofs.Yteeanpbdnpmpaaa
