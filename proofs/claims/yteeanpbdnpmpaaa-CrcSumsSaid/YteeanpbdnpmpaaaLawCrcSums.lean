/- CrcSums: for every input the law returns true. -/
import Derived.Test.YteeanpbdnpmpaaaCrcPoly
import Derived.Test.YteeanpbdnpmpaaaCrcAdd
import Derived.Test.YteeanpbdnpmpaaaCrcFit
namespace Go.Proofs.Yteeanpbdnpmpaaa
open Go.RowKit

theorem crcSum_nil : crcSum [] = 0 := by decide

set_option maxRecDepth 100000 in
set_option maxHeartbeats 1000000 in
theorem CrcSums_law (v0 : Value) (l0 : List UInt8) (v1 : Value) (l1 : List UInt8) (w : World) (h0 : Bs w v0 l0) (hl0 : l0.length ≤ 140737488351232) (h1 : Bs w v1 l1) (hl1 : l1.length ≤ 140737488351232) :
    Calls Try.prog 3 #[v0, v1] w fun e w' => e = .returned (.bool true) ∧ Chg [] w w' := by
  obtain ⟨ao0, cap0, b0, off0, rfl, -⟩ := h0.open
  obtain ⟨ao1, cap1, b1, off1, rfl, -⟩ := h1.open
  go_enter Try.func3, Try.ntmps3
  go_wp2_with fail
  refine (fit13_any _).mono ?_
  rintro e w1 ⟨rfl, hc1⟩
  by_cases hbig : 400 < (l0.length : Int) + l1.length
  · go_wp2_with fail
    go_ret
    exact ⟨rfl, hc1⟩
  · have g0 := h0.stays hc1
    have g1 := h1.stays hc1
    go_wp2_with (first | (refine wpClone rfl _ rfl _ _ rfl g0 (by omega) ?_; intro ao c w2 k1 k2; have hc2 := hc1.trans k2 (by simp); have g1' := h1.stays hc2) | (refine wpAppB rfl (.tmp 15) _ rfl w1.heap.size _ _ rfl k1 _ _ rfl g1' (by omega) k2.size ?_; intro ao2 c2 w3 m1 m2 m3; have hc3 := hc2.app k1 m2 hc1.size))
    have hb := m1.bs
    clear m1 m2 m3 k1 k2 g1'
    have hll : (l0 ++ l1).length ≤ 1000000 := by rw [List.length_append]; omega
    refine (Sum_any _ _ _ hb).mono ?_
    rintro e w4 ⟨rfl, rfl⟩
    go_wp2_with fail
    refine (sum13_any _ _ _ hb hll).mono ?_
    rintro e w4 ⟨rfl, hc4⟩
    rw [polySum_eq]
    have g0' := h0.stays (hc3.trans hc4 (by simp))
    have g1'' := h1.stays (hc3.trans hc4 (by simp))
    have hb4 := hb.stays hc4
    go_wp2_with fail
    refine (Sum_any _ _ _ g0').mono ?_
    rintro e w5 ⟨rfl, rfl⟩
    go_wp2_with fail
    refine (Add_any _ _ _ _ g1'').mono ?_
    rintro e w5 ⟨rfl, rfl⟩
    rw [← crcAdd_append]
    go_wp2_with fail
    refine (sum13_any _ _ _ hb4 hll).mono ?_
    rintro e w6 ⟨rfl, hc6⟩
    rw [polySum_eq]
    go_wp2_with fail
    refine (Sum_any _ [] _ (OwB.nil _ 0).bs).mono ?_
    rintro e w7 ⟨rfl, rfl⟩
    rw [crcSum_nil, show n32 0 = 0 from rfl]
    go_wp2_with fail
    go_ret
    exact ⟨rfl, (hc3.trans hc4 (by simp)).trans hc6 (by simp)⟩
end Go.Proofs.Yteeanpbdnpmpaaa
