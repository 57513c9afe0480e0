/- PackCounts: for every input the law returns true. -/
import Derived.Test.YteeanpbdnpmpaaaPackV
namespace Go.Proofs.Yteeanpbdnpmpaaa
open Go.RowKit

set_option maxHeartbeats 400000 in
theorem RCount_long (m : Int) (b : Nat) (l : List UInt8) (w : World) (hr : Rdr w b l false) (hn : 2 ≤ l.length) (z : Int) (hz : rdNum (l.take 2) = z) (hm : z ≤ m) :
    Calls Try.prog 27 #[.pointer (some ⟨b, 0, none⟩), .int .i64 m] w fun e w' => e = .returned (.int .i64 z) ∧ Rdr w' b (l.drop 2) false ∧ Chg [b] w w' := by
  go_enter Try.func27, Try.ntmps27
  go_wp2_with fail
  refine (RNum_long 2 b l false _ hr (by decide) (by decide) (by omega)).mono ?_
  rintro e w1 ⟨rfl, h1, h2⟩
  rw [show (2 : Int).toNat = 2 from rfl] at h1
  rw [show (2 : Int).toNat = 2 from rfl, hz]
  clear hz
  go_wp2_with fail
  go_ret
  exact ⟨rfl, h1, h2⟩
set_option maxHeartbeats 400000 in
theorem RCount_over (m : Int) (b : Nat) (l : List UInt8) (w : World) (hr : Rdr w b l false) (hn : 2 ≤ l.length) (z : Int) (hz : rdNum (l.take 2) = z) (hm : m < z) :
    Calls Try.prog 27 #[.pointer (some ⟨b, 0, none⟩), .int .i64 m] w fun e w' => e = .returned (.int .i64 0) ∧ Rdr w' b [] true ∧ Chg [b] w w' := by
  go_enter Try.func27, Try.ntmps27
  go_wp2_with fail
  refine (RNum_long 2 b l false _ hr (by decide) (by decide) (by omega)).mono ?_
  rintro e w1 ⟨rfl, h1, h2⟩
  rw [show (2 : Int).toNat = 2 from rfl] at h1
  rw [show (2 : Int).toNat = 2 from rfl, hz]
  clear hz
  go_wp2_with fail
  refine (Fail_any b _ _ _ h1).mono ?_
  rintro e w2 ⟨rfl, h3, h4⟩
  have h5 := h2.trans h4 (fun x hx _ => hx)
  clear h1 h2 h4
  go_wp2_with fail
  go_ret
  exact ⟨rfl, h3, h5⟩

theorem rdNum_le2 (x : UInt16) (l : List UInt8) : rdNum ((leB 2 (n16 x) ++ l).take 2) = n16 x := by
  have h1 := x.toNat_lt
  have hl : (leB 2 (n16 x) ++ l).take 2 = leB 2 (n16 x) := by rw [List.take_append_of_le_length (by simp), List.take_of_length_le (by simp)]
  rw [hl, rdNum, rdB_leB, show (256 : Int) ^ 2 = 65536 from rfl]
  unfold n16
  rw [IntWalk.wrap64_in _ (by omega)]
  omega

set_option maxRecDepth 100000 in
set_option maxHeartbeats 2000000 in
theorem PackCounts_law (x : UInt16) (m : Int) (v2 : Value) (l2 : List UInt8) (w : World) (_lo : -9223372036854775808 ≤ m) (_hi : m ≤ 9223372036854775807) (h2 : Bs w v2 l2) (_hl2 : l2.length ≤ 140737488351232) :
    Calls Try.prog 6 #[.int .u16 (n16 x), .int .i64 m, v2] w fun e w' => e = .returned (.bool true) ∧ Chg [] w w' := by
  have hx0 : 0 ≤ n16 x := by unfold n16; omega
  have hx1 : n16 x ≤ 65535 := by have := x.toNat_lt; unfold n16; omega
  have hrd := rdNum_le2 x l2
  obtain ⟨ao2, cap2, b2, off2, rfl, -⟩ := h2.open
  go_enter Try.func6, Try.ntmps6
  go_wp2_with fail
  refine (fit14_any _).mono ?_
  rintro e w1 ⟨rfl, hf1⟩
  by_cases hbig : 100 < (l2.length : Int)
  · go_wp2_with fail
    go_ret
    exact ⟨rfl, hf1⟩
  have g2 := h2.stays hf1
  have hlit : OwB (w1.alloc (.cells #[.int .u8 (n16 x % 256),   .int .u8 (n16 x / 256)] 5)) w1.heap.size (.slice (some ⟨w1.heap.size, 0, none⟩) 2 2) (leB 2 (n16 x)) :=
    OwB.lit w1 w1.heap.size (leB 2 (n16 x)) _ (by simp [leB, vb, n8_ofInt]; omega) (Nat.le_refl _) (by simp)
  generalize n16 x = z at *
  go_wp2_with (refine wpAppB rfl _ _ rfl w1.heap.size _ _ rfl hlit _ _ rfl (g2.alloc _) (by rw [leB_length]; omega) (by simp) ?_; intro ao c w2 k1 k2 k3)
  have hf2 : Chg [] w w2 := (hf1.alloc _).app hlit k2 hf1.size
  have hL : leB 2 z ++ l2 = leB 2 z ++ l2 := rfl
  generalize hQ : leB 2 z ++ l2 = L at k1 hrd
  have hQl : L.length = 2 + l2.length := by rw [← hQ]; simp
  have hQd : L.drop 2 = l2 := by rw [← hQ, List.drop_append_of_le_length (by simp), List.drop_eq_nil_of_le (by simp)]; rfl
  have HQ := hd hQ
  have HQl := hd hQl
  have HQd := hd hQd
  clear hL hQ hQl hQd k2 k3 hlit g2 h2 hf1
  go_wp2_with fail
  refine (New_any _ L _ k1.bs).mono ?_
  rintro e w3 ⟨b, rfl, hb, hr3, hf3⟩
  have hf3' := hf2.trans hf3 (by simp)
  have hs2 := hf2.size
  have kk := k1.chg hf3 (by simp)
  have hbn : Value.ownBlock (.slice ao (2 + l2.length) c) ≠ some b := by
    intro he
    have := (k1.lo b he).2
    omega
  by_cases hov : m < z
  · go_wp2_with fail
    refine (RCount_over m b L _ hr3 (by rw [HQl.out]; omega) z hrd hov).mono ?_
    rintro e w4 ⟨rfl, hr4, hf4⟩
    have hf4' : Chg [] w w4 := hf3'.trans hf4 (by intro x hx hlt; simp at hx; omega)
    go_wp2_with fail
    refine (Bad_any b _ true _ hr4).mono ?_
    rintro e w5 ⟨rfl, rfl⟩
    go_wp2_with fail
    go_ret
    exact ⟨rfl, hf4'⟩
  · go_wp2_with fail
    refine (RCount_long m b L _ hr3 (by rw [HQl.out]; omega) z hrd (by omega)).mono ?_
    rintro e w4 ⟨rfl, hr4, hf4⟩
    rw [HQd.out] at hr4
    have hf4' : Chg [] w w4 := hf3'.trans hf4 (by intro x hx hlt; simp at hx; omega)
    have k4 := kk.chg hf4 (by intro k hk; simp; intro e; subst e; exact hbn hk)
    go_wp2_with fail
    refine (Bad_any b _ false _ hr4).mono ?_
    rintro e w5 ⟨rfl, rfl⟩
    go_wp2_with fail
    refine (Left_any b _ false _ hr4).mono ?_
    rintro e w5 ⟨rfl, rfl⟩
    go_wp2_with (refine wpCutB rfl _ _ _ rfl _ _ rfl k4.bs 0 1 (.inl ⟨rfl, rfl⟩) (.inr ⟨.i64, rfl⟩) (by omega) (by rw [HQl.out]; omega) ?_; intro ao1 c1 hcut hblk1)
    refine (New_any _ _ _ hcut).mono ?_
    rintro e w5 ⟨b', rfl, hb', hr5, hf5⟩
    have hf5' := hf4'.trans hf5 (by simp)
    have hs4 := hf4'.size
    go_wp2_with fail
    refine (RCount_short m b' _ false _ hr5 (by rw [List.length_take]; omega) (by omega)).mono ?_
    rintro e w6 ⟨rfl, hr6, hf6⟩
    have hf6' : Chg [] w w6 := hf5'.trans hf6 (by intro x hx hlt; simp at hx; omega)
    go_wp2_with fail
    go_ret
    exact ⟨rfl, hf6'⟩
end Go.Proofs.Yteeanpbdnpmpaaa
