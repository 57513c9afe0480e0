/- bagatellelaw14.fit. -/
import Derived.Test.YteeanpbdnpmpaaaPackW
import Derived.Test.YteeanpbdnpmpaaaPackR
import Derived.Test.YteeanpbdnpmpaaaConv
namespace Go.Proofs.Yteeanpbdnpmpaaa
open Go.RowKit

set_option maxHeartbeats 800000 in
theorem fit14_any (w : World) : Calls Try.prog 19 #[] w fun e w' => e = .returned (.bool true) ∧ Chg [] w w' := by
  go_enter Try.func19, Try.ntmps19
  go_wp2_with fail
  have hw0 : Wr (w.alloc (.cells #[.slice none 0 0] 42)) w.heap.size w.heap.size [] := ⟨_, Blk.new _ _ _, OwB.nil _ _⟩
  have hb0 := ((Chg.refl [] w).alloc (.cells #[.slice none 0 0] 42)).new
  refine (WNum_any 2 258 w.heap.size w.heap.size [] _ hw0 (Nat.le_refl _) (by decide) (by decide) (by simp)).mono ?_
  rintro e w1 ⟨rfl, hw1, hb1⟩
  have hc1 := Chg.ofBelow (hb0.trans hb1)
  have hl : ([] : List UInt8) ++ leB (2 : Int).toNat 258 = [2, 1] := by decide
  rw [hl] at hw1
  clear hw0 hb0 hb1 hl
  go_wp2_with fail
  refine (WBytes_any _ _ _ _ hw1 (by simp)).mono ?_
  rintro e w2 ⟨ao, c, rfl, ho2, hc2⟩
  have hc2' := hc1.trans hc2 (by simp)
  clear hw1 hc1 hc2
  go_wp2_with fail
  refine (New_any _ _ _ ho2.bs).mono ?_
  rintro e w3 ⟨b, rfl, hb, hr3, hc3⟩
  have hc3' := hc2'.trans hc3 (by simp)
  have hstr : Bs w3 _ [2, 1] := ho2.bs.stays hc3
  have hz := hc2'.size
  have hwb : w.heap.size ≤ b := by omega
  clear ho2 hc3
  go_wp2_with (refine wpStr rfl _ rfl _ _ rfl hstr ?_)
  refine (RNum_long 2 b [2, 1] false _ hr3 (by decide) (by decide) (by decide)).mono ?_
  rintro e w4 ⟨rfl, hr4, hc4⟩
  have hn : rdNum (([2, 1] : List UInt8).take (2 : Int).toNat) = 258 := by decide +kernel
  rw [hn]
  have hc4' := hc3'.trans hc4 (by intro x hx hlt; simp at hx; omega)
  go_wp2_with fail
  refine (Done_any b _ false _ hr4).mono ?_
  rintro e w5 ⟨rfl, rfl⟩
  go_wp2_with fail
  go_ret
  exact ⟨rfl, hc4'⟩
end Go.Proofs.Yteeanpbdnpmpaaa
