/- bagatellelaw13.fit returns true. -/
import Derived.Test.YteeanpbdnpmpaaaCrcSeal
import Derived.Test.YteeanpbdnpmpaaaConv
namespace Go.Proofs.Yteeanpbdnpmpaaa
open Go.RowKit

theorem crc_digits : crcSum [49, 50, 51, 52, 53, 54, 55, 56, 57] = 3421780262 := by decide +kernel

set_option maxHeartbeats 800000 in
theorem fit13_any (w : World) : Calls Try.prog 15 #[] w fun e w' => e = .returned (.bool true) ∧ Chg [] w w' := by
  have kc := bsConst
  go_enter Try.func15, Try.ntmps15
  go_wp2_with fail
  have b1 := Bs.marked w [97, 98] #[.int .u8 97, .int .u8 98] 2 rfl rfl (by decide)
  refine (Seal_any _ [97, 98] _ b1 (by decide)).mono ?_
  rintro e w1 ⟨ao, c, rfl, h1, h2⟩
  go_wp2_with fail
  refine (Open_yes _ [97, 98] _ h1.bs (by decide)).mono ?_
  rintro e w2 ⟨ao2, c2, rfl, h3, h4⟩
  go_wp2_with fail
  have b3 := Bs.marked w2 [49, 50, 51, 52, 53, 54, 55, 56, 57] #[.int .u8 49, .int .u8 50, .int .u8 51, .int .u8 52, .int .u8 53, .int .u8 54, .int .u8 55, .int .u8 56, .int .u8 57] 9 rfl rfl (by decide)
  refine (Sum_any _ _ _ b3).mono ?_
  rintro e w3 ⟨rfl, hw3⟩
  rw [crc_digits, show n32 3421780262 = 3421780262 from rfl]
  have hch : Chg [] w w3 := by
    rw [← hw3]
    exact ((((Chg.refl [] w).alloc _).trans h2 (by simp)).trans h4 (by simp)).alloc _
  have hstr : Bs w3 _ [97, 98] := h3.bs.stays (by rw [← hw3]; exact (Chg.refl _ _).alloc _)
  clear hw3 b3 h4 h3 h2 h1 b1
  go_wp2_with (refine wpStr rfl _ rfl _ _ rfl hstr ?_)
  go_ret
  exact ⟨rfl, hch⟩
end Go.Proofs.Yteeanpbdnpmpaaa
