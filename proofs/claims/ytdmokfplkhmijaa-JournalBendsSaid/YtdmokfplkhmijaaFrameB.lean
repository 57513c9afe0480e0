/- frame.Bytes. -/
import Derived.Test.YtdmokfplkhmijaaPackFit
import Derived.Test.YtdmokfplkhmijaaCrcSeal
namespace Go.Proofs.Ytdmokfplkhmijaa
open Go.RowKit

def frameB (no : Int) (l : List UInt8) : List UInt8 := sealB (leB 4 l.length ++ leB 8 no) ++ sealB l
theorem frameB_length (no : Int) (l : List UInt8) : (frameB no l).length = l.length + 20 := by
  unfold frameB; rw [List.length_append, sealB_length, sealB_length, List.length_append, leB_length, leB_length]; omega
theorem strB_app (a b : List UInt8) : strB a ++ strB b = strB (a ++ b) := by
  apply ByteArray.ext
  simp [strB, ByteArray.data_append]

set_option maxHeartbeats 800000 in
theorem FBytes_any (no : Int) (v : Value) (l : List UInt8) (w : World) (hl : Bs w v l) (hlen : l.length ≤ 140737488354000) :
    Calls Try.prog 48 #[.int .i64 no, v] w fun e w' => ∃ ao c, e = .returned (.slice ao (l.length + 20) c) ∧ OwB w' w.heap.size (.slice ao (l.length + 20) c) (frameB no l) ∧ Chg [] w w' := by
  obtain ⟨ao, cap, b, off, rfl, -⟩ := hl.open
  go_enter Try.func48, Try.ntmps48
  go_wp2_with fail
  have hw0 : Wr (w.alloc (.cells #[.slice none 0 0] 128)) w.heap.size w.heap.size [] := ⟨_, Blk.new _ _ _, OwB.nil _ _⟩
  have hb0 := ((Chg.refl [] w).alloc (.cells #[.slice none 0 0] 128)).new
  refine (WNum_any 4 l.length w.heap.size w.heap.size [] _ hw0 (Nat.le_refl _) (by decide) (by decide) (by simp)).mono ?_
  rintro e w1 ⟨rfl, hw1, hb1⟩
  go_wp2_with fail
  refine (WNum_any 8 no w.heap.size w.heap.size _ _ hw1 (Nat.le_refl _) (by decide) (by decide) (by simp)).mono ?_
  rintro e w2 ⟨rfl, hw2, hb2⟩
  have hch := Chg.ofBelow ((hb0.trans hb1).trans hb2)
  rw [List.nil_append, show (4 : Int).toNat = 4 from rfl, show (8 : Int).toNat = 8 from rfl] at hw2
  obtain ⟨H, hH⟩ : ∃ H, H = leB 4 l.length ++ leB 8 no := ⟨_, rfl⟩
  rw [← hH] at hw2
  have hHl : H.length = 12 := by rw [hH]; simp
  have HH := hd hH
  have HHl := hd hHl
  clear hH hHl hw1 hb1 hb2 hb0 hw0
  go_wp2_with fail
  refine (WBytes_any _ _ _ _ hw2 (by rw [HHl.out]; decide)).mono ?_
  rintro e w3 ⟨ao3, c3, rfl, ho3, hc3⟩
  rw [HHl.out] at ho3 ⊢
  have hch3 := hch.trans hc3 (by simp)
  clear hw2 hch hc3
  go_wp2_with fail
  refine (Seal_any _ H _ ho3.bs (by rw [HHl.out]; decide)).mono ?_
  rintro e w4 ⟨ao4, c4, rfl, ho4, hc4⟩
  rw [HHl.out] at ho4 ⊢
  have hch4 := hch3.trans hc4 (by simp)
  have hl4 := hl.stays hch4
  have hz3 := hch3.size
  have hzc := hc4.size
  clear ho3 hch3 hc4
  go_wp2_with fail
  refine (Seal_any _ l _ hl4 (by omega)).mono ?_
  rintro e w5 ⟨ao5, c5, rfl, ho5, hc5⟩
  have hch5 := hch4.trans hc5 (by simp)
  have ho4' : OwB w5 w3.heap.size (.slice ao4 16 c4) (sealB H) := ho4.chg hc5 (by simp)
  have hz4 := hc5.size
  have hz5 : w3.heap.size ≤ w4.heap.size := hzc
  clear ho4 hch4 hc5
  have hS1 : (sealB H).length = 16 := by rw [sealB_length, HHl.out]
  have hS2 : (sealB l).length = l.length + 4 := sealB_length l
  go_wp2_with (refine wpAppB rfl _ _ rfl w3.heap.size _ _ rfl ho4' _ _ rfl ho5.bs (by rw [hS1, hS2]; omega) (by omega) ?_; intro ao6 c6 w6 k1 k2 k3)
  go_ret
  rw [hS1, hS2] at k1
  have e : 16 + (l.length + 4) = l.length + 20 := by omega
  rw [e] at k1
  refine ⟨ao6, c6, ret_of (show Value.slice ao6 (16 + (l.length + 4)) c6 = Value.slice ao6 (l.length + 20) c6 by rw [e]), ?_, ?_⟩
  · unfold frameB
    rw [← HH.out]
    exact k1.mono hz3
  · exact hch5.app ho4' k2 hz3
end Go.Proofs.Ytdmokfplkhmijaa
