/- crc.Bend: bits turned round. -/
import Derived.Test.YtdmokfplkhmijaaSlice
import Derived.Deep.QuietTactic
import Derived.BigQuiet
import Derived.StillTailTactics
namespace Go.Proofs.Ytdmokfplkhmijaa
open Go.RowKit

def bendStep (at_ : Int) (mask : UInt32) (l : List UInt8) (k : Nat) : List UInt8 :=
  if mask >>> UInt32.ofNat k &&& 1 = 1 ∧ 0 ≤ at_ + k ∧ (at_ + k) / 8 < l.length then l.set ((at_ + k) / 8).toNat (l.getD ((at_ + k) / 8).toNat 0 ^^^ ((1 : UInt8) <<< UInt8.ofNat ((at_ + k) % 8).toNat)) else l
def bendB (l : List UInt8) (at_ : Int) (mask : UInt32) : List UInt8 := (List.range 32).foldl (bendStep at_ mask) l
@[simp] theorem bendStep_length (at_ : Int) (mask : UInt32) (l : List UInt8) (k : Nat) : (bendStep at_ mask l k).length = l.length := by
  unfold bendStep; split <;> simp
theorem bendFold_length (at_ : Int) (mask : UInt32) (ks : List Nat) (l : List UInt8) : (ks.foldl (bendStep at_ mask) l).length = l.length := by
  induction ks generalizing l with
  | nil => rfl
  | cons k ks ih => rw [List.foldl_cons, ih, bendStep_length]
theorem bendB_length (l : List UInt8) (at_ : Int) (mask : UInt32) : (bendB l at_ mask).length = l.length := bendFold_length _ _ _ _
theorem range_snoc (n : Nat) : List.range (n + 1) = List.range n ++ [n] := List.range_succ

theorem u32_div_k (a : UInt32) (j : Nat) (hj : j < 32) : n32 a / 2 ^ j = n32 (a >>> UInt32.ofNat j) := by
  unfold n32; rw [UInt32.toNat_shiftRight]
  simp [Nat.mod_eq_of_lt (show j < 2 ^ 32 by omega), Nat.mod_eq_of_lt hj, Nat.shiftRight_eq_div_pow]

section
attribute [local go_sem] u32_and_1 and7 u8_xor'
set_option maxHeartbeats 800000 in
theorem Bend_any (v : Value) (l : List UInt8) (at_ : Int) (mask : UInt32) (w : World) (hl : Bs w v l) (h1 : -4611686018427387904 ≤ at_) (h2 : at_ ≤ 4611686018427387904) (hlen : l.length ≤ 140737488355000) :
    Calls Try.prog 22 #[v, .int .i64 at_, .int .u32 (n32 mask)] w fun e w' => ∃ ao c, e = .returned (.slice ao l.length c) ∧ OwB w' w.heap.size (.slice ao l.length c) (bendB l at_ mask) ∧ Chg [] w w' := by
  go_enter Try.func22, Try.ntmps22
  go_wp2_with (refine wpAppB rfl _ _ rfl w.heap.size (.slice none 0 0) _ rfl (OwB.nil _ _) _ _ rfl hl (by simp; omega) (Nat.le_refl _) ?_; intro ao c w1 k1 k2 k3)
  simp only [List.length_nil, Nat.zero_add, List.nil_append] at k1
  go_loopw [8, 9, 12] (fun _ _ i wr => ∃ k : Nat, k ≤ 32 ∧ i = .int .i64 k ∧ OwB wr w.heap.size (.slice ao l.length c) ((List.range k).foldl (bendStep at_ mask) l) ∧ Chg [] w wr)
    (fun _ _ i _ => 32 - (intOf i).toNat)
  case atStart => exact ⟨0, by omega, rfl, by simpa using k1, (Chg.refl _ _).grown k2 (by simp [Value.ownBlock])⟩
  case round =>
    obtain ⟨k, hk, rfl, how, hch⟩ := hrel
    by_cases hlt : k < 32
    · have hsh : bits .and .u32 (n32 mask / 2 ^ k) 1 = n32 (mask >>> UInt32.ofNat k &&& 1) := by
        rw [u32_div_k mask k hlt]; exact u32_and_1 _
      have hS : (List.range (k + 1)).foldl (bendStep at_ mask) l = bendStep at_ mask ((List.range k).foldl (bendStep at_ mask) l) k := by rw [range_snoc, List.foldl_append]; rfl
      have hL : ((List.range k).foldl (bendStep at_ mask) l).length = l.length := bendFold_length _ _ _ _
      have HS := hd hS
      have HL := hd hL
      clear hS hL
      generalize (List.range k).foldl (bendStep at_ mask) l = cur at *
      by_cases hd : mask >>> UInt32.ofNat k &&& 1 = 1 ∧ 0 ≤ at_ + k ∧ (at_ + k) / 8 < l.length
      · obtain ⟨d1, d2, d3⟩ := hd
        obtain ⟨i, hi⟩ := Int.eq_ofNat_of_zero_le d2
        have d1' : (n32 (mask >>> UInt32.ofNat k &&& 1) == 1) = true := by rw [n32_eq1, d1]; rfl
        have hI := hd hi
        have hi8 : i / 8 < l.length := by omega
        have hx := List.getElem?_eq_getElem (show i / 8 < cur.length by rw [HL.out]; exact hi8)
        have hcl : i / 8 < cur.length := by rw [HL.out]; exact hi8
        obtain ⟨g, rfl, -, hg1, hg2⟩ := how.addr (by omega)
        have hcell := how.cell (i / 8) hcl
        have hfree := how.free (i / 8)
        have hii : (i : Int) / 8 < l.length := by omega
        have hset := fun y => how.set (i / 8) (cur[i / 8] ^^^ y)
        generalize hX : cur[i / 8] = x at *
        have HX := hd hX
        clear hX hi8 d3
        have hbit := u8_bit (i % 8) (by omega) .i64
        have hcast : ((i % 8 : Nat) : Int) = (i : Int) % 8 := by omega
        rw [hcast] at hbit
        clear hcast
        go_wp2_with fail
        go_region
        go_wp2
        go_roundw
        case rel =>
          refine ⟨k + 1, by omega, by go_num, ?_, ?_⟩
          · have hb : bendStep at_ mask cur k = cur.set (i / 8) (x ^^^ 1 <<< UInt8.ofNat (i % 8)) := by
              unfold bendStep
              rw [if_pos ⟨d1, d2, by rw [HL.out]; omega⟩, hI.out]
              rw [show ((i : Int) / 8).toNat = i / 8 by omega, show ((i : Int) % 8).toNat = i % 8 by omega, List.getD, hx]
              rfl
            rw [HS.out, hb]
            have hv := hset (1 <<< UInt8.ofNat (i % 8))
            rw [← u8_xor', ← u8_bitv (i % 8) (by omega)] at hv
            exact hv
          · exact hch.drew.setCell _ _ (fun h => by simp at h; omega)
        case measure => simp [intOf]; omega
      · have hno : bendStep at_ mask cur k = cur := by unfold bendStep; rw [if_neg (by rw [HL.out]; exact hd)]
        rw [hno] at HS
        clear hno
        by_cases d1 : mask >>> UInt32.ofNat k &&& 1 = 1
        · have d1' : (n32 (mask >>> UInt32.ofNat k &&& 1) == 1) = true := by rw [n32_eq1, d1]; rfl
          by_cases d2 : 0 ≤ at_ + k
          · have d3 : ¬ (at_ + k) / 8 < l.length := fun h => hd ⟨d1, d2, h⟩
            clear hd
            go_wp2
            all_goals
              go_roundw
              case rel => exact ⟨k + 1, by omega, by go_num, by rw [HS.out]; exact how, hch⟩
              case measure => simp [intOf]; omega
          · clear hd
            go_wp2
            all_goals
              go_roundw
              case rel => exact ⟨k + 1, by omega, by go_num, by rw [HS.out]; exact how, hch⟩
              case measure => simp [intOf]; omega
        · have d1' : (n32 (mask >>> UInt32.ofNat k &&& 1) == 1) = false := by rw [n32_eq1]; simpa using d1
          clear hd d1
          go_wp2
          all_goals
            go_roundw
            case rel => exact ⟨k + 1, by omega, by go_num, by rw [HS.out]; exact how, hch⟩
            case measure => simp [intOf]; omega
    · have hkn : k = 32 := by omega
      subst hkn
      go_wp2
      go_ret
      exact ⟨ao, c, rfl, how, hch⟩
end
end Go.Proofs.Ytdmokfplkhmijaa
