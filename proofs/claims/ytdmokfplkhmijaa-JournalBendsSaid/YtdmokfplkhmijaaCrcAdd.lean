/- What crc.Add and crc.Sum return: the checksum of the bytes that the slice reads as. -/
import Derived.Test.YtdmokfplkhmijaaCrcMath
namespace Go.Proofs.Ytdmokfplkhmijaa
open Go.RowKit
attribute [local go_sem] u32_xor' u32_and' u32_not' u32_and_1 u32_poly u8_u32
attribute [local go_sem ↓] u32_shr1

set_option maxHeartbeats 400000 in
theorem Add_any (s : UInt32) (v : Value) (l : List UInt8) (w : World) (hl : Bs w v l) :
    Calls Try.prog 92 #[.int .u32 (n32 s), v] w fun e w' => e = .returned (.int .u32 (n32 (crcAdd s l))) ∧ w = w' := by
  obtain ⟨ao, cap, b, off, rfl, hcap, hbig, -, hao, hc⟩ := hl.open
  by_cases h0 : l = []
  · subst h0
    clear hc hao
    go_enter Try.func92, Try.ntmps92
    go_wp2
    refine wp_loop_once ?_
    go_wp2
    go_ret
    exact ⟨ret_of (by show _ = Value.int .u32 (n32 (~~~ (~~~ s))); rw [UInt32.not_not]; rfl), rfl⟩
  have hpos : 0 < l.length := List.length_pos_iff.2 h0
  obtain rfl := hao hpos
  clear h0 hao
  clear hl
  go_enter Try.func92, Try.ntmps92
  go_wp2
  go_loop [0, 6, 7, 12, 20] (fun t _ _ i _ => ∃ k : Nat, k ≤ l.length ∧ i = .int .i64 k ∧ t = .int .u32 (n32 (crcRun (~~~ s) (l.take k)))) (fun _ _ _ i _ => l.length - (intOf i).toNat)
  case atStart => exact ⟨0, by omega, rfl, rfl⟩
  case round =>
    obtain ⟨k, hk, rfl, rfl⟩ := hrel
    by_cases hlt : k < l.length
    · have hcell := hc k hlt
      have hS := hd (crcRun_snoc (~~~ s) l k hlt)
      generalize crcRun (~~~ s) (l.take k) = s1 at *
      generalize l[k] = x at *
      clear hc
      go_wp2
      go_loop [0, 7, 20] (fun t _ i => ∃ j : Nat, j ≤ 8 ∧ i = .int .i64 j ∧ t = .int .u32 (n32 (crcBits j (s1 ^^^ x.toUInt32)))) (fun _ _ i => 8 - (intOf i).toNat)
      case atStart => exact ⟨0, by omega, rfl, rfl⟩
      case round =>
        obtain ⟨j, hj, rfl, rfl⟩ := hrel
        have hT := hd (show crcBits (j+1) (s1 ^^^ x.toUInt32) = crcBit (crcBits j (s1 ^^^ x.toUInt32)) from rfl)
        generalize ht : crcBits j (s1 ^^^ x.toUInt32) = t at *
        have Ht := hd ht; clear ht
        go_wp2
        · rename_i h
          go_round
          case rel => exact ⟨j + 1, by omega, by go_num, by rw [hT.out, crcBit, if_pos (by simpa [n32_eq1] using h)]⟩
          case measure => simp [intOf]; omega
        · rename_i h
          go_round
          case rel => exact ⟨j + 1, by omega, by go_num, by rw [hT.out, crcBit, if_neg (by simpa [n32_eq1] using h)]⟩
          case measure => simp [intOf]; omega
        · have : j = 8 := by omega
          go_round
          case rel => exact ⟨k + 1, by omega, by go_num, by rw [hS.out, crcByte, ← Ht.out, this]⟩
          case measure => simp [intOf]; omega
    · have : k = l.length := by omega
      have H := hd this; clear this
      go_wp2
      go_ret
      exact ⟨by rw [List.take_of_length_le (by rw [H.out]; omega)]; rfl, rfl⟩

theorem Sum_any (v : Value) (l : List UInt8) (w : World) (hl : Bs w v l) :
    Calls Try.prog 86 #[v] w fun e w' => e = .returned (.int .u32 (n32 (crcSum l))) ∧ w = w' := by
  go_enter Try.func86, Try.ntmps86
  go_wp2_with fail
  refine (Add_any 0 _ l _ hl).mono ?_
  rintro e w1 ⟨rfl, rfl⟩
  go_wp2_with fail
  go_ret
  exact ⟨rfl, rfl⟩
end Go.Proofs.Ytdmokfplkhmijaa
