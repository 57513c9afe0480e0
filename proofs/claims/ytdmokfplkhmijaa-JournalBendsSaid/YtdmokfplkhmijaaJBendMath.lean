/- A journal of which bits of one record were turned. -/
import Derived.Test.YtdmokfplkhmijaaFrameAllsMath
import Derived.Test.YtdmokfplkhmijaaFrameBendMath
namespace Go.Proofs.Ytdmokfplkhmijaa

theorem msg_left (A B : List UInt8) (i : Nat) (h : i < 8 * A.length) : msg (A ++ B) i = msg A i := by
  rw [← msg_take (A ++ B) A.length i h, List.take_left']; rfl
theorem msg_right (A B : List UInt8) (i : Nat) : msg (A ++ B) (i + 8 * A.length) = msg B i := by
  rw [← msg_drop (A ++ B) A.length i, List.drop_left']; rfl
theorem bend_mid (A F B : List UInt8) (r : Nat) (M : UInt32) (hM : ∀ i, i < 32 → 8 * F.length ≤ r + i → M.toNat.testBit i = false) : bendB (A ++ (F ++ B)) ((8 * A.length + r : Nat) : Int) M = A ++ (bendB F r M ++ B) := by
  apply msg_ext
  · simp [bendB_length]
  · intro i hi
    rw [bendB_length] at hi
    rw [msg_bend _ _ _ _ hi]
    simp only [List.length_append] at hi
    by_cases h1 : i < 8 * A.length
    · rw [msg_left A _ i h1, msg_left A _ i h1]
      have : ¬ (((8 * A.length + r : Nat) : Int) ≤ (i : Int) ∧ (i : Int) - ((8 * A.length + r : Nat) : Int) < 32) := by omega
      rw [decide_eq_false this]; simp
    · obtain ⟨j, rfl⟩ : ∃ j, i = j + 8 * A.length := ⟨i - 8 * A.length, by omega⟩
      rw [msg_right, msg_right]
      have e : ((j + 8 * A.length : Nat) : Int) - ((8 * A.length + r : Nat) : Int) = (j : Int) - (r : Int) := by omega
      rw [e]
      have e2 : decide (((8 * A.length + r : Nat) : Int) ≤ ((j + 8 * A.length : Nat) : Int) ∧ (j : Int) - (r : Int) < 32) = decide ((r : Int) ≤ (j : Int) ∧ (j : Int) - (r : Int) < 32) := by
        rw [decide_eq_decide]; omega
      rw [e2]
      by_cases h2 : j < 8 * F.length
      · rw [msg_left F _ j h2, msg_left (bendB F r M) _ j (by rw [bendB_length]; exact h2), msg_bend _ _ _ _ h2]
      · obtain ⟨k, rfl⟩ : ∃ k, j = k + 8 * F.length := ⟨j - 8 * F.length, by omega⟩
        have h3 : msg (bendB F r M ++ B) (k + 8 * F.length) = msg B k := by
          have := msg_right (bendB F r M) B k
          rwa [bendB_length] at this
        rw [msg_right, h3]
        by_cases h4 : (r : Int) ≤ ((k + 8 * F.length : Nat) : Int) ∧ ((k + 8 * F.length : Nat) : Int) - (r : Int) < 32
        · rw [hM _ (by omega) (by omega)]; simp
        · rw [decide_eq_false h4]; simp
theorem bend_none (L : List UInt8) (p : Int) : bendB L p 0 = L := by
  apply msg_ext
  · rw [bendB_length]
  · intro i hi
    rw [bendB_length] at hi
    rw [msg_bend _ _ _ _ hi]
    simp
theorem bend_ne (F : List UInt8) (r : Nat) (M : UInt32) (hM : ∀ i, i < 32 → 8 * F.length ≤ r + i → M.toNat.testBit i = false) (h0 : M ≠ 0) : bendB F r M ≠ F := by
  intro he
  apply h0
  have hz : M.toNat = 0 := by
    apply Nat.eq_of_testBit_eq
    intro i
    rw [Nat.zero_testBit]
    by_cases hi : i < 32
    · by_cases h8 : 8 * F.length ≤ r + i
      · exact hM i hi h8
      · have h := msg_bend F r M (r + i) (by omega)
        rw [he] at h
        have h1 : decide ((r : Int) ≤ ((r + i : Nat) : Int) ∧ ((r + i : Nat) : Int) - (r : Int) < 32) = true := by rw [decide_eq_true]; omega
        have h2 : (((r + i : Nat) : Int) - (r : Int)).toNat = i := by omega
        rw [h1, h2, Bool.true_and] at h
        cases hb : M.toNat.testBit i
        · rfl
        · rw [hb] at h; cases hm : msg F (r + i) <;> rw [hm] at h <;> simp at h
    · exact Nat.testBit_lt_two_pow (Nat.lt_of_lt_of_le M.toNat_lt (Nat.pow_le_pow_right (by decide) (by omega)))
  exact UInt32.toNat_inj.1 (by rw [hz]; rfl)
/-- The mask, without the bits from place on that lie at or behind 'to'. -/
def clipM (place to : Nat) (M : UInt32) (k : Nat) : UInt32 := (List.range k).foldl (fun m i => if to ≤ place + i then m &&& ~~~ ((1 : UInt32) <<< UInt32.ofNat i) else m) M
theorem clipM_succ (place to : Nat) (M : UInt32) (k : Nat) : clipM place to M (k + 1) = if to ≤ place + k then clipM place to M k &&& ~~~ ((1 : UInt32) <<< UInt32.ofNat k) else clipM place to M k := by
  unfold clipM; rw [List.range_succ, List.foldl_append]; rfl
theorem testBit_clear (m : UInt32) (k i : Nat) (hk : k < 32) (hi : i < 32) : (m &&& ~~~ ((1 : UInt32) <<< UInt32.ofNat k)).toNat.testBit i = (m.toNat.testBit i && !decide (i = k)) := by
  have e : ((1 : UInt32) <<< UInt32.ofNat k).toNat = 2 ^ k := by
    rw [UInt32.toNat_shiftLeft, UInt32.toNat_ofNat', Nat.mod_eq_of_lt (show k < 2 ^ 32 by omega), Nat.mod_eq_of_lt hk, Nat.shiftLeft_eq]
    show (1 * 2 ^ k) % 2 ^ 32 = 2 ^ k
    rw [Nat.one_mul, Nat.mod_eq_of_lt (Nat.pow_lt_pow_right (by decide) hk)]
  have h2 : (~~~ ((1 : UInt32) <<< UInt32.ofNat k)).toNat.testBit i = !decide (i = k) := by
    rw [UInt32.toNat_not, e]
    have : UInt32.size - 1 - 2 ^ k = 2 ^ 32 - (2 ^ k + 1) := by show 4294967296 - 1 - 2 ^ k = _; omega
    rw [this, Nat.testBit_two_pow_sub_succ (Nat.pow_lt_pow_right (by decide) hk)]
    rw [Nat.testBit_two_pow]
    simp [hi]
    exact ⟨fun h => h.symm, fun h => h.symm⟩
  rw [UInt32.toNat_and, Nat.testBit_and, h2]
theorem clipM_bit (place to : Nat) (M : UInt32) : ∀ k, k ≤ 32 → ∀ i, i < k → to ≤ place + i → (clipM place to M k).toNat.testBit i = false
  | 0, _, i, hi, _ => absurd hi (by omega)
  | k + 1, hk, i, hi, ht => by
    rw [clipM_succ]
    by_cases hik : i = k
    · subst hik
      rw [if_pos ht, testBit_clear _ _ _ (by omega) (by omega)]; simp
    · have ih := clipM_bit place to M k (by omega) i (by omega) ht
      split
      · rw [testBit_clear _ _ _ (by omega) (by omega), ih]; simp
      · exact ih
theorem shl32_toNat (k : Nat) (hk : k < 32) : ((1 : UInt32) <<< UInt32.ofNat k).toNat = 2 ^ k := by
  rw [UInt32.toNat_shiftLeft, UInt32.toNat_ofNat', Nat.mod_eq_of_lt (show k < 2 ^ 32 by omega), Nat.mod_eq_of_lt hk, Nat.shiftLeft_eq]
  show (1 * 2 ^ k) % 2 ^ 32 = 2 ^ k
  rw [Nat.one_mul, Nat.mod_eq_of_lt (Nat.pow_lt_pow_right (by decide) hk)]
theorem u32_clear (M : UInt32) (i : Nat) (hi : i < 32) : bits .andNot .u32 (n32 M) (2 ^ i % 4294967296) = n32 (M &&& ~~~ ((1 : UInt32) <<< UInt32.ofNat i)) := by
  have h2 : 2 ^ i < 2 ^ 32 := Nat.pow_lt_pow_right (by decide) hi
  have e : ((2 : Int) ^ i % 4294967296) = ((2 ^ i : Nat) : Int) := by
    have : ((2 : Int) ^ i) = ((2 ^ i : Nat) : Int) := by simp
    rw [this]
    have h3 : 2 ^ i < 4294967296 := h2
    generalize (2 ^ i : Nat) = x at h3 ⊢
    omega
  unfold n32
  rw [e, u32_andNot_nat _ _ M.toNat_lt h2, UInt32.toNat_and, UInt32.toNat_not, shl32_toNat i hi]
  rfl
end Go.Proofs.Ytdmokfplkhmijaa
