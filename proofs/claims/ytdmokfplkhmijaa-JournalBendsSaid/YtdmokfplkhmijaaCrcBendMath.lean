/- What Bend does to the bits, and that a text of which bits within a window of 32 were turned is not a sealed one. -/
import Derived.Test.YtdmokfplkhmijaaCrcPoly
import Derived.Test.YtdmokfplkhmijaaCrcBend
import Derived.Test.YtdmokfplkhmijaaCrcSeal
import Derived.Test.YtdmokfplkhmijaaCrcApartMath
namespace Go.Proofs.Ytdmokfplkhmijaa

theorem one_shl (j : Nat) (hj : j < 8) : ((1 : UInt8) <<< UInt8.ofNat j).toNat = 2 ^ j := by
  have : j = 0 ∨ j = 1 ∨ j = 2 ∨ j = 3 ∨ j = 4 ∨ j = 5 ∨ j = 6 ∨ j = 7 := by omega
  rcases this with rfl | rfl | rfl | rfl | rfl | rfl | rfl | rfl <;> rfl
theorem mask_bit (mask : UInt32) (k : Nat) (hk : k < 32) : (mask >>> UInt32.ofNat k &&& 1 = 1) ↔ mask.toNat.testBit k = true := by
  have e : (mask >>> UInt32.ofNat k).toNat = mask.toNat >>> k := by
    rw [UInt32.toNat_shiftRight, UInt32.toNat_ofNat', Nat.mod_eq_of_lt (show k < 2 ^ 32 by omega), Nat.mod_eq_of_lt hk]
  rw [and1, e]
  have ht : mask.toNat.testBit k = decide (mask.toNat >>> k % 2 = 1) := by
    rw [Nat.testBit, Nat.and_comm, Nat.and_one_is_mod]
    rcases Nat.mod_two_eq_zero_or_one (mask.toNat >>> k) with h | h <;> simp [h]
  rw [ht]
  by_cases h : mask.toNat >>> k % 2 = 1
  · simp [h]
  · rw [if_neg h]; simp [h]
/-- One bit is turned, if it is there and the mask has it. -/
theorem msg_step (at_ : Int) (mask : UInt32) (l : List UInt8) (k : Nat) (hk : k < 32) (i : Nat) (hi : i < 8 * l.length) :
    msg (bendStep at_ mask l k) i = (msg l i ^^ (decide ((i : Int) = at_ + k) && mask.toNat.testBit k)) := by
  unfold bendStep
  by_cases hc : mask >>> UInt32.ofNat k &&& 1 = 1 ∧ 0 ≤ at_ + k ∧ (at_ + k) / 8 < l.length
  · obtain ⟨c1, c2, c3⟩ := hc
    rw [if_pos ⟨c1, c2, c3⟩, (mask_bit mask k hk).1 c1, Bool.and_true]
    obtain ⟨j, hj⟩ := Int.eq_ofNat_of_zero_le c2
    rw [hj] at c3 ⊢
    have e1 : ((j : Int) / 8).toNat = j / 8 := by omega
    have e2 : ((j : Int) % 8).toNat = j % 8 := by omega
    rw [e1, e2]
    unfold msg
    have hj8 : j / 8 < l.length := by omega
    by_cases hij : i / 8 = j / 8
    · rw [hij, List.getD_eq_getElem?_getD, List.getElem?_set_self hj8, Option.getD_some, UInt8.toNat_xor, Nat.testBit_xor, one_shl _ (by omega), Nat.testBit_two_pow]
      congr 1
      exact decide_eq_decide.2 (by omega)
    · rw [List.getD_eq_getElem?_getD, List.getElem?_set_ne (fun h => hij h.symm), ← List.getD_eq_getElem?_getD]
      have : decide ((i : Int) = ((j : Nat) : Int)) = false := by simp; omega
      rw [this, Bool.xor_false]
  · rw [if_neg hc]
    by_cases hm : mask.toNat.testBit k = true
    · have : decide ((i : Int) = at_ + k) = false := by
        simp only [decide_eq_false_iff_not]
        intro h
        exact hc ⟨(mask_bit mask k hk).2 hm, by omega, by omega⟩
      rw [this]; simp
    · have : mask.toNat.testBit k = false := by simpa using hm
      rw [this]; simp
theorem msg_fold (at_ : Int) (mask : UInt32) (n : Nat) (hn : n ≤ 32) (l : List UInt8) (i : Nat) (hi : i < 8 * l.length) :
    msg ((List.range n).foldl (bendStep at_ mask) l) i = (msg l i ^^ (decide (at_ ≤ i ∧ (i : Int) - at_ < n) && mask.toNat.testBit ((i : Int) - at_).toNat)) := by
  induction n with
  | zero =>
    have : decide (at_ ≤ (i : Int) ∧ (i : Int) - at_ < ((0 : Nat) : Int)) = false := by simp only [decide_eq_false_iff_not]; omega
    rw [this]; simp
  | succ n ih =>
    rw [fold_range_succ, msg_step _ _ _ _ (by omega) _ (by rw [bendFold_length]; exact hi), ih (by omega)]
    by_cases h : (i : Int) = at_ + n
    · have e1 : decide (at_ ≤ (i : Int) ∧ (i : Int) - at_ < (n : Int)) = false := by simp only [decide_eq_false_iff_not]; omega
      have e2 : decide (at_ ≤ (i : Int) ∧ (i : Int) - at_ < ((n + 1 : Nat) : Int)) = true := by simp only [decide_eq_true_eq]; omega
      have e3 : ((i : Int) - at_).toNat = n := by omega
      rw [e1, e2, e3, decide_eq_true h]; simp
    · have e1 : decide (at_ ≤ (i : Int) ∧ (i : Int) - at_ < ((n + 1 : Nat) : Int)) = decide (at_ ≤ (i : Int) ∧ (i : Int) - at_ < (n : Int)) := decide_eq_decide.2 (by omega)
      rw [e1, decide_eq_false h]; simp
theorem msg_bend (l : List UInt8) (at_ : Int) (mask : UInt32) (i : Nat) (hi : i < 8 * l.length) :
    msg (bendB l at_ mask) i = (msg l i ^^ (decide (at_ ≤ i ∧ (i : Int) - at_ < 32) && mask.toNat.testBit ((i : Int) - at_).toNat)) := msg_fold at_ mask 32 (by decide) l i hi
/-- Texts as long as each other with the same bits are the same. -/
theorem msg_ext {a b : List UInt8} (hl : a.length = b.length) (h : ∀ i, i < 8 * a.length → msg a i = msg b i) : a = b := by
  apply List.ext_getElem hl
  intro j h1 h2
  apply UInt8.toNat_inj.1
  apply Nat.eq_of_testBit_eq
  intro q
  by_cases hq : q < 8
  · have := h (8 * j + q) (by omega)
    unfold msg at this
    rw [show (8 * j + q) / 8 = j by omega, show (8 * j + q) % 8 = q by omega, List.getD_eq_getElem?_getD, List.getD_eq_getElem?_getD, List.getElem?_eq_getElem h1, List.getElem?_eq_getElem h2] at this
    exact this
  · have e : ∀ x : UInt8, x.toNat.testBit q = false := fun x => Nat.testBit_lt_two_pow (Nat.lt_of_lt_of_le x.toNat_lt (Nat.pow_le_pow_right (by decide) (by omega)))
    rw [e, e]
theorem bend_twice (l : List UInt8) (at_ : Int) (mask : UInt32) : bendB (bendB l at_ mask) at_ mask = l := by
  apply msg_ext (by rw [bendB_length, bendB_length])
  intro i hi
  rw [bendB_length, bendB_length] at hi
  rw [msg_bend _ _ _ _ (by rw [bendB_length]; exact hi), msg_bend _ _ _ _ hi]
  simp

/-- Bits as a number. -/
def numOfBits : List Bool → Nat
  | [] => 0
  | b :: l => (if b then 1 else 0) + 2 * numOfBits l
theorem numOfBits_lt (l : List Bool) : numOfBits l < 2 ^ l.length := by
  induction l with
  | nil => simp [numOfBits]
  | cons b l ih => simp only [numOfBits, List.length_cons, Nat.pow_succ]; split <;> omega
theorem numOfBits_bits (l : List Bool) : l = (List.range l.length).map fun j => (numOfBits l).testBit j := by
  induction l with
  | nil => rfl
  | cons b l ih =>
    rw [List.length_cons, List.range_succ_eq_map, List.map_cons, List.map_map]
    have h0 : (numOfBits (b :: l)).testBit 0 = b := by
      rw [Nat.testBit_zero, numOfBits]; cases b <;> simp
    rw [h0]
    congr 1
    conv => lhs; rw [ih]
    apply List.map_congr_left
    intro j _
    simp only [Function.comp]
    rw [Nat.testBit_succ, numOfBits]
    congr 1
    split <;> omega
theorem numOfBits_inj {a b : List Bool} (hl : a.length = b.length) (h : numOfBits a = numOfBits b) : a = b := by
  rw [numOfBits_bits a, numOfBits_bits b, hl, h]
theorem feeds_win {a b : List Bool} (hl : a.length = b.length) (h32 : a.length ≤ 32) (s : UInt32) (h : feeds s a = feeds s b) : a = b := by
  have ha := numOfBits_lt a
  have hb := numOfBits_lt b
  rw [numOfBits_bits a, numOfBits_bits b, feeds_word _ _ ha h32, feeds_word _ _ hb (by omega), ← hl] at h
  have h2 := (UInt32.xor_right_inj s).1 (crcBits_inj _ h)
  have hp : 2 ^ a.length ≤ 2 ^ 32 := Nat.pow_le_pow_right (by decide) h32
  rw [← hl] at hb
  have h3 := congrArg UInt32.toNat h2
  rw [UInt32.toNat_ofNat', UInt32.toNat_ofNat', Nat.mod_eq_of_lt (by omega), Nat.mod_eq_of_lt (by omega)] at h3
  exact numOfBits_inj hl h3
/-- Texts that part within a window of 32 bits lead to different states. -/
theorem window {a b : List UInt8} (hl : a.length = b.length) (p : Nat) (hw : ∀ i, i < 8 * a.length → (i < p ∨ p + 32 ≤ i) → msg a i = msg b i) (s : UInt32) (h : crcRun s a = crcRun s b) : a = b := by
  rw [crcRun_feeds, crcRun_feeds, bitsB_msg, bitsB_msg, ← hl] at h
  generalize hA : (List.range (8 * a.length)).map (msg a) = A at h
  generalize hB : (List.range (8 * a.length)).map (msg b) = B at h
  have hAl : A.length = 8 * a.length := by rw [← hA]; simp
  have hBl : B.length = 8 * a.length := by rw [← hB]; simp
  have hAg : ∀ i, i < 8 * a.length → A[i]? = some (msg a i) := fun i hi => by rw [← hA, List.getElem?_map, List.getElem?_range hi]; rfl
  have hBg : ∀ i, i < 8 * a.length → B[i]? = some (msg b i) := fun i hi => by rw [← hB, List.getElem?_map, List.getElem?_range hi]; rfl
  have hAe : A = A.take p ++ ((A.drop p).take 32 ++ (A.drop p).drop 32) := by rw [List.take_append_drop, List.take_append_drop]
  have hBe : B = B.take p ++ ((B.drop p).take 32 ++ (B.drop p).drop 32) := by rw [List.take_append_drop, List.take_append_drop]
  have hp : A.take p = B.take p := by
    apply List.ext_getElem?
    intro i
    rw [List.getElem?_take, List.getElem?_take]
    split
    · rename_i hi
      by_cases h8 : i < 8 * a.length
      · rw [hAg i h8, hBg i h8, hw i h8 (.inl hi)]
      · rw [List.getElem?_eq_none (by omega), List.getElem?_eq_none (by omega)]
    · rfl
  have hq : (A.drop p).drop 32 = (B.drop p).drop 32 := by
    apply List.ext_getElem?
    intro i
    rw [List.drop_drop, List.drop_drop, List.getElem?_drop, List.getElem?_drop]
    by_cases h8 : p + 32 + i < 8 * a.length
    · rw [hAg _ h8, hBg _ h8, hw _ h8 (.inr (by omega))]
    · rw [List.getElem?_eq_none (by omega), List.getElem?_eq_none (by omega)]
  rw [hAe, hBe, hp, hq, feeds_append, feeds_append, feeds_append, feeds_append] at h
  have hm := feeds_win (by rw [List.length_take, List.length_take, List.length_drop, List.length_drop, hAl, hBl]) (by rw [List.length_take]; omega) _ (feeds_inj _ h)
  have hAB : A = B := by rw [hAe, hBe, hp, hq, hm]
  apply msg_ext hl
  intro i hi
  have h1 := hAg i hi
  rw [hAB, hBg i hi] at h1
  exact (Option.some.inj h1).symm
/-- All sealed texts lead to one state. -/
theorem rdB_word (l : List UInt8) : rdB l = (wordOf l : Int) := by
  induction l with
  | nil => rfl
  | cons c l ih => simp only [rdB, wordOf, ih, n8]; omega
theorem le4_word (s : UInt32) : UInt32.ofNat (wordOf (le4 s)) = s := by
  have h := rdB_word (le4 s)
  have h0 := n32_lo s
  have h1 := n32_hi s
  rw [le4, rdB_leB, Int.emod_eq_of_lt h0 (by simpa using h1)] at h
  have : wordOf (leB 4 (n32 s)) = s.toNat := by unfold n32 at h ⊢; omega
  rw [le4, this]
  simp
theorem sealed_run (x : List UInt8) : crcRun (~~~ 0) (sealB x) = crcBits 32 (~~~ 0) := by
  unfold sealB crcSum crcAdd
  rw [crcRun_append, show ~~~ (0 : UInt32) = ~~~ 0 from rfl]
  generalize crcRun (~~~ 0) x = r
  have hlen : (le4 (~~~ r)).length = 4 := by simp [le4_eq]
  have hw := wordOf_lt (le4 (~~~ r))
  rw [crcRun_feeds, bitsB_word, feeds_word _ _ hw (by omega), le4_word, hlen]
  congr 1
  apply UInt32.toBitVec_inj.1
  rw [UInt32.toBitVec_xor, UInt32.toBitVec_not, ← BitVec.xor_allOnes, ← BitVec.xor_assoc, BitVec.xor_self, BitVec.zero_xor]; rfl
/-- Two sealed texts as long as each other that part within a window of 32 bits are one. -/
theorem sealed_window {x y : List UInt8} (hl : (sealB x).length = (sealB y).length) (p : Nat) (hw : ∀ i, i < 8 * (sealB x).length → (i < p ∨ p + 32 ≤ i) → msg (sealB x) i = msg (sealB y) i) : sealB x = sealB y :=
  window hl p hw (~~~ 0) (by rw [sealed_run, sealed_run])
end Go.Proofs.Ytdmokfplkhmijaa
