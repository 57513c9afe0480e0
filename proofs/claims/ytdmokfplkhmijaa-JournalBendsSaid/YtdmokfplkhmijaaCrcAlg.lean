/- The checksum as linear algebra over bits: feeding bits one by one, that different words never meet, and that it is the rest of the division of polynomials. -/
import Derived.Test.YtdmokfplkhmijaaCrcMath
import Derived.Test.YtdmokfplkhmijaaCrcSumW
namespace Go.Proofs.Ytdmokfplkhmijaa

theorem and1 (a : UInt32) : a &&& 1 = if a.toNat % 2 = 1 then 1 else 0 := by
  apply UInt32.toNat_inj.1
  rw [UInt32.toNat_and]
  show a.toNat &&& 1 = _
  rw [Nat.and_one_is_mod]
  split <;> rename_i h
  · rw [h]; rfl
  · have : a.toNat % 2 = 0 := by omega
    rw [this]; rfl
theorem crcBit_toNat (a : UInt32) : (crcBit a).toNat = if a.toNat % 2 = 1 then a.toNat / 2 ^^^ 3988292384 else a.toNat / 2 := by
  have h2 : (a >>> 1).toNat = a.toNat / 2 := by rw [UInt32.toNat_shiftRight]; show a.toNat >>> 1 = _; rw [Nat.shiftRight_eq_div_pow]
  unfold crcBit
  rw [and1]
  by_cases h : a.toNat % 2 = 1
  · rw [if_pos h, if_pos rfl, if_pos h, UInt32.toNat_xor, h2]; rfl
  · rw [if_neg h, if_neg (by decide), if_neg h, h2]
theorem crcBit_xor (a b : UInt32) : crcBit (a ^^^ b) = crcBit a ^^^ crcBit b := by
  apply UInt32.toNat_inj.1
  rw [UInt32.toNat_xor, crcBit_toNat, crcBit_toNat, crcBit_toNat, UInt32.toNat_xor]
  have hd : (a.toNat ^^^ b.toNat) / 2 = a.toNat / 2 ^^^ b.toNat / 2 := Nat.xor_div_two
  have hm : (a.toNat ^^^ b.toNat) % 2 = 1 ↔ ¬ ((a.toNat % 2 = 1) ↔ (b.toNat % 2 = 1)) := Nat.xor_mod_two_eq_one
  rw [hd]
  simp only [hm]
  by_cases h1 : a.toNat % 2 = 1 <;> by_cases h2 : b.toNat % 2 = 1
  · rw [if_pos h1, if_pos h2, if_neg (by simp [h1, h2])]
    rw [Nat.xor_assoc, Nat.xor_comm 3988292384, Nat.xor_assoc, Nat.xor_self, Nat.xor_zero]
  · rw [if_pos h1, if_neg h2, if_pos (by simp [h1, h2]), Nat.xor_assoc, Nat.xor_assoc, Nat.xor_comm 3988292384]
  · rw [if_neg h1, if_pos h2, if_pos (by simp [h1, h2]), Nat.xor_assoc]
  · rw [if_neg h1, if_neg h2, if_neg (by simp [h1, h2])]
theorem crcBit_zero (a : UInt32) (h : crcBit a = 0) : a = 0 := by
  have h' : (crcBit a).toNat = 0 := by rw [h]; rfl
  rw [crcBit_toNat] at h'
  have hlt := a.toNat_lt
  apply UInt32.toNat_inj.1
  show a.toNat = 0
  split at h'
  · have : a.toNat / 2 = 3988292384 := by
      have h2 := congrArg (· ^^^ 3988292384) h'
      simpa [Nat.xor_assoc] using h2
    omega
  · omega
theorem crcBit_0 : crcBit 0 = 0 := by decide
theorem xor_eq_zero {a b : UInt32} : a ^^^ b = 0 ↔ a = b := UInt32.xor_eq_zero_iff
theorem crcBit_inj {a b : UInt32} (h : crcBit a = crcBit b) : a = b := by
  apply xor_eq_zero.1
  apply crcBit_zero
  rw [crcBit_xor, h, UInt32.xor_self]
theorem crcBits_xor (n : Nat) (a b : UInt32) : crcBits n (a ^^^ b) = crcBits n a ^^^ crcBits n b := by
  induction n with
  | zero => rfl
  | succ n ih => rw [crcBits, crcBits, crcBits, ih, crcBit_xor]
theorem crcBits_inj (n : Nat) {a b : UInt32} (h : crcBits n a = crcBits n b) : a = b := by
  induction n with
  | zero => exact h
  | succ n ih => exact ih (crcBit_inj h)
theorem crcByte_inj (c : UInt8) {a b : UInt32} (h : crcByte a c = crcByte b c) : a = b := by
  have := crcBits_inj 8 h
  exact (UInt32.xor_left_inj c.toUInt32).1 this
theorem crcRun_inj (l : List UInt8) {a b : UInt32} (h : crcRun a l = crcRun b l) : a = b := by
  induction l generalizing a b with
  | nil => exact h
  | cons c l ih => exact crcByte_inj c (ih h)
theorem crcRun_append (s : UInt32) (a b : List UInt8) : crcRun s (a ++ b) = crcRun (crcRun s a) b := List.foldl_append
theorem crcAdd_append (a b : List UInt8) : crcSum (a ++ b) = crcAdd (crcSum a) b := by
  unfold crcSum crcAdd
  rw [crcRun_append, UInt32.not_not]

/-- One bit is fed. -/
def feed (s : UInt32) (b : Bool) : UInt32 := crcBit (s ^^^ if b then 1 else 0)
def feeds (s : UInt32) (l : List Bool) : UInt32 := l.foldl feed s
/-- The bits of bytes, the lowest of each byte first. -/
def bitsB (l : List UInt8) : List Bool := l.flatMap fun c => (List.range 8).map fun j => c.toNat.testBit j
theorem crcBit_even (x : Nat) (h : x < 2147483648) : crcBit (UInt32.ofNat (2 * x)) = UInt32.ofNat x := by
  apply UInt32.toNat_inj.1
  rw [crcBit_toNat]
  have e : (UInt32.ofNat (2 * x)).toNat = 2 * x := by rw [UInt32.toNat_ofNat']; exact Nat.mod_eq_of_lt (by omega)
  have e2 : (UInt32.ofNat x).toNat = x := by rw [UInt32.toNat_ofNat']; exact Nat.mod_eq_of_lt (by omega)
  rw [e, e2, if_neg (by omega)]
  omega
/-- A word of bits is fed at once: as it would be bit by bit. -/
theorem feeds_word (n : Nat) (x : Nat) (hx : x < 2 ^ n) (hn : n ≤ 32) (s : UInt32) :
    feeds s ((List.range n).map fun j => x.testBit j) = crcBits n (s ^^^ UInt32.ofNat x) := by
  induction n generalizing s x with
  | zero =>
    have : x = 0 := by simpa using hx
    subst this
    simp [feeds, crcBits]
  | succ n ih =>
    rw [List.range_succ_eq_map, List.map_cons, List.map_map]
    have hrec : feeds s (x.testBit 0 :: (List.range n).map ((fun j => x.testBit j) ∘ Nat.succ)) = feeds (feed s (x.testBit 0)) ((List.range n).map fun j => (x / 2).testBit j) := by
      unfold feeds
      rw [List.foldl_cons]
      congr 1
      apply List.map_congr_left
      intro j _
      simp [Nat.testBit_succ]
    rw [hrec, ih (x / 2) (by rw [Nat.pow_succ] at hx; omega) (by omega)]
    have hcb : ∀ (m : Nat) (z : UInt32), crcBits m (crcBit z) = crcBits (m + 1) z := by
      intro m z
      induction m with
      | zero => rfl
      | succ m ihm => rw [crcBits, ihm]; rfl
    rw [← hcb]
    congr 1
    unfold feed
    have hp : 2 ^ (n + 1) ≤ 2 ^ 32 := Nat.pow_le_pow_right (by decide) hn
    have hx32 : x < 4294967296 := by omega
    have hsplit : UInt32.ofNat x = (if x.testBit 0 then 1 else 0) ^^^ UInt32.ofNat (2 * (x / 2)) := by
      apply UInt32.toNat_inj.1
      have e1 : (UInt32.ofNat x).toNat = x := by rw [UInt32.toNat_ofNat']; exact Nat.mod_eq_of_lt (by omega)
      have e2 : (UInt32.ofNat (2 * (x / 2))).toNat = 2 * (x / 2) := by rw [UInt32.toNat_ofNat']; exact Nat.mod_eq_of_lt (by omega)
      rw [UInt32.toNat_xor, e1, e2]
      by_cases h : x % 2 = 1
      · have ht : x.testBit 0 = true := by simp [Nat.testBit_zero, h]
        rw [if_pos ht]
        show x = 1 ^^^ 2 * (x / 2)
        have := Nat.two_pow_add_eq_or_of_lt (i := 1) (b := 1) (by decide) (x / 2)
        have hxor : 1 ^^^ 2 * (x / 2) = 2 * (x / 2) ||| 1 := by
          apply Nat.eq_of_testBit_eq
          intro i
          rcases i with _ | i
          · simp [Nat.testBit_zero, Nat.mul_mod_right]
          · rw [Nat.testBit_succ, Nat.testBit_succ, Nat.xor_div_two, Nat.or_div_two]; simp
        rw [hxor]
        have e3 : (2 : Nat) ^ 1 = 2 := rfl
        rw [e3] at this
        omega
      · have ht : x.testBit 0 = false := by simp [Nat.testBit_zero]; omega
        rw [ht]
        show x = 0 ^^^ 2 * (x / 2)
        rw [Nat.zero_xor]
        omega
    rw [hsplit, ← UInt32.xor_assoc, crcBit_xor (s ^^^ _) (UInt32.ofNat (2 * (x / 2))), crcBit_even (x / 2) (by omega)]
theorem crcByte_feeds (s : UInt32) (c : UInt8) : crcByte s c = feeds s ((List.range 8).map fun j => c.toNat.testBit j) := by
  rw [feeds_word 8 c.toNat c.toNat_lt (by decide)]
  have : UInt32.ofNat c.toNat = c.toUInt32 := by
    apply UInt32.toNat_inj.1
    rw [UInt32.toNat_ofNat', UInt8.toNat_toUInt32]
    have := c.toNat_lt
    exact Nat.mod_eq_of_lt (by omega)
  rw [this]
  rfl
theorem feeds_append (s : UInt32) (a b : List Bool) : feeds s (a ++ b) = feeds (feeds s a) b := List.foldl_append
theorem crcRun_feeds (s : UInt32) (l : List UInt8) : crcRun s l = feeds s (bitsB l) := by
  induction l generalizing s with
  | nil => rfl
  | cons c l ih =>
    show crcRun (crcByte s c) l = _
    rw [ih, crcByte_feeds, ← feeds_append]
    rfl
theorem feed_inj (b : Bool) {x y : UInt32} (h : feed x b = feed y b) : x = y := (UInt32.xor_left_inj _).1 (crcBit_inj h)
theorem feeds_inj (l : List Bool) {x y : UInt32} (h : feeds x l = feeds y l) : x = y := by
  induction l generalizing x y with
  | nil => exact h
  | cons b l ih => exact feed_inj b (ih h)
end Go.Proofs.Ytdmokfplkhmijaa
