/- Words and walks that SF rests on: AppZ, CrcSumW, CrcAlg, CrcPoly, CrcApartMath, CrcBendMath, FrameBendMath. -/
import Derived.Test.YtbiadpkglcdihaaGreatWSF1
import Derived.Test.YtbiadpkglcdihaaGreatWSF12
import Derived.Test.YtbiadpkglcdihaaGreatWSF24
import Derived.Test.YtbiadpkglcdihaaGreatWSF16
/- append(bits, make([]byte, n)...): zeros behind a row of the call's own. -/
namespace Go.Proofs.YtbiadpkglcdihaaGreat
open Go.RowKit

end Go.Proofs.YtbiadpkglcdihaaGreat

/- bagatellelaw13.sum: the division of polynomials, bit by bit: what it computes. -/
namespace Go.Proofs.YtbiadpkglcdihaaGreat
open Go.RowKit

def flip1 (b : List UInt8) (j : Nat) : List UInt8 := b.set j (b.getD j 0 ^^^ 1)
@[simp] theorem flip1_length (b : List UInt8) (j : Nat) : (flip1 b j).length = b.length := by simp [flip1]
theorem fold_range_succ {α : Type} (f : α → Nat → α) (a : α) (n : Nat) : (List.range (n + 1)).foldl f a = f ((List.range n).foldl f a) n := by rw [List.range_succ, List.foldl_append]; rfl
attribute [local go_sem] and7 u8_xor_1 u32_or' u8_u32

end Go.Proofs.YtbiadpkglcdihaaGreat

/- The checksum as linear algebra over bits: feeding bits one by one, that different words never meet, and that it is the rest of the division of polynomials. -/
namespace Go.Proofs.YtbiadpkglcdihaaGreat

theorem and1 (a : UInt32) : a &&& 1 = if a.toNat % 2 = 1 then 1 else 0 := by
  apply UInt32.toNat_inj.1
  rw [UInt32.toNat_and]
  show a.toNat &&& 1 = _
  rw [Nat.and_one_is_mod]
  split <;> rename_i h
  · rw [h]; rfl
  · have : a.toNat % 2 = 0 := by omega
    rw [this]; rfl
theorem crcBit_toNat (a : UInt32) : (crcBit a).toNat = if a.toNat % 2 = 1 then a.toNat / 2 ^^^ 3988292384 else a.toNat / 2 := by
  have h2 : (a >>> 1).toNat = a.toNat / 2 := by rw [UInt32.toNat_shiftRight]; show a.toNat >>> 1 = _; rw [Nat.shiftRight_eq_div_pow]
  unfold crcBit
  rw [and1]
  by_cases h : a.toNat % 2 = 1
  · rw [if_pos h, if_pos rfl, if_pos h, UInt32.toNat_xor, h2]; rfl
  · rw [if_neg h, if_neg (by decide), if_neg h, h2]
theorem crcBit_xor (a b : UInt32) : crcBit (a ^^^ b) = crcBit a ^^^ crcBit b := by
  apply UInt32.toNat_inj.1
  rw [UInt32.toNat_xor, crcBit_toNat, crcBit_toNat, crcBit_toNat, UInt32.toNat_xor]
  have hd : (a.toNat ^^^ b.toNat) / 2 = a.toNat / 2 ^^^ b.toNat / 2 := Nat.xor_div_two
  have hm : (a.toNat ^^^ b.toNat) % 2 = 1 ↔ ¬ ((a.toNat % 2 = 1) ↔ (b.toNat % 2 = 1)) := Nat.xor_mod_two_eq_one
  rw [hd]
  simp only [hm]
  by_cases h1 : a.toNat % 2 = 1 <;> by_cases h2 : b.toNat % 2 = 1
  · rw [if_pos h1, if_pos h2, if_neg (by simp [h1, h2])]
    rw [Nat.xor_assoc, Nat.xor_comm 3988292384, Nat.xor_assoc, Nat.xor_self, Nat.xor_zero]
  · rw [if_pos h1, if_neg h2, if_pos (by simp [h1, h2]), Nat.xor_assoc, Nat.xor_assoc, Nat.xor_comm 3988292384]
  · rw [if_neg h1, if_pos h2, if_pos (by simp [h1, h2]), Nat.xor_assoc]
  · rw [if_neg h1, if_neg h2, if_neg (by simp [h1, h2])]
theorem crcBit_zero (a : UInt32) (h : crcBit a = 0) : a = 0 := by
  have h' : (crcBit a).toNat = 0 := by rw [h]; rfl
  rw [crcBit_toNat] at h'
  have hlt := a.toNat_lt
  apply UInt32.toNat_inj.1
  show a.toNat = 0
  split at h'
  · have : a.toNat / 2 = 3988292384 := by
      have h2 := congrArg (· ^^^ 3988292384) h'
      simpa [Nat.xor_assoc] using h2
    omega
  · omega
theorem xor_eq_zero {a b : UInt32} : a ^^^ b = 0 ↔ a = b := UInt32.xor_eq_zero_iff
theorem crcBit_inj {a b : UInt32} (h : crcBit a = crcBit b) : a = b := by
  apply xor_eq_zero.1
  apply crcBit_zero
  rw [crcBit_xor, h, UInt32.xor_self]
theorem crcBits_inj (n : Nat) {a b : UInt32} (h : crcBits n a = crcBits n b) : a = b := by
  induction n with
  | zero => exact h
  | succ n ih => exact ih (crcBit_inj h)
theorem crcRun_append (s : UInt32) (a b : List UInt8) : crcRun s (a ++ b) = crcRun (crcRun s a) b := List.foldl_append
/-- One bit is fed. -/
def feed (s : UInt32) (b : Bool) : UInt32 := crcBit (s ^^^ if b then 1 else 0)
def feeds (s : UInt32) (l : List Bool) : UInt32 := l.foldl feed s
/-- The bits of bytes, the lowest of each byte first. -/
def bitsB (l : List UInt8) : List Bool := l.flatMap fun c => (List.range 8).map fun j => c.toNat.testBit j
theorem crcBit_even (x : Nat) (h : x < 2147483648) : crcBit (UInt32.ofNat (2 * x)) = UInt32.ofNat x := by
  apply UInt32.toNat_inj.1
  rw [crcBit_toNat]
  have e : (UInt32.ofNat (2 * x)).toNat = 2 * x := by rw [UInt32.toNat_ofNat']; exact Nat.mod_eq_of_lt (by omega)
  have e2 : (UInt32.ofNat x).toNat = x := by rw [UInt32.toNat_ofNat']; exact Nat.mod_eq_of_lt (by omega)
  rw [e, e2, if_neg (by omega)]
  omega
/-- A word of bits is fed at once: as it would be bit by bit. -/
theorem feeds_word (n : Nat) (x : Nat) (hx : x < 2 ^ n) (hn : n ≤ 32) (s : UInt32) :
    feeds s ((List.range n).map fun j => x.testBit j) = crcBits n (s ^^^ UInt32.ofNat x) := by
  induction n generalizing s x with
  | zero =>
    have : x = 0 := by simpa using hx
    subst this
    simp [feeds, crcBits]
  | succ n ih =>
    rw [List.range_succ_eq_map, List.map_cons, List.map_map]
    have hrec : feeds s (x.testBit 0 :: (List.range n).map ((fun j => x.testBit j) ∘ Nat.succ)) = feeds (feed s (x.testBit 0)) ((List.range n).map fun j => (x / 2).testBit j) := by
      unfold feeds
      rw [List.foldl_cons]
      congr 1
      apply List.map_congr_left
      intro j _
      simp [Nat.testBit_succ]
    rw [hrec, ih (x / 2) (by rw [Nat.pow_succ] at hx; omega) (by omega)]
    have hcb : ∀ (m : Nat) (z : UInt32), crcBits m (crcBit z) = crcBits (m + 1) z := by
      intro m z
      induction m with
      | zero => rfl
      | succ m ihm => rw [crcBits, ihm]; rfl
    rw [← hcb]
    congr 1
    unfold feed
    have hp : 2 ^ (n + 1) ≤ 2 ^ 32 := Nat.pow_le_pow_right (by decide) hn
    have hx32 : x < 4294967296 := by omega
    have hsplit : UInt32.ofNat x = (if x.testBit 0 then 1 else 0) ^^^ UInt32.ofNat (2 * (x / 2)) := by
      apply UInt32.toNat_inj.1
      have e1 : (UInt32.ofNat x).toNat = x := by rw [UInt32.toNat_ofNat']; exact Nat.mod_eq_of_lt (by omega)
      have e2 : (UInt32.ofNat (2 * (x / 2))).toNat = 2 * (x / 2) := by rw [UInt32.toNat_ofNat']; exact Nat.mod_eq_of_lt (by omega)
      rw [UInt32.toNat_xor, e1, e2]
      by_cases h : x % 2 = 1
      · have ht : x.testBit 0 = true := by simp [Nat.testBit_zero, h]
        rw [if_pos ht]
        show x = 1 ^^^ 2 * (x / 2)
        have := Nat.two_pow_add_eq_or_of_lt (i := 1) (b := 1) (by decide) (x / 2)
        have hxor : 1 ^^^ 2 * (x / 2) = 2 * (x / 2) ||| 1 := by
          apply Nat.eq_of_testBit_eq
          intro i
          rcases i with _ | i
          · simp [Nat.testBit_zero, Nat.mul_mod_right]
          · rw [Nat.testBit_succ, Nat.testBit_succ, Nat.xor_div_two, Nat.or_div_two]; simp
        rw [hxor]
        have e3 : (2 : Nat) ^ 1 = 2 := rfl
        rw [e3] at this
        omega
      · have ht : x.testBit 0 = false := by simp [Nat.testBit_zero]; omega
        rw [ht]
        show x = 0 ^^^ 2 * (x / 2)
        rw [Nat.zero_xor]
        omega
    rw [hsplit, ← UInt32.xor_assoc, crcBit_xor (s ^^^ _) (UInt32.ofNat (2 * (x / 2))), crcBit_even (x / 2) (by omega)]
theorem crcByte_feeds (s : UInt32) (c : UInt8) : crcByte s c = feeds s ((List.range 8).map fun j => c.toNat.testBit j) := by
  rw [feeds_word 8 c.toNat c.toNat_lt (by decide)]
  have : UInt32.ofNat c.toNat = c.toUInt32 := by
    apply UInt32.toNat_inj.1
    rw [UInt32.toNat_ofNat', UInt8.toNat_toUInt32]
    have := c.toNat_lt
    exact Nat.mod_eq_of_lt (by omega)
  rw [this]
  rfl
theorem feeds_append (s : UInt32) (a b : List Bool) : feeds s (a ++ b) = feeds (feeds s a) b := List.foldl_append
theorem crcRun_feeds (s : UInt32) (l : List UInt8) : crcRun s l = feeds s (bitsB l) := by
  induction l generalizing s with
  | nil => rfl
  | cons c l ih =>
    show crcRun (crcByte s c) l = _
    rw [ih, crcByte_feeds, ← feeds_append]
    rfl
theorem feed_inj (b : Bool) {x y : UInt32} (h : feed x b = feed y b) : x = y := (UInt32.xor_left_inj _).1 (crcBit_inj h)
theorem feeds_inj (l : List Bool) {x y : UInt32} (h : feeds x l = feeds y l) : x = y := by
  induction l generalizing x y with
  | nil => exact h
  | cons b l ih => exact feed_inj b (ih h)
end Go.Proofs.YtbiadpkglcdihaaGreat

/- The rest of the division of polynomials, bit by bit, is the checksum. -/
namespace Go.Proofs.YtbiadpkglcdihaaGreat

def b2 (β : Bool) : UInt8 := if β then 1 else 0
def IsBits (b : List UInt8) (N : Nat) (F : Nat → Bool) : Prop := b.length = N ∧ ∀ i, i < N → b.getD i 0 = b2 (F i)
theorem IsBits.congr {b : List UInt8} {N : Nat} {F G : Nat → Bool} (h : IsBits b N F) (e : ∀ i, i < N → F i = G i) : IsBits b N G := ⟨h.1, fun i hi => by rw [h.2 i hi, e i hi]⟩
def msg (l : List UInt8) (i : Nat) : Bool := (l.getD (i / 8) 0).toNat.testBit (i % 8)
theorem bitsB_msg (l : List UInt8) : bitsB l = (List.range (8 * l.length)).map (msg l) := by
  apply List.ext_getElem?
  intro i
  have hlen : ∀ l : List UInt8, (bitsB l).length = 8 * l.length := by
    intro l; induction l with
    | nil => rfl
    | cons c l ih => unfold bitsB at *; rw [List.flatMap_cons, List.length_append, ih]; simp; omega
  have hget : ∀ (l : List UInt8) (i : Nat), i < 8 * l.length → (bitsB l)[i]? = some (msg l i) := by
    intro l
    induction l with
    | nil => intro i hi; simp at hi
    | cons c l ih =>
      intro i hi
      have e : bitsB (c :: l) = ((List.range 8).map fun j => c.toNat.testBit j) ++ bitsB l := rfl
      rw [e, List.getElem?_append]
      simp only [List.length_map, List.length_range]
      split
      · rename_i h
        rw [List.getElem?_map, List.getElem?_range h]
        unfold msg
        rw [show i / 8 = 0 by omega, show i % 8 = i by omega]
        rfl
      · rename_i h
        rw [ih (i - 8) (by simp at hi; omega)]
        unfold msg
        obtain ⟨k, hk⟩ : ∃ k, i / 8 = k + 1 := ⟨i / 8 - 1, by omega⟩
        rw [hk, show (i - 8) / 8 = k by omega, show (i - 8) % 8 = i % 8 by omega]
        rfl
  by_cases hi : i < 8 * l.length
  · rw [hget l i hi, List.getElem?_map, List.getElem?_range hi]; rfl
  · rw [List.getElem?_eq_none (by rw [hlen]; omega), List.getElem?_eq_none (by simp; omega)]

end Go.Proofs.YtbiadpkglcdihaaGreat

/- Two texts as long as each other, that part within four bytes in a row, have the same checksum only if they are the same. -/
namespace Go.Proofs.YtbiadpkglcdihaaGreat

/-- The bytes from place k on are bent by those of xs, as far as there are some. -/
def bent (l : List UInt8) (k : Nat) : List UInt8 → List UInt8
  | [] => l
  | x :: xs => bent (if k < l.length then l.set k (l.getD k 0 ^^^ x) else l) (k + 1) xs

def xorL : List UInt8 → List UInt8 → List UInt8
  | [], _ => []
  | b, [] => b
  | b :: bs, x :: xs => (b ^^^ x) :: xorL bs xs
/-- A list of up to four bytes as one number. -/
def wordOf : List UInt8 → Nat
  | [] => 0
  | c :: l => c.toNat + 256 * wordOf l
theorem wordOf_lt (l : List UInt8) : wordOf l < 2 ^ (8 * l.length) := by
  induction l with
  | nil => simp [wordOf]
  | cons c l ih =>
    have := c.toNat_lt
    have e : 2 ^ (8 * (l.length + 1)) = 256 * 2 ^ (8 * l.length) := by rw [Nat.mul_add, Nat.pow_add, Nat.mul_comm]
    simp only [wordOf, List.length_cons, e]
    omega
theorem bitsB_word (l : List UInt8) : bitsB l = (List.range (8 * l.length)).map fun j => (wordOf l).testBit j := by
  induction l with
  | nil => rfl
  | cons c l ih =>
    have e : bitsB (c :: l) = ((List.range 8).map fun j => c.toNat.testBit j) ++ bitsB l := rfl
    have hc := c.toNat_lt
    rw [e, ih, List.length_cons, Nat.mul_add, Nat.add_comm, List.range_add, List.map_append, List.map_map]
    congr 1
    · apply List.map_congr_left
      intro j hj
      have hj8 : j < 8 := List.mem_range.1 hj
      rw [wordOf, show (256 : Nat) = 2 ^ 8 from rfl, Nat.add_comm, Nat.testBit_two_pow_mul_add _ hc, if_pos hj8]
    · apply List.map_congr_left
      intro j _
      simp only [Function.comp]
      rw [wordOf, show (256 : Nat) = 2 ^ 8 from rfl, Nat.add_comm, Nat.testBit_two_pow_mul_add _ hc, if_neg (by omega)]
      congr 1; omega
@[simp] theorem xorL_length (b xs : List UInt8) : (xorL b xs).length = b.length := by
  induction b generalizing xs with
  | nil => rfl
  | cons c b ih => cases xs with
    | nil => rfl
    | cons x xs => simp [xorL, ih]
end Go.Proofs.YtbiadpkglcdihaaGreat

/- What Bend does to the bits, and that a text of which bits within a window of 32 were turned is not a sealed one. -/
namespace Go.Proofs.YtbiadpkglcdihaaGreat

theorem one_shl (j : Nat) (hj : j < 8) : ((1 : UInt8) <<< UInt8.ofNat j).toNat = 2 ^ j := by
  have : j = 0 ∨ j = 1 ∨ j = 2 ∨ j = 3 ∨ j = 4 ∨ j = 5 ∨ j = 6 ∨ j = 7 := by omega
  rcases this with rfl | rfl | rfl | rfl | rfl | rfl | rfl | rfl <;> rfl
theorem mask_bit (mask : UInt32) (k : Nat) (hk : k < 32) : (mask >>> UInt32.ofNat k &&& 1 = 1) ↔ mask.toNat.testBit k = true := by
  have e : (mask >>> UInt32.ofNat k).toNat = mask.toNat >>> k := by
    rw [UInt32.toNat_shiftRight, UInt32.toNat_ofNat', Nat.mod_eq_of_lt (show k < 2 ^ 32 by omega), Nat.mod_eq_of_lt hk]
  rw [and1, e]
  have ht : mask.toNat.testBit k = decide (mask.toNat >>> k % 2 = 1) := by
    rw [Nat.testBit, Nat.and_comm, Nat.and_one_is_mod]
    rcases Nat.mod_two_eq_zero_or_one (mask.toNat >>> k) with h | h <;> simp [h]
  rw [ht]
  by_cases h : mask.toNat >>> k % 2 = 1
  · simp [h]
  · rw [if_neg h]; simp [h]
/-- One bit is turned, if it is there and the mask has it. -/
theorem msg_step (at_ : Int) (mask : UInt32) (l : List UInt8) (k : Nat) (hk : k < 32) (i : Nat) (hi : i < 8 * l.length) :
    msg (bendStep at_ mask l k) i = (msg l i ^^ (decide ((i : Int) = at_ + k) && mask.toNat.testBit k)) := by
  unfold bendStep
  by_cases hc : mask >>> UInt32.ofNat k &&& 1 = 1 ∧ 0 ≤ at_ + k ∧ (at_ + k) / 8 < l.length
  · obtain ⟨c1, c2, c3⟩ := hc
    rw [if_pos ⟨c1, c2, c3⟩, (mask_bit mask k hk).1 c1, Bool.and_true]
    obtain ⟨j, hj⟩ := Int.eq_ofNat_of_zero_le c2
    rw [hj] at c3 ⊢
    have e1 : ((j : Int) / 8).toNat = j / 8 := by omega
    have e2 : ((j : Int) % 8).toNat = j % 8 := by omega
    rw [e1, e2]
    unfold msg
    have hj8 : j / 8 < l.length := by omega
    by_cases hij : i / 8 = j / 8
    · rw [hij, List.getD_eq_getElem?_getD, List.getElem?_set_self hj8, Option.getD_some, UInt8.toNat_xor, Nat.testBit_xor, one_shl _ (by omega), Nat.testBit_two_pow]
      congr 1
      exact decide_eq_decide.2 (by omega)
    · rw [List.getD_eq_getElem?_getD, List.getElem?_set_ne (fun h => hij h.symm), ← List.getD_eq_getElem?_getD]
      have : decide ((i : Int) = ((j : Nat) : Int)) = false := by simp; omega
      rw [this, Bool.xor_false]
  · rw [if_neg hc]
    by_cases hm : mask.toNat.testBit k = true
    · have : decide ((i : Int) = at_ + k) = false := by
        simp only [decide_eq_false_iff_not]
        intro h
        exact hc ⟨(mask_bit mask k hk).2 hm, by omega, by omega⟩
      rw [this]; simp
    · have : mask.toNat.testBit k = false := by simpa using hm
      rw [this]; simp
theorem msg_fold (at_ : Int) (mask : UInt32) (n : Nat) (hn : n ≤ 32) (l : List UInt8) (i : Nat) (hi : i < 8 * l.length) :
    msg ((List.range n).foldl (bendStep at_ mask) l) i = (msg l i ^^ (decide (at_ ≤ i ∧ (i : Int) - at_ < n) && mask.toNat.testBit ((i : Int) - at_).toNat)) := by
  induction n with
  | zero =>
    have : decide (at_ ≤ (i : Int) ∧ (i : Int) - at_ < ((0 : Nat) : Int)) = false := by simp only [decide_eq_false_iff_not]; omega
    rw [this]; simp
  | succ n ih =>
    rw [fold_range_succ, msg_step _ _ _ _ (by omega) _ (by rw [bendFold_length]; exact hi), ih (by omega)]
    by_cases h : (i : Int) = at_ + n
    · have e1 : decide (at_ ≤ (i : Int) ∧ (i : Int) - at_ < (n : Int)) = false := by simp only [decide_eq_false_iff_not]; omega
      have e2 : decide (at_ ≤ (i : Int) ∧ (i : Int) - at_ < ((n + 1 : Nat) : Int)) = true := by simp only [decide_eq_true_eq]; omega
      have e3 : ((i : Int) - at_).toNat = n := by omega
      rw [e1, e2, e3, decide_eq_true h]; simp
    · have e1 : decide (at_ ≤ (i : Int) ∧ (i : Int) - at_ < ((n + 1 : Nat) : Int)) = decide (at_ ≤ (i : Int) ∧ (i : Int) - at_ < (n : Int)) := decide_eq_decide.2 (by omega)
      rw [e1, decide_eq_false h]; simp
theorem msg_bend (l : List UInt8) (at_ : Int) (mask : UInt32) (i : Nat) (hi : i < 8 * l.length) :
    msg (bendB l at_ mask) i = (msg l i ^^ (decide (at_ ≤ i ∧ (i : Int) - at_ < 32) && mask.toNat.testBit ((i : Int) - at_).toNat)) := msg_fold at_ mask 32 (by decide) l i hi
/-- Texts as long as each other with the same bits are the same. -/
theorem msg_ext {a b : List UInt8} (hl : a.length = b.length) (h : ∀ i, i < 8 * a.length → msg a i = msg b i) : a = b := by
  apply List.ext_getElem hl
  intro j h1 h2
  apply UInt8.toNat_inj.1
  apply Nat.eq_of_testBit_eq
  intro q
  by_cases hq : q < 8
  · have := h (8 * j + q) (by omega)
    unfold msg at this
    rw [show (8 * j + q) / 8 = j by omega, show (8 * j + q) % 8 = q by omega, List.getD_eq_getElem?_getD, List.getD_eq_getElem?_getD, List.getElem?_eq_getElem h1, List.getElem?_eq_getElem h2] at this
    exact this
  · have e : ∀ x : UInt8, x.toNat.testBit q = false := fun x => Nat.testBit_lt_two_pow (Nat.lt_of_lt_of_le x.toNat_lt (Nat.pow_le_pow_right (by decide) (by omega)))
    rw [e, e]
/-- Bits as a number. -/
def numOfBits : List Bool → Nat
  | [] => 0
  | b :: l => (if b then 1 else 0) + 2 * numOfBits l
theorem numOfBits_lt (l : List Bool) : numOfBits l < 2 ^ l.length := by
  induction l with
  | nil => simp [numOfBits]
  | cons b l ih => simp only [numOfBits, List.length_cons, Nat.pow_succ]; split <;> omega
theorem numOfBits_bits (l : List Bool) : l = (List.range l.length).map fun j => (numOfBits l).testBit j := by
  induction l with
  | nil => rfl
  | cons b l ih =>
    rw [List.length_cons, List.range_succ_eq_map, List.map_cons, List.map_map]
    have h0 : (numOfBits (b :: l)).testBit 0 = b := by
      rw [Nat.testBit_zero, numOfBits]; cases b <;> simp
    rw [h0]
    congr 1
    conv => lhs; rw [ih]
    apply List.map_congr_left
    intro j _
    simp only [Function.comp]
    rw [Nat.testBit_succ, numOfBits]
    congr 1
    split <;> omega
theorem numOfBits_inj {a b : List Bool} (hl : a.length = b.length) (h : numOfBits a = numOfBits b) : a = b := by
  rw [numOfBits_bits a, numOfBits_bits b, hl, h]
theorem feeds_win {a b : List Bool} (hl : a.length = b.length) (h32 : a.length ≤ 32) (s : UInt32) (h : feeds s a = feeds s b) : a = b := by
  have ha := numOfBits_lt a
  have hb := numOfBits_lt b
  rw [numOfBits_bits a, numOfBits_bits b, feeds_word _ _ ha h32, feeds_word _ _ hb (by omega), ← hl] at h
  have h2 := (UInt32.xor_right_inj s).1 (crcBits_inj _ h)
  have hp : 2 ^ a.length ≤ 2 ^ 32 := Nat.pow_le_pow_right (by decide) h32
  rw [← hl] at hb
  have h3 := congrArg UInt32.toNat h2
  rw [UInt32.toNat_ofNat', UInt32.toNat_ofNat', Nat.mod_eq_of_lt (by omega), Nat.mod_eq_of_lt (by omega)] at h3
  exact numOfBits_inj hl h3
/-- Texts that part within a window of 32 bits lead to different states. -/
theorem window {a b : List UInt8} (hl : a.length = b.length) (p : Nat) (hw : ∀ i, i < 8 * a.length → (i < p ∨ p + 32 ≤ i) → msg a i = msg b i) (s : UInt32) (h : crcRun s a = crcRun s b) : a = b := by
  rw [crcRun_feeds, crcRun_feeds, bitsB_msg, bitsB_msg, ← hl] at h
  generalize hA : (List.range (8 * a.length)).map (msg a) = A at h
  generalize hB : (List.range (8 * a.length)).map (msg b) = B at h
  have hAl : A.length = 8 * a.length := by rw [← hA]; simp
  have hBl : B.length = 8 * a.length := by rw [← hB]; simp
  have hAg : ∀ i, i < 8 * a.length → A[i]? = some (msg a i) := fun i hi => by rw [← hA, List.getElem?_map, List.getElem?_range hi]; rfl
  have hBg : ∀ i, i < 8 * a.length → B[i]? = some (msg b i) := fun i hi => by rw [← hB, List.getElem?_map, List.getElem?_range hi]; rfl
  have hAe : A = A.take p ++ ((A.drop p).take 32 ++ (A.drop p).drop 32) := by rw [List.take_append_drop, List.take_append_drop]
  have hBe : B = B.take p ++ ((B.drop p).take 32 ++ (B.drop p).drop 32) := by rw [List.take_append_drop, List.take_append_drop]
  have hp : A.take p = B.take p := by
    apply List.ext_getElem?
    intro i
    rw [List.getElem?_take, List.getElem?_take]
    split
    · rename_i hi
      by_cases h8 : i < 8 * a.length
      · rw [hAg i h8, hBg i h8, hw i h8 (.inl hi)]
      · rw [List.getElem?_eq_none (by omega), List.getElem?_eq_none (by omega)]
    · rfl
  have hq : (A.drop p).drop 32 = (B.drop p).drop 32 := by
    apply List.ext_getElem?
    intro i
    rw [List.drop_drop, List.drop_drop, List.getElem?_drop, List.getElem?_drop]
    by_cases h8 : p + 32 + i < 8 * a.length
    · rw [hAg _ h8, hBg _ h8, hw _ h8 (.inr (by omega))]
    · rw [List.getElem?_eq_none (by omega), List.getElem?_eq_none (by omega)]
  rw [hAe, hBe, hp, hq, feeds_append, feeds_append, feeds_append, feeds_append] at h
  have hm := feeds_win (by rw [List.length_take, List.length_take, List.length_drop, List.length_drop, hAl, hBl]) (by rw [List.length_take]; omega) _ (feeds_inj _ h)
  have hAB : A = B := by rw [hAe, hBe, hp, hq, hm]
  apply msg_ext hl
  intro i hi
  have h1 := hAg i hi
  rw [hAB, hBg i hi] at h1
  exact (Option.some.inj h1).symm
/-- All sealed texts lead to one state. -/
theorem rdB_word (l : List UInt8) : rdB l = (wordOf l : Int) := by
  induction l with
  | nil => rfl
  | cons c l ih => simp only [rdB, wordOf, ih, n8]; omega
theorem le4_word (s : UInt32) : UInt32.ofNat (wordOf (le4 s)) = s := by
  have h := rdB_word (le4 s)
  have h0 := n32_lo s
  have h1 := n32_hi s
  rw [le4, rdB_leB, Int.emod_eq_of_lt h0 (by simpa using h1)] at h
  have : wordOf (leB 4 (n32 s)) = s.toNat := by unfold n32 at h ⊢; omega
  rw [le4, this]
  simp
theorem sealed_run (x : List UInt8) : crcRun (~~~ 0) (sealB x) = crcBits 32 (~~~ 0) := by
  unfold sealB crcSum crcAdd
  rw [crcRun_append, show ~~~ (0 : UInt32) = ~~~ 0 from rfl]
  generalize crcRun (~~~ 0) x = r
  have hlen : (le4 (~~~ r)).length = 4 := by simp [le4_eq]
  have hw := wordOf_lt (le4 (~~~ r))
  rw [crcRun_feeds, bitsB_word, feeds_word _ _ hw (by omega), le4_word, hlen]
  congr 1
  apply UInt32.toBitVec_inj.1
  rw [UInt32.toBitVec_xor, UInt32.toBitVec_not, ← BitVec.xor_allOnes, ← BitVec.xor_assoc, BitVec.xor_self, BitVec.zero_xor]; rfl
/-- Two sealed texts as long as each other that part within a window of 32 bits are one. -/
theorem sealed_window {x y : List UInt8} (hl : (sealB x).length = (sealB y).length) (p : Nat) (hw : ∀ i, i < 8 * (sealB x).length → (i < p ∨ p + 32 ≤ i) → msg (sealB x) i = msg (sealB y) i) : sealB x = sealB y :=
  window hl p hw (~~~ 0) (by rw [sealed_run, sealed_run])
end Go.Proofs.YtbiadpkglcdihaaGreat

/- A record of which bits within a window of 32 were turned is none. -/
namespace Go.Proofs.YtbiadpkglcdihaaGreat
open Go.RowKit

theorem msg_take (l : List UInt8) (n i : Nat) (h : i < 8 * n) : msg (l.take n) i = msg l i := by
  unfold msg
  rw [List.getD_eq_getElem?_getD, List.getD_eq_getElem?_getD, List.getElem?_take, if_pos (by omega)]
theorem msg_drop (l : List UInt8) (n i : Nat) : msg (l.drop n) i = msg l (i + 8 * n) := by
  unfold msg
  rw [List.getD_eq_getElem?_getD, List.getD_eq_getElem?_getD, List.getElem?_drop]
  rw [show n + i / 8 = (i + 8 * n) / 8 by omega, show i % 8 = (i + 8 * n) % 8 by omega]

theorem leB4_inj {x y : Int} (h0 : 0 ≤ x) (h1 : x < 4294967296) (g0 : 0 ≤ y) (g1 : y < 4294967296) (h : leB 4 x = leB 4 y) : x = y := by
  have := congrArg rdB h
  rw [rdB_leB, rdB_leB, show (256 : Int) ^ 4 = 4294967296 by decide] at this
  omega

theorem nextB_bend (no : Int) (p r : List UInt8) (most : Int) (K : Nat) (mask : UInt32) (_h0 : 0 ≤ no) (_h1 : no ≤ 9223372036854775807) (hl : p.length < 4294967296)
    (hne : bendB (frameB no p) K mask ≠ frameB no p) : nextB (bendB (frameB no p) K mask ++ r) most = none := by
  rcases h : nextB (bendB (frameB no p) K mask ++ r) most with _ | ⟨no', p', q⟩
  · rfl
  exfalso
  apply hne
  obtain ⟨hq, hm, g0, g1, gl, ht, hle⟩ := nextB_some h
  have hF := frameB_length no p
  have hC : (bendB (frameB no p) K mask).length = p.length + 20 := by rw [bendB_length, hF]
  have hbit : ∀ i, i < 8 * (p.length + 20) → (i < K ∨ K + 32 ≤ i) → msg (bendB (frameB no p) K mask) i = msg (frameB no p) i := by
    intro i hi ho
    rw [msg_bend _ _ _ _ (by rw [hF]; exact hi)]
    have : decide ((K : Int) ≤ (i : Int) ∧ (i : Int) - K < 32) = false := by simp only [decide_eq_false_iff_not]; omega
    rw [this]; simp
  generalize bendB (frameB no p) K mask = C at *
  -- the heads
  have s1 : (sealB (leB 4 (p.length : Int) ++ leB 8 no)).length = 16 := by rw [sealB_length, List.length_append, leB_length, leB_length]
  have s2 : (sealB (leB 4 (p'.length : Int) ++ leB 8 no')).length = 16 := by rw [sealB_length, List.length_append, leB_length, leB_length]
  have tF : (frameB no p).take 16 = sealB (leB 4 p.length ++ leB 8 no) := by unfold frameB; rw [← s1]; exact List.take_left
  have dF : (frameB no p).drop 16 = sealB p := by unfold frameB; rw [← s1]; exact List.drop_left
  have tC : C.take 16 = sealB (leB 4 p'.length ++ leB 8 no') := by
    have e1 : (C ++ r).take 16 = C.take 16 := List.take_append_of_le_length (by omega)
    have e2 : ((C ++ r).take q).take 16 = (C ++ r).take 16 := by rw [List.take_take, Nat.min_eq_left (by omega)]
    rw [← e1, ← e2, ht]; unfold frameB; rw [← s2]; exact List.take_left
  have hw := sealed_window (x := leB 4 p'.length ++ leB 8 no') (y := leB 4 p.length ++ leB 8 no) (by rw [s1, s2]) K (fun i hi ho => by
    rw [s2] at hi
    rw [← tC, ← tF, msg_take _ _ _ hi, msg_take _ _ _ hi]
    exact hbit i (by omega) ho)
  have hhead := sealB_inj hw
  have h4 : leB 4 (p'.length : Int) = leB 4 (p.length : Int) := by
    have := congrArg (fun l => l.take 4) hhead
    have a := List.take_left (l₁ := leB 4 (p'.length : Int)) (l₂ := leB 8 no')
    have b := List.take_left (l₁ := leB 4 (p.length : Int)) (l₂ := leB 8 no)
    rw [leB_length] at a b
    rwa [a, b] at this
  have hpl : p'.length = p.length := by have := leB4_inj (by omega) (by omega) (by omega) (by omega) h4; omega
  have hCe : C = frameB no' p' := by
    rw [← ht, hq, hpl, ← hC]; simp
  have dC : C.drop 16 = sealB p' := by rw [hCe]; unfold frameB; rw [← s2]; exact List.drop_left
  have hw2 := sealed_window (x := p') (y := p) (by rw [sealB_length, sealB_length, hpl]) (K - 128) (fun i hi ho => by
    rw [sealB_length, hpl] at hi
    rw [← dC, ← dF, msg_drop, msg_drop]
    exact hbit _ (by omega) (by omega))
  rw [← List.take_append_drop 16 C, ← List.take_append_drop 16 (frameB no p), tC, tF, dC, dF, hw, hw2]
theorem bend_ne (F : List UInt8) (r : Nat) (M : UInt32) (hM : ∀ i, i < 32 → 8 * F.length ≤ r + i → M.toNat.testBit i = false) (h0 : M ≠ 0) : bendB F r M ≠ F := by
  intro he
  apply h0
  have hz : M.toNat = 0 := by
    apply Nat.eq_of_testBit_eq
    intro i
    rw [Nat.zero_testBit]
    by_cases hi : i < 32
    · by_cases h8 : 8 * F.length ≤ r + i
      · exact hM i hi h8
      · have h := msg_bend F r M (r + i) (by omega)
        rw [he] at h
        have h1 : decide ((r : Int) ≤ ((r + i : Nat) : Int) ∧ ((r + i : Nat) : Int) - (r : Int) < 32) = true := by rw [decide_eq_true]; omega
        have h2 : (((r + i : Nat) : Int) - (r : Int)).toNat = i := by omega
        rw [h1, h2, Bool.true_and] at h
        cases hb : M.toNat.testBit i
        · rfl
        · rw [hb] at h; cases hm : msg F (r + i) <;> rw [hm] at h <;> simp at h
    · exact Nat.testBit_lt_two_pow (Nat.lt_of_lt_of_le M.toNat_lt (Nat.pow_le_pow_right (by decide) (by omega)))
  exact UInt32.toNat_inj.1 (by rw [hz]; rfl)
end Go.Proofs.YtbiadpkglcdihaaGreat
