/- Two texts as long as each other, that part within four bytes in a row, have the same checksum only if they are the same. -/
import Derived.Test.YtdmokfplkhmijaaCrcAlg
namespace Go.Proofs.Ytdmokfplkhmijaa

/-- The bytes from place k on are bent by those of xs, as far as there are some. -/
def bent (l : List UInt8) (k : Nat) : List UInt8 → List UInt8
  | [] => l
  | x :: xs => bent (if k < l.length then l.set k (l.getD k 0 ^^^ x) else l) (k + 1) xs

def xorL : List UInt8 → List UInt8 → List UInt8
  | [], _ => []
  | b, [] => b
  | b :: bs, x :: xs => (b ^^^ x) :: xorL bs xs
theorem xorL_nil (b : List UInt8) : xorL b [] = b := by cases b <;> rfl
theorem bent_eq (xs : List UInt8) (l : List UInt8) (k : Nat) (hk : k ≤ l.length) : bent l k xs = l.take k ++ xorL (l.drop k) xs := by
  induction xs generalizing l k with
  | nil => rw [bent, xorL_nil, List.take_append_drop]
  | cons x xs ih =>
    rw [bent]
    by_cases h : k < l.length
    · rw [if_pos h, ih _ _ (by rw [List.length_set]; omega)]
      have hd : l.drop k = l[k] :: l.drop (k + 1) := List.drop_eq_getElem_cons h
      rw [hd, xorL, List.drop_set_of_lt (by omega), List.getD_eq_getElem?_getD, List.getElem?_eq_getElem h, Option.getD_some]
      have ht : (l.set k (l[k] ^^^ x)).take (k + 1) = l.take k ++ [l[k] ^^^ x] := by
        rw [List.take_succ_eq_append_getElem (by rw [List.length_set]; exact h)]
        rw [List.getElem_set_self, List.take_set_of_le (Nat.le_refl k)]
      rw [ht]
      simp
    · have hk' : k = l.length := by omega
      rw [if_neg h]
      have : ∀ (xs : List UInt8) (j : Nat), l.length ≤ j → bent l j xs = l := by
        intro xs
        induction xs with
        | nil => intro j _; rfl
        | cons y ys ihy => intro j hj; rw [bent, if_neg (by omega)]; exact ihy (j + 1) (by omega)
      rw [this xs (k + 1) (by omega), List.drop_eq_nil_of_le (by omega), xorL, List.append_nil, List.take_of_length_le (by omega)]

/-- A list of up to four bytes as one number. -/
def wordOf : List UInt8 → Nat
  | [] => 0
  | c :: l => c.toNat + 256 * wordOf l
theorem wordOf_lt (l : List UInt8) : wordOf l < 2 ^ (8 * l.length) := by
  induction l with
  | nil => simp [wordOf]
  | cons c l ih =>
    have := c.toNat_lt
    have e : 2 ^ (8 * (l.length + 1)) = 256 * 2 ^ (8 * l.length) := by rw [Nat.mul_add, Nat.pow_add, Nat.mul_comm]
    simp only [wordOf, List.length_cons, e]
    omega
theorem bitsB_word (l : List UInt8) : bitsB l = (List.range (8 * l.length)).map fun j => (wordOf l).testBit j := by
  induction l with
  | nil => rfl
  | cons c l ih =>
    have e : bitsB (c :: l) = ((List.range 8).map fun j => c.toNat.testBit j) ++ bitsB l := rfl
    have hc := c.toNat_lt
    rw [e, ih, List.length_cons, Nat.mul_add, Nat.add_comm, List.range_add, List.map_append, List.map_map]
    congr 1
    · apply List.map_congr_left
      intro j hj
      have hj8 : j < 8 := List.mem_range.1 hj
      rw [wordOf, show (256 : Nat) = 2 ^ 8 from rfl, Nat.add_comm, Nat.testBit_two_pow_mul_add _ hc, if_pos hj8]
    · apply List.map_congr_left
      intro j _
      simp only [Function.comp]
      rw [wordOf, show (256 : Nat) = 2 ^ 8 from rfl, Nat.add_comm, Nat.testBit_two_pow_mul_add _ hc, if_neg (by omega)]
      congr 1; omega
theorem wordOf_inj {a b : List UInt8} (hl : a.length = b.length) (h : wordOf a = wordOf b) : a = b := by
  induction a generalizing b with
  | nil => cases b with
    | nil => rfl
    | cons => simp at hl
  | cons c a ih => cases b with
    | nil => simp at hl
    | cons d b =>
      have hc := c.toNat_lt
      have hd := d.toNat_lt
      simp only [wordOf] at h
      have h1 : c.toNat = d.toNat := by omega
      have h2 : wordOf a = wordOf b := by omega
      rw [UInt8.toNat_inj.1 h1, ih (by simpa using hl) h2]
/-- Up to four bytes: another text from the same state leads to another state. -/
theorem crcRun_word {a b : List UInt8} (hl : a.length = b.length) (h4 : a.length ≤ 4) (s : UInt32) (h : crcRun s a = crcRun s b) : a = b := by
  rw [crcRun_feeds, crcRun_feeds, bitsB_word, bitsB_word, ← hl] at h
  have ha := wordOf_lt a
  have hb := wordOf_lt b
  rw [← hl] at hb
  rw [feeds_word _ _ ha (by omega), feeds_word _ _ hb (by omega)] at h
  have h2 := (UInt32.xor_right_inj s).1 (crcBits_inj _ h)
  have hp : 2 ^ (8 * a.length) ≤ 2 ^ 32 := Nat.pow_le_pow_right (by decide) (by omega)
  have h3 := congrArg UInt32.toNat h2
  rw [UInt32.toNat_ofNat', UInt32.toNat_ofNat', Nat.mod_eq_of_lt (by omega), Nat.mod_eq_of_lt (by omega)] at h3
  exact wordOf_inj hl h3
theorem crcSum_inj_run {a b : List UInt8} : crcSum a = crcSum b ↔ crcRun (~~~ 0) a = crcRun (~~~ 0) b := by
  unfold crcSum crcAdd
  constructor
  · intro h
    have := congrArg (fun x => ~~~ x) h
    simpa using this
  · intro h; rw [h]
@[simp] theorem xorL_length (b xs : List UInt8) : (xorL b xs).length = b.length := by
  induction b generalizing xs with
  | nil => rfl
  | cons c b ih => cases xs with
    | nil => rfl
    | cons x xs => simp [xorL, ih]
theorem xorL_split (b xs : List UInt8) (h : xs.length ≤ b.length) : xorL b xs = xorL (b.take xs.length) xs ++ b.drop xs.length := by
  induction xs generalizing b with
  | nil => simp [xorL_nil]
  | cons x xs ih => cases b with
    | nil => simp at h
    | cons c b => simp [xorL, ih b (by simpa using h)]
/-- Sums part where the texts do. -/
theorem apart4 (p a b q : List UInt8) (hl : a.length = b.length) (h4 : a.length ≤ 4) : crcSum (p ++ a ++ q) = crcSum (p ++ b ++ q) ↔ p ++ a ++ q = p ++ b ++ q := by
  constructor
  · intro h
    rw [crcSum_inj_run, crcRun_append, crcRun_append, crcRun_append, crcRun_append] at h
    have := crcRun_word hl h4 _ (crcRun_inj q h)
    rw [this]
  · intro h; rw [h]
theorem bent_apart (l : List UInt8) (k : Nat) (hk : k ≤ l.length) (xs : List UInt8) (hx : xs.length = 4) : crcSum l = crcSum (bent l k xs) ↔ l = bent l k xs := by
  rw [bent_eq xs l k hk]
  have h1 : l = l.take k ++ l.drop k := (List.take_append_drop k l).symm
  by_cases h : xs.length ≤ (l.drop k).length
  · rw [xorL_split _ _ h]
    have h2 : l.drop k = (l.drop k).take xs.length ++ (l.drop k).drop xs.length := (List.take_append_drop _ _).symm
    have h3 : l = l.take k ++ (l.drop k).take xs.length ++ (l.drop k).drop xs.length := by rw [List.append_assoc, ← h2, ← h1]
    have := apart4 (l.take k) ((l.drop k).take xs.length) (xorL ((l.drop k).take xs.length) xs) ((l.drop k).drop xs.length) (by simp) (by rw [List.length_take]; omega)
    rw [← h3, List.append_assoc] at this
    exact this
  · have := apart4 (l.take k) (l.drop k) (xorL (l.drop k) xs) [] (by simp) (by omega)
    simp only [List.append_nil] at this
    rw [← h1] at this
    exact this
end Go.Proofs.Ytdmokfplkhmijaa
