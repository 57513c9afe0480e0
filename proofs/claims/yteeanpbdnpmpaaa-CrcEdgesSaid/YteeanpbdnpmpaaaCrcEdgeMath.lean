/- Counting bits: what CrcEdges counts. -/
import Derived.Test.YteeanpbdnpmpaaaCrcBendMath
namespace Go.Proofs.Yteeanpbdnpmpaaa

def cnt : Nat → (Nat → Bool) → Nat
  | 0, _ => 0
  | n + 1, f => cnt n f + (f n).toNat
theorem cnt_le (n : Nat) (f : Nat → Bool) : cnt n f ≤ n := by
  induction n with
  | zero => exact Nat.le_refl _
  | succ n ih => have := (f n).toNat_le; simp only [cnt]; omega
theorem cnt_congr {n : Nat} {f g : Nat → Bool} (h : ∀ i, i < n → f i = g i) : cnt n f = cnt n g := by
  induction n with
  | zero => rfl
  | succ n ih => simp only [cnt]; rw [ih (fun i hi => h i (by omega)), h n (by omega)]
theorem cnt_add (m n : Nat) (f : Nat → Bool) : cnt (m + n) f = cnt m f + cnt n (fun j => f (m + j)) := by
  induction n with
  | zero => rfl
  | succ n ih => rw [← Nat.add_assoc, cnt, ih, cnt, Nat.add_assoc]
theorem cnt_point {n j : Nat} (hj : j < n) {f g : Nat → Bool} (h : ∀ k, k < n → k ≠ j → g k = f k) (h0 : f j = false) : cnt n g = cnt n f + (g j).toNat := by
  induction n with
  | zero => omega
  | succ n ih =>
    by_cases hn : j = n
    · subst hn
      simp only [cnt]
      rw [cnt_congr (n := j) (fun i hi => h i (by omega) (by omega)), h0]
      simp
    · simp only [cnt]
      rw [ih (by omega) (fun k hk hne => h k (by omega) hne), h n (by omega) (by omega)]
      omega
/-- The bits of a number below 256. -/
def pop8 (z : Nat) : Nat := cnt 8 z.testBit
theorem pop8_zero : pop8 0 = 0 := by decide
theorem pop8_step (z : Nat) (hz : z < 256) : pop8 z = z % 2 + pop8 (z / 2) := by
  have h : ∀ z : Fin 256, pop8 z.1 = z.1 % 2 + pop8 (z.1 / 2) := by decide +kernel
  exact h ⟨z, hz⟩
/-- Bits in which two texts part. -/
def parts (a b : List UInt8) (k : Nat) : Nat := cnt (8 * k) (fun i => msg a i ^^ msg b i)
theorem parts_succ (a b : List UInt8) (k : Nat) (ha : k < a.length) (hb : k < b.length) : parts a b (k + 1) = parts a b k + pop8 (a[k] ^^^ b[k]).toNat := by
  unfold parts pop8
  rw [show 8 * (k + 1) = 8 * k + 8 by omega, cnt_add]
  congr 1
  apply cnt_congr
  intro j hj
  unfold msg
  rw [show (8 * k + j) / 8 = k by omega, show (8 * k + j) % 8 = j by omega, List.getD_eq_getElem?_getD, List.getD_eq_getElem?_getD, List.getElem?_eq_getElem ha, List.getElem?_eq_getElem hb, Option.getD_some, Option.getD_some, UInt8.toNat_xor, Nat.testBit_xor]
/-- The bits of a mask that lie within a text. -/
def held (at_ : Int) (M : Nat → Bool) (n : Nat) (k : Nat) : Bool := decide (0 ≤ at_ + k ∧ at_ + k < n) && M k
theorem cnt_window (at_ : Int) (M : Nat → Bool) (n : Nat) : cnt n (fun i => decide (at_ ≤ i ∧ (i : Int) - at_ < 32) && M ((i : Int) - at_).toNat) = cnt 32 (held at_ M n) := by
  induction n with
  | zero =>
    rw [cnt, cnt_congr (g := fun _ => false) (fun k hk => by unfold held; rw [decide_eq_false (by omega), Bool.false_and])]
    decide
  | succ n ih =>
    rw [cnt, ih]
    by_cases h : at_ ≤ n ∧ (n : Int) - at_ < 32
    · obtain ⟨j, hj⟩ : ∃ j : Nat, (n : Int) - at_ = j := ⟨((n : Int) - at_).toNat, by omega⟩
      rw [decide_eq_true h, Bool.true_and, hj, Int.toNat_natCast]
      rw [cnt_point (n := 32) (j := j) (f := held at_ M n) (g := held at_ M (n + 1)) (by omega)]
      · congr 2
        unfold held
        rw [decide_eq_true (by omega), Bool.true_and]
      · intro k hk hne
        unfold held
        congr 1
        exact decide_eq_decide.2 (by omega)
      · unfold held; rw [decide_eq_false (by omega), Bool.false_and]
    · rw [decide_eq_false h, Bool.false_and, Bool.toNat_false, Nat.add_zero]
      apply cnt_congr
      intro k hk
      unfold held
      congr 1
      exact decide_eq_decide.2 (by omega)
theorem parts_bend (l : List UInt8) (at_ : Int) (mask : UInt32) : parts l (bendB l at_ mask) l.length = cnt 32 (held at_ mask.toNat.testBit (8 * l.length)) := by
  unfold parts
  rw [← cnt_window]
  apply cnt_congr
  intro i hi
  rw [msg_bend l at_ mask i hi]
  simp
end Go.Proofs.Yteeanpbdnpmpaaa
