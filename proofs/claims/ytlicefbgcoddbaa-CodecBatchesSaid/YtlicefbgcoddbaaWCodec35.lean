/- Words and walks that Codec rests on: CodecCnt. -/
import Derived.Test.YtlicefbgcoddbaaWCodec29
/- A batch of so many pulls, told with whatever count: a plain law. -/
namespace Go.Proofs.Ytlicefbgcoddbaa
open Go.RowKit

theorem numR_app (n : Nat) (a r : List UInt8) (b : Bool) (h : a.length = n) : numR n (a ++ r, b) = (rdNum a, (r, b)) := by
  unfold numR
  rw [if_neg (by simp; omega)]
  simp only
  rw [List.take_append_of_le_length (by omega), List.drop_append_of_le_length (by omega), List.take_of_length_le (by omega), List.drop_eq_nil_of_le (by omega)]
  rfl
def pullB : List UInt8 := leB 1 6 ++ leF (fV [(5, 0)])
def pullO : Ord := ⟨6, 0, 0, 0, (0, 0), (5, 0), 0, 0, 0, 0, noS⟩
theorem pull_one (r : List UInt8) : orderR (pullB ++ r, false) = (pullO, (r, false)) := by
  have e : pullB ++ r = leB 1 6 ++ (leB 8 5 ++ (leB 8 0 ++ r)) := by simp [pullB, leF, fV]
  have h1 : numR 1 (pullB ++ r, false) = (6, (leB 8 5 ++ (leB 8 0 ++ r), false)) := by rw [e, numR_app _ _ _ _ (by simp), show rdNum (leB 1 6) = 6 by kernel_rfl]
  have h2 : numR 8 (leB 8 5 ++ (leB 8 0 ++ r), false) = (5, (leB 8 0 ++ r, false)) := by rw [numR_app _ _ _ _ (by simp), show rdNum (leB 8 5) = 5 by kernel_rfl]
  have h3 : numR 8 (leB 8 0 ++ r, false) = (0, (r, false)) := by rw [numR_app _ _ _ _ (by simp), show rdNum (leB 8 0) = 0 by kernel_rfl]
  have hp : plR (leB 8 5 ++ (leB 8 0 ++ r), false) = ((5, 0), (r, false)) := by unfold plR; rw [h2]; simp only; rw [h3]
  have h0 : orderR0 (pullB ++ r, false) = (pullO, (r, false)) := by
    unfold orderR0
    rw [h1]
    simp only [hp]
    rfl
  unfold orderR
  rw [h0, if_pos (by rfl)]
theorem pull_none (b : Bool) : (orderR ([], b)).2.2 = true := by
  cases b <;> rfl
def pulls : Nat → List UInt8
  | 0 => []
  | k + 1 => pullB ++ pulls k
theorem pulls_snoc (k : Nat) : pulls (k + 1) = pulls k ++ pullB := by
  induction k with
  | zero => simp [pulls]
  | succ k ih =>
    have e : pulls (k + 1 + 1) = pullB ++ (pulls k ++ pullB) := by rw [← ih]; rfl
    rw [e, ← List.append_assoc]
    rfl
theorem pulls_length (k : Nat) : (pulls k).length = 17 * k := by
  induction k with
  | zero => rfl
  | succ k ih => rw [pulls, List.length_append, ih, show pullB.length = 17 from rfl]; omega
theorem osR_pulls (c k : Nat) : osR c (pulls k, false) = if c ≤ k then some (List.replicate c pullO, (pulls (k - c), false)) else none := by
  induction c generalizing k with
  | zero => simp [osR]
  | succ c ih =>
    cases k with
    | zero => rw [if_neg (by omega)]; exact osR_no _ _ (pull_none false)
    | succ k =>
      have h := pull_one (pulls k)
      rw [pulls, osR_go _ _ (by rw [h]), h]
      simp only [ih]
      by_cases hc : c ≤ k
      · rw [if_pos hc, if_pos (by omega)]
        simp [List.replicate_succ]
      · rw [if_neg hc, if_neg (by omega)]
        rfl
theorem readB_pulls (c k : Nat) (hc : c < 256) (hk : 0 < k) : readB (leB 2 c ++ pulls k) = if c ≤ 64 ∧ c = k then some (List.replicate k pullO) else none := by
  have h2 : numR 2 (leB 2 c ++ pulls k, false) = ((c : Int), (pulls k, false)) := by
    rw [numR_app _ _ _ _ (by simp), rdNum, rdB_leB, show (256 : Int) ^ 2 = 65536 from rfl, IntWalk.wrap64_in _ (by omega)]
    congr 1
    omega
  unfold readB
  by_cases h : c ≤ 64
  · have hcr : countR 64 (leB 2 c ++ pulls k, false) = ((c : Int), (pulls k, false)) := by
      unfold countR; rw [h2, if_neg (by simp only; omega)]
    rw [hcr]
    simp only [Int.toNat_natCast]
    rw [osR_pulls]
    by_cases hck : c ≤ k
    · rw [if_pos hck]
      simp only [Option.bind_some]
      by_cases he : c = k
      · subst he
        rw [if_pos (by simp [pulls]), if_pos ⟨h, rfl⟩]
      · have hl : (pulls (k - c)).length = 17 * (k - c) := pulls_length _
        have e1 : (pulls (k - c)).isEmpty = false := by
          cases hp : pulls (k - c) with
          | nil => rw [hp] at hl; simp at hl; omega
          | cons x l => rfl
        simp [e1, he]
    · rw [if_neg hck, if_neg (fun hh => hck (by omega))]
      rfl
  · have hcr : countR 64 (leB 2 c ++ pulls k, false) = (0, failS) := by
      unfold countR; rw [h2, if_pos (by simp only; omega)]
    rw [hcr, if_neg (fun hh => h hh.1)]
    rfl
end Go.Proofs.Ytlicefbgcoddbaa
