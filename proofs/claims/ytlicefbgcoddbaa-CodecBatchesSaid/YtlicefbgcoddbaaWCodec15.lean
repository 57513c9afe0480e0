/- Words and walks that Codec rests on: OrderU. -/
import Derived.Test.YtlicefbgcoddbaaWCodec8
import Derived.Test.YtlicefbgcoddbaaWCodec9
import Derived.Test.YtlicefbgcoddbaaWCodec10
import Derived.Test.YtlicefbgcoddbaaWCodec11
import Derived.Test.YtlicefbgcoddbaaWCodec12
import Derived.Test.YtlicefbgcoddbaaWCodec13
import Derived.Test.YtlicefbgcoddbaaWCodec14
/- order.used. -/
namespace Go.Proofs.Ytlicefbgcoddbaa
open Go.RowKit

set_option maxRecDepth 100000 in
set_option maxHeartbeats 8000000 in
theorem Used_any (w : World) (o : Ord) (pv : Value) (hpv : IsSl pv) : Calls Try.prog 26 #[vO o pv] w fun e w' => e = .returned (vO (usedO o) (usedP o pv)) ∧ Chg [] w w' := by
  obtain ⟨k, i, a, b, ⟨px, py⟩, ⟨vx, vy⟩, an, sp, de, ln, ⟨sk, sr, p⟩⟩ := o
  obtain ⟨ao, n, c, rfl⟩ := hpv
  unfold vO usedO usedP
  simp only
  by_cases h1 : k = 1
  · subst h1
    simp only [if_pos]
    exact used1_any w i a b px py vx vy an sp de ln sk sr ao n c
  · have q1 : (k == 1) = false := by rw [beq_eq_false_iff_ne]; exact h1
    rw [if_neg h1, if_neg h1]
    by_cases h2 : k = 2
    · subst h2
      rw [if_pos (.inl rfl)]
      unfold noS
      simp only
      exact used2_any w i a b px py vx vy an sp de ln sk sr ao n c
    · have q2 : (k == 2) = false := by rw [beq_eq_false_iff_ne]; exact h2
      by_cases h4 : k = 4
      · subst h4
        rw [if_pos (.inr rfl)]
        unfold noS
        simp only
        exact used4_any w i a b px py vx vy an sp de ln sk sr ao n c
      · have q4 : (k == 4) = false := by rw [beq_eq_false_iff_ne]; exact h4
        rw [if_neg (by omega)]
        by_cases h3 : k = 3
        · subst h3
          rw [if_pos rfl]
          unfold noS
          simp only
          exact used3_any w i a b px py vx vy an sp de ln sk sr ao n c
        · have q3 : (k == 3) = false := by rw [beq_eq_false_iff_ne]; exact h3
          rw [if_neg h3]
          by_cases h5 : k = 5
          · subst h5
            rw [if_pos rfl]
            unfold noS
            simp only
            exact used5_any w i a b px py vx vy an sp de ln sk sr ao n c
          · have q5 : (k == 5) = false := by rw [beq_eq_false_iff_ne]; exact h5
            rw [if_neg h5]
            by_cases h6 : k = 6
            · subst h6
              rw [if_pos rfl]
              unfold noS
              simp only
              exact used6_any w i a b px py vx vy an sp de ln sk sr ao n c
            · have q6 : (k == 6) = false := by rw [beq_eq_false_iff_ne]; exact h6
              rw [if_neg h6]
              unfold noS
              simp only
              exact used7_any w k i a b px py vx vy an sp de ln sk sr ao n c q1 q2 q3 q4 q5 q6
end Go.Proofs.Ytlicefbgcoddbaa
