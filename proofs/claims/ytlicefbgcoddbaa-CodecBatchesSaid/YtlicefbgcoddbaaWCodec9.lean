/- Words and walks that Codec rests on: OrderU2. -/
import Derived.Test.YtlicefbgcoddbaaWCodec7
/- order.used, case 2. -/
namespace Go.Proofs.Ytlicefbgcoddbaa
open Go.RowKit

set_option maxRecDepth 100000 in
set_option maxHeartbeats 8000000 in
theorem used2_any (w : World) (i a b px py vx vy an sp de ln sk sr : Int) (ao : Option Addr) (n c : Nat) : Calls Try.prog 26 #[.agg #[.int .i64 2, .int .i64 i, .int .i64 a, .int .i64 b, .int .i64 px, .int .i64 py, .int .i64 vx, .int .i64 vy, .int .i64 an, .int .i64 sp, .int .i64 de, .int .i64 ln, .int .i64 sk, .int .i64 sr, .slice ao n c]] w fun e w' => e = .returned (.agg #[.int .i64 2, .int .i64 i, .int .i64 0, .int .i64 0, .int .i64 0, .int .i64 0, .int .i64 0, .int .i64 0, .int .i64 0, .int .i64 0, .int .i64 0, .int .i64 0, .int .i64 0, .int .i64 0, .slice none 0 0]) ∧ Chg [] w w' := by
  go_enter Try.func26, Try.ntmps26
  go_wp2
  refine bodyPost_ret (v := .agg #[.int .i64 2, .int .i64 i, .int .i64 0, .int .i64 0, .int .i64 0, .int .i64 0, .int .i64 0, .int .i64 0, .int .i64 0, .int .i64 0, .int .i64 0, .int .i64 0, .int .i64 0, .int .i64 0, .slice none 0 0]) (by simp only [results]; go_simp) rfl ⟨rfl, ?_⟩
  exact (((Chg.refl [] w).alloc _).alloc _).alloc _
end Go.Proofs.Ytlicefbgcoddbaa
