/- Words and walks that SF rests on: Digits. -/
import Derived.Test.YtbiadpkglcdihaaGreatWSF1
import Derived.Test.YtbiadpkglcdihaaGreatWSF2
import Derived.Deep.Cut
/- names.digits. -/
namespace Go.Proofs.YtbiadpkglcdihaaGreat
open Go.RowKit

def hexB (k : Nat) : UInt8 := UInt8.ofNat (if k < 10 then 48 + k else 87 + k)
def digV : Array Value := #[.int .u8 48, .int .u8 49, .int .u8 50, .int .u8 51, .int .u8 52, .int .u8 53, .int .u8 54, .int .u8 55, .int .u8 56, .int .u8 57, .int .u8 97, .int .u8 98, .int .u8 99, .int .u8 100, .int .u8 101, .int .u8 102]
set_option maxHeartbeats 400000 in
theorem digits_any (w : World) : Calls Tryz.prog 70 #[] w fun e w' => e = .returned (.agg digV) ∧ Chg [] w w' := by
  go_enter Tryz.func70, Tryz.ntmps70
  go_wp2_with fail
  refine bodyPost_ret (v := .agg digV) ?_ rfl ⟨rfl, (Chg.refl _ _).alloc _⟩
  simp only [results]
  go_simp
  rfl
end Go.Proofs.YtbiadpkglcdihaaGreat
