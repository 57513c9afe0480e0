/- Words and walks that SF rests on: DiskArm. -/
import Derived.Test.YtbiadpkglcdihaaGreatWSF2
import Derived.Deep.Cut
/- Disk.Arm. -/
namespace Go.Proofs.YtbiadpkglcdihaaGreat
open Go.RowKit

variable {w : World} {fp : List Nat} {b : Nat} {fv cv : Value} {nb sb : Nat} {hs : List HF} {d : Dsk}

end Go.Proofs.YtbiadpkglcdihaaGreat
