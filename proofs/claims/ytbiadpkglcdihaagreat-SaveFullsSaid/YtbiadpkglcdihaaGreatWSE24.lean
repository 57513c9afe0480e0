/- Words and walks that SE rests on: CrcBend, DiskBend. -/
import Derived.Test.YtbiadpkglcdihaaGreatWSE1
import Derived.Deep.QuietTactic
import Derived.BigQuiet
import Derived.StillTailTactics
import Derived.Test.YtbiadpkglcdihaaGreatWSE12
/- crc.Bend: bits turned round. -/
namespace Go.Proofs.YtbiadpkglcdihaaGreat
open Go.RowKit

def bendStep (at_ : Int) (mask : UInt32) (l : List UInt8) (k : Nat) : List UInt8 :=
  if mask >>> UInt32.ofNat k &&& 1 = 1 ∧ 0 ≤ at_ + k ∧ (at_ + k) / 8 < l.length then l.set ((at_ + k) / 8).toNat (l.getD ((at_ + k) / 8).toNat 0 ^^^ ((1 : UInt8) <<< UInt8.ofNat ((at_ + k) % 8).toNat)) else l
@[simp] theorem bendStep_length (at_ : Int) (mask : UInt32) (l : List UInt8) (k : Nat) : (bendStep at_ mask l k).length = l.length := by
  unfold bendStep; split <;> simp
section
attribute [local go_sem] u32_and_1 and7 u8_xor'
end
end Go.Proofs.YtbiadpkglcdihaaGreat

/- Disk.Bend. -/
namespace Go.Proofs.YtbiadpkglcdihaaGreat
open Go.RowKit

variable {w w' : World} {fp : List Nat} {b : Nat} {fv cv : Value} {nb sb : Nat} {hs : List HF} {d : Dsk}

end Go.Proofs.YtbiadpkglcdihaaGreat
