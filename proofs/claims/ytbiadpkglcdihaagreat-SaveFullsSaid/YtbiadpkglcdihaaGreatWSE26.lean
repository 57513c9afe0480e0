/- Words and walks that SE rests on: AppZ, CrcSumW, CrcAlg, CrcPoly, CrcApartMath, CrcBendMath, FrameBendMath. -/
import Derived.Test.YtbiadpkglcdihaaGreatWSE1
import Derived.Test.YtbiadpkglcdihaaGreatWSE12
import Derived.Test.YtbiadpkglcdihaaGreatWSE24
import Derived.Test.YtbiadpkglcdihaaGreatWSE16
/- append(bits, make([]byte, n)...): zeros behind a row of the call's own. -/
namespace Go.Proofs.YtbiadpkglcdihaaGreat
open Go.RowKit

end Go.Proofs.YtbiadpkglcdihaaGreat

/- bagatellelaw13.sum: the division of polynomials, bit by bit: what it computes. -/
namespace Go.Proofs.YtbiadpkglcdihaaGreat
open Go.RowKit

def flip1 (b : List UInt8) (j : Nat) : List UInt8 := b.set j (b.getD j 0 ^^^ 1)
@[simp] theorem flip1_length (b : List UInt8) (j : Nat) : (flip1 b j).length = b.length := by simp [flip1]
attribute [local go_sem] and7 u8_xor_1 u32_or' u8_u32

end Go.Proofs.YtbiadpkglcdihaaGreat

/- The checksum as linear algebra over bits: feeding bits one by one, that different words never meet, and that it is the rest of the division of polynomials. -/
namespace Go.Proofs.YtbiadpkglcdihaaGreat

end Go.Proofs.YtbiadpkglcdihaaGreat

/- The rest of the division of polynomials, bit by bit, is the checksum. -/
namespace Go.Proofs.YtbiadpkglcdihaaGreat

def b2 (β : Bool) : UInt8 := if β then 1 else 0
def IsBits (b : List UInt8) (N : Nat) (F : Nat → Bool) : Prop := b.length = N ∧ ∀ i, i < N → b.getD i 0 = b2 (F i)
theorem IsBits.congr {b : List UInt8} {N : Nat} {F G : Nat → Bool} (h : IsBits b N F) (e : ∀ i, i < N → F i = G i) : IsBits b N G := ⟨h.1, fun i hi => by rw [h.2 i hi, e i hi]⟩
end Go.Proofs.YtbiadpkglcdihaaGreat

/- Two texts as long as each other, that part within four bytes in a row, have the same checksum only if they are the same. -/
namespace Go.Proofs.YtbiadpkglcdihaaGreat

def xorL : List UInt8 → List UInt8 → List UInt8
  | [], _ => []
  | b, [] => b
  | b :: bs, x :: xs => (b ^^^ x) :: xorL bs xs
@[simp] theorem xorL_length (b xs : List UInt8) : (xorL b xs).length = b.length := by
  induction b generalizing xs with
  | nil => rfl
  | cons c b ih => cases xs with
    | nil => rfl
    | cons x xs => simp [xorL, ih]
end Go.Proofs.YtbiadpkglcdihaaGreat

/- What Bend does to the bits, and that a text of which bits within a window of 32 were turned is not a sealed one. -/
namespace Go.Proofs.YtbiadpkglcdihaaGreat

end Go.Proofs.YtbiadpkglcdihaaGreat

/- A record of which bits within a window of 32 were turned is none. -/
namespace Go.Proofs.YtbiadpkglcdihaaGreat
open Go.RowKit

end Go.Proofs.YtbiadpkglcdihaaGreat
