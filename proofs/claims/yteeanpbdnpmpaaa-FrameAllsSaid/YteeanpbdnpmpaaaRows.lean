/-
  No cell of these rows narrows 'for every input' (looked for: loops, veiled, ifaces, maps, wideKeys, modest, calm, conditions, laid).
  DERIVED. THE GIVEN ROWS OF THIS SEAT. 12 by the template 'for every input the law returns true; each argument reads behind the call as it read before'; 0 by the template 'total and deterministic' (their statements: YteeanpbdnpmpaaaTotals.lean).
  GIVEN WITH THE SEED: the statements are not yours to turn. If you find one false, say at which input.
  Laid BY PROGRAM, IN A SANDBOX (cutbox-rows.mjs): the forced cells as the released guide's own fill.sh prints them over the translation f513d1d37237ae7b… (all of the seat's roots in one cut). By AI agents, Wed Nov 11 2026. No macro, syntax, notation, axiom, sorry.
-/
import Derived.Test.YteeanpbdnpmpaaaChecked
import GoSem.Claim
import GoSem.ClaimJoined
import GoSem.ClaimMapViews
import Derived.JoinedTies
import Derived.KernelRfl
namespace Go.Proofs.Yteeanpbdnpmpaaa
/- THE CELL 'sum', in the pinned program and in every row, IS THE sha256 OF THE DUMP (.gsa) THAT YteeanpbdnpmpaaaProg.lean LOADS. Nothing in Lean hashes anything: it is a label: what it is worth is what the hold of that sum in a sandbox is worth. -/
noncomputable def Try.pinned : Pinned := { name := "yteeanpbdnpmpaaa", sum := "f513d1d37237ae7b7fc1c14b7d1e191df5c6581c80f8755522ea5a4cd7f13fab", checked := Try.checked }
namespace Rows
def none {H : Type} : Left H := { results := [], args := [] }

/-- 'bagatellelaw13.CrcSums': WHATEVER THE INPUT: true; the input reads as it did. -/
def crcSumsSpec : ChangeSpec := { name := "crcSums", fn := fun _ => fun
  | [d1, d2] => { results := [.lit (.bool true)], args := [d1, d2] }
  | _ => none }
def crcSumsRow : OpenClaim := { program := "yteeanpbdnpmpaaa", sum := "f513d1d37237ae7b7fc1c14b7d1e191df5c6581c80f8755522ea5a4cd7f13fab", func := "bagatelle/bagatellelaw13.CrcSums", spec := "crcSums", apart := false }
def CrcSumsSaid : Prop := crcSumsRow.holds Try.pinned (OpenSpec.ofChange crcSumsSpec)

/-- ITS FALSE NEIGHBOUR: 'it returns false'. Refute it at one input. -/
def crcSumsWrong : ChangeSpec := { name := "crcSums", fn := fun _ => fun
  | [d1, d2] => { results := [.lit (.bool false)], args := [d1, d2] }
  | _ => none }
def CrcSumsWrongFalsely : Prop := crcSumsRow.holds Try.pinned (OpenSpec.ofChange crcSumsWrong)

/-- 'bagatellelaw13.CrcApart': WHATEVER THE INPUT: true; the input reads as it did. -/
def crcApartSpec : ChangeSpec := { name := "crcApart", fn := fun _ => fun
  | [d1, d2, d3] => { results := [.lit (.bool true)], args := [d1, d2, d3] }
  | _ => none }
def crcApartRow : OpenClaim := { program := "yteeanpbdnpmpaaa", sum := "f513d1d37237ae7b7fc1c14b7d1e191df5c6581c80f8755522ea5a4cd7f13fab", func := "bagatelle/bagatellelaw13.CrcApart", spec := "crcApart", apart := false }
def CrcApartSaid : Prop := crcApartRow.holds Try.pinned (OpenSpec.ofChange crcApartSpec)

/-- ITS FALSE NEIGHBOUR: 'it returns false'. Refute it at one input. -/
def crcApartWrong : ChangeSpec := { name := "crcApart", fn := fun _ => fun
  | [d1, d2, d3] => { results := [.lit (.bool false)], args := [d1, d2, d3] }
  | _ => none }
def CrcApartWrongFalsely : Prop := crcApartRow.holds Try.pinned (OpenSpec.ofChange crcApartWrong)

/-- 'bagatellelaw14.PackFails': WHATEVER THE INPUT: true; the input reads as it did. -/
def packFailsSpec : ChangeSpec := { name := "packFails", fn := fun _ => fun
  | [d1, d2] => { results := [.lit (.bool true)], args := [d1, d2] }
  | _ => none }
def packFailsRow : OpenClaim := { program := "yteeanpbdnpmpaaa", sum := "f513d1d37237ae7b7fc1c14b7d1e191df5c6581c80f8755522ea5a4cd7f13fab", func := "bagatelle/bagatellelaw14.PackFails", spec := "packFails", apart := false }
def PackFailsSaid : Prop := packFailsRow.holds Try.pinned (OpenSpec.ofChange packFailsSpec)

/-- ITS FALSE NEIGHBOUR: 'it returns false'. Refute it at one input. -/
def packFailsWrong : ChangeSpec := { name := "packFails", fn := fun _ => fun
  | [d1, d2] => { results := [.lit (.bool false)], args := [d1, d2] }
  | _ => none }
def PackFailsWrongFalsely : Prop := packFailsRow.holds Try.pinned (OpenSpec.ofChange packFailsWrong)

/-- 'bagatellelaw14.PackCounts': WHATEVER THE INPUT: true; the input reads as it did. -/
def packCountsSpec : ChangeSpec := { name := "packCounts", fn := fun _ => fun
  | [d1, d2, d3] => { results := [.lit (.bool true)], args := [d1, d2, d3] }
  | _ => none }
def packCountsRow : OpenClaim := { program := "yteeanpbdnpmpaaa", sum := "f513d1d37237ae7b7fc1c14b7d1e191df5c6581c80f8755522ea5a4cd7f13fab", func := "bagatelle/bagatellelaw14.PackCounts", spec := "packCounts", apart := false }
def PackCountsSaid : Prop := packCountsRow.holds Try.pinned (OpenSpec.ofChange packCountsSpec)

/-- ITS FALSE NEIGHBOUR: 'it returns false'. Refute it at one input. -/
def packCountsWrong : ChangeSpec := { name := "packCounts", fn := fun _ => fun
  | [d1, d2, d3] => { results := [.lit (.bool false)], args := [d1, d2, d3] }
  | _ => none }
def PackCountsWrongFalsely : Prop := packCountsRow.holds Try.pinned (OpenSpec.ofChange packCountsWrong)

/-- 'bagatellelaw14.PackOwn': WHATEVER THE INPUT: true; the input reads as it did. -/
def packOwnSpec : ChangeSpec := { name := "packOwn", fn := fun _ => fun
  | [d1, d2, d3] => { results := [.lit (.bool true)], args := [d1, d2, d3] }
  | _ => none }
def packOwnRow : OpenClaim := { program := "yteeanpbdnpmpaaa", sum := "f513d1d37237ae7b7fc1c14b7d1e191df5c6581c80f8755522ea5a4cd7f13fab", func := "bagatelle/bagatellelaw14.PackOwn", spec := "packOwn", apart := false }
def PackOwnSaid : Prop := packOwnRow.holds Try.pinned (OpenSpec.ofChange packOwnSpec)

/-- ITS FALSE NEIGHBOUR: 'it returns false'. Refute it at one input. -/
def packOwnWrong : ChangeSpec := { name := "packOwn", fn := fun _ => fun
  | [d1, d2, d3] => { results := [.lit (.bool false)], args := [d1, d2, d3] }
  | _ => none }
def PackOwnWrongFalsely : Prop := packOwnRow.holds Try.pinned (OpenSpec.ofChange packOwnWrong)

/-- 'bagatellelaw13.CrcBends': WHATEVER THE INPUT: true; the input reads as it did. -/
def crcBendsSpec : ChangeSpec := { name := "crcBends", fn := fun _ => fun
  | [d1, d2, d3] => { results := [.lit (.bool true)], args := [d1, d2, d3] }
  | _ => none }
def crcBendsRow : OpenClaim := { program := "yteeanpbdnpmpaaa", sum := "f513d1d37237ae7b7fc1c14b7d1e191df5c6581c80f8755522ea5a4cd7f13fab", func := "bagatelle/bagatellelaw13.CrcBends", spec := "crcBends", apart := false }
def CrcBendsSaid : Prop := crcBendsRow.holds Try.pinned (OpenSpec.ofChange crcBendsSpec)

/-- ITS FALSE NEIGHBOUR: 'it returns false'. Refute it at one input. -/
def crcBendsWrong : ChangeSpec := { name := "crcBends", fn := fun _ => fun
  | [d1, d2, d3] => { results := [.lit (.bool false)], args := [d1, d2, d3] }
  | _ => none }
def CrcBendsWrongFalsely : Prop := crcBendsRow.holds Try.pinned (OpenSpec.ofChange crcBendsWrong)

/-- 'bagatellelaw13.CrcEdges': WHATEVER THE INPUT: true; the input reads as it did. -/
def crcEdgesSpec : ChangeSpec := { name := "crcEdges", fn := fun _ => fun
  | [d1, d2, d3] => { results := [.lit (.bool true)], args := [d1, d2, d3] }
  | _ => none }
def crcEdgesRow : OpenClaim := { program := "yteeanpbdnpmpaaa", sum := "f513d1d37237ae7b7fc1c14b7d1e191df5c6581c80f8755522ea5a4cd7f13fab", func := "bagatelle/bagatellelaw13.CrcEdges", spec := "crcEdges", apart := false }
def CrcEdgesSaid : Prop := crcEdgesRow.holds Try.pinned (OpenSpec.ofChange crcEdgesSpec)

/-- ITS FALSE NEIGHBOUR: 'it returns false'. Refute it at one input. -/
def crcEdgesWrong : ChangeSpec := { name := "crcEdges", fn := fun _ => fun
  | [d1, d2, d3] => { results := [.lit (.bool false)], args := [d1, d2, d3] }
  | _ => none }
def CrcEdgesWrongFalsely : Prop := crcEdgesRow.holds Try.pinned (OpenSpec.ofChange crcEdgesWrong)

/-- 'bagatellelaw16.FrameAny': WHATEVER THE INPUT: true; the input reads as it did. -/
def frameAnySpec : ChangeSpec := { name := "frameAny", fn := fun _ => fun
  | [d1, d2] => { results := [.lit (.bool true)], args := [d1, d2] }
  | _ => none }
def frameAnyRow : OpenClaim := { program := "yteeanpbdnpmpaaa", sum := "f513d1d37237ae7b7fc1c14b7d1e191df5c6581c80f8755522ea5a4cd7f13fab", func := "bagatelle/bagatellelaw16.FrameAny", spec := "frameAny", apart := false }
def FrameAnySaid : Prop := frameAnyRow.holds Try.pinned (OpenSpec.ofChange frameAnySpec)

/-- ITS FALSE NEIGHBOUR: 'it returns false'. Refute it at one input. -/
def frameAnyWrong : ChangeSpec := { name := "frameAny", fn := fun _ => fun
  | [d1, d2] => { results := [.lit (.bool false)], args := [d1, d2] }
  | _ => none }
def FrameAnyWrongFalsely : Prop := frameAnyRow.holds Try.pinned (OpenSpec.ofChange frameAnyWrong)

/-- 'bagatellelaw16.FrameBack': WHATEVER THE INPUT: true; the input reads as it did. -/
def frameBackSpec : ChangeSpec := { name := "frameBack", fn := fun _ => fun
  | [d1, d2, d3] => { results := [.lit (.bool true)], args := [d1, d2, d3] }
  | _ => none }
def frameBackRow : OpenClaim := { program := "yteeanpbdnpmpaaa", sum := "f513d1d37237ae7b7fc1c14b7d1e191df5c6581c80f8755522ea5a4cd7f13fab", func := "bagatelle/bagatellelaw16.FrameBack", spec := "frameBack", apart := false }
def FrameBackSaid : Prop := frameBackRow.holds Try.pinned (OpenSpec.ofChange frameBackSpec)

/-- ITS FALSE NEIGHBOUR: 'it returns false'. Refute it at one input. -/
def frameBackWrong : ChangeSpec := { name := "frameBack", fn := fun _ => fun
  | [d1, d2, d3] => { results := [.lit (.bool false)], args := [d1, d2, d3] }
  | _ => none }
def FrameBackWrongFalsely : Prop := frameBackRow.holds Try.pinned (OpenSpec.ofChange frameBackWrong)

/-- 'bagatellelaw16.FrameCuts': WHATEVER THE INPUT: true; the input reads as it did. -/
def frameCutsSpec : ChangeSpec := { name := "frameCuts", fn := fun _ => fun
  | [d1, d2, d3] => { results := [.lit (.bool true)], args := [d1, d2, d3] }
  | _ => none }
def frameCutsRow : OpenClaim := { program := "yteeanpbdnpmpaaa", sum := "f513d1d37237ae7b7fc1c14b7d1e191df5c6581c80f8755522ea5a4cd7f13fab", func := "bagatelle/bagatellelaw16.FrameCuts", spec := "frameCuts", apart := false }
def FrameCutsSaid : Prop := frameCutsRow.holds Try.pinned (OpenSpec.ofChange frameCutsSpec)

/-- ITS FALSE NEIGHBOUR: 'it returns false'. Refute it at one input. -/
def frameCutsWrong : ChangeSpec := { name := "frameCuts", fn := fun _ => fun
  | [d1, d2, d3] => { results := [.lit (.bool false)], args := [d1, d2, d3] }
  | _ => none }
def FrameCutsWrongFalsely : Prop := frameCutsRow.holds Try.pinned (OpenSpec.ofChange frameCutsWrong)

/-- 'bagatellelaw16.FrameAlls': WHATEVER THE INPUT: true; the input reads as it did. -/
def frameAllsSpec : ChangeSpec := { name := "frameAlls", fn := fun _ => fun
  | [d1, d2, d3] => { results := [.lit (.bool true)], args := [d1, d2, d3] }
  | _ => none }
def frameAllsRow : OpenClaim := { program := "yteeanpbdnpmpaaa", sum := "f513d1d37237ae7b7fc1c14b7d1e191df5c6581c80f8755522ea5a4cd7f13fab", func := "bagatelle/bagatellelaw16.FrameAlls", spec := "frameAlls", unfollowed := true, recurses := true, apart := false }
def FrameAllsSaid : Prop := frameAllsRow.holds Try.pinned (OpenSpec.ofChange frameAllsSpec)

/-- ITS FALSE NEIGHBOUR: 'it returns false'. Refute it at one input. -/
def frameAllsWrong : ChangeSpec := { name := "frameAlls", fn := fun _ => fun
  | [d1, d2, d3] => { results := [.lit (.bool false)], args := [d1, d2, d3] }
  | _ => none }
def FrameAllsWrongFalsely : Prop := frameAllsRow.holds Try.pinned (OpenSpec.ofChange frameAllsWrong)

/-- 'bagatellelaw16.FrameBends': WHATEVER THE INPUT: true; the input reads as it did. -/
def frameBendsSpec : ChangeSpec := { name := "frameBends", fn := fun _ => fun
  | [d1, d2, d3] => { results := [.lit (.bool true)], args := [d1, d2, d3] }
  | _ => none }
def frameBendsRow : OpenClaim := { program := "yteeanpbdnpmpaaa", sum := "f513d1d37237ae7b7fc1c14b7d1e191df5c6581c80f8755522ea5a4cd7f13fab", func := "bagatelle/bagatellelaw16.FrameBends", spec := "frameBends", unfollowed := true, recurses := true, apart := false }
def FrameBendsSaid : Prop := frameBendsRow.holds Try.pinned (OpenSpec.ofChange frameBendsSpec)

/-- ITS FALSE NEIGHBOUR: 'it returns false'. Refute it at one input. -/
def frameBendsWrong : ChangeSpec := { name := "frameBends", fn := fun _ => fun
  | [d1, d2, d3] => { results := [.lit (.bool false)], args := [d1, d2, d3] }
  | _ => none }
def FrameBendsWrongFalsely : Prop := frameBendsRow.holds Try.pinned (OpenSpec.ofChange frameBendsWrong)

/- THE SECOND FORM. 'bulk': how many values and letters a reading holds, each counted each time it is reached (what is shared counts as often as it is met; a slice's spare places count too). A statement '..UptoSaid' is the law's where the arguments, and the package variables that the reading takes, are together of bulk at most 1048576: NARROWER than '..Said'. Prove '..Said' where nothing that the law and all that it calls make is longer than what came in: it says more and counts as full. Else prove '..UptoSaid'. A law counts once. -/
mutual
def uptoBulk {H : Type} : DataW H → Nat
  | .lit (.string bytes) => bytes.length + 1
  | .lit _ => 1
  | .nil => 1
  | .ptr d => uptoBulk d + 1
  | .slice elems spare => uptoBulkAll elems + uptoBulkAll spare + 1
  | .agg parts => uptoBulkAll parts + 1
  | .iface _ d => uptoBulk d + 1
  | .map entries => uptoBulkEntries entries + 1
  | .held _ => 1
def uptoBulkAll {H : Type} : List (DataW H) → Nat
  | [] => 0
  | d :: r => uptoBulk d + uptoBulkAll r
def uptoBulkEntries {H : Type} : List (Lit × DataW H) → Nat
  | [] => 0
  | x :: r => uptoBulkEntry x + uptoBulkEntries r
def uptoBulkEntry {H : Type} : Lit × DataW H → Nat
  | (.string bytes, d) => bytes.length + uptoBulk d + 1
  | (_, d) => uptoBulk d + 1
 end
def uptoSmall : (H : Type) → List (DataW H) → Bool := fun _ ds => decide (uptoBulkAll ds ≤ 1048576)
def OpenSpec.upto (s : _root_.Go.ChangeSpec) : _root_.Go.OpenSpec := { _root_.Go.OpenSpec.ofChange s with cond := some uptoSmall }

/-- 'bagatellelaw13.CrcSums', WHERE WHAT IT READS IS OF BULK AT MOST 1048576: true; the input reads as it did. -/
def crcSumsUptoRow : OpenClaim := { program := "yteeanpbdnpmpaaa", sum := "f513d1d37237ae7b7fc1c14b7d1e191df5c6581c80f8755522ea5a4cd7f13fab", func := "bagatelle/bagatellelaw13.CrcSums", spec := "crcSums", apart := false, narrowed := true }
def CrcSumsUptoSaid : Prop := crcSumsUptoRow.holds Try.pinned (OpenSpec.upto crcSumsSpec)

/-- 'bagatellelaw13.CrcApart', WHERE WHAT IT READS IS OF BULK AT MOST 1048576: true; the input reads as it did. -/
def crcApartUptoRow : OpenClaim := { program := "yteeanpbdnpmpaaa", sum := "f513d1d37237ae7b7fc1c14b7d1e191df5c6581c80f8755522ea5a4cd7f13fab", func := "bagatelle/bagatellelaw13.CrcApart", spec := "crcApart", apart := false, narrowed := true }
def CrcApartUptoSaid : Prop := crcApartUptoRow.holds Try.pinned (OpenSpec.upto crcApartSpec)

/-- 'bagatellelaw14.PackFails', WHERE WHAT IT READS IS OF BULK AT MOST 1048576: true; the input reads as it did. -/
def packFailsUptoRow : OpenClaim := { program := "yteeanpbdnpmpaaa", sum := "f513d1d37237ae7b7fc1c14b7d1e191df5c6581c80f8755522ea5a4cd7f13fab", func := "bagatelle/bagatellelaw14.PackFails", spec := "packFails", apart := false, narrowed := true }
def PackFailsUptoSaid : Prop := packFailsUptoRow.holds Try.pinned (OpenSpec.upto packFailsSpec)

/-- 'bagatellelaw14.PackCounts', WHERE WHAT IT READS IS OF BULK AT MOST 1048576: true; the input reads as it did. -/
def packCountsUptoRow : OpenClaim := { program := "yteeanpbdnpmpaaa", sum := "f513d1d37237ae7b7fc1c14b7d1e191df5c6581c80f8755522ea5a4cd7f13fab", func := "bagatelle/bagatellelaw14.PackCounts", spec := "packCounts", apart := false, narrowed := true }
def PackCountsUptoSaid : Prop := packCountsUptoRow.holds Try.pinned (OpenSpec.upto packCountsSpec)

/-- 'bagatellelaw14.PackOwn', WHERE WHAT IT READS IS OF BULK AT MOST 1048576: true; the input reads as it did. -/
def packOwnUptoRow : OpenClaim := { program := "yteeanpbdnpmpaaa", sum := "f513d1d37237ae7b7fc1c14b7d1e191df5c6581c80f8755522ea5a4cd7f13fab", func := "bagatelle/bagatellelaw14.PackOwn", spec := "packOwn", apart := false, narrowed := true }
def PackOwnUptoSaid : Prop := packOwnUptoRow.holds Try.pinned (OpenSpec.upto packOwnSpec)

/-- 'bagatellelaw13.CrcBends', WHERE WHAT IT READS IS OF BULK AT MOST 1048576: true; the input reads as it did. -/
def crcBendsUptoRow : OpenClaim := { program := "yteeanpbdnpmpaaa", sum := "f513d1d37237ae7b7fc1c14b7d1e191df5c6581c80f8755522ea5a4cd7f13fab", func := "bagatelle/bagatellelaw13.CrcBends", spec := "crcBends", apart := false, narrowed := true }
def CrcBendsUptoSaid : Prop := crcBendsUptoRow.holds Try.pinned (OpenSpec.upto crcBendsSpec)

/-- 'bagatellelaw13.CrcEdges', WHERE WHAT IT READS IS OF BULK AT MOST 1048576: true; the input reads as it did. -/
def crcEdgesUptoRow : OpenClaim := { program := "yteeanpbdnpmpaaa", sum := "f513d1d37237ae7b7fc1c14b7d1e191df5c6581c80f8755522ea5a4cd7f13fab", func := "bagatelle/bagatellelaw13.CrcEdges", spec := "crcEdges", apart := false, narrowed := true }
def CrcEdgesUptoSaid : Prop := crcEdgesUptoRow.holds Try.pinned (OpenSpec.upto crcEdgesSpec)

/-- 'bagatellelaw16.FrameAny', WHERE WHAT IT READS IS OF BULK AT MOST 1048576: true; the input reads as it did. -/
def frameAnyUptoRow : OpenClaim := { program := "yteeanpbdnpmpaaa", sum := "f513d1d37237ae7b7fc1c14b7d1e191df5c6581c80f8755522ea5a4cd7f13fab", func := "bagatelle/bagatellelaw16.FrameAny", spec := "frameAny", apart := false, narrowed := true }
def FrameAnyUptoSaid : Prop := frameAnyUptoRow.holds Try.pinned (OpenSpec.upto frameAnySpec)

/-- 'bagatellelaw16.FrameBack', WHERE WHAT IT READS IS OF BULK AT MOST 1048576: true; the input reads as it did. -/
def frameBackUptoRow : OpenClaim := { program := "yteeanpbdnpmpaaa", sum := "f513d1d37237ae7b7fc1c14b7d1e191df5c6581c80f8755522ea5a4cd7f13fab", func := "bagatelle/bagatellelaw16.FrameBack", spec := "frameBack", apart := false, narrowed := true }
def FrameBackUptoSaid : Prop := frameBackUptoRow.holds Try.pinned (OpenSpec.upto frameBackSpec)

/-- 'bagatellelaw16.FrameCuts', WHERE WHAT IT READS IS OF BULK AT MOST 1048576: true; the input reads as it did. -/
def frameCutsUptoRow : OpenClaim := { program := "yteeanpbdnpmpaaa", sum := "f513d1d37237ae7b7fc1c14b7d1e191df5c6581c80f8755522ea5a4cd7f13fab", func := "bagatelle/bagatellelaw16.FrameCuts", spec := "frameCuts", apart := false, narrowed := true }
def FrameCutsUptoSaid : Prop := frameCutsUptoRow.holds Try.pinned (OpenSpec.upto frameCutsSpec)

/-- 'bagatellelaw16.FrameAlls', WHERE WHAT IT READS IS OF BULK AT MOST 1048576: true; the input reads as it did. -/
def frameAllsUptoRow : OpenClaim := { program := "yteeanpbdnpmpaaa", sum := "f513d1d37237ae7b7fc1c14b7d1e191df5c6581c80f8755522ea5a4cd7f13fab", func := "bagatelle/bagatellelaw16.FrameAlls", spec := "frameAlls", unfollowed := true, recurses := true, apart := false, narrowed := true }
def FrameAllsUptoSaid : Prop := frameAllsUptoRow.holds Try.pinned (OpenSpec.upto frameAllsSpec)

/-- 'bagatellelaw16.FrameBends', WHERE WHAT IT READS IS OF BULK AT MOST 1048576: true; the input reads as it did. -/
def frameBendsUptoRow : OpenClaim := { program := "yteeanpbdnpmpaaa", sum := "f513d1d37237ae7b7fc1c14b7d1e191df5c6581c80f8755522ea5a4cd7f13fab", func := "bagatelle/bagatellelaw16.FrameBends", spec := "frameBends", unfollowed := true, recurses := true, apart := false, narrowed := true }
def FrameBendsUptoSaid : Prop := frameBendsUptoRow.holds Try.pinned (OpenSpec.upto frameBendsSpec)

end Rows
end Go.Proofs.Yteeanpbdnpmpaaa
