/-
  No cell of these rows narrows 'for every input' (looked for: loops, veiled, ifaces, maps, wideKeys, modest, calm, conditions, laid).
  DERIVED. THE GIVEN ROWS OF THIS SEAT. 3 by the template 'for every input the law returns true; each argument reads behind the call as it read before'; 0 by the template 'total and deterministic' (their statements: YtlicefbgcoddbaaTotals.lean).
  GIVEN WITH THE SEED: the statements are not yours to turn. If you find one false, say at which input.
  Laid BY PROGRAM, IN A SANDBOX (cutbox-rows.mjs): the forced cells as the released guide's own fill.sh prints them over the translation de2c4c97ea1e2a13… (all of the seat's roots in one cut). By AI agents, Wed Nov 11 2026. No macro, syntax, notation, axiom, sorry.
-/
import Derived.Test.YtlicefbgcoddbaaChecked
import GoSem.Claim
import GoSem.ClaimJoined
import GoSem.ClaimMapViews
import Derived.JoinedTies
import Derived.KernelRfl
namespace Go.Proofs.Ytlicefbgcoddbaa
/- THE CELL 'sum', in the pinned program and in every row, IS THE sha256 OF THE DUMP (.gsa) THAT YtlicefbgcoddbaaProg.lean LOADS. Nothing in Lean hashes anything: it is a label: what it is worth is what the hold of that sum in a sandbox is worth. -/
noncomputable def Try.pinned : Pinned := { name := "ytlicefbgcoddbaa", sum := "de2c4c97ea1e2a130be24baff2ef31156095bedc51b0af5bbda79a9c3e31545e", checked := Try.checked }
namespace Rows
def none {H : Type} : Left H := { results := [], args := [] }

/-- 'bagatellelaw15.CodecAny': WHATEVER THE INPUT: true; the input reads as it did. -/
def codecAnySpec : ChangeSpec := { name := "codecAny", fn := fun _ => fun
  | [d] => { results := [.lit (.bool true)], args := [d] }
  | _ => none }
def codecAnyRow : OpenClaim := { program := "ytlicefbgcoddbaa", sum := "de2c4c97ea1e2a130be24baff2ef31156095bedc51b0af5bbda79a9c3e31545e", func := "bagatelle/bagatellelaw15.CodecAny", spec := "codecAny", unfollowed := true, recurses := true, apart := false }
def CodecAnySaid : Prop := codecAnyRow.holds Try.pinned (OpenSpec.ofChange codecAnySpec)

/-- ITS FALSE NEIGHBOUR: 'it returns false'. Refute it at one input. -/
def codecAnyWrong : ChangeSpec := { name := "codecAny", fn := fun _ => fun
  | [d] => { results := [.lit (.bool false)], args := [d] }
  | _ => none }
def CodecAnyWrongFalsely : Prop := codecAnyRow.holds Try.pinned (OpenSpec.ofChange codecAnyWrong)

/-- 'bagatellelaw15.CodecCounts': WHATEVER THE INPUT: true; the input reads as it did. -/
def codecCountsSpec : ChangeSpec := { name := "codecCounts", fn := fun _ => fun
  | [d1, d2] => { results := [.lit (.bool true)], args := [d1, d2] }
  | _ => none }
def codecCountsRow : OpenClaim := { program := "ytlicefbgcoddbaa", sum := "de2c4c97ea1e2a130be24baff2ef31156095bedc51b0af5bbda79a9c3e31545e", func := "bagatelle/bagatellelaw15.CodecCounts", spec := "codecCounts", unfollowed := true, recurses := true, apart := false }
def CodecCountsSaid : Prop := codecCountsRow.holds Try.pinned (OpenSpec.ofChange codecCountsSpec)

/-- ITS FALSE NEIGHBOUR: 'it returns false'. Refute it at one input. -/
def codecCountsWrong : ChangeSpec := { name := "codecCounts", fn := fun _ => fun
  | [d1, d2] => { results := [.lit (.bool false)], args := [d1, d2] }
  | _ => none }
def CodecCountsWrongFalsely : Prop := codecCountsRow.holds Try.pinned (OpenSpec.ofChange codecCountsWrong)

/-- 'bagatellelaw15.CodecBatches': WHATEVER THE INPUT: true; the input reads as it did. -/
def codecBatchesSpec : ChangeSpec := { name := "codecBatches", fn := fun _ => fun
  | [d] => { results := [.lit (.bool true)], args := [d] }
  | _ => none }
def codecBatchesRow : OpenClaim := { program := "ytlicefbgcoddbaa", sum := "de2c4c97ea1e2a130be24baff2ef31156095bedc51b0af5bbda79a9c3e31545e", func := "bagatelle/bagatellelaw15.CodecBatches", spec := "codecBatches", unfollowed := true, recurses := true, apart := false }
def CodecBatchesSaid : Prop := codecBatchesRow.holds Try.pinned (OpenSpec.ofChange codecBatchesSpec)

/-- ITS FALSE NEIGHBOUR: 'it returns false'. Refute it at one input. -/
def codecBatchesWrong : ChangeSpec := { name := "codecBatches", fn := fun _ => fun
  | [d] => { results := [.lit (.bool false)], args := [d] }
  | _ => none }
def CodecBatchesWrongFalsely : Prop := codecBatchesRow.holds Try.pinned (OpenSpec.ofChange codecBatchesWrong)

/- THE SECOND FORM. 'bulk': how many values and letters a reading holds, each counted each time it is reached (what is shared counts as often as it is met; a slice's spare places count too). A statement '..UptoSaid' is the law's where the arguments, and the package variables that the reading takes, are together of bulk at most 1048576: NARROWER than '..Said'. Prove '..Said' where nothing that the law and all that it calls make is longer than what came in: it says more and counts as full. Else prove '..UptoSaid'. A law counts once. -/
mutual
def uptoBulk {H : Type} : DataW H → Nat
  | .lit (.string bytes) => bytes.length + 1
  | .lit _ => 1
  | .nil => 1
  | .ptr d => uptoBulk d + 1
  | .slice elems spare => uptoBulkAll elems + uptoBulkAll spare + 1
  | .agg parts => uptoBulkAll parts + 1
  | .iface _ d => uptoBulk d + 1
  | .map entries => uptoBulkEntries entries + 1
  | .held _ => 1
def uptoBulkAll {H : Type} : List (DataW H) → Nat
  | [] => 0
  | d :: r => uptoBulk d + uptoBulkAll r
def uptoBulkEntries {H : Type} : List (Lit × DataW H) → Nat
  | [] => 0
  | x :: r => uptoBulkEntry x + uptoBulkEntries r
def uptoBulkEntry {H : Type} : Lit × DataW H → Nat
  | (.string bytes, d) => bytes.length + uptoBulk d + 1
  | (_, d) => uptoBulk d + 1
 end
def uptoSmall : (H : Type) → List (DataW H) → Bool := fun _ ds => decide (uptoBulkAll ds ≤ 1048576)
def OpenSpec.upto (s : _root_.Go.ChangeSpec) : _root_.Go.OpenSpec := { _root_.Go.OpenSpec.ofChange s with cond := some uptoSmall }

/-- 'bagatellelaw15.CodecAny', WHERE WHAT IT READS IS OF BULK AT MOST 1048576: true; the input reads as it did. -/
def codecAnyUptoRow : OpenClaim := { program := "ytlicefbgcoddbaa", sum := "de2c4c97ea1e2a130be24baff2ef31156095bedc51b0af5bbda79a9c3e31545e", func := "bagatelle/bagatellelaw15.CodecAny", spec := "codecAny", unfollowed := true, recurses := true, apart := false, narrowed := true }
def CodecAnyUptoSaid : Prop := codecAnyUptoRow.holds Try.pinned (OpenSpec.upto codecAnySpec)

/-- 'bagatellelaw15.CodecCounts', WHERE WHAT IT READS IS OF BULK AT MOST 1048576: true; the input reads as it did. -/
def codecCountsUptoRow : OpenClaim := { program := "ytlicefbgcoddbaa", sum := "de2c4c97ea1e2a130be24baff2ef31156095bedc51b0af5bbda79a9c3e31545e", func := "bagatelle/bagatellelaw15.CodecCounts", spec := "codecCounts", unfollowed := true, recurses := true, apart := false, narrowed := true }
def CodecCountsUptoSaid : Prop := codecCountsUptoRow.holds Try.pinned (OpenSpec.upto codecCountsSpec)

/-- 'bagatellelaw15.CodecBatches', WHERE WHAT IT READS IS OF BULK AT MOST 1048576: true; the input reads as it did. -/
def codecBatchesUptoRow : OpenClaim := { program := "ytlicefbgcoddbaa", sum := "de2c4c97ea1e2a130be24baff2ef31156095bedc51b0af5bbda79a9c3e31545e", func := "bagatelle/bagatellelaw15.CodecBatches", spec := "codecBatches", unfollowed := true, recurses := true, apart := false, narrowed := true }
def CodecBatchesUptoSaid : Prop := codecBatchesUptoRow.holds Try.pinned (OpenSpec.upto codecBatchesSpec)

end Rows
end Go.Proofs.Ytlicefbgcoddbaa
