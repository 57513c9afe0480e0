/-
  No cell of these rows narrows 'for every input' (looked for: loops, veiled, ifaces, maps, wideKeys, modest, calm, conditions, laid).
  DERIVED. THE GIVEN ROWS OF THIS SEAT. 4 by the template 'for every input the law returns true; each argument reads behind the call as it read before'; 0 by the template 'total and deterministic' (their statements: YtnlkeacchogmeaaTotals.lean).
  GIVEN WITH THE SEED: the statements are not yours to turn. If you find one false, say at which input.
  Laid BY PROGRAM, IN A SANDBOX (cutbox-rows.mjs): the forced cells as the released guide's own fill.sh prints them over the translation 138fcb730c2727b3… (all of the seat's roots in one cut). By AI agents, Wed Nov 11 2026. No macro, syntax, notation, axiom, sorry.
-/
import Derived.Test.YtnlkeacchogmeaaChecked
import GoSem.Claim
import GoSem.ClaimJoined
import GoSem.ClaimMapViews
import Derived.JoinedTies
import Derived.KernelRfl
namespace Go.Proofs.Ytnlkeacchogmeaa
/- THE CELL 'sum', in the pinned program and in every row, IS THE sha256 OF THE DUMP (.gsa) THAT YtnlkeacchogmeaaProg.lean LOADS. Nothing in Lean hashes anything: it is a label: what it is worth is what the hold of that sum in a sandbox is worth. -/
noncomputable def Try.pinned : Pinned := { name := "ytnlkeacchogmeaa", sum := "138fcb730c2727b37635eec5ca820ae5bb207bc62d082d87f9e1eb6e882dba6b", checked := Try.checked }
namespace Rows
def none {H : Type} : Left H := { results := [], args := [] }

/-- 'bagatellelaw08.SweepRows': WHATEVER THE INPUT: true; the input reads as it did. -/
def sweepRowsSpec : ChangeSpec := { name := "sweepRows", fn := fun _ => fun
  | [d1, d2, d3] => { results := [.lit (.bool true)], args := [d1, d2, d3] }
  | _ => none }
def sweepRowsRow : OpenClaim := { program := "ytnlkeacchogmeaa", sum := "138fcb730c2727b37635eec5ca820ae5bb207bc62d082d87f9e1eb6e882dba6b", func := "bagatelle/bagatellelaw08.SweepRows", spec := "sweepRows", unfollowed := true, recurses := true, plainKeys := false, apart := false }
def SweepRowsSaid : Prop := sweepRowsRow.holds Try.pinned (OpenSpec.ofChange sweepRowsSpec)

/-- ITS FALSE NEIGHBOUR: 'it returns false'. Refute it at one input. -/
def sweepRowsWrong : ChangeSpec := { name := "sweepRows", fn := fun _ => fun
  | [d1, d2, d3] => { results := [.lit (.bool false)], args := [d1, d2, d3] }
  | _ => none }
def SweepRowsWrongFalsely : Prop := sweepRowsRow.holds Try.pinned (OpenSpec.ofChange sweepRowsWrong)

/-- 'bagatellelaw08.SweepPairs': WHATEVER THE INPUT: true; the input reads as it did. -/
def sweepPairsSpec : ChangeSpec := { name := "sweepPairs", fn := fun _ => fun
  | [d] => { results := [.lit (.bool true)], args := [d] }
  | _ => none }
def sweepPairsRow : OpenClaim := { program := "ytnlkeacchogmeaa", sum := "138fcb730c2727b37635eec5ca820ae5bb207bc62d082d87f9e1eb6e882dba6b", func := "bagatelle/bagatellelaw08.SweepPairs", spec := "sweepPairs", unfollowed := true, recurses := true, plainKeys := false, apart := false }
def SweepPairsSaid : Prop := sweepPairsRow.holds Try.pinned (OpenSpec.ofChange sweepPairsSpec)

/-- ITS FALSE NEIGHBOUR: 'it returns false'. Refute it at one input. -/
def sweepPairsWrong : ChangeSpec := { name := "sweepPairs", fn := fun _ => fun
  | [d] => { results := [.lit (.bool false)], args := [d] }
  | _ => none }
def SweepPairsWrongFalsely : Prop := sweepPairsRow.holds Try.pinned (OpenSpec.ofChange sweepPairsWrong)

/-- 'bagatellelaw08.SweepOrders': WHATEVER THE INPUT: true; the input reads as it did. -/
def sweepOrdersSpec : ChangeSpec := { name := "sweepOrders", fn := fun _ => fun
  | [d1, d2] => { results := [.lit (.bool true)], args := [d1, d2] }
  | _ => none }
def sweepOrdersRow : OpenClaim := { program := "ytnlkeacchogmeaa", sum := "138fcb730c2727b37635eec5ca820ae5bb207bc62d082d87f9e1eb6e882dba6b", func := "bagatelle/bagatellelaw08.SweepOrders", spec := "sweepOrders", unfollowed := true, recurses := true, plainKeys := false, apart := false }
def SweepOrdersSaid : Prop := sweepOrdersRow.holds Try.pinned (OpenSpec.ofChange sweepOrdersSpec)

/-- ITS FALSE NEIGHBOUR: 'it returns false'. Refute it at one input. -/
def sweepOrdersWrong : ChangeSpec := { name := "sweepOrders", fn := fun _ => fun
  | [d1, d2] => { results := [.lit (.bool false)], args := [d1, d2] }
  | _ => none }
def SweepOrdersWrongFalsely : Prop := sweepOrdersRow.holds Try.pinned (OpenSpec.ofChange sweepOrdersWrong)

/-- 'bagatellelaw08.SweepMore': WHATEVER THE INPUT: true; the input reads as it did. -/
def sweepMoreSpec : ChangeSpec := { name := "sweepMore", fn := fun _ => fun
  | [d1, d2] => { results := [.lit (.bool true)], args := [d1, d2] }
  | _ => none }
def sweepMoreRow : OpenClaim := { program := "ytnlkeacchogmeaa", sum := "138fcb730c2727b37635eec5ca820ae5bb207bc62d082d87f9e1eb6e882dba6b", func := "bagatelle/bagatellelaw08.SweepMore", spec := "sweepMore", unfollowed := true, recurses := true, plainKeys := false, apart := false }
def SweepMoreSaid : Prop := sweepMoreRow.holds Try.pinned (OpenSpec.ofChange sweepMoreSpec)

/-- ITS FALSE NEIGHBOUR: 'it returns false'. Refute it at one input. -/
def sweepMoreWrong : ChangeSpec := { name := "sweepMore", fn := fun _ => fun
  | [d1, d2] => { results := [.lit (.bool false)], args := [d1, d2] }
  | _ => none }
def SweepMoreWrongFalsely : Prop := sweepMoreRow.holds Try.pinned (OpenSpec.ofChange sweepMoreWrong)

/- THE SECOND FORM. 'bulk': how many values and letters a reading holds, each counted each time it is reached (what is shared counts as often as it is met; a slice's spare places count too). A statement '..UptoSaid' is the law's where the arguments, and the package variables that the reading takes, are together of bulk at most 1048576: NARROWER than '..Said'. Prove '..Said' where nothing that the law and all that it calls make is longer than what came in: it says more and counts as full. Else prove '..UptoSaid'. A law counts once. -/
mutual
def uptoBulk {H : Type} : DataW H → Nat
  | .lit (.string bytes) => bytes.length + 1
  | .lit _ => 1
  | .nil => 1
  | .ptr d => uptoBulk d + 1
  | .slice elems spare => uptoBulkAll elems + uptoBulkAll spare + 1
  | .agg parts => uptoBulkAll parts + 1
  | .iface _ d => uptoBulk d + 1
  | .map entries => uptoBulkEntries entries + 1
  | .held _ => 1
def uptoBulkAll {H : Type} : List (DataW H) → Nat
  | [] => 0
  | d :: r => uptoBulk d + uptoBulkAll r
def uptoBulkEntries {H : Type} : List (Lit × DataW H) → Nat
  | [] => 0
  | x :: r => uptoBulkEntry x + uptoBulkEntries r
def uptoBulkEntry {H : Type} : Lit × DataW H → Nat
  | (.string bytes, d) => bytes.length + uptoBulk d + 1
  | (_, d) => uptoBulk d + 1
 end
def uptoSmall : (H : Type) → List (DataW H) → Bool := fun _ ds => decide (uptoBulkAll ds ≤ 1048576)
def OpenSpec.upto (s : _root_.Go.ChangeSpec) : _root_.Go.OpenSpec := { _root_.Go.OpenSpec.ofChange s with cond := some uptoSmall }

/-- 'bagatellelaw08.SweepRows', WHERE WHAT IT READS IS OF BULK AT MOST 1048576: true; the input reads as it did. -/
def sweepRowsUptoRow : OpenClaim := { program := "ytnlkeacchogmeaa", sum := "138fcb730c2727b37635eec5ca820ae5bb207bc62d082d87f9e1eb6e882dba6b", func := "bagatelle/bagatellelaw08.SweepRows", spec := "sweepRows", unfollowed := true, recurses := true, plainKeys := false, apart := false, narrowed := true }
def SweepRowsUptoSaid : Prop := sweepRowsUptoRow.holds Try.pinned (OpenSpec.upto sweepRowsSpec)

/-- 'bagatellelaw08.SweepPairs', WHERE WHAT IT READS IS OF BULK AT MOST 1048576: true; the input reads as it did. -/
def sweepPairsUptoRow : OpenClaim := { program := "ytnlkeacchogmeaa", sum := "138fcb730c2727b37635eec5ca820ae5bb207bc62d082d87f9e1eb6e882dba6b", func := "bagatelle/bagatellelaw08.SweepPairs", spec := "sweepPairs", unfollowed := true, recurses := true, plainKeys := false, apart := false, narrowed := true }
def SweepPairsUptoSaid : Prop := sweepPairsUptoRow.holds Try.pinned (OpenSpec.upto sweepPairsSpec)

/-- 'bagatellelaw08.SweepOrders', WHERE WHAT IT READS IS OF BULK AT MOST 1048576: true; the input reads as it did. -/
def sweepOrdersUptoRow : OpenClaim := { program := "ytnlkeacchogmeaa", sum := "138fcb730c2727b37635eec5ca820ae5bb207bc62d082d87f9e1eb6e882dba6b", func := "bagatelle/bagatellelaw08.SweepOrders", spec := "sweepOrders", unfollowed := true, recurses := true, plainKeys := false, apart := false, narrowed := true }
def SweepOrdersUptoSaid : Prop := sweepOrdersUptoRow.holds Try.pinned (OpenSpec.upto sweepOrdersSpec)

/-- 'bagatellelaw08.SweepMore', WHERE WHAT IT READS IS OF BULK AT MOST 1048576: true; the input reads as it did. -/
def sweepMoreUptoRow : OpenClaim := { program := "ytnlkeacchogmeaa", sum := "138fcb730c2727b37635eec5ca820ae5bb207bc62d082d87f9e1eb6e882dba6b", func := "bagatelle/bagatellelaw08.SweepMore", spec := "sweepMore", unfollowed := true, recurses := true, plainKeys := false, apart := false, narrowed := true }
def SweepMoreUptoSaid : Prop := sweepMoreUptoRow.holds Try.pinned (OpenSpec.upto sweepMoreSpec)

end Rows
end Go.Proofs.Ytnlkeacchogmeaa
