/-
  No cell of these rows narrows 'for every input' (looked for: loops, veiled, ifaces, maps, wideKeys, modest, calm, conditions, laid).
  DERIVED. THE GIVEN ROWS OF THIS SEAT. 9 by the template 'for every input the law returns true; each argument reads behind the call as it read before'; 0 by the template 'total and deterministic' (their statements: YtpoohpmcopjklaaTotals.lean).
  GIVEN WITH THE SEED: the statements are not yours to turn. If you find one false, say at which input.
  Laid BY PROGRAM, IN A SANDBOX (cutbox-rows.mjs): the forced cells as the released guide's own fill.sh prints them over the translation 5e1d272de73269b7… (all of the seat's roots in one cut). By AI agents, Wed Nov 11 2026. No macro, syntax, notation, axiom, sorry.
-/
import Derived.Test.YtpoohpmcopjklaaChecked
import GoSem.Claim
import GoSem.ClaimJoined
import GoSem.ClaimMapViews
import Derived.JoinedTies
import Derived.KernelRfl
namespace Go.Proofs.Ytpoohpmcopjklaa
/- THE CELL 'sum', in the pinned program and in every row, IS THE sha256 OF THE DUMP (.gsa) THAT YtpoohpmcopjklaaProg.lean LOADS. Nothing in Lean hashes anything: it is a label: what it is worth is what the hold of that sum in a sandbox is worth. -/
noncomputable def Try.pinned : Pinned := { name := "ytpoohpmcopjklaa", sum := "5e1d272de73269b714e6fa78e5204921a1b8df54d74fe78080c7f90cc8215ec8", checked := Try.checked }
namespace Rows
def none {H : Type} : Left H := { results := [], args := [] }

/-- 'bagatellelaw19.JournalBends': WHATEVER THE INPUT: true; the input reads as it did. -/
def journalBendsSpec : ChangeSpec := { name := "journalBends", fn := fun _ => fun
  | [d1, d2, d3] => { results := [.lit (.bool true)], args := [d1, d2, d3] }
  | _ => none }
def journalBendsRow : OpenClaim := { program := "ytpoohpmcopjklaa", sum := "5e1d272de73269b714e6fa78e5204921a1b8df54d74fe78080c7f90cc8215ec8", func := "bagatelle/bagatellelaw19.JournalBends", spec := "journalBends", inPlace := ["maps.clone"], unfollowed := true, recurses := true, apart := false }
def JournalBendsSaid : Prop := journalBendsRow.holds Try.pinned (OpenSpec.ofChange journalBendsSpec)

/-- ITS FALSE NEIGHBOUR: 'it returns false'. Refute it at one input. -/
def journalBendsWrong : ChangeSpec := { name := "journalBends", fn := fun _ => fun
  | [d1, d2, d3] => { results := [.lit (.bool false)], args := [d1, d2, d3] }
  | _ => none }
def JournalBendsWrongFalsely : Prop := journalBendsRow.holds Try.pinned (OpenSpec.ofChange journalBendsWrong)

/-- 'bagatellelaw19.JournalWrites': WHATEVER THE INPUT: true; the input reads as it did. -/
def journalWritesSpec : ChangeSpec := { name := "journalWrites", fn := fun _ => fun
  | [d1, d2, d3] => { results := [.lit (.bool true)], args := [d1, d2, d3] }
  | _ => none }
def journalWritesRow : OpenClaim := { program := "ytpoohpmcopjklaa", sum := "5e1d272de73269b714e6fa78e5204921a1b8df54d74fe78080c7f90cc8215ec8", func := "bagatelle/bagatellelaw19.JournalWrites", spec := "journalWrites", inPlace := ["maps.clone"], unfollowed := true, recurses := true, apart := false }
def JournalWritesSaid : Prop := journalWritesRow.holds Try.pinned (OpenSpec.ofChange journalWritesSpec)

/-- ITS FALSE NEIGHBOUR: 'it returns false'. Refute it at one input. -/
def journalWritesWrong : ChangeSpec := { name := "journalWrites", fn := fun _ => fun
  | [d1, d2, d3] => { results := [.lit (.bool false)], args := [d1, d2, d3] }
  | _ => none }
def JournalWritesWrongFalsely : Prop := journalWritesRow.holds Try.pinned (OpenSpec.ofChange journalWritesWrong)

/-- 'bagatellelaw19.JournalDowns': WHATEVER THE INPUT: true; the input reads as it did. -/
def journalDownsSpec : ChangeSpec := { name := "journalDowns", fn := fun _ => fun
  | [d1, d2, d3] => { results := [.lit (.bool true)], args := [d1, d2, d3] }
  | _ => none }
def journalDownsRow : OpenClaim := { program := "ytpoohpmcopjklaa", sum := "5e1d272de73269b714e6fa78e5204921a1b8df54d74fe78080c7f90cc8215ec8", func := "bagatelle/bagatellelaw19.JournalDowns", spec := "journalDowns", inPlace := ["maps.clone"], unfollowed := true, recurses := true, apart := false }
def JournalDownsSaid : Prop := journalDownsRow.holds Try.pinned (OpenSpec.ofChange journalDownsSpec)

/-- ITS FALSE NEIGHBOUR: 'it returns false'. Refute it at one input. -/
def journalDownsWrong : ChangeSpec := { name := "journalDowns", fn := fun _ => fun
  | [d1, d2, d3] => { results := [.lit (.bool false)], args := [d1, d2, d3] }
  | _ => none }
def JournalDownsWrongFalsely : Prop := journalDownsRow.holds Try.pinned (OpenSpec.ofChange journalDownsWrong)

/-- 'bagatellelaw19.JournalRemoves': WHATEVER THE INPUT: true; the input reads as it did. -/
def journalRemovesSpec : ChangeSpec := { name := "journalRemoves", fn := fun _ => fun
  | [d1, d2] => { results := [.lit (.bool true)], args := [d1, d2] }
  | _ => none }
def journalRemovesRow : OpenClaim := { program := "ytpoohpmcopjklaa", sum := "5e1d272de73269b714e6fa78e5204921a1b8df54d74fe78080c7f90cc8215ec8", func := "bagatelle/bagatellelaw19.JournalRemoves", spec := "journalRemoves", inPlace := ["maps.clone"], unfollowed := true, recurses := true, apart := false }
def JournalRemovesSaid : Prop := journalRemovesRow.holds Try.pinned (OpenSpec.ofChange journalRemovesSpec)

/-- ITS FALSE NEIGHBOUR: 'it returns false'. Refute it at one input. -/
def journalRemovesWrong : ChangeSpec := { name := "journalRemoves", fn := fun _ => fun
  | [d1, d2] => { results := [.lit (.bool false)], args := [d1, d2] }
  | _ => none }
def JournalRemovesWrongFalsely : Prop := journalRemovesRow.holds Try.pinned (OpenSpec.ofChange journalRemovesWrong)

/-- 'bagatellelaw17.DiskNames': WHATEVER THE INPUT: true; the input reads as it did. -/
def diskNamesSpec : ChangeSpec := { name := "diskNames", fn := fun _ => fun
  | [d1, d2] => { results := [.lit (.bool true)], args := [d1, d2] }
  | _ => none }
def diskNamesRow : OpenClaim := { program := "ytpoohpmcopjklaa", sum := "5e1d272de73269b714e6fa78e5204921a1b8df54d74fe78080c7f90cc8215ec8", func := "bagatelle/bagatellelaw17.DiskNames", spec := "diskNames", inPlace := ["maps.clone"], unfollowed := true, recurses := true, apart := false }
def DiskNamesSaid : Prop := diskNamesRow.holds Try.pinned (OpenSpec.ofChange diskNamesSpec)

/-- ITS FALSE NEIGHBOUR: 'it returns false'. Refute it at one input. -/
def diskNamesWrong : ChangeSpec := { name := "diskNames", fn := fun _ => fun
  | [d1, d2] => { results := [.lit (.bool false)], args := [d1, d2] }
  | _ => none }
def DiskNamesWrongFalsely : Prop := diskNamesRow.holds Try.pinned (OpenSpec.ofChange diskNamesWrong)

/-- 'bagatellelaw17.DiskArms': WHATEVER THE INPUT: true; the input reads as it did. -/
def diskArmsSpec : ChangeSpec := { name := "diskArms", fn := fun _ => fun
  | [d1, d2] => { results := [.lit (.bool true)], args := [d1, d2] }
  | _ => none }
def diskArmsRow : OpenClaim := { program := "ytpoohpmcopjklaa", sum := "5e1d272de73269b714e6fa78e5204921a1b8df54d74fe78080c7f90cc8215ec8", func := "bagatelle/bagatellelaw17.DiskArms", spec := "diskArms", inPlace := ["maps.clone"], unfollowed := true, recurses := true, apart := false }
def DiskArmsSaid : Prop := diskArmsRow.holds Try.pinned (OpenSpec.ofChange diskArmsSpec)

/-- ITS FALSE NEIGHBOUR: 'it returns false'. Refute it at one input. -/
def diskArmsWrong : ChangeSpec := { name := "diskArms", fn := fun _ => fun
  | [d1, d2] => { results := [.lit (.bool false)], args := [d1, d2] }
  | _ => none }
def DiskArmsWrongFalsely : Prop := diskArmsRow.holds Try.pinned (OpenSpec.ofChange diskArmsWrong)

/-- 'bagatellelaw17.DiskRenames': WHATEVER THE INPUT: true; the input reads as it did. -/
def diskRenamesSpec : ChangeSpec := { name := "diskRenames", fn := fun _ => fun
  | [d1, d2, d3] => { results := [.lit (.bool true)], args := [d1, d2, d3] }
  | _ => none }
def diskRenamesRow : OpenClaim := { program := "ytpoohpmcopjklaa", sum := "5e1d272de73269b714e6fa78e5204921a1b8df54d74fe78080c7f90cc8215ec8", func := "bagatelle/bagatellelaw17.DiskRenames", spec := "diskRenames", inPlace := ["maps.clone"], unfollowed := true, recurses := true, apart := false }
def DiskRenamesSaid : Prop := diskRenamesRow.holds Try.pinned (OpenSpec.ofChange diskRenamesSpec)

/-- ITS FALSE NEIGHBOUR: 'it returns false'. Refute it at one input. -/
def diskRenamesWrong : ChangeSpec := { name := "diskRenames", fn := fun _ => fun
  | [d1, d2, d3] => { results := [.lit (.bool false)], args := [d1, d2, d3] }
  | _ => none }
def DiskRenamesWrongFalsely : Prop := diskRenamesRow.holds Try.pinned (OpenSpec.ofChange diskRenamesWrong)

/-- 'bagatellelaw17.DiskBends': WHATEVER THE INPUT: true; the input reads as it did. -/
def diskBendsSpec : ChangeSpec := { name := "diskBends", fn := fun _ => fun
  | [d1, d2, d3] => { results := [.lit (.bool true)], args := [d1, d2, d3] }
  | _ => none }
def diskBendsRow : OpenClaim := { program := "ytpoohpmcopjklaa", sum := "5e1d272de73269b714e6fa78e5204921a1b8df54d74fe78080c7f90cc8215ec8", func := "bagatelle/bagatellelaw17.DiskBends", spec := "diskBends", inPlace := ["maps.clone"], unfollowed := true, recurses := true, apart := false }
def DiskBendsSaid : Prop := diskBendsRow.holds Try.pinned (OpenSpec.ofChange diskBendsSpec)

/-- ITS FALSE NEIGHBOUR: 'it returns false'. Refute it at one input. -/
def diskBendsWrong : ChangeSpec := { name := "diskBends", fn := fun _ => fun
  | [d1, d2, d3] => { results := [.lit (.bool false)], args := [d1, d2, d3] }
  | _ => none }
def DiskBendsWrongFalsely : Prop := diskBendsRow.holds Try.pinned (OpenSpec.ofChange diskBendsWrong)

/-- 'bagatellelaw17.DiskRuns': WHATEVER THE INPUT: true; the input reads as it did. -/
def diskRunsSpec : ChangeSpec := { name := "diskRuns", fn := fun _ => fun
  | [d1, d2] => { results := [.lit (.bool true)], args := [d1, d2] }
  | _ => none }
def diskRunsRow : OpenClaim := { program := "ytpoohpmcopjklaa", sum := "5e1d272de73269b714e6fa78e5204921a1b8df54d74fe78080c7f90cc8215ec8", func := "bagatelle/bagatellelaw17.DiskRuns", spec := "diskRuns", inPlace := ["maps.clone"], unfollowed := true, recurses := true, apart := false }
def DiskRunsSaid : Prop := diskRunsRow.holds Try.pinned (OpenSpec.ofChange diskRunsSpec)

/-- ITS FALSE NEIGHBOUR: 'it returns false'. Refute it at one input. -/
def diskRunsWrong : ChangeSpec := { name := "diskRuns", fn := fun _ => fun
  | [d1, d2] => { results := [.lit (.bool false)], args := [d1, d2] }
  | _ => none }
def DiskRunsWrongFalsely : Prop := diskRunsRow.holds Try.pinned (OpenSpec.ofChange diskRunsWrong)

/- THE SECOND FORM. 'bulk': how many values and letters a reading holds, each counted each time it is reached (what is shared counts as often as it is met; a slice's spare places count too). A statement '..UptoSaid' is the law's where the arguments, and the package variables that the reading takes, are together of bulk at most 1048576: NARROWER than '..Said'. Prove '..Said' where nothing that the law and all that it calls make is longer than what came in: it says more and counts as full. Else prove '..UptoSaid'. A law counts once. -/
mutual
def uptoBulk {H : Type} : DataW H → Nat
  | .lit (.string bytes) => bytes.length + 1
  | .lit _ => 1
  | .nil => 1
  | .ptr d => uptoBulk d + 1
  | .slice elems spare => uptoBulkAll elems + uptoBulkAll spare + 1
  | .agg parts => uptoBulkAll parts + 1
  | .iface _ d => uptoBulk d + 1
  | .map entries => uptoBulkEntries entries + 1
  | .held _ => 1
def uptoBulkAll {H : Type} : List (DataW H) → Nat
  | [] => 0
  | d :: r => uptoBulk d + uptoBulkAll r
def uptoBulkEntries {H : Type} : List (Lit × DataW H) → Nat
  | [] => 0
  | x :: r => uptoBulkEntry x + uptoBulkEntries r
def uptoBulkEntry {H : Type} : Lit × DataW H → Nat
  | (.string bytes, d) => bytes.length + uptoBulk d + 1
  | (_, d) => uptoBulk d + 1
 end
def uptoSmall : (H : Type) → List (DataW H) → Bool := fun _ ds => decide (uptoBulkAll ds ≤ 1048576)
def OpenSpec.upto (s : _root_.Go.ChangeSpec) : _root_.Go.OpenSpec := { _root_.Go.OpenSpec.ofChange s with cond := some uptoSmall }

/-- 'bagatellelaw19.JournalBends', WHERE WHAT IT READS IS OF BULK AT MOST 1048576: true; the input reads as it did. -/
def journalBendsUptoRow : OpenClaim := { program := "ytpoohpmcopjklaa", sum := "5e1d272de73269b714e6fa78e5204921a1b8df54d74fe78080c7f90cc8215ec8", func := "bagatelle/bagatellelaw19.JournalBends", spec := "journalBends", inPlace := ["maps.clone"], unfollowed := true, recurses := true, apart := false, narrowed := true }
def JournalBendsUptoSaid : Prop := journalBendsUptoRow.holds Try.pinned (OpenSpec.upto journalBendsSpec)

/-- 'bagatellelaw19.JournalWrites', WHERE WHAT IT READS IS OF BULK AT MOST 1048576: true; the input reads as it did. -/
def journalWritesUptoRow : OpenClaim := { program := "ytpoohpmcopjklaa", sum := "5e1d272de73269b714e6fa78e5204921a1b8df54d74fe78080c7f90cc8215ec8", func := "bagatelle/bagatellelaw19.JournalWrites", spec := "journalWrites", inPlace := ["maps.clone"], unfollowed := true, recurses := true, apart := false, narrowed := true }
def JournalWritesUptoSaid : Prop := journalWritesUptoRow.holds Try.pinned (OpenSpec.upto journalWritesSpec)

/-- 'bagatellelaw19.JournalDowns', WHERE WHAT IT READS IS OF BULK AT MOST 1048576: true; the input reads as it did. -/
def journalDownsUptoRow : OpenClaim := { program := "ytpoohpmcopjklaa", sum := "5e1d272de73269b714e6fa78e5204921a1b8df54d74fe78080c7f90cc8215ec8", func := "bagatelle/bagatellelaw19.JournalDowns", spec := "journalDowns", inPlace := ["maps.clone"], unfollowed := true, recurses := true, apart := false, narrowed := true }
def JournalDownsUptoSaid : Prop := journalDownsUptoRow.holds Try.pinned (OpenSpec.upto journalDownsSpec)

/-- 'bagatellelaw19.JournalRemoves', WHERE WHAT IT READS IS OF BULK AT MOST 1048576: true; the input reads as it did. -/
def journalRemovesUptoRow : OpenClaim := { program := "ytpoohpmcopjklaa", sum := "5e1d272de73269b714e6fa78e5204921a1b8df54d74fe78080c7f90cc8215ec8", func := "bagatelle/bagatellelaw19.JournalRemoves", spec := "journalRemoves", inPlace := ["maps.clone"], unfollowed := true, recurses := true, apart := false, narrowed := true }
def JournalRemovesUptoSaid : Prop := journalRemovesUptoRow.holds Try.pinned (OpenSpec.upto journalRemovesSpec)

/-- 'bagatellelaw17.DiskNames', WHERE WHAT IT READS IS OF BULK AT MOST 1048576: true; the input reads as it did. -/
def diskNamesUptoRow : OpenClaim := { program := "ytpoohpmcopjklaa", sum := "5e1d272de73269b714e6fa78e5204921a1b8df54d74fe78080c7f90cc8215ec8", func := "bagatelle/bagatellelaw17.DiskNames", spec := "diskNames", inPlace := ["maps.clone"], unfollowed := true, recurses := true, apart := false, narrowed := true }
def DiskNamesUptoSaid : Prop := diskNamesUptoRow.holds Try.pinned (OpenSpec.upto diskNamesSpec)

/-- 'bagatellelaw17.DiskArms', WHERE WHAT IT READS IS OF BULK AT MOST 1048576: true; the input reads as it did. -/
def diskArmsUptoRow : OpenClaim := { program := "ytpoohpmcopjklaa", sum := "5e1d272de73269b714e6fa78e5204921a1b8df54d74fe78080c7f90cc8215ec8", func := "bagatelle/bagatellelaw17.DiskArms", spec := "diskArms", inPlace := ["maps.clone"], unfollowed := true, recurses := true, apart := false, narrowed := true }
def DiskArmsUptoSaid : Prop := diskArmsUptoRow.holds Try.pinned (OpenSpec.upto diskArmsSpec)

/-- 'bagatellelaw17.DiskRenames', WHERE WHAT IT READS IS OF BULK AT MOST 1048576: true; the input reads as it did. -/
def diskRenamesUptoRow : OpenClaim := { program := "ytpoohpmcopjklaa", sum := "5e1d272de73269b714e6fa78e5204921a1b8df54d74fe78080c7f90cc8215ec8", func := "bagatelle/bagatellelaw17.DiskRenames", spec := "diskRenames", inPlace := ["maps.clone"], unfollowed := true, recurses := true, apart := false, narrowed := true }
def DiskRenamesUptoSaid : Prop := diskRenamesUptoRow.holds Try.pinned (OpenSpec.upto diskRenamesSpec)

/-- 'bagatellelaw17.DiskBends', WHERE WHAT IT READS IS OF BULK AT MOST 1048576: true; the input reads as it did. -/
def diskBendsUptoRow : OpenClaim := { program := "ytpoohpmcopjklaa", sum := "5e1d272de73269b714e6fa78e5204921a1b8df54d74fe78080c7f90cc8215ec8", func := "bagatelle/bagatellelaw17.DiskBends", spec := "diskBends", inPlace := ["maps.clone"], unfollowed := true, recurses := true, apart := false, narrowed := true }
def DiskBendsUptoSaid : Prop := diskBendsUptoRow.holds Try.pinned (OpenSpec.upto diskBendsSpec)

/-- 'bagatellelaw17.DiskRuns', WHERE WHAT IT READS IS OF BULK AT MOST 1048576: true; the input reads as it did. -/
def diskRunsUptoRow : OpenClaim := { program := "ytpoohpmcopjklaa", sum := "5e1d272de73269b714e6fa78e5204921a1b8df54d74fe78080c7f90cc8215ec8", func := "bagatelle/bagatellelaw17.DiskRuns", spec := "diskRuns", inPlace := ["maps.clone"], unfollowed := true, recurses := true, apart := false, narrowed := true }
def DiskRunsUptoSaid : Prop := diskRunsUptoRow.holds Try.pinned (OpenSpec.upto diskRunsSpec)

end Rows
end Go.Proofs.Ytpoohpmcopjklaa
