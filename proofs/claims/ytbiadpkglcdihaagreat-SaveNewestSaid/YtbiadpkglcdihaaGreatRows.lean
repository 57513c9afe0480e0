/-
  No cell of these rows narrows 'for every input' (looked for: loops, veiled, ifaces, maps, wideKeys, modest, calm, conditions, laid).
  DERIVED. THE GIVEN ROWS OF THIS SEAT. 6 by the template 'for every input the law returns true; each argument reads behind the call as it read before'; 0 by the template 'total and deterministic' (their statements: YtbiadpkglcdihaaGreatTotals.lean).
  GIVEN WITH THE SEED: the statements are not yours to turn. If you find one false, say at which input.
  Laid BY PROGRAM, IN A SANDBOX (cutbox-rows.mjs): the forced cells as the released guide's own fill.sh prints them over the translation 12620bfd8d575019… (all of the seat's roots in one cut). By AI agents, Wed Nov 11 2026. No macro, syntax, notation, axiom, sorry.
-/
import Derived.Test.YtbiadpkglcdihaaGreatChecked
import GoSem.Claim
import GoSem.ClaimJoined
import GoSem.ClaimMapViews
import Derived.JoinedTies
import Derived.KernelRfl
namespace Go.Proofs.YtbiadpkglcdihaaGreat
/- THE CELL 'sum', in the pinned program and in every row, IS THE sha256 OF THE DUMP (.gsa) THAT YtbiadpkglcdihaaGreatProg.lean LOADS. Nothing in Lean hashes anything: it is a label: what it is worth is what the hold of that sum in a sandbox is worth. -/
noncomputable def Tryz.pinned : Pinned := { name := "ytbiadpkglcdihaagreat", sum := "12620bfd8d5750192ca24638d58bd2439c3ce7b531bfd76292941ce34f1c458c", checked := Tryz.checked }
namespace Rows
def none {H : Type} : Left H := { results := [], args := [] }

/-- 'bagatellelaw20.SaveBends': WHATEVER THE INPUT: true; the input reads as it did. -/
def saveBendsSpec : ChangeSpec := { name := "saveBends", fn := fun _ => fun
  | [d1, d2, d3] => { results := [.lit (.bool true)], args := [d1, d2, d3] }
  | _ => none }
def saveBendsRow : OpenClaim := { program := "ytbiadpkglcdihaagreat", sum := "12620bfd8d5750192ca24638d58bd2439c3ce7b531bfd76292941ce34f1c458c", func := "bagatelle/bagatellelaw20.SaveBends", spec := "saveBends", inPlace := ["maps.clone"], unfollowed := true, recurses := true, apart := false }
def SaveBendsSaid : Prop := saveBendsRow.holds Tryz.pinned (OpenSpec.ofChange saveBendsSpec)

/-- ITS FALSE NEIGHBOUR: 'it returns false'. Refute it at one input. -/
def saveBendsWrong : ChangeSpec := { name := "saveBends", fn := fun _ => fun
  | [d1, d2, d3] => { results := [.lit (.bool false)], args := [d1, d2, d3] }
  | _ => none }
def SaveBendsWrongFalsely : Prop := saveBendsRow.holds Tryz.pinned (OpenSpec.ofChange saveBendsWrong)

/-- 'bagatellelaw20.SavePuts': WHATEVER THE INPUT: true; the input reads as it did. -/
def savePutsSpec : ChangeSpec := { name := "savePuts", fn := fun _ => fun
  | [d1, d2, d3] => { results := [.lit (.bool true)], args := [d1, d2, d3] }
  | _ => none }
def savePutsRow : OpenClaim := { program := "ytbiadpkglcdihaagreat", sum := "12620bfd8d5750192ca24638d58bd2439c3ce7b531bfd76292941ce34f1c458c", func := "bagatelle/bagatellelaw20.SavePuts", spec := "savePuts", inPlace := ["maps.clone"], unfollowed := true, recurses := true, apart := false }
def SavePutsSaid : Prop := savePutsRow.holds Tryz.pinned (OpenSpec.ofChange savePutsSpec)

/-- ITS FALSE NEIGHBOUR: 'it returns false'. Refute it at one input. -/
def savePutsWrong : ChangeSpec := { name := "savePuts", fn := fun _ => fun
  | [d1, d2, d3] => { results := [.lit (.bool false)], args := [d1, d2, d3] }
  | _ => none }
def SavePutsWrongFalsely : Prop := savePutsRow.holds Tryz.pinned (OpenSpec.ofChange savePutsWrong)

/-- 'bagatellelaw20.SaveCrashes': WHATEVER THE INPUT: true; the input reads as it did. -/
def saveCrashesSpec : ChangeSpec := { name := "saveCrashes", fn := fun _ => fun
  | [d1, d2, d3] => { results := [.lit (.bool true)], args := [d1, d2, d3] }
  | _ => none }
def saveCrashesRow : OpenClaim := { program := "ytbiadpkglcdihaagreat", sum := "12620bfd8d5750192ca24638d58bd2439c3ce7b531bfd76292941ce34f1c458c", func := "bagatelle/bagatellelaw20.SaveCrashes", spec := "saveCrashes", inPlace := ["maps.clone"], unfollowed := true, recurses := true, apart := false }
def SaveCrashesSaid : Prop := saveCrashesRow.holds Tryz.pinned (OpenSpec.ofChange saveCrashesSpec)

/-- ITS FALSE NEIGHBOUR: 'it returns false'. Refute it at one input. -/
def saveCrashesWrong : ChangeSpec := { name := "saveCrashes", fn := fun _ => fun
  | [d1, d2, d3] => { results := [.lit (.bool false)], args := [d1, d2, d3] }
  | _ => none }
def SaveCrashesWrongFalsely : Prop := saveCrashesRow.holds Tryz.pinned (OpenSpec.ofChange saveCrashesWrong)

/-- 'bagatellelaw20.SaveNewest': WHATEVER THE INPUT: true; the input reads as it did. -/
def saveNewestSpec : ChangeSpec := { name := "saveNewest", fn := fun _ => fun
  | [d1, d2, d3] => { results := [.lit (.bool true)], args := [d1, d2, d3] }
  | _ => none }
def saveNewestRow : OpenClaim := { program := "ytbiadpkglcdihaagreat", sum := "12620bfd8d5750192ca24638d58bd2439c3ce7b531bfd76292941ce34f1c458c", func := "bagatelle/bagatellelaw20.SaveNewest", spec := "saveNewest", inPlace := ["maps.clone"], unfollowed := true, recurses := true, apart := false }
def SaveNewestSaid : Prop := saveNewestRow.holds Tryz.pinned (OpenSpec.ofChange saveNewestSpec)

/-- ITS FALSE NEIGHBOUR: 'it returns false'. Refute it at one input. -/
def saveNewestWrong : ChangeSpec := { name := "saveNewest", fn := fun _ => fun
  | [d1, d2, d3] => { results := [.lit (.bool false)], args := [d1, d2, d3] }
  | _ => none }
def SaveNewestWrongFalsely : Prop := saveNewestRow.holds Tryz.pinned (OpenSpec.ofChange saveNewestWrong)

/-- 'bagatellelaw20.SaveCleans': WHATEVER THE INPUT: true; the input reads as it did. -/
def saveCleansSpec : ChangeSpec := { name := "saveCleans", fn := fun _ => fun
  | [d1, d2, d3] => { results := [.lit (.bool true)], args := [d1, d2, d3] }
  | _ => none }
def saveCleansRow : OpenClaim := { program := "ytbiadpkglcdihaagreat", sum := "12620bfd8d5750192ca24638d58bd2439c3ce7b531bfd76292941ce34f1c458c", func := "bagatelle/bagatellelaw20.SaveCleans", spec := "saveCleans", inPlace := ["maps.clone"], unfollowed := true, recurses := true, apart := false }
def SaveCleansSaid : Prop := saveCleansRow.holds Tryz.pinned (OpenSpec.ofChange saveCleansSpec)

/-- ITS FALSE NEIGHBOUR: 'it returns false'. Refute it at one input. -/
def saveCleansWrong : ChangeSpec := { name := "saveCleans", fn := fun _ => fun
  | [d1, d2, d3] => { results := [.lit (.bool false)], args := [d1, d2, d3] }
  | _ => none }
def SaveCleansWrongFalsely : Prop := saveCleansRow.holds Tryz.pinned (OpenSpec.ofChange saveCleansWrong)

/-- 'bagatellelaw20.SaveFulls': WHATEVER THE INPUT: true; the input reads as it did. -/
def saveFullsSpec : ChangeSpec := { name := "saveFulls", fn := fun _ => fun
  | [d1, d2] => { results := [.lit (.bool true)], args := [d1, d2] }
  | _ => none }
def saveFullsRow : OpenClaim := { program := "ytbiadpkglcdihaagreat", sum := "12620bfd8d5750192ca24638d58bd2439c3ce7b531bfd76292941ce34f1c458c", func := "bagatelle/bagatellelaw20.SaveFulls", spec := "saveFulls", inPlace := ["maps.clone"], unfollowed := true, recurses := true, apart := false }
def SaveFullsSaid : Prop := saveFullsRow.holds Tryz.pinned (OpenSpec.ofChange saveFullsSpec)

/-- ITS FALSE NEIGHBOUR: 'it returns false'. Refute it at one input. -/
def saveFullsWrong : ChangeSpec := { name := "saveFulls", fn := fun _ => fun
  | [d1, d2] => { results := [.lit (.bool false)], args := [d1, d2] }
  | _ => none }
def SaveFullsWrongFalsely : Prop := saveFullsRow.holds Tryz.pinned (OpenSpec.ofChange saveFullsWrong)

/- THE SECOND FORM. 'bulk': how many values and letters a reading holds, each counted each time it is reached (what is shared counts as often as it is met; a slice's spare places count too). A statement '..UptoSaid' is the law's where the arguments, and the package variables that the reading takes, are together of bulk at most 1048576: NARROWER than '..Said'. Prove '..Said' where nothing that the law and all that it calls make is longer than what came in: it says more and counts as full. Else prove '..UptoSaid'. A law counts once. -/
mutual
def uptoBulk {H : Type} : DataW H → Nat
  | .lit (.string bytes) => bytes.length + 1
  | .lit _ => 1
  | .nil => 1
  | .ptr d => uptoBulk d + 1
  | .slice elems spare => uptoBulkAll elems + uptoBulkAll spare + 1
  | .agg parts => uptoBulkAll parts + 1
  | .iface _ d => uptoBulk d + 1
  | .map entries => uptoBulkEntries entries + 1
  | .held _ => 1
def uptoBulkAll {H : Type} : List (DataW H) → Nat
  | [] => 0
  | d :: r => uptoBulk d + uptoBulkAll r
def uptoBulkEntries {H : Type} : List (Lit × DataW H) → Nat
  | [] => 0
  | x :: r => uptoBulkEntry x + uptoBulkEntries r
def uptoBulkEntry {H : Type} : Lit × DataW H → Nat
  | (.string bytes, d) => bytes.length + uptoBulk d + 1
  | (_, d) => uptoBulk d + 1
 end
def uptoSmall : (H : Type) → List (DataW H) → Bool := fun _ ds => decide (uptoBulkAll ds ≤ 1048576)
def OpenSpec.upto (s : _root_.Go.ChangeSpec) : _root_.Go.OpenSpec := { _root_.Go.OpenSpec.ofChange s with cond := some uptoSmall }

/-- 'bagatellelaw20.SaveBends', WHERE WHAT IT READS IS OF BULK AT MOST 1048576: true; the input reads as it did. -/
def saveBendsUptoRow : OpenClaim := { program := "ytbiadpkglcdihaagreat", sum := "12620bfd8d5750192ca24638d58bd2439c3ce7b531bfd76292941ce34f1c458c", func := "bagatelle/bagatellelaw20.SaveBends", spec := "saveBends", inPlace := ["maps.clone"], unfollowed := true, recurses := true, apart := false, narrowed := true }
def SaveBendsUptoSaid : Prop := saveBendsUptoRow.holds Tryz.pinned (OpenSpec.upto saveBendsSpec)

/-- 'bagatellelaw20.SavePuts', WHERE WHAT IT READS IS OF BULK AT MOST 1048576: true; the input reads as it did. -/
def savePutsUptoRow : OpenClaim := { program := "ytbiadpkglcdihaagreat", sum := "12620bfd8d5750192ca24638d58bd2439c3ce7b531bfd76292941ce34f1c458c", func := "bagatelle/bagatellelaw20.SavePuts", spec := "savePuts", inPlace := ["maps.clone"], unfollowed := true, recurses := true, apart := false, narrowed := true }
def SavePutsUptoSaid : Prop := savePutsUptoRow.holds Tryz.pinned (OpenSpec.upto savePutsSpec)

/-- 'bagatellelaw20.SaveCrashes', WHERE WHAT IT READS IS OF BULK AT MOST 1048576: true; the input reads as it did. -/
def saveCrashesUptoRow : OpenClaim := { program := "ytbiadpkglcdihaagreat", sum := "12620bfd8d5750192ca24638d58bd2439c3ce7b531bfd76292941ce34f1c458c", func := "bagatelle/bagatellelaw20.SaveCrashes", spec := "saveCrashes", inPlace := ["maps.clone"], unfollowed := true, recurses := true, apart := false, narrowed := true }
def SaveCrashesUptoSaid : Prop := saveCrashesUptoRow.holds Tryz.pinned (OpenSpec.upto saveCrashesSpec)

/-- 'bagatellelaw20.SaveNewest', WHERE WHAT IT READS IS OF BULK AT MOST 1048576: true; the input reads as it did. -/
def saveNewestUptoRow : OpenClaim := { program := "ytbiadpkglcdihaagreat", sum := "12620bfd8d5750192ca24638d58bd2439c3ce7b531bfd76292941ce34f1c458c", func := "bagatelle/bagatellelaw20.SaveNewest", spec := "saveNewest", inPlace := ["maps.clone"], unfollowed := true, recurses := true, apart := false, narrowed := true }
def SaveNewestUptoSaid : Prop := saveNewestUptoRow.holds Tryz.pinned (OpenSpec.upto saveNewestSpec)

/-- 'bagatellelaw20.SaveCleans', WHERE WHAT IT READS IS OF BULK AT MOST 1048576: true; the input reads as it did. -/
def saveCleansUptoRow : OpenClaim := { program := "ytbiadpkglcdihaagreat", sum := "12620bfd8d5750192ca24638d58bd2439c3ce7b531bfd76292941ce34f1c458c", func := "bagatelle/bagatellelaw20.SaveCleans", spec := "saveCleans", inPlace := ["maps.clone"], unfollowed := true, recurses := true, apart := false, narrowed := true }
def SaveCleansUptoSaid : Prop := saveCleansUptoRow.holds Tryz.pinned (OpenSpec.upto saveCleansSpec)

/-- 'bagatellelaw20.SaveFulls', WHERE WHAT IT READS IS OF BULK AT MOST 1048576: true; the input reads as it did. -/
def saveFullsUptoRow : OpenClaim := { program := "ytbiadpkglcdihaagreat", sum := "12620bfd8d5750192ca24638d58bd2439c3ce7b531bfd76292941ce34f1c458c", func := "bagatelle/bagatellelaw20.SaveFulls", spec := "saveFulls", inPlace := ["maps.clone"], unfollowed := true, recurses := true, apart := false, narrowed := true }
def SaveFullsUptoSaid : Prop := saveFullsUptoRow.holds Tryz.pinned (OpenSpec.upto saveFullsSpec)

end Rows
end Go.Proofs.YtbiadpkglcdihaaGreat
