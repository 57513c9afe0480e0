/- Words and walks that SE rests on: SaveNB. -/
import Derived.Test.YtbiadpkglcdihaaGreatWSE19
import Derived.Test.YtbiadpkglcdihaaGreatWSE24
import Derived.Test.YtbiadpkglcdihaaGreatWSE1
/- A disk that stands apart: Bend, Rename, Append of a literal. -/
namespace Go.Proofs.YtbiadpkglcdihaaGreat
open Go.RowKit

theorem DkN.rename {w0 w : World} {b : Nat} {d : Dsk} (h : DkN w0 w b d) (a s : List UInt8) (ha : a.length ≤ 100) (hs : s.length ≤ 100) (hops : d.ops < 1073741824) :
    Calls Tryz.prog 19 #[.pointer (some ⟨b, 0, none⟩), .string (strB a), .string (strB s)] w fun e w' => e = .returned (.int .i64 (renameE d a s)) ∧ DkN w0 w' b (renameD d a s) := by
  obtain ⟨fp, h1, h2, h3⟩ := h
  exact (Rename_any h1 a s (by omega) (by omega) hops).mono fun e w' ⟨he, hk⟩ => ⟨he, .step h2 h3 hk⟩
/-- A disk and bytes beside it. -/
def DkB (w0 w : World) (b : Nat) (d : Dsk) (v : Value) (l : List UInt8) : Prop := ∃ fp, Dk w fp b d ∧ Chg [] w0 w ∧ (∀ k ∈ fp, w0.heap.size ≤ k) ∧ Bs w v l ∧ ∀ k, v.ownBlock = some k → k ∉ fp
theorem DkB.dk {w0 w : World} {b : Nat} {d : Dsk} {v : Value} {l : List UInt8} (h : DkB w0 w b d v l) : DkN w0 w b d := let ⟨fp, h1, h2, h3, _⟩ := h; ⟨fp, h1, h2, h3⟩
theorem DkB.bs {w0 w : World} {b : Nat} {d : Dsk} {v : Value} {l : List UInt8} (h : DkB w0 w b d v l) : Bs w v l := let ⟨_, _, _, _, h4, _⟩ := h; h4
end Go.Proofs.YtbiadpkglcdihaaGreat
