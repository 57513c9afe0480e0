/- Words and walks that SF rests on: SaveNB. -/
import Derived.Test.YtbiadpkglcdihaaGreatWSF19
import Derived.Test.YtbiadpkglcdihaaGreatWSF24
import Derived.Test.YtbiadpkglcdihaaGreatWSF1
/- A disk that stands apart: Bend, Rename, Append of a literal. -/
namespace Go.Proofs.YtbiadpkglcdihaaGreat
open Go.RowKit

theorem DkN.bend {w0 w : World} {b : Nat} {d : Dsk} (h : DkN w0 w b d) (s : List UInt8) (hsl : s.length ≤ 140737488355328) (at_ : Int) (mask : UInt32) (ha1 : -4611686018427387904 ≤ at_) (ha2 : at_ ≤ 4611686018427387904) :
    Calls Tryz.prog 15 #[.pointer (some ⟨b, 0, none⟩), .string (strB s), .int .i64 at_, .int .u32 (n32 mask)] w fun e w' => e = .returned (.bool (nget d.names s).isSome) ∧ DkN w0 w' b (bendDsk d s at_ mask) := by
  obtain ⟨fp, h1, h2, h3⟩ := h
  exact (DBend_any h1 s hsl at_ mask ha1 ha2).mono fun e w' ⟨he, hk⟩ => ⟨he, .step h2 h3 hk⟩
theorem DkN.rename {w0 w : World} {b : Nat} {d : Dsk} (h : DkN w0 w b d) (a s : List UInt8) (ha : a.length ≤ 100) (hs : s.length ≤ 100) (hops : d.ops < 1073741824) :
    Calls Tryz.prog 19 #[.pointer (some ⟨b, 0, none⟩), .string (strB a), .string (strB s)] w fun e w' => e = .returned (.int .i64 (renameE d a s)) ∧ DkN w0 w' b (renameD d a s) := by
  obtain ⟨fp, h1, h2, h3⟩ := h
  exact (Rename_any h1 a s (by omega) (by omega) hops).mono fun e w' ⟨he, hk⟩ => ⟨he, .step h2 h3 hk⟩
/-- A disk and bytes beside it. -/
def DkB (w0 w : World) (b : Nat) (d : Dsk) (v : Value) (l : List UInt8) : Prop := ∃ fp, Dk w fp b d ∧ Chg [] w0 w ∧ (∀ k ∈ fp, w0.heap.size ≤ k) ∧ Bs w v l ∧ ∀ k, v.ownBlock = some k → k ∉ fp
theorem DkB.dk {w0 w : World} {b : Nat} {d : Dsk} {v : Value} {l : List UInt8} (h : DkB w0 w b d v l) : DkN w0 w b d := let ⟨fp, h1, h2, h3, _⟩ := h; ⟨fp, h1, h2, h3⟩
theorem DkB.bs {w0 w : World} {b : Nat} {d : Dsk} {v : Value} {l : List UInt8} (h : DkB w0 w b d v l) : Bs w v l := let ⟨_, _, _, _, h4, _⟩ := h; h4
theorem DkB.bend {w0 w : World} {b : Nat} {d : Dsk} {v : Value} {l : List UInt8} (h : DkB w0 w b d v l) (s : List UInt8) (hsl : s.length ≤ 140737488355328) (at_ : Int) (mask : UInt32) (ha1 : -4611686018427387904 ≤ at_) (ha2 : at_ ≤ 4611686018427387904) :
    Calls Tryz.prog 15 #[.pointer (some ⟨b, 0, none⟩), .string (strB s), .int .i64 at_, .int .u32 (n32 mask)] w fun e w' => e = .returned (.bool (nget d.names s).isSome) ∧ DkN w0 w' b (bendDsk d s at_ mask) ∧ Bs w' v l := by
  obtain ⟨fp, h1, h2, h3, h4, h5⟩ := h
  refine (DBend_any h1 s hsl at_ mask ha1 ha2).mono fun e w' ⟨he, hk⟩ => ⟨he, .step h2 h3 hk, ?_⟩
  obtain ⟨fp', g1, g2, g3⟩ := hk
  exact Rd.keep h4 g2 (fun _ k hk hm => h5 k hk hm)
end Go.Proofs.YtbiadpkglcdihaaGreat
