/- Words and walks that SV rests on: SaveNB. -/
import Derived.Test.YtbiadpkglcdihaaGreatWSV19
import Derived.Test.YtbiadpkglcdihaaGreatWSV24
import Derived.Test.YtbiadpkglcdihaaGreatWSV1
/- A disk that stands apart: Bend, Rename, Append of a literal. -/
namespace Go.Proofs.YtbiadpkglcdihaaGreat
open Go.RowKit

theorem DkN.bend {w0 w : World} {b : Nat} {d : Dsk} (h : DkN w0 w b d) (s : List UInt8) (hsl : s.length ≤ 140737488355328) (at_ : Int) (mask : UInt32) (ha1 : -4611686018427387904 ≤ at_) (ha2 : at_ ≤ 4611686018427387904) :
    Calls Tryz.prog 15 #[.pointer (some ⟨b, 0, none⟩), .string (strB s), .int .i64 at_, .int .u32 (n32 mask)] w fun e w' => e = .returned (.bool (nget d.names s).isSome) ∧ DkN w0 w' b (bendDsk d s at_ mask) := by
  obtain ⟨fp, h1, h2, h3⟩ := h
  exact (DBend_any h1 s hsl at_ mask ha1 ha2).mono fun e w' ⟨he, hk⟩ => ⟨he, .step h2 h3 hk⟩
theorem DkN.rename {w0 w : World} {b : Nat} {d : Dsk} (h : DkN w0 w b d) (a s : List UInt8) (ha : a.length ≤ 100) (hs : s.length ≤ 100) (hops : d.ops < 1073741824) :
    Calls Tryz.prog 19 #[.pointer (some ⟨b, 0, none⟩), .string (strB a), .string (strB s)] w fun e w' => e = .returned (.int .i64 (renameE d a s)) ∧ DkN w0 w' b (renameD d a s) := by
  obtain ⟨fp, h1, h2, h3⟩ := h
  exact (Rename_any h1 a s (by omega) (by omega) hops).mono fun e w' ⟨he, hk⟩ => ⟨he, .step h2 h3 hk⟩
theorem DkN.append0 {w0 w : World} {b : Nat} {d : Dsk} (h : DkN w0 w b d) (s : List UInt8) (hsl : s.length ≤ 140737488355328) (hops : d.ops < 1073741824) (l : List UInt8) (cs : Array Value) (hcs : cs = (l.map vb).toArray) (hll : l.length ≤ 4294967296) (hroom : d.room ≤ 4294967296) :
    Calls Tryz.prog 20 #[.pointer (some ⟨b, 0, none⟩), .string (strB s), .slice (some ⟨w.heap.size, 0, none⟩) l.length l.length] (w.alloc (.cells cs 5)) fun e w' => e = .returned (.int .i64 (appendE d s l)) ∧ DkN w0 w' b (appendD d s l) := by
  obtain ⟨fp, h1, h2, h3⟩ := h
  have hc := (Chg.refl [] w).alloc (.cells cs 5)
  refine (Append_any (h1.k hc) s hsl hops _ l (OwB.lit w w.heap.size l cs hcs (Nat.le_refl _) (by omega)).bs hll (fun _ k hk hm => ?_) (.inr hroom)).mono fun e w' ⟨he, hk⟩ => ⟨he, .step (h2.k hc) h3 hk⟩
  have := h1.fpl k hm
  simp [Value.ownBlock] at hk
  omega
/-- A disk and bytes beside it. -/
def DkB (w0 w : World) (b : Nat) (d : Dsk) (v : Value) (l : List UInt8) : Prop := ∃ fp, Dk w fp b d ∧ Chg [] w0 w ∧ (∀ k ∈ fp, w0.heap.size ≤ k) ∧ Bs w v l ∧ ∀ k, v.ownBlock = some k → k ∉ fp
theorem DkB.bs {w0 w : World} {b : Nat} {d : Dsk} {v : Value} {l : List UInt8} (h : DkB w0 w b d v l) : Bs w v l := let ⟨_, _, _, _, h4, _⟩ := h; h4
theorem DkN.readB {w0 w : World} {b : Nat} {d : Dsk} (h : DkN w0 w b d) (s : List UInt8) (hsl : s.length ≤ 140737488355328) (hops : d.ops < 1073741824) (he : syncE d s = 0) :
    Calls Tryz.prog 14 #[.pointer (some ⟨b, 0, none⟩), .string (strB s)] w fun e w' => ∃ ao c, e = .returned (.tuple #[.slice ao (bytesD d s).length c, .int .i64 0]) ∧ DkB w0 w' b (opD d) (.slice ao (bytesD d s).length c) (bytesD d s) := by
  obtain ⟨fp, h1, h2, h3⟩ := h
  have hb : b ∈ fp := by obtain ⟨_, _, _, _, _, hh⟩ := h1; exact hh.fpb
  refine (Read_any h1 s hsl hops).mono fun e w' ⟨ao, n, c, e1, ho, hd, hc⟩ => ?_
  rw [he] at e1
  rw [if_pos he] at ho
  have hlt := ho.lt
  have hbs := ho.bs
  obtain ⟨ao2, cap2, b2, off2, hf, -⟩ := hbs.open
  injection hf with hf1 hf2 hf3
  subst hf1 hf2 hf3
  have hs := DkOut.same hd (hc.mono (fun x hx _ => by simp at hx; subst hx; exact hb))
  refine ⟨ao, c, e1, fp, hd, ?_, h3, hbs, fun k hk hm => ?_⟩
  · obtain ⟨fp2, g1, g2, g3⟩ := DkN.step h2 h3 hs
    exact g2
  · have := (World.ownsRow.lt ho k hk).1
    have := h1.fpl k hm
    omega
theorem DkB.bend {w0 w : World} {b : Nat} {d : Dsk} {v : Value} {l : List UInt8} (h : DkB w0 w b d v l) (s : List UInt8) (hsl : s.length ≤ 140737488355328) (at_ : Int) (mask : UInt32) (ha1 : -4611686018427387904 ≤ at_) (ha2 : at_ ≤ 4611686018427387904) :
    Calls Tryz.prog 15 #[.pointer (some ⟨b, 0, none⟩), .string (strB s), .int .i64 at_, .int .u32 (n32 mask)] w fun e w' => e = .returned (.bool (nget d.names s).isSome) ∧ DkN w0 w' b (bendDsk d s at_ mask) ∧ Bs w' v l := by
  obtain ⟨fp, h1, h2, h3, h4, h5⟩ := h
  refine (DBend_any h1 s hsl at_ mask ha1 ha2).mono fun e w' ⟨he, hk⟩ => ⟨he, .step h2 h3 hk, ?_⟩
  obtain ⟨fp', g1, g2, g3⟩ := hk
  exact Rd.keep h4 g2 (fun _ k hk hm => h5 k hk hm)
end Go.Proofs.YtbiadpkglcdihaaGreat
