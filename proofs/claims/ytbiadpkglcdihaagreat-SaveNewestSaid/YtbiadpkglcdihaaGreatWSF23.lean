/- Words and walks that SF rests on: LawSavePuts. -/
import Derived.Test.YtbiadpkglcdihaaGreatWSF21
import Derived.Test.YtbiadpkglcdihaaGreatWSF22
import Derived.Test.YtbiadpkglcdihaaGreatWSF1
import Derived.Deep.CutBlock
/- SavePuts: for every input the law returns true. -/
namespace Go.Proofs.YtbiadpkglcdihaaGreat
open Go.RowKit

def PreC (room : Int) (n : Nat) (b : List UInt8) (d : Dsk) : Prop := (Quiet d ∧ d.room = room ∧ (d.names = [] ∨ ∃ i, d.names = [(tmpB, i)] ∧ i < d.files.length)) ∨ OneC room n b d
theorem PreC.room {room : Int} {n : Nat} {b : List UInt8} {d : Dsk} (h : PreC room n b d) : d.room = room := by
  rcases h with ⟨-, h, -⟩ | h
  · exact h
  · exact h.room
theorem atW_GW (l : List Deed) (h : ∀ d ∈ l, ID d) (t : Int) : GW (atW l t) ∧ (atW l t).contacts = [] := by
  have hg := made_GW (l.take 6) (fun d hd => h d (List.mem_of_mem_take hd))
  have hf := hg.fit
  have e0 : 0 ≤ t % 65536 ∧ t % 65536 < 65536 := by omega
  exact ⟨⟨⟨⟨by show -9223372036854775808 ≤ t % 65536; omega, by show t % 65536 ≤ _; omega⟩, hf.nb, hf.nj, hf.grav, hf.b, hf.j, hf.c, hf.bl, hf.jl, hf.cl⟩, ⟨by show 0 ≤ t % 65536; omega, by show t % 65536 ≤ _; omega⟩, hg.nb, hg.nj, hg.grav, hg.rb, hg.rb0, hg.rj, hg.rj0, hg.b, hg.j, hg.c, hg.cs⟩, made_c _⟩
theorem DkN.create {w0 w : World} {b : Nat} {d : Dsk} (h : DkN w0 w b d) (s : List UInt8) (hsl : s.length ≤ 140737488355328) (hops : d.ops < 1073741824) :
    Calls Tryz.prog 21 #[.pointer (some ⟨b, 0, none⟩), .string (strB s)] w fun e w' => e = .returned (.int .i64 (createE d s)) ∧ DkN w0 w' b (createD d s) := by
  obtain ⟨fp, h1, h2, h3⟩ := h
  exact (Create_any h1 s hsl hops).mono fun e w' ⟨he, hk⟩ => ⟨he, .step h2 h3 hk⟩
theorem DkN.list {w0 w : World} {b : Nat} {d : Dsk} (h : DkN w0 w b d) (hops : d.ops < 1073741824) (he : opE d = 0) :
    Calls Tryz.prog 23 #[.pointer (some ⟨b, 0, none⟩)] w fun e w' => ∃ ao c, e = .returned (.tuple #[.slice ao d.names.length c, .int .i64 0]) ∧ StrL w' w.heap.size (.slice ao d.names.length c) (sortN d.names) ∧ DkN w0 w' b (opD d) ∧ Chg [b] w w' := by
  obtain ⟨fp, h1, h2, h3⟩ := h
  have hb : b ∈ fp := by obtain ⟨_, _, _, _, _, hh⟩ := h1; exact hh.fpb
  refine (List_any h1 hops).mono fun e w' ⟨hd, hc, ho⟩ => ?_
  rcases ho with ⟨hne, -⟩ | ⟨-, ao, c, rfl, hs⟩
  · exact absurd he hne
  · exact ⟨ao, c, rfl, hs, .step h2 h3 (.same hd (hc.mono (fun x hx _ => by simp at hx; subst hx; exact hb))), hc⟩
theorem DkN.read {w0 w : World} {b : Nat} {d : Dsk} (h : DkN w0 w b d) (s : List UInt8) (hsl : s.length ≤ 140737488355328) (hops : d.ops < 1073741824) (he : syncE d s = 0) :
    Calls Tryz.prog 14 #[.pointer (some ⟨b, 0, none⟩), .string (strB s)] w fun e w' => ∃ ao n c, e = .returned (.tuple #[.slice ao n c, .int .i64 0]) ∧ OwB w' w.heap.size (.slice ao n c) (bytesD d s) ∧ DkN w0 w' b (opD d) ∧ Chg [b] w w' := by
  obtain ⟨fp, h1, h2, h3⟩ := h
  have hb : b ∈ fp := by obtain ⟨_, _, _, _, _, hh⟩ := h1; exact hh.fpb
  refine (Read_any h1 s hsl hops).mono fun e w' ⟨ao, n, c, e1, ho, hd, hc⟩ => ?_
  rw [he] at e1
  rw [if_pos he] at ho
  exact ⟨ao, n, c, e1, ho, .step h2 h3 (.same hd (hc.mono (fun x hx _ => by simp at hx; subst hx; exact hb))), hc⟩
end Go.Proofs.YtbiadpkglcdihaaGreat
