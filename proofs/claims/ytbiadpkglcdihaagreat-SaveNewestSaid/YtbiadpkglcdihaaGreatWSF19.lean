/- Words and walks that SF rests on: SaveN. -/
import Derived.Test.YtbiadpkglcdihaaGreatWSF14
import Derived.Test.YtbiadpkglcdihaaGreatWSF17
import Derived.Test.YtbiadpkglcdihaaGreatWSF18
/- A disk that stands apart from an older world. -/
namespace Go.Proofs.YtbiadpkglcdihaaGreat
open Go.RowKit

def DkN (w0 w : World) (b : Nat) (d : Dsk) : Prop := ∃ fp, Dk w fp b d ∧ Chg [] w0 w ∧ ∀ k ∈ fp, w0.heap.size ≤ k
theorem DkN.new {w w' : World} {b : Nat} {fp : List Nat} {d : Dsk} (h : Dk w' fp b d) (hc : Chg [] w w') (hb : ∀ k ∈ fp, w.heap.size ≤ k) : DkN w w' b d := ⟨fp, h, hc, hb⟩
theorem DkN.k {w0 w w' : World} {b : Nat} {d : Dsk} (h : DkN w0 w b d) (hc : Chg [] w w') : DkN w0 w' b d :=
  let ⟨fp, h1, h2, h3⟩ := h; ⟨fp, h1.k hc, h2.k hc, h3⟩
theorem DkN.c {w0 w : World} {b : Nat} {d : Dsk} (h : DkN w0 w b d) : Chg [] w0 w := let ⟨_, _, h2, _⟩ := h; h2
theorem DkN.lt {w0 w : World} {b : Nat} {d : Dsk} (h : DkN w0 w b d) : b < w.heap.size := by
  obtain ⟨fp, h1, h2, h3⟩ := h
  have hb : b ∈ fp := by obtain ⟨_, _, _, _, _, hh⟩ := h1; exact hh.fpb
  exact h1.fpl b hb
theorem DkN.step {w0 w w' : World} {b : Nat} {fp : List Nat} {d : Dsk} (hc : Chg [] w0 w) (hb : ∀ k ∈ fp, w0.heap.size ≤ k) (h : DkOut w fp b d w') : DkN w0 w' b d := by
  obtain ⟨fp', h1, h2, h3⟩ := h
  refine ⟨fp', h1, hc.trans h2 (fun x hx hl => absurd hl (Nat.not_lt.2 (hb x hx))), fun k hk => ?_⟩
  rcases h3 k hk with h | h
  · exact hb k h
  · exact Nat.le_trans hc.size h
theorem WlP.apartN {w0 : World} {fp : List Nat} {bv jv kv : Value} {L : List BV} {X : Wld} (hx : WlP w0 bv jv kv L X) (hb : ∀ k ∈ fp, w0.heap.size ≤ k) : Apart fp bv jv kv L X :=
  ⟨fun h0 k hk hm => Nat.not_lt.2 (hb k hm) (Rd.lt hx.b.rd h0 (by decide) k hk), fun h0 k hk hm => Nat.not_lt.2 (hb k hm) (Rd.lt hx.j h0 (by decide) k hk), fun h0 k hk hm => Nat.not_lt.2 (hb k hm) (Rd.lt hx.c h0 (by decide) k hk),
   fun x hxm h0 k hk hm => Nat.not_lt.2 (hb k hm) (Rd.lt (hx.b.ps x hxm) h0 (by decide) k hk)⟩
theorem oneB_frame (no : Int) (p : List UInt8) (h0 : 0 ≤ no) (h1 : no ≤ 9223372036854775807) (hl : p.length ≤ 16777216) : oneB (frameB no p) 16777216 = some (no, p) := by
  have h := nextB_yes no p [] 16777216 h0 h1 (by omega) (by omega)
  rw [List.append_nil] at h
  unfold oneB
  rw [h]
  simp [frameB_length]
theorem Put_N {w0 w : World} {b : Nat} {d : Dsk} (h : DkN w0 w b d) (bv jv kv : Value) (L : List BV) (X : Wld) (hx : WlP w0 bv jv kv L X) (hf : FitW X) (hc0 : X.contacts = []) (n : Nat) (hn : X.tick = (n : Int)) (hn2 : n ≤ 4611686018427387904)
    (hops : d.ops < 1073741000) (hroom : d.room ≤ 4294967296) :
    Calls Tryz.prog 12 #[.pointer (some ⟨b, 0, none⟩), vW X bv jv kv] w fun e w' => e = .returned (.int .i64 (putD d n (frameB X.tick (leW X))).1) ∧ DkN w0 w' b (putD d n (frameB X.tick (leW X))).2 := by
  obtain ⟨fp, h1, h2, h3⟩ := h
  exact (Put_any h1 bv jv kv L X (hx.k h2) (hx.apartN h3) hf hc0 n hn hn2 hops hroom).mono fun e w' ⟨he, hk⟩ => ⟨he, .step h2 h3 hk⟩
theorem Load_N {w0 w : World} {b : Nat} {d : Dsk} (h : DkN w0 w b d) (n : Nat) (hn : n ≤ 4611686018427387904) (hops : d.ops < 1073741824) (hlen : (bytesD d (chkB n)).length ≤ 140737488354000) (r : Int) (X : Wld) (hi : LoadIs d n r X) :
    Calls Tryz.prog 17 #[.pointer (some ⟨b, 0, none⟩), .int .i64 (n : Int)] w fun e w' => ∃ bv jv kv L, e = .returned (.tuple #[vW X bv jv kv, .int .i64 r]) ∧ WlP w' bv jv kv L X ∧ Apart [b] bv jv kv L X ∧ DkN w0 w' b (opD d) ∧ Chg [b] w w' := by
  obtain ⟨fp, h1, h2, h3⟩ := h
  have hb : b ∈ fp := by obtain ⟨_, _, _, _, _, hh⟩ := h1; exact hh.fpb
  have hbl := h1.fpl b hb
  exact (Load_any h1 n hn hops hlen r X hi).mono fun e w' ⟨bv, jv, kv, L, he, hp, ha, hd, hc⟩ => ⟨bv, jv, kv, L, he, hp, ha [b] (by simpa using hbl), .step h2 h3 (.same hd (hc.mono (fun x hx _ => by simp at hx; subst hx; exact hb))), hc⟩
end Go.Proofs.YtbiadpkglcdihaaGreat
