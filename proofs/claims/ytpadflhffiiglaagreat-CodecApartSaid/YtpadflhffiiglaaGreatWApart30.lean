/- Words and walks that Apart rests on: CodecRK4, CodecRK6, CodecRD, CodecRB. -/
import Derived.Test.YtpadflhffiiglaaGreatWApart24
import Derived.Test.YtpadflhffiiglaaGreatWApart25
import Derived.Test.YtpadflhffiiglaaGreatWApart26
import Derived.Test.YtpadflhffiiglaaGreatWApart27
import Derived.Test.YtpadflhffiiglaaGreatWApart28
import Derived.Test.YtpadflhffiiglaaGreatWApart29
import Derived.Test.YtpadflhffiiglaaGreatWApart12
/- codec.reader.order: kind 4. -/
namespace Go.Proofs.YtpadflhffiiglaaGreat
open Go.RowKit

end Go.Proofs.YtpadflhffiiglaaGreat

/- codec.reader.order: kind 6. -/
namespace Go.Proofs.YtpadflhffiiglaaGreat
open Go.RowKit

end Go.Proofs.YtpadflhffiiglaaGreat

/- codec.reader.order. -/
namespace Go.Proofs.YtpadflhffiiglaaGreat
open Go.RowKit

end Go.Proofs.YtpadflhffiiglaaGreat

/- codec.ReadBatch. -/
namespace Go.Proofs.YtpadflhffiiglaaGreat
open Go.RowKit

/-- What stands while orders are read. -/
structure Red (w0 : World) (base b xb tb : Nat) (v : Value) (L : List OV) (cur : World) (st : St) : Prop where
  o : cur.ownsRow xb 120 15 v L.length (L.flatMap cOV)
  p : ∀ x ∈ L, VsS cur x.2 x.1.shape.p
  q : ∀ x ∈ L, 0 < x.1.shape.p.length → ∀ k, x.2.ownBlock = some k → v.ownBlock ≠ some k ∧ xb ≤ k
  r : RdB base cur b st
  x : Blk cur tb #[.pointer (some ⟨b, 0, none⟩)] 106
  c : Chg [] w0 cur
theorem Red.step {w0 : World} {base b xb tb : Nat} {v : Value} {L : List OV} {cur cur' : World} {st st' : St} (h : Red w0 base b xb tb v L cur st) (hm : Chg [b] cur cur') (hr : RdB base cur' b st') (hlo : w0.heap.size ≤ b ∧ b < tb ∧ tb < xb ∧ base ≤ tb) : Red w0 base b xb tb v L cur' st' :=
  ⟨ownsRow_chg h.o hm (fun k hk => by have := (World.ownsRow.lt h.o k hk).1; simp; omega), fun x hx => Rd.keep (h.p x hx) hm (fun hn k hk => by have := (h.q x hx hn k hk).2; simp; omega), h.q, hr, h.x.chg hm (by simp; omega), h.c.trans hm (fun x hx hl => by simp at hx; omega)⟩
theorem Red.k {w0 : World} {base b xb tb : Nat} {v : Value} {L : List OV} {cur cur' : World} {st : St} (h : Red w0 base b xb tb v L cur st) (hm : Chg [] cur cur') : Red w0 base b xb tb v L cur' st :=
  ⟨ownsRow_k h.o hm, fun x hx => (h.p x hx).k hm, h.q, h.r.k hm, h.x.k hm, h.c.k' hm⟩
theorem Red.app {w0 : World} {base b xb tb : Nat} {v u : Value} {L : List OV} {cur w6 : World} {st : St} {y : OV} (h : Red w0 base b xb tb v L cur st) (hy : VsS cur y.2 y.1.shape.p) (hyq : ∀ k, y.2.ownBlock = some k → v.ownBlock ≠ some k ∧ xb ≤ k)
    (hg : cur.grownBy w6 v.ownBlock) (hmv : Moved cur v u) (hr : w6.ownsRow xb 120 15 u (L.length + 1) (L.flatMap cOV ++ cOV y)) (hlo : w0.heap.size ≤ b ∧ b < tb ∧ tb < xb ∧ base ≤ tb) :
    Red w0 base b xb tb u (L ++ [y]) w6 st := by
  have hc : Chg v.ownBlock.toList cur w6 := (Chg.refl v.ownBlock.toList cur).grown hg (fun k hk _ => by simp [hk])
  have keep : ∀ x : OV, VsS cur x.2 x.1.shape.p → (0 < x.1.shape.p.length → ∀ k, x.2.ownBlock = some k → v.ownBlock ≠ some k) → VsS w6 x.2 x.1.shape.p := fun x hx hq => Rd.keep hx hc (fun hn k hk hmem => hq hn k hk (by simpa using hmem))
  have apart : ∀ x : OV, VsS cur x.2 x.1.shape.p → (0 < x.1.shape.p.length → ∀ k, x.2.ownBlock = some k → v.ownBlock ≠ some k) → (0 < x.1.shape.p.length → ∀ k, x.2.ownBlock = some k → u.ownBlock ≠ some k) := fun x hx hq hn k hk he => by
    rcases hmv with e | e
    · exact hq hn k hk (e ▸ he)
    · have := e k he; have := hx.own hn k hk; omega
  refine ⟨?_, ?_, ?_, ?_, ?_, ?_⟩
  · rw [List.length_append, List.flatMap_append]
    simpa using hr
  · intro x hx
    rcases List.mem_append.mp hx with hx | hx
    · exact keep x (h.p x hx) (fun hn k hk => (h.q x hx hn k hk).1)
    · rw [List.mem_singleton] at hx; subst hx
      exact keep x hy (fun _ k hk => (hyq k hk).1)
  · intro x hx hn k hk
    rcases List.mem_append.mp hx with hx | hx
    · exact ⟨apart x (h.p x hx) (fun hn k hk => (h.q x hx hn k hk).1) hn k hk, (h.q x hx hn k hk).2⟩
    · rw [List.mem_singleton] at hx; subst hx
      exact ⟨apart x hy (fun _ k hk => (hyq k hk).1) hn k hk, (hyq k hk).2⟩
  · exact h.r.keep hc (fun k hk => by have := (World.ownsRow.lt h.o k (by simpa using hk)).1; omega)
  · exact h.x.grown hg (fun e => by have := (World.ownsRow.lt h.o tb e).1; omega)
  · exact h.c.grown hg (fun k hk hl => by have := (World.ownsRow.lt h.o k hk).1; omega)

end Go.Proofs.YtpadflhffiiglaaGreat
