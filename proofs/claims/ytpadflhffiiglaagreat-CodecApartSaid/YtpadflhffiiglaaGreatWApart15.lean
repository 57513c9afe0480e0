/- Words and walks that Apart rests on: WorldM, OrderU0. -/
import Derived.Test.YtpadflhffiiglaaGreatWApart12
import Derived.Test.YtpadflhffiiglaaGreatWApart7
import Derived.Laws.Rows
import Derived.Laws.Tables
/- Worlds as plain data, and what a value reads as. -/
namespace Go.Proofs.YtpadflhffiiglaaGreat
open Go.RowKit

structure Cnt where
  a : Int
  b : Int
  key : Int
  n : Int
  t : Int
structure Wld where
  tick : Int
  nb : Int
  nj : Int
  grav : V2
  bodies : List Bdy
  joints : List Jnt
  contacts : List Cnt
abbrev BV := Bdy × Value
def cBV (x : BV) : List Value := [.int .i64 x.1.id, .int .i64 x.1.pos.1, .int .i64 x.1.pos.2, .int .i64 x.1.vel.1, .int .i64 x.1.vel.2, .int .i64 x.1.angle, .int .i64 x.1.spin, .int .i64 x.1.density, .int .i64 x.1.shape.kind, .int .i64 x.1.shape.r, x.2]
def cJt (j : Jnt) : List Value := [.int .i64 j.id, .int .i64 j.a, .int .i64 j.b, .int .i64 j.at_.1, .int .i64 j.at_.2, .int .i64 j.to_.1, .int .i64 j.to_.2, .int .i64 j.len]
def cCt (c : Cnt) : List Value := [.int .i64 c.a, .int .i64 c.b, .int .i64 c.key, .int .i64 c.n, .int .i64 c.t]
theorem cBV_len (x : BV) : (cBV x).length = 11 := rfl
theorem cJt_len (x : Jnt) : (cJt x).length = 8 := rfl
theorem cCt_len (x : Cnt) : (cCt x).length = 5 := rfl
theorem cJt_one (x : Jnt) : ∀ v ∈ cJt x, v.oneCell' = true := by
  intro v hv
  simp only [cJt, List.mem_cons, List.not_mem_nil, or_false] at hv
  rcases hv with rfl | rfl | rfl | rfl | rfl | rfl | rfl | rfl <;> rfl
theorem cCt_one (x : Cnt) : ∀ v ∈ cCt x, v.oneCell' = true := by
  intro v hv
  simp only [cCt, List.mem_cons, List.not_mem_nil, or_false] at hv
  rcases hv with rfl | rfl | rfl | rfl | rfl <;> rfl
theorem cBV_one (x : BV) (h : x.2.oneCell' = true) : ∀ v ∈ cBV x, v.oneCell' = true := by
  intro v hv
  simp only [cBV, List.mem_cons, List.not_mem_nil, or_false] at hv
  rcases hv with rfl | rfl | rfl | rfl | rfl | rfl | rfl | rfl | rfl | rfl | rfl <;> first | rfl | exact h
/-- A row of records: its value, and a cell of it. -/
theorem Rd.form {α : Type} {enc : α → List Value} {size : Nat} (hs : 0 < size) {w : World} {v : Value} {l : List α} (h : Rd w size v l.length (l.flatMap enc)) :
    ∃ ao c, v = .slice ao l.length c ∧ l.length ≤ 9223372036854775807 ∧ (0 < l.length → ∃ b off, ao = some ⟨b, off, none⟩ ∧ b < w.heap.size) := by
  have hlt := fun hn => Rd.lt h hn hs
  obtain ⟨_, ao, cap, b, off, rfl, h2, h3, -, h5, -⟩ := h
  refine ⟨ao, cap, rfl, by have : maxLen = 9223372036854775807 := rfl; omega, fun hp => ⟨b, off, h5 hp, ?_⟩⟩
  have := hlt hp
  rw [h5 hp] at this
  exact this b rfl
theorem Rd.cellAt {α : Type} {enc : α → List Value} {size : Nat} (henc : ∀ x, (enc x).length = size) {w : World} {b off n c : Nat} {l : List α} (h : Rd w size (.slice (some ⟨b, off, none⟩) n c) l.length (l.flatMap enc)) (i : Nat) (hi : i < l.length) (j : Nat) (hj : j < size) :
    w.cell? ⟨b, off + i * size + j, none⟩ = some ((enc l[i])[j]'(by rw [henc]; exact hj)) := by
  obtain ⟨h0, ao, cap, b', off', he, h2, h3, h4, h5, h6⟩ := h
  have h5 := h5 (by omega)
  simp only [Value.slice.injEq] at he
  obtain ⟨rfl, -, -⟩ := he
  simp only [Option.some.injEq, Addr.mk.injEq, and_true] at h5
  obtain ⟨rfl, rfl⟩ := h5
  have g := flat_get enc size henc l i j hi hj
  rw [List.getElem?_eq_getElem (l := enc l[i]) (by rw [henc]; exact hj)] at g
  have := h6 (i * size + j) _ g
  rwa [← Nat.add_assoc] at this
structure BsS (w : World) (v : Value) (l : List BV) : Prop where
  rd : Rd w 11 v l.length (l.flatMap cBV)
  ps : ∀ x ∈ l, VsS w x.2 x.1.shape.p
theorem BsS.k {w w' : World} {v : Value} {l : List BV} (h : BsS w v l) (hc : Chg [] w w') : BsS w' v l := ⟨Rd.keep h.rd hc (by simp), fun x hx => (h.ps x hx).k hc⟩
def JsS (w : World) (v : Value) (l : List Jnt) : Prop := Rd w 8 v l.length (l.flatMap cJt)
def CsS (w : World) (v : Value) (l : List Cnt) : Prop := Rd w 5 v l.length (l.flatMap cCt)
theorem JsS.k {w w' : World} {v : Value} {l : List Jnt} (h : JsS w v l) (hc : Chg [] w w') : JsS w' v l := Rd.keep h hc (by simp)
theorem CsS.k {w w' : World} {v : Value} {l : List Cnt} (h : CsS w v l) (hc : Chg [] w w') : CsS w' v l := Rd.keep h hc (by simp)
def vW (W : Wld) (bv jv kv : Value) : Value := .agg #[.int .i64 W.tick, .int .i64 W.nb, .int .i64 W.nj, .int .i64 W.grav.1, .int .i64 W.grav.2, bv, jv, kv]
/-- The parts of a world's value. -/
structure WlP (w : World) (bv jv kv : Value) (L : List BV) (W : Wld) : Prop where
  b : BsS w bv L
  l : L.map (·.1) = W.bodies
  j : JsS w jv W.joints
  c : CsS w kv W.contacts
theorem WlP.k {w w' : World} {bv jv kv : Value} {L : List BV} {W : Wld} (h : WlP w bv jv kv L W) (hc : Chg [] w w') : WlP w' bv jv kv L W := ⟨h.b.k hc, h.l, h.j.k hc, h.c.k hc⟩
/-- A value reads as a world. -/
def WlS (w : World) (x : Value) (W : Wld) : Prop := ∃ bv jv kv L, x = vW W bv jv kv ∧ WlP w bv jv kv L W
theorem WlS.k {w w' : World} {x : Value} {W : Wld} (h : WlS w x W) (hc : Chg [] w w') : WlS w' x W := let ⟨bv, jv, kv, L, e, hp⟩ := h; ⟨bv, jv, kv, L, e, hp.k hc⟩
def leBd (b : Bdy) : List UInt8 := leB 8 b.id ++ leF (fV [b.pos, b.vel]) ++ leF [b.angle, b.spin, b.density] ++ leS b.shape
def leJt (j : Jnt) : List UInt8 := leB 8 j.id ++ leB 8 j.a ++ leB 8 j.b ++ leF (fV [j.at_, j.to_]) ++ leF [j.len]
def leCt (c : Cnt) : List UInt8 := leB 8 c.a ++ leB 8 c.b ++ leB 8 c.key ++ leF [c.n, c.t]
def leW0 (W : Wld) : List UInt8 := leB 8 W.tick ++ leB 8 W.nb ++ leB 8 W.nj ++ leF (fV [W.grav])
def leW1 (W : Wld) : List UInt8 := leW0 W ++ leB 2 W.bodies.length
def leW2 (W : Wld) : List UInt8 := leW1 W ++ W.bodies.flatMap leBd ++ leB 2 W.joints.length
def leW3 (W : Wld) : List UInt8 := leW2 W ++ W.joints.flatMap leJt ++ leB 4 W.contacts.length
def leW (W : Wld) : List UInt8 := leW3 W ++ W.contacts.flatMap leCt
theorem fm_snoc {α : Type} (f : α → List UInt8) (l : List α) (k : Nat) (h : k < l.length) : (l.take (k + 1)).flatMap f = (l.take k).flatMap f ++ f l[k] := by
  rw [List.take_succ_eq_append_getElem h, List.flatMap_append]; simp
theorem fm_le {α : Type} (f : α → List UInt8) (l : List α) (k : Nat) : ((l.take k).flatMap f).length ≤ (l.flatMap f).length := by
  conv => rhs; rw [← List.take_append_drop k l, List.flatMap_append, List.length_append]
  omega
end Go.Proofs.YtpadflhffiiglaaGreat

/- order.used. -/
namespace Go.Proofs.YtpadflhffiiglaaGreat
open Go.RowKit

/-- The record behind a store of the whole of it. -/
theorem Blk.row {w : World} {b : Nat} {cs cs' : Array Value} {t : TypeId} (h : Blk w b cs t) : Blk (w.setRow b cs') b cs' t := setRow_heap w b cs cs' t (0, 0) h
theorem Chg.row {S : List Nat} {a b : World} (h : Chg S a b) (g : Nat) (cs : Array Value) (hg : g < a.heap.size → g ∈ S) : Chg S a (b.setRow g cs) :=
  ⟨h.os, h.tape, h.output, by rw [show (b.setRow g cs).heap.size = b.heap.size by simp [World.setRow]]; exact h.size, fun k hk hn => (setRow_other b g k cs (fun e => hn (e ▸ hg (e ▸ hk)))).trans (h.block k hk hn)⟩
end Go.Proofs.YtpadflhffiiglaaGreat
