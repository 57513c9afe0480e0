/- Blocks of cells, what a call changes, what is kept. No program's function is walked here. -/
import Derived.Test.YtdmokfplkhmijaaBase
import Derived.OneCell
import Derived.Deep.Draws
namespace Go.Proofs.Ytdmokfplkhmijaa
open Go.RowKit

/-- Block b holds the cells cs, none frozen. -/
def Blk (w : World) (b : Nat) (cs : Array Value) (t : TypeId) : Prop := w.heap[b]? = some (.cells cs t (0, 0))
theorem Blk.lt {w : World} {b cs t} (h : Blk w b cs t) : b < w.heap.size := lt_of_block h
theorem Blk.cell {w : World} {b : Nat} {cs : Array Value} {t : TypeId} (h : Blk w b cs t) (j : Nat) : w.cell? ⟨b, j, none⟩ = cs[j]? := cell_of_row w b j cs t (0, 0) h
theorem Blk.free {w : World} {b : Nat} {cs : Array Value} {t : TypeId} (h : Blk w b cs t) (j : Nat) : w.frozen? ⟨b, j, none⟩ = false := frozen_of_row w b j cs t h
theorem Blk.set {w : World} {b : Nat} {cs : Array Value} {t : TypeId} (h : Blk w b cs t) (j : Nat) (u : Value) : Blk (w.setCell ⟨b, j, none⟩ u) b (cs.setIfInBounds j u) t :=
  heap_setCell_same w b j cs t u h
theorem Blk.other {w : World} {b : Nat} {cs : Array Value} {t : TypeId} (h : Blk w b cs t) {a : Addr} (hne : b ≠ a.block) (u : Value) : Blk (w.setCell a u) b cs t :=
  (heap_setCell_other w a b u hne).trans h
theorem Blk.alloc {w : World} {b : Nat} {cs : Array Value} {t : TypeId} (h : Blk w b cs t) (o : Obj) : Blk (w.alloc o) b cs t := (heap_alloc_old w o h.lt).trans h
theorem Blk.new (w : World) (cs : Array Value) (t : TypeId) : Blk (w.alloc (.cells cs t)) w.heap.size cs t := heap_alloc_new w _

/-- From w to w' no block has turned but new ones and those of the list S. -/
structure Chg (S : List Nat) (w w' : World) : Prop where
  os : w'.os = w.os
  tape : w'.tape = w.tape
  output : w'.output = w.output
  size : w.heap.size ≤ w'.heap.size
  block : ∀ k, k < w.heap.size → k ∉ S → w'.heap[k]? = w.heap[k]?

theorem Chg.refl (S : List Nat) (w : World) : Chg S w w := ⟨rfl, rfl, rfl, Nat.le_refl _, fun _ _ _ => rfl⟩
theorem Chg.trans {S S' : List Nat} {a b c : World} (h : Chg S a b) (k : Chg S' b c) (hs : ∀ x ∈ S', x < a.heap.size → x ∈ S) : Chg S a c :=
  ⟨k.os.trans h.os, k.tape.trans h.tape, k.output.trans h.output, Nat.le_trans h.size k.size, fun i hi hn =>
    (k.block i (Nat.lt_of_lt_of_le hi h.size) (fun hx => hn (hs i hx hi))).trans (h.block i hi hn)⟩
theorem Chg.mono {S S' : List Nat} {a b : World} (h : Chg S a b) (hs : ∀ x ∈ S, x < a.heap.size → x ∈ S') : Chg S' a b :=
  ⟨h.os, h.tape, h.output, h.size, fun i hi hn => h.block i hi (fun hx => hn (hs i hx hi))⟩
theorem Chg.alloc {S : List Nat} {a b : World} (h : Chg S a b) (o : Obj) : Chg S a (b.alloc o) :=
  ⟨h.os, h.tape, h.output, Nat.le_trans h.size (by simp), fun i hi hn => (Below.heap_alloc _ _ _ (Nat.lt_of_lt_of_le hi h.size)).trans (h.block i hi hn)⟩
theorem Chg.drew {S : List Nat} {a b : World} (h : Chg S a b) : Chg S a b.drew := ⟨h.os, h.tape, h.output, h.size, h.block⟩
theorem Chg.setCell {S : List Nat} {a b : World} (h : Chg S a b) (p : Addr) (u : Value) (hp : p.block < a.heap.size → p.block ∈ S) : Chg S a (b.setCell p u) :=
  ⟨h.os, h.tape, h.output, by simpa [World.setCell] using h.size, fun i hi hn => (Below.heap_setCell _ _ _ _ (fun e => by subst e; exact hn (hp hi))).trans (h.block i hi hn)⟩
theorem Chg.grown {S : List Nat} {a b c : World} {row : Option Nat} (h : Chg S a b) (hg : b.grownBy c row) (hr : ∀ k, row = some k → k < a.heap.size → k ∈ S) : Chg S a c :=
  ⟨hg.os.trans h.os, hg.tape.trans h.tape, hg.output.trans h.output, Nat.le_trans h.size hg.size, fun i hi hn =>
    (hg.block i (Nat.lt_of_lt_of_le hi h.size) (fun e => hn (hr i e.symm hi))).trans (h.block i hi hn)⟩
theorem Chg.below {S : List Nat} {a b : World} {B : Nat} (h : Chg S a b) (hB : B ≤ a.heap.size) (hs : ∀ x ∈ S, B ≤ x) : Below B a b :=
  ⟨h.os, h.tape, h.output, h.size, fun i hi => h.block i (by omega) (fun hx => by have := hs i hx; omega)⟩
theorem Chg.new {a b : World} (h : Chg [] a b) : Below a.heap.size a b := h.below (Nat.le_refl _) (by simp)
theorem Chg.ofBelow {a b : World} (h : Below a.heap.size a b) : Chg [] a b := ⟨h.os, h.tape, h.output, h.size, fun i hi _ => h.block i hi⟩
theorem Chg.cell {S : List Nat} {w w' : World} (h : Chg S w w') {p : Addr} (hp : p.block < w.heap.size) (hn : p.block ∉ S) : w'.cell? p = w.cell? p := World.cell?_of_block (h.block _ hp hn)
theorem Chg.frozen {S : List Nat} {w w' : World} (h : Chg S w w') {p : Addr} (hp : p.block < w.heap.size) (hn : p.block ∉ S) : w'.frozen? p = w.frozen? p := World.frozen?_of_block (h.block _ hp hn)
theorem Blk.chg {S : List Nat} {w w' : World} {b : Nat} {cs : Array Value} {t : TypeId} (h : Blk w b cs t) (hc : Chg S w w') (hn : b ∉ S) : Blk w' b cs t := (hc.block b h.lt hn).trans h
theorem Blk.below {B : Nat} {w w' : World} {b : Nat} {cs : Array Value} {t : TypeId} (h : Blk w b cs t) (hc : Below B w w') (hn : b < B) : Blk w' b cs t := (hc.block b hn).trans h
theorem Blk.grown {w w' : World} {row : Option Nat} {b : Nat} {cs : Array Value} {t : TypeId} (h : Blk w b cs t) (hc : w.grownBy w' row) (hn : row ≠ some b) : Blk w' b cs t := (hc.block b h.lt (fun e => hn e.symm)).trans h

/-- What is read of a slice is read still where its block has not turned. -/
theorem Rd.keep {S : List Nat} {w w' : World} {size : Nat} {v : Value} {n : Nat} {xs : List Value} (h : Rd w size v n xs) (hc : Chg S w w') (hn : 0 < n → ∀ k, v.ownBlock = some k → k ∉ S) : Rd w' size v n xs := by
  obtain ⟨h0, ao, cap, b, off, rfl, h2, h3, h4, h5, h6⟩ := h
  refine ⟨h0, ao, cap, b, off, rfl, h2, h3, h4, h5, fun j u hu => ?_⟩
  have hcell := h6 j u hu
  have hpos : 0 < n := by
    rcases Nat.eq_zero_or_pos n with rfl | h
    · simp at h0; subst h0; simp at hu
    · exact h
  obtain rfl := h5 hpos
  rw [hc.cell (World.block_lt_of_cell? w _ hcell) (hn hpos b rfl)]
  exact hcell
theorem Bs.keep {S : List Nat} {w w' : World} {v : Value} {l : List UInt8} (h : Bs w v l) (hc : Chg S w w') (hn : 0 < l.length → ∀ k, v.ownBlock = some k → k ∉ S) : Bs w' v l := Rd.keep h hc hn
theorem Bs.stays {w w' : World} {v : Value} {l : List UInt8} (h : Bs w v l) (hc : Chg [] w w') : Bs w' v l := Rd.keep h hc (by simp)
theorem Rd.lt {w : World} {size : Nat} {v : Value} {n : Nat} {xs : List Value} (h : Rd w size v n xs) (hn : 0 < n) (hs : 0 < size) : ∀ k, v.ownBlock = some k → k < w.heap.size := by
  obtain ⟨h0, ao, cap, b, off, rfl, h2, h3, h4, h5, h6⟩ := h
  obtain rfl := h5 hn
  intro k hk
  simp only [Value.ownBlock, Option.some.injEq] at hk
  subst hk
  have hl : 0 < xs.length := by rw [h0]; exact Nat.mul_pos hn hs
  exact World.block_lt_of_cell? w _ (h6 0 _ (List.getElem?_eq_getElem hl))
theorem Bs.lt {w : World} {v : Value} {l : List UInt8} (h : Bs w v l) (hn : 0 < l.length) : ∀ k, v.ownBlock = some k → k < w.heap.size := Rd.lt h hn (by decide)
theorem Bs.alloc {w : World} {v : Value} {l : List UInt8} (h : Bs w v l) (o : Obj) : Bs (w.alloc o) v l := h.stays ((Chg.refl [] w).alloc o)
theorem Bs.setCell {w : World} {v : Value} {l : List UInt8} (h : Bs w v l) (a : Addr) (u : Value) (hn : 0 < l.length → v.ownBlock ≠ some a.block) : Bs (w.setCell a u) v l :=
  h.keep ((Chg.refl [a.block] w).setCell a u (by simp)) (fun hp k hk => by simp; intro e; subst e; exact hn hp hk)
theorem Bs.below {B : Nat} {w w' : World} {v : Value} {l : List UInt8} (h : Bs w v l) (hc : Below B w w') (hn : ∀ k, v.ownBlock = some k → k < B) : Bs w' v l := by
  obtain ⟨h0, ao, cap, b, off, rfl, h2, h3, h4, h5, h6⟩ := h
  refine ⟨h0, ao, cap, b, off, rfl, h2, h3, h4, h5, fun j u hu => ?_⟩
  have hpos : 0 < l.length := by
    have := (List.getElem?_eq_some_iff.1 hu).1; simp at this; omega
  obtain rfl := h5 hpos
  rw [hc.cell (p := ⟨b, off + j, none⟩) (hn b rfl)]
  exact h6 j u hu

theorem Chg.drewN {S : List Nat} {a b : World} (h : Chg S a b) (n : Nat) : Chg S a (b.drewN n) := ⟨h.os, h.tape, h.output, h.size, h.block⟩

/-- v, of n elements, is the call's own: a row of block from base on; it reads as xs. -/
theorem Rd.ofOwn {w : World} {base : Nat} {e : TypeId} {size : Nat} {v : Value} {n : Nat} {xs : List Value} (h : w.ownsRow base e size v n xs) : Rd w size v n xs := by
  refine ⟨h.1, ?_⟩
  rcases h.2 with ⟨rfl, rfl⟩ | ⟨g, cap, cur, rfl, _, hg, hnc, hcm, hcs, htake⟩
  · refine ⟨none, 0, 0, 0, rfl, Nat.le_refl _, by simp [maxLen], fun _ => ⟨rfl, rfl⟩, fun h => absurd h (by omega), fun j u hu => ?_⟩
    have := h.1; simp at this; subst this; simp at hu
  · refine ⟨_, cap, g, 0, rfl, hnc, hcm, fun h => by simp at h, fun _ => rfl, fun j u hu => ?_⟩
    have := h.cells (g := g) rfl j u hu
    have e : (⟨g, 0, none⟩ : Addr).add j = ⟨g, 0 + j, none⟩ := by unfold Addr.add; split <;> simp_all
    rw [e] at this
    exact this

/-- v is a slice of bytes of the call's own that reads as l. -/
def OwB (w : World) (base : Nat) (v : Value) (l : List UInt8) : Prop := w.ownsRow base 5 1 v l.length (l.map vb)
theorem OwB.bs {w : World} {base : Nat} {v : Value} {l : List UInt8} (h : OwB w base v l) : Bs w v l := Rd.ofOwn h
theorem OwB.kept {w w' : World} {row : Option Nat} {base : Nat} {v : Value} {l : List UInt8} (h : OwB w base v l) (hg : w.grownBy w' row) (hne : v.ownBlock = none ∨ v.ownBlock ≠ row) : OwB w' base v l := World.ownsRow.kept h hg hne
theorem OwB.alloc {w : World} {base : Nat} {v : Value} {l : List UInt8} (h : OwB w base v l) (o : Obj) : OwB (w.alloc o) base v l := World.ownsRow.alloc h o
theorem OwB.chg {S : List Nat} {w w' : World} {base : Nat} {v : Value} {l : List UInt8} (h : OwB w base v l) (hc : Chg S w w') (hn : ∀ k, v.ownBlock = some k → k ∉ S) : OwB w' base v l := by
  refine ⟨h.1, ?_⟩
  rcases h.2 with hx | ⟨g, cap, cur, rfl, hb, hg, rest⟩
  · exact .inl hx
  · refine .inr ⟨g, cap, cur, rfl, hb, ?_, rest⟩
    rw [hc.block g (lt_of_block hg) (hn g rfl)]
    exact hg
theorem OwB.mono {w : World} {base base' : Nat} {v : Value} {l : List UInt8} (h : OwB w base v l) (hb : base' ≤ base) : OwB w base' v l := by
  refine ⟨h.1, ?_⟩
  rcases h.2 with hx | ⟨g, cap, cur, rfl, hbg, rest⟩
  · exact .inl hx
  · exact .inr ⟨g, cap, cur, rfl, Nat.le_trans hb hbg, rest⟩
theorem OwB.lo {w : World} {base : Nat} {v : Value} {l : List UInt8} (h : OwB w base v l) : ∀ k, v.ownBlock = some k → base ≤ k ∧ k < w.heap.size := World.ownsRow.lt h
theorem OwB.addr {w : World} {base : Nat} {ao : Option Addr} {n c : Nat} {l : List UInt8} (h : OwB w base (.slice ao n c) l) (hp : 0 < l.length) : ∃ g, ao = some ⟨g, 0, none⟩ ∧ n = l.length ∧ base ≤ g ∧ g < w.heap.size := by
  rcases h.2 with ⟨he, h0⟩ | ⟨g, cap, cur, he, hb, hg, _⟩
  · omega
  · simp only [Value.slice.injEq] at he
    obtain ⟨rfl, rfl, rfl⟩ := he
    exact ⟨g, rfl, rfl, hb, lt_of_block hg⟩
theorem OwB.cell {w : World} {base g n c : Nat} {l : List UInt8} (h : OwB w base (.slice (some ⟨g, 0, none⟩) n c) l) (j : Nat) (hj : j < l.length) : w.cell? ⟨g, j, none⟩ = some (.int .u8 (n8 l[j])) := by
  have := World.ownsRow.cells h (g := g) rfl j (vb l[j]) (by simp [List.getElem?_eq_getElem hj])
  have e : (⟨g, 0, none⟩ : Addr).add j = ⟨g, j, none⟩ := by unfold Addr.add; split <;> simp_all
  rw [e] at this
  exact this
theorem OwB.free {w : World} {base g n c : Nat} {l : List UInt8} (h : OwB w base (.slice (some ⟨g, 0, none⟩) n c) l) (j : Nat) : w.frozen? ⟨g, j, none⟩ = false := by
  rcases h.2 with ⟨he, h0⟩ | ⟨g', cap, cur, he, hb, hg, _⟩
  · simp at he
  · simp only [Value.slice.injEq, Option.some.injEq, Addr.mk.injEq, and_true] at he
    obtain ⟨rfl, _⟩ := he
    exact frozen_of_row w g j cur _ hg
theorem OwB.set {w : World} {base g n c : Nat} {l : List UInt8} (h : OwB w base (.slice (some ⟨g, 0, none⟩) n c) l) (j : Nat) (x : UInt8) : OwB (w.setCell ⟨g, j, none⟩ (.int .u8 (n8 x))) base (.slice (some ⟨g, 0, none⟩) n c) (l.set j x) := by
  rcases h.2 with ⟨he, h0⟩ | ⟨g', cap, cur, he, hb, hg, hnc, hcm, hcs, htake⟩
  · simp at he
  · simp only [Value.slice.injEq, Option.some.injEq, Addr.mk.injEq, and_true] at he
    obtain ⟨rfl, rfl, rfl⟩ := he
    refine ⟨by simp, .inr ⟨g, c, cur.setIfInBounds j (vb x), by simp, hb, heap_setCell_same w g j cur _ _ hg, by simpa using hnc, hcm, by simpa using hcs, ?_⟩⟩
    rw [Array.toList_setIfInBounds, List.map_set, ← htake, List.take_set]
    simp
theorem vb_one (l : List UInt8) : ∀ u ∈ l.map vb, u.oneCell' = true := by
  intro u hu; simp only [List.mem_map] at hu; obtain ⟨x, _, rfl⟩ := hu; rfl
/-- A slice of numbers of 64 bits (int, api.F). -/
def Fs (w : World) (v : Value) (l : List Int) : Prop := Rd w 1 v l.length (l.map (Value.int .i64))
theorem Fs.open {w : World} {v : Value} {l : List Int} (h : Fs w v l) : ∃ ao cap b off, v = .slice ao l.length cap ∧ l.length ≤ cap ∧ cap ≤ 9223372036854775807 ∧ (ao = none → l.length = 0 ∧ cap = 0) ∧
    (0 < l.length → ao = some ⟨b, off, none⟩) ∧ (∀ j (h : j < l.length), w.cell? ⟨b, off + j, none⟩ = some (.int .i64 l[j])) := by
  obtain ⟨_, ao, cap, b, off, h1, h2, h3, h4, h5, h6⟩ := h
  refine ⟨ao, cap, b, off, h1, h2, by simpa [maxLen] using h3, h4, h5, fun j hj => h6 j _ ?_⟩
  simp [List.getElem?_eq_getElem hj]
theorem Fs.chg {S : List Nat} {w w' : World} {v : Value} {l : List Int} (h : Fs w v l) (hc : Chg S w w') (hn : 0 < l.length → ∀ k, v.ownBlock = some k → k ∉ S) : Fs w' v l := Rd.keep h hc hn
theorem Fs.cell {w : World} {b off n c : Nat} {l : List Int} (h : Fs w (.slice (some ⟨b, off, none⟩) n c) l) (j : Nat) (hj : j < l.length) : w.cell? ⟨b, off + j, none⟩ = some (.int .i64 l[j]) := by
  obtain ⟨ao, cap, b', off', he, -, -, -, hao, hc⟩ := h.open
  simp only [Value.slice.injEq] at he
  obtain ⟨rfl, rfl, rfl⟩ := he
  have := hao (by omega)
  simp only [Option.some.injEq, Addr.mk.injEq, and_true] at this
  obtain ⟨rfl, rfl⟩ := this
  exact hc j hj
/-- A literal of ints, just laid. -/
theorem Fs.lit (w : World) (l : List Int) (cs : Array Value) (e : TypeId) (n : Nat) (hcs : cs = (l.map (Value.int .i64)).toArray) (hn : n = l.length) (hl : l.length ≤ 140737488355328) :
    Fs (w.alloc (.cells cs e)) (.slice (some ⟨w.heap.size, 0, none⟩) n n) l := by
  subst hcs; subst hn
  refine ⟨by simp, _, _, w.heap.size, 0, rfl, Nat.le_refl _, by unfold maxLen; omega, by simp, by simp, fun j u hu => ?_⟩
  rw [Nat.zero_add, (Blk.new w _ e).cell]
  simpa using hu
end Go.Proofs.Ytdmokfplkhmijaa
