/- Words and walks that SF rests on: Base, Mem, App, Conv, Slice, KitB, Names, DiskMath, CrashMath, MapN. -/
import Derived.Test.YtbiadpkglcdihaaGreatRows
import Derived.WalkKit
import Derived.WalkSpells
import Derived.WalkLawsBesides
import Derived.Lib.Hide
import Derived.Laws.BitsAllLaws
import Derived.OneCell
import Derived.Deep.Draws
import Derived.Laws.BytesArg
import Derived.Lib.ConvBytes
import Derived.Lib.SlBytesConst
import Derived.Lib.AppendStr
import Derived.Maps.OwnSet
import Derived.Maps.Views
import Derived.Maps.RangeWalk
import Derived.StringKeys
/- Words and lemmas that all walks of this work share: unsigned numbers behind opaque casts, and what a slice reads as. -/
namespace Go.Proofs.YtbiadpkglcdihaaGreat
open Go.RowKit
/-- A fact kept from the walk, and from whatever unfolds. -/
def Hd (p : Prop) : Prop := p
theorem hd {p : Prop} (h : p) : Hd p := h
theorem Hd.out {p : Prop} (h : Hd p) : p := h
attribute [irreducible] Hd


def n8 (x : UInt8) : Int := x.toNat
def n32 (x : UInt32) : Int := x.toNat
theorem n8_lo (x : UInt8) : 0 ≤ n8 x := by unfold n8; omega
theorem n8_hi (x : UInt8) : n8 x < 256 := by have := x.toNat_lt; unfold n8; omega
theorem n32_lo (x : UInt32) : 0 ≤ n32 x := by unfold n32; omega
theorem n32_hi (x : UInt32) : n32 x < 4294967296 := by have := x.toNat_lt; unfold n32; omega
theorem n8_inj {x y : UInt8} : n8 x = n8 y ↔ x = y := by
  unfold n8; constructor
  · intro h; exact UInt8.toNat_inj.1 (by omega)
  · rintro rfl; rfl
theorem n32_inj {x y : UInt32} : n32 x = n32 y ↔ x = y := by
  unfold n32; constructor
  · intro h; exact UInt32.toNat_inj.1 (by omega)
  · rintro rfl; rfl
theorem n32_beq (x y : UInt32) : (n32 x == n32 y) = (x == y) := by rw [Bool.eq_iff_iff]; simp [n32_inj]

theorem u32_xor' (a b : UInt32) : bits .xor .u32 (n32 a) (n32 b) = n32 (a ^^^ b) := by
  unfold n32; rw [u32_xor_nat _ _ a.toNat_lt b.toNat_lt, UInt32.toNat_xor]
theorem u32_and' (a b : UInt32) : bits .and .u32 (n32 a) (n32 b) = n32 (a &&& b) := by
  unfold n32; rw [u32_and_nat _ _ a.toNat_lt b.toNat_lt, UInt32.toNat_and]
theorem u32_or' (a b : UInt32) : bits .or .u32 (n32 a) (n32 b) = n32 (a ||| b) := by
  unfold n32; rw [u32_or_nat _ _ a.toNat_lt b.toNat_lt, UInt32.toNat_or]
theorem u32_not' (a : UInt32) : bits .xor .u32 IntKind.u32.max (n32 a) = n32 (~~~ a) := by
  have h : ~~~ a = 4294967295 ^^^ a := by
    apply UInt32.toBitVec_inj.1
    simp only [UInt32.toBitVec_not, UInt32.toBitVec_xor]
    show _ = 4294967295#32 ^^^ _
    have : (4294967295#32) = BitVec.allOnes 32 := by decide
    rw [this, BitVec.allOnes_xor]
  rw [h]
  exact u32_xor' 4294967295 a
theorem u32_and_1 (a : UInt32) : bits .and .u32 (n32 a) 1 = n32 (a &&& 1) := u32_and' a 1
theorem u32_poly (a : UInt32) : bits .xor .u32 (n32 a) 3988292384 = n32 (a ^^^ 3988292384) := u32_xor' a 3988292384
theorem u8_u32 (x : UInt8) : (n8 x % 4294967296) = n32 x.toUInt32 := by
  have := x.toNat_lt; simp only [n8, n32, UInt8.toNat_toUInt32]; omega
theorem u32_shr1 (a : UInt32) (k : IntKind) : Op.shift .shr .u32 (n32 a) k 1 = pure (.int .u32 (n32 (a >>> 1))) := by
  rw [shift_shr _ _ _ _ (by omega) (by decide)]
  unfold n32; rw [UInt32.toNat_shiftRight]; simp [Nat.shiftRight_eq_div_pow]
theorem u32_shl_k (a : UInt32) (j : Nat) (hj : j < 32) (k : IntKind) : Op.shift .shl .u32 (n32 a) k j = pure (.int .u32 (n32 (a <<< UInt32.ofNat j))) := by
  rw [shift_shl _ _ _ _ (by omega) (by show (j : Int) ≤ 32; omega)]
  unfold n32; rw [UInt32.toNat_shiftLeft]
  simp only [UInt32.toNat_ofNat', Nat.mod_eq_of_lt (show j < 2 ^ 32 by omega), Nat.mod_eq_of_lt hj, Nat.shiftLeft_eq, Int.toNat_natCast]
  rw [IntKind.wrap_u32]
  simp
theorem u32_shl8 (a : UInt32) (k : IntKind) : Op.shift .shl .u32 (n32 a) k 8 = pure (.int .u32 (n32 (a <<< 8))) := u32_shl_k a 8 (by decide) k
theorem u32_shl16 (a : UInt32) (k : IntKind) : Op.shift .shl .u32 (n32 a) k 16 = pure (.int .u32 (n32 (a <<< 16))) := u32_shl_k a 16 (by decide) k
theorem u32_shl24 (a : UInt32) (k : IntKind) : Op.shift .shl .u32 (n32 a) k 24 = pure (.int .u32 (n32 (a <<< 24))) := u32_shl_k a 24 (by decide) k
theorem and_mask (x : Int) (j : Nat) (hj : j ≤ 62) : bits .and .i64 x (2 ^ j - 1) = x % 2 ^ j := by
  have hp : (0 : Int) < 2 ^ j := Int.pow_pos (by decide)
  have hle : (2 : Int) ^ j ≤ 2 ^ 62 := by exact_mod_cast Nat.pow_le_pow_right (n := 2) (by decide) hj
  have h62 : (2 : Int) ^ 62 = 4611686018427387904 := by decide
  rw [h62] at hle
  have hm1 : (BitVec.ofInt 64 ((2 : Int) ^ j - 1)).toNat = 2 ^ j - 1 := by
    rw [BitVec.toNat_ofInt, Int.emod_eq_of_lt (by omega) (by show _ < (18446744073709551616 : Int); omega)]
    have : ((2 : Int) ^ j - 1) = ((2 ^ j - 1 : Nat) : Int) := by rw [Int.natCast_sub Nat.one_le_two_pow]; simp
    rw [this]; simp
  have hx : ((BitVec.ofInt 64 x).toNat : Int) = x % 18446744073709551616 := by
    rw [BitVec.toNat_ofInt]
    exact Int.toNat_of_nonneg (Int.emod_nonneg _ (by decide))
  unfold bits
  simp only
  show IntKind.i64.wrap ((BitVec.ofInt 64 x &&& BitVec.ofInt 64 (2 ^ j - 1)).toNat : Int) = _
  rw [BitVec.toNat_and, hm1, Nat.and_two_pow_sub_one_eq_mod, Int.natCast_emod, hx]
  have hc : ((2 ^ j : Nat) : Int) = 2 ^ j := by simp
  have hd : (2 : Int) ^ j ∣ 18446744073709551616 := by
    refine ⟨2 ^ (64 - j), ?_⟩
    rw [← Int.pow_add, show j + (64 - j) = 64 by omega]; rfl
  rw [hc, Int.emod_emod_of_dvd _ hd, IntWalk.i64_left]
  have h1 := Int.emod_nonneg x (Int.ne_of_gt hp)
  have h2 := Int.emod_lt_of_pos x hp
  exact IntWalk.wrap64_in _ ⟨by omega, by omega⟩
theorem and7 (x : Int) : bits .and .i64 x 7 = x % 8 := and_mask x 3 (by decide)
theorem u8_xor' (a b : UInt8) : bits .xor .u8 (n8 a) (n8 b) = n8 (a ^^^ b) := by
  unfold n8; rw [u8_xor_nat _ _ a.toNat_lt b.toNat_lt, UInt8.toNat_xor]
theorem u8_bit (j : Nat) (hj : j < 8) (k : IntKind) : Op.shift .shl .u8 1 k j = pure (.int .u8 (n8 ((1 : UInt8) <<< UInt8.ofNat j))) := by
  rw [shift_shl _ _ _ _ (by omega) (by show (j : Int) ≤ 8; omega)]
  have : j = 0 ∨ j = 1 ∨ j = 2 ∨ j = 3 ∨ j = 4 ∨ j = 5 ∨ j = 6 ∨ j = 7 := by omega
  rcases this with rfl | rfl | rfl | rfl | rfl | rfl | rfl | rfl <;> rfl
theorem u8_bitv (j : Nat) (hj : j < 8) : (2 : Int) ^ j % 256 = n8 ((1 : UInt8) <<< UInt8.ofNat j) := by
  have : j = 0 ∨ j = 1 ∨ j = 2 ∨ j = 3 ∨ j = 4 ∨ j = 5 ∨ j = 6 ∨ j = 7 := by omega
  rcases this with rfl | rfl | rfl | rfl | rfl | rfl | rfl | rfl <;> rfl
theorem u8_xor_1 (a : UInt8) : bits .xor .u8 (n8 a) 1 = n8 (a ^^^ 1) := u8_xor' a 1
theorem andFFFF (x : Int) : bits .and .i64 x 65535 = x % 65536 := and_mask x 16 (by decide)
theorem n32_eq1 (a : UInt32) : (n32 a == 1) = (a == 1) := n32_beq a 1
/-- v is a slice of n elements of 'size' cells each, and its cells read as xs. -/
def Rd (w : World) (size : Nat) (v : Value) (n : Nat) (xs : List Value) : Prop :=
  xs.length = n * size ∧ ∃ ao cap b off, v = .slice ao n cap ∧ n ≤ cap ∧ cap ≤ maxLen ∧ (ao = none → n = 0 ∧ cap = 0) ∧ (0 < n → ao = some ⟨b, off, none⟩) ∧
    (∀ j u, xs[j]? = some u → w.cell? ⟨b, off + j, none⟩ = some u)
def vb (x : UInt8) : Value := .int .u8 (n8 x)
/-- v is a slice of bytes that reads as l. -/
def Bs (w : World) (v : Value) (l : List UInt8) : Prop := Rd w 1 v l.length (l.map vb)

theorem Bs.open {w : World} {v : Value} {l : List UInt8} (h : Bs w v l) : ∃ ao cap b off, v = .slice ao l.length cap ∧ l.length ≤ cap ∧ cap ≤ 9223372036854775807 ∧ (ao = none → l.length = 0 ∧ cap = 0) ∧
    (0 < l.length → ao = some ⟨b, off, none⟩) ∧ (∀ j (h : j < l.length), w.cell? ⟨b, off + j, none⟩ = some (.int .u8 (n8 l[j]))) := by
  obtain ⟨_, ao, cap, b, off, h1, h2, h3, h4, h5, h6⟩ := h
  refine ⟨ao, cap, b, off, h1, h2, by simpa [maxLen] using h3, h4, h5, fun j hj => h6 j _ ?_⟩
  simp [List.getElem?_eq_getElem hj, vb]

theorem ret_of {a b : Value} (h : a = b) : Ending.returned a = .returned b := by rw [h]
end Go.Proofs.YtbiadpkglcdihaaGreat

/- Blocks of cells, what a call changes, what is kept. No program's function is walked here. -/
namespace Go.Proofs.YtbiadpkglcdihaaGreat
open Go.RowKit

/-- Block b holds the cells cs, none frozen. -/
def Blk (w : World) (b : Nat) (cs : Array Value) (t : TypeId) : Prop := w.heap[b]? = some (.cells cs t (0, 0))
theorem Blk.lt {w : World} {b cs t} (h : Blk w b cs t) : b < w.heap.size := lt_of_block h
theorem Blk.cell {w : World} {b : Nat} {cs : Array Value} {t : TypeId} (h : Blk w b cs t) (j : Nat) : w.cell? ⟨b, j, none⟩ = cs[j]? := cell_of_row w b j cs t (0, 0) h
theorem Blk.free {w : World} {b : Nat} {cs : Array Value} {t : TypeId} (h : Blk w b cs t) (j : Nat) : w.frozen? ⟨b, j, none⟩ = false := frozen_of_row w b j cs t h
theorem Blk.set {w : World} {b : Nat} {cs : Array Value} {t : TypeId} (h : Blk w b cs t) (j : Nat) (u : Value) : Blk (w.setCell ⟨b, j, none⟩ u) b (cs.setIfInBounds j u) t :=
  heap_setCell_same w b j cs t u h
theorem Blk.other {w : World} {b : Nat} {cs : Array Value} {t : TypeId} (h : Blk w b cs t) {a : Addr} (hne : b ≠ a.block) (u : Value) : Blk (w.setCell a u) b cs t :=
  (heap_setCell_other w a b u hne).trans h
theorem Blk.alloc {w : World} {b : Nat} {cs : Array Value} {t : TypeId} (h : Blk w b cs t) (o : Obj) : Blk (w.alloc o) b cs t := (heap_alloc_old w o h.lt).trans h
theorem Blk.new (w : World) (cs : Array Value) (t : TypeId) : Blk (w.alloc (.cells cs t)) w.heap.size cs t := heap_alloc_new w _

/-- From w to w' no block has turned but new ones and those of the list S. -/
structure Chg (S : List Nat) (w w' : World) : Prop where
  os : w'.os = w.os
  tape : w'.tape = w.tape
  output : w'.output = w.output
  size : w.heap.size ≤ w'.heap.size
  block : ∀ k, k < w.heap.size → k ∉ S → w'.heap[k]? = w.heap[k]?

theorem Chg.refl (S : List Nat) (w : World) : Chg S w w := ⟨rfl, rfl, rfl, Nat.le_refl _, fun _ _ _ => rfl⟩
theorem Chg.trans {S S' : List Nat} {a b c : World} (h : Chg S a b) (k : Chg S' b c) (hs : ∀ x ∈ S', x < a.heap.size → x ∈ S) : Chg S a c :=
  ⟨k.os.trans h.os, k.tape.trans h.tape, k.output.trans h.output, Nat.le_trans h.size k.size, fun i hi hn =>
    (k.block i (Nat.lt_of_lt_of_le hi h.size) (fun hx => hn (hs i hx hi))).trans (h.block i hi hn)⟩
theorem Chg.mono {S S' : List Nat} {a b : World} (h : Chg S a b) (hs : ∀ x ∈ S, x < a.heap.size → x ∈ S') : Chg S' a b :=
  ⟨h.os, h.tape, h.output, h.size, fun i hi hn => h.block i hi (fun hx => hn (hs i hx hi))⟩
theorem Chg.alloc {S : List Nat} {a b : World} (h : Chg S a b) (o : Obj) : Chg S a (b.alloc o) :=
  ⟨h.os, h.tape, h.output, Nat.le_trans h.size (by simp), fun i hi hn => (Below.heap_alloc _ _ _ (Nat.lt_of_lt_of_le hi h.size)).trans (h.block i hi hn)⟩
theorem Chg.drew {S : List Nat} {a b : World} (h : Chg S a b) : Chg S a b.drew := ⟨h.os, h.tape, h.output, h.size, h.block⟩
theorem Chg.setCell {S : List Nat} {a b : World} (h : Chg S a b) (p : Addr) (u : Value) (hp : p.block < a.heap.size → p.block ∈ S) : Chg S a (b.setCell p u) :=
  ⟨h.os, h.tape, h.output, by simpa [World.setCell] using h.size, fun i hi hn => (Below.heap_setCell _ _ _ _ (fun e => by subst e; exact hn (hp hi))).trans (h.block i hi hn)⟩
theorem Chg.grown {S : List Nat} {a b c : World} {row : Option Nat} (h : Chg S a b) (hg : b.grownBy c row) (hr : ∀ k, row = some k → k < a.heap.size → k ∈ S) : Chg S a c :=
  ⟨hg.os.trans h.os, hg.tape.trans h.tape, hg.output.trans h.output, Nat.le_trans h.size hg.size, fun i hi hn =>
    (hg.block i (Nat.lt_of_lt_of_le hi h.size) (fun e => hn (hr i e.symm hi))).trans (h.block i hi hn)⟩
theorem Chg.below {S : List Nat} {a b : World} {B : Nat} (h : Chg S a b) (hB : B ≤ a.heap.size) (hs : ∀ x ∈ S, B ≤ x) : Below B a b :=
  ⟨h.os, h.tape, h.output, h.size, fun i hi => h.block i (by omega) (fun hx => by have := hs i hx; omega)⟩
theorem Chg.new {a b : World} (h : Chg [] a b) : Below a.heap.size a b := h.below (Nat.le_refl _) (by simp)
theorem Chg.ofBelow {a b : World} (h : Below a.heap.size a b) : Chg [] a b := ⟨h.os, h.tape, h.output, h.size, fun i hi _ => h.block i hi⟩
theorem Chg.cell {S : List Nat} {w w' : World} (h : Chg S w w') {p : Addr} (hp : p.block < w.heap.size) (hn : p.block ∉ S) : w'.cell? p = w.cell? p := World.cell?_of_block (h.block _ hp hn)
theorem Chg.frozen {S : List Nat} {w w' : World} (h : Chg S w w') {p : Addr} (hp : p.block < w.heap.size) (hn : p.block ∉ S) : w'.frozen? p = w.frozen? p := World.frozen?_of_block (h.block _ hp hn)
theorem Blk.chg {S : List Nat} {w w' : World} {b : Nat} {cs : Array Value} {t : TypeId} (h : Blk w b cs t) (hc : Chg S w w') (hn : b ∉ S) : Blk w' b cs t := (hc.block b h.lt hn).trans h
theorem Blk.below {B : Nat} {w w' : World} {b : Nat} {cs : Array Value} {t : TypeId} (h : Blk w b cs t) (hc : Below B w w') (hn : b < B) : Blk w' b cs t := (hc.block b hn).trans h
theorem Blk.grown {w w' : World} {row : Option Nat} {b : Nat} {cs : Array Value} {t : TypeId} (h : Blk w b cs t) (hc : w.grownBy w' row) (hn : row ≠ some b) : Blk w' b cs t := (hc.block b h.lt (fun e => hn e.symm)).trans h

/-- What is read of a slice is read still where its block has not turned. -/
theorem Rd.keep {S : List Nat} {w w' : World} {size : Nat} {v : Value} {n : Nat} {xs : List Value} (h : Rd w size v n xs) (hc : Chg S w w') (hn : 0 < n → ∀ k, v.ownBlock = some k → k ∉ S) : Rd w' size v n xs := by
  obtain ⟨h0, ao, cap, b, off, rfl, h2, h3, h4, h5, h6⟩ := h
  refine ⟨h0, ao, cap, b, off, rfl, h2, h3, h4, h5, fun j u hu => ?_⟩
  have hcell := h6 j u hu
  have hpos : 0 < n := by
    rcases Nat.eq_zero_or_pos n with rfl | h
    · simp at h0; subst h0; simp at hu
    · exact h
  obtain rfl := h5 hpos
  rw [hc.cell (World.block_lt_of_cell? w _ hcell) (hn hpos b rfl)]
  exact hcell
theorem Bs.keep {S : List Nat} {w w' : World} {v : Value} {l : List UInt8} (h : Bs w v l) (hc : Chg S w w') (hn : 0 < l.length → ∀ k, v.ownBlock = some k → k ∉ S) : Bs w' v l := Rd.keep h hc hn
theorem Bs.stays {w w' : World} {v : Value} {l : List UInt8} (h : Bs w v l) (hc : Chg [] w w') : Bs w' v l := Rd.keep h hc (by simp)
theorem Rd.lt {w : World} {size : Nat} {v : Value} {n : Nat} {xs : List Value} (h : Rd w size v n xs) (hn : 0 < n) (hs : 0 < size) : ∀ k, v.ownBlock = some k → k < w.heap.size := by
  obtain ⟨h0, ao, cap, b, off, rfl, h2, h3, h4, h5, h6⟩ := h
  obtain rfl := h5 hn
  intro k hk
  simp only [Value.ownBlock, Option.some.injEq] at hk
  subst hk
  have hl : 0 < xs.length := by rw [h0]; exact Nat.mul_pos hn hs
  exact World.block_lt_of_cell? w _ (h6 0 _ (List.getElem?_eq_getElem hl))
theorem Bs.lt {w : World} {v : Value} {l : List UInt8} (h : Bs w v l) (hn : 0 < l.length) : ∀ k, v.ownBlock = some k → k < w.heap.size := Rd.lt h hn (by decide)
theorem Bs.alloc {w : World} {v : Value} {l : List UInt8} (h : Bs w v l) (o : Obj) : Bs (w.alloc o) v l := h.stays ((Chg.refl [] w).alloc o)
theorem Bs.setCell {w : World} {v : Value} {l : List UInt8} (h : Bs w v l) (a : Addr) (u : Value) (hn : 0 < l.length → v.ownBlock ≠ some a.block) : Bs (w.setCell a u) v l :=
  h.keep ((Chg.refl [a.block] w).setCell a u (by simp)) (fun hp k hk => by simp; intro e; subst e; exact hn hp hk)
theorem Bs.below {B : Nat} {w w' : World} {v : Value} {l : List UInt8} (h : Bs w v l) (hc : Below B w w') (hn : ∀ k, v.ownBlock = some k → k < B) : Bs w' v l := by
  obtain ⟨h0, ao, cap, b, off, rfl, h2, h3, h4, h5, h6⟩ := h
  refine ⟨h0, ao, cap, b, off, rfl, h2, h3, h4, h5, fun j u hu => ?_⟩
  have hpos : 0 < l.length := by
    have := (List.getElem?_eq_some_iff.1 hu).1; simp at this; omega
  obtain rfl := h5 hpos
  rw [hc.cell (p := ⟨b, off + j, none⟩) (hn b rfl)]
  exact h6 j u hu

theorem Chg.drewN {S : List Nat} {a b : World} (h : Chg S a b) (n : Nat) : Chg S a (b.drewN n) := ⟨h.os, h.tape, h.output, h.size, h.block⟩

/-- v, of n elements, is the call's own: a row of block from base on; it reads as xs. -/
theorem Rd.ofOwn {w : World} {base : Nat} {e : TypeId} {size : Nat} {v : Value} {n : Nat} {xs : List Value} (h : w.ownsRow base e size v n xs) : Rd w size v n xs := by
  refine ⟨h.1, ?_⟩
  rcases h.2 with ⟨rfl, rfl⟩ | ⟨g, cap, cur, rfl, _, hg, hnc, hcm, hcs, htake⟩
  · refine ⟨none, 0, 0, 0, rfl, Nat.le_refl _, by simp [maxLen], fun _ => ⟨rfl, rfl⟩, fun h => absurd h (by omega), fun j u hu => ?_⟩
    have := h.1; simp at this; subst this; simp at hu
  · refine ⟨_, cap, g, 0, rfl, hnc, hcm, fun h => by simp at h, fun _ => rfl, fun j u hu => ?_⟩
    have := h.cells (g := g) rfl j u hu
    have e : (⟨g, 0, none⟩ : Addr).add j = ⟨g, 0 + j, none⟩ := by unfold Addr.add; split <;> simp_all
    rw [e] at this
    exact this

/-- v is a slice of bytes of the call's own that reads as l. -/
def OwB (w : World) (base : Nat) (v : Value) (l : List UInt8) : Prop := w.ownsRow base 5 1 v l.length (l.map vb)
theorem OwB.bs {w : World} {base : Nat} {v : Value} {l : List UInt8} (h : OwB w base v l) : Bs w v l := Rd.ofOwn h
theorem OwB.kept {w w' : World} {row : Option Nat} {base : Nat} {v : Value} {l : List UInt8} (h : OwB w base v l) (hg : w.grownBy w' row) (hne : v.ownBlock = none ∨ v.ownBlock ≠ row) : OwB w' base v l := World.ownsRow.kept h hg hne
theorem OwB.alloc {w : World} {base : Nat} {v : Value} {l : List UInt8} (h : OwB w base v l) (o : Obj) : OwB (w.alloc o) base v l := World.ownsRow.alloc h o
theorem OwB.chg {S : List Nat} {w w' : World} {base : Nat} {v : Value} {l : List UInt8} (h : OwB w base v l) (hc : Chg S w w') (hn : ∀ k, v.ownBlock = some k → k ∉ S) : OwB w' base v l := by
  refine ⟨h.1, ?_⟩
  rcases h.2 with hx | ⟨g, cap, cur, rfl, hb, hg, rest⟩
  · exact .inl hx
  · refine .inr ⟨g, cap, cur, rfl, hb, ?_, rest⟩
    rw [hc.block g (lt_of_block hg) (hn g rfl)]
    exact hg
theorem OwB.mono {w : World} {base base' : Nat} {v : Value} {l : List UInt8} (h : OwB w base v l) (hb : base' ≤ base) : OwB w base' v l := by
  refine ⟨h.1, ?_⟩
  rcases h.2 with hx | ⟨g, cap, cur, rfl, hbg, rest⟩
  · exact .inl hx
  · exact .inr ⟨g, cap, cur, rfl, Nat.le_trans hb hbg, rest⟩
theorem OwB.lo {w : World} {base : Nat} {v : Value} {l : List UInt8} (h : OwB w base v l) : ∀ k, v.ownBlock = some k → base ≤ k ∧ k < w.heap.size := World.ownsRow.lt h
theorem OwB.addr {w : World} {base : Nat} {ao : Option Addr} {n c : Nat} {l : List UInt8} (h : OwB w base (.slice ao n c) l) (hp : 0 < l.length) : ∃ g, ao = some ⟨g, 0, none⟩ ∧ n = l.length ∧ base ≤ g ∧ g < w.heap.size := by
  rcases h.2 with ⟨he, h0⟩ | ⟨g, cap, cur, he, hb, hg, _⟩
  · omega
  · simp only [Value.slice.injEq] at he
    obtain ⟨rfl, rfl, rfl⟩ := he
    exact ⟨g, rfl, rfl, hb, lt_of_block hg⟩
theorem OwB.cell {w : World} {base g n c : Nat} {l : List UInt8} (h : OwB w base (.slice (some ⟨g, 0, none⟩) n c) l) (j : Nat) (hj : j < l.length) : w.cell? ⟨g, j, none⟩ = some (.int .u8 (n8 l[j])) := by
  have := World.ownsRow.cells h (g := g) rfl j (vb l[j]) (by simp [List.getElem?_eq_getElem hj])
  have e : (⟨g, 0, none⟩ : Addr).add j = ⟨g, j, none⟩ := by unfold Addr.add; split <;> simp_all
  rw [e] at this
  exact this
theorem OwB.free {w : World} {base g n c : Nat} {l : List UInt8} (h : OwB w base (.slice (some ⟨g, 0, none⟩) n c) l) (j : Nat) : w.frozen? ⟨g, j, none⟩ = false := by
  rcases h.2 with ⟨he, h0⟩ | ⟨g', cap, cur, he, hb, hg, _⟩
  · simp at he
  · simp only [Value.slice.injEq, Option.some.injEq, Addr.mk.injEq, and_true] at he
    obtain ⟨rfl, _⟩ := he
    exact frozen_of_row w g j cur _ hg
theorem OwB.set {w : World} {base g n c : Nat} {l : List UInt8} (h : OwB w base (.slice (some ⟨g, 0, none⟩) n c) l) (j : Nat) (x : UInt8) : OwB (w.setCell ⟨g, j, none⟩ (.int .u8 (n8 x))) base (.slice (some ⟨g, 0, none⟩) n c) (l.set j x) := by
  rcases h.2 with ⟨he, h0⟩ | ⟨g', cap, cur, he, hb, hg, hnc, hcm, hcs, htake⟩
  · simp at he
  · simp only [Value.slice.injEq, Option.some.injEq, Addr.mk.injEq, and_true] at he
    obtain ⟨rfl, rfl, rfl⟩ := he
    refine ⟨by simp, .inr ⟨g, c, cur.setIfInBounds j (vb x), by simp, hb, heap_setCell_same w g j cur _ _ hg, by simpa using hnc, hcm, by simpa using hcs, ?_⟩⟩
    rw [Array.toList_setIfInBounds, List.map_set, ← htake, List.take_set]
    simp
theorem vb_one (l : List UInt8) : ∀ u ∈ l.map vb, u.oneCell' = true := by
  intro u hu; simp only [List.mem_map] at hu; obtain ⟨x, _, rfl⟩ := hu; rfl
/-- A slice of numbers of 64 bits (int, api.F). -/
def Fs (w : World) (v : Value) (l : List Int) : Prop := Rd w 1 v l.length (l.map (Value.int .i64))
theorem Fs.open {w : World} {v : Value} {l : List Int} (h : Fs w v l) : ∃ ao cap b off, v = .slice ao l.length cap ∧ l.length ≤ cap ∧ cap ≤ 9223372036854775807 ∧ (ao = none → l.length = 0 ∧ cap = 0) ∧
    (0 < l.length → ao = some ⟨b, off, none⟩) ∧ (∀ j (h : j < l.length), w.cell? ⟨b, off + j, none⟩ = some (.int .i64 l[j])) := by
  obtain ⟨_, ao, cap, b, off, h1, h2, h3, h4, h5, h6⟩ := h
  refine ⟨ao, cap, b, off, h1, h2, by simpa [maxLen] using h3, h4, h5, fun j hj => h6 j _ ?_⟩
  simp [List.getElem?_eq_getElem hj]
theorem Fs.chg {S : List Nat} {w w' : World} {v : Value} {l : List Int} (h : Fs w v l) (hc : Chg S w w') (hn : 0 < l.length → ∀ k, v.ownBlock = some k → k ∉ S) : Fs w' v l := Rd.keep h hc hn
theorem Fs.cell {w : World} {b off n c : Nat} {l : List Int} (h : Fs w (.slice (some ⟨b, off, none⟩) n c) l) (j : Nat) (hj : j < l.length) : w.cell? ⟨b, off + j, none⟩ = some (.int .i64 l[j]) := by
  obtain ⟨ao, cap, b', off', he, -, -, -, hao, hc⟩ := h.open
  simp only [Value.slice.injEq] at he
  obtain ⟨rfl, rfl, rfl⟩ := he
  have := hao (by omega)
  simp only [Option.some.injEq, Addr.mk.injEq, and_true] at this
  obtain ⟨rfl, rfl⟩ := this
  exact hc j hj
/-- A literal of ints, just laid. -/
theorem Fs.lit (w : World) (l : List Int) (cs : Array Value) (e : TypeId) (n : Nat) (hcs : cs = (l.map (Value.int .i64)).toArray) (hn : n = l.length) (hl : l.length ≤ 140737488355328) :
    Fs (w.alloc (.cells cs e)) (.slice (some ⟨w.heap.size, 0, none⟩) n n) l := by
  subst hcs; subst hn
  refine ⟨by simp, _, _, w.heap.size, 0, rfl, Nat.le_refl _, by unfold maxLen; omega, by simp, by simp, fun j u hu => ?_⟩
  rw [Nat.zero_add, (Blk.new w _ e).cell]
  simpa using hu
end Go.Proofs.YtbiadpkglcdihaaGreat

/- One law for append onto a row of the call's own, whatever is appended, and what becomes of the row's block. -/
namespace Go.Proofs.YtbiadpkglcdihaaGreat
open Go.RowKit

/-- A slice type's row of the table. -/
def RowT (P : Program) (t e : TypeId) (size bytes : Nat) : Prop :=
  ∃ i z, P.underlying t = some (.slice e) ∧ P.info? e = some i ∧ i.zero = some z ∧ i.size = size ∧ i.bytes = bytes ∧ z.cells.size = size ∧ 0 < size
theorem RowT.mk {P : Program} {t e : TypeId} {z : Value} {size bytes : Nat} (ht : P.underlying t = some (.slice e)) (h : (P.info? e).map (fun i => (i.zero, i.size, i.bytes)) = some (some z, size, bytes)) (hz : z.cells.size = size) (hs : 0 < size) : RowT P t e size bytes := by
  obtain ⟨i, h1, h2, h3, h4⟩ := info_parts h
  exact ⟨i, z, ht, h1, h2, h3, h4, hz, hs⟩

/-- The new value stands in the old one's block, or in a new one. -/
def Moved (w : World) (v v' : Value) : Prop := v'.ownBlock = v.ownBlock ∨ ∀ k, v'.ownBlock = some k → w.heap.size ≤ k

theorem Rd.cells {w : World} {size : Nat} {v : Value} {n : Nat} {xs : List Value} (h : Rd w size v n xs) (hn : 0 < n) : ∃ b off cap, v = .slice (some ⟨b, off, none⟩) n cap ∧ xs.length = n * size ∧ ∀ j u, xs[j]? = some u → w.cell? ((⟨b, off, none⟩ : Addr).add j) = some u := by
  obtain ⟨h0, ao, cap, b, off, rfl, h2, h3, h4, h5, h6⟩ := h
  obtain rfl := h5 hn
  refine ⟨b, off, cap, rfl, h0, fun j u hu => ?_⟩
  have e : (⟨b, off, none⟩ : Addr).add j = ⟨b, off + j, none⟩ := by unfold Addr.add; split <;> simp_all
  rw [e]; exact h6 j u hu

theorem Rd.length {w : World} {size : Nat} {v : Value} {n : Nat} {xs : List Value} (h : Rd w size v n xs) : xs.length = n * size := h.1

theorem run_app {P : Program} (w : World) {t ty e : TypeId} {size bytes : Nat} (hT : RowT P t e size bytes) {base : Nat} {v : Value} {n : Nat} {xs : List Value} (hown : w.ownsRow base e size v n xs)
    {u : Value} {m : Nat} {news : List Value} (hu : Rd w size u m news) (h1 : ∀ u ∈ news, u.oneCell' = true) (hbytes : (n + m) * bytes ≤ 140737488355328) (hcount : n + m ≤ 140737488355328) (hbase : base ≤ w.heap.size) :
    ∃ v' w', (Builtin.append_ #[t, t] ty #[v, u]).run P w = .ok v' w' ∧ w'.ownsRow base e size v' (n + m) (xs ++ news) ∧ w.grownBy w' v.ownBlock ∧ Moved w v v' ∧ (v' = .slice none 0 0 ↔ v = .slice none 0 0 ∧ m = 0) := by
  obtain ⟨i, z, ht, hi, hz, rfl, rfl, hzs, hsz⟩ := hT
  have h63 : n + m ≤ maxLen := by unfold maxLen; omega
  have hsmall : n + m ≤ 9223372036854775807 := by omega
  rcases Nat.eq_zero_or_pos m with rfl | hm
  · -- nothing comes
    have hnews : news = [] := List.eq_nil_of_length_eq_zero (by simpa using hu.1)
    subst hnews
    obtain ⟨_, ao, cap, b, off, rfl, h2, h3, h4, h5, h6⟩ := hu
    have keep : ∀ a : Option Addr, (Builtin.append_ #[t, t] ty #[v, .slice a 0 cap]).run P w = .ok v w := by
      intro a
      rcases hown.2 with ⟨rfl, rfl⟩ | ⟨g, cap', cur, rfl, _, hg, hnc, _⟩
      · cases a <;> simp [Builtin.append_, run_underlying ht, sizeOf, typeInfo, hi, Builtin.lenOf, Builtin.firstCells, loadCells, loadCellsFrom]
      · cases a <;> simp [Builtin.append_, run_underlying ht, sizeOf, typeInfo, hi, Builtin.lenOf, Builtin.firstCells, hnc, storeCells, loadCells, loadCellsFrom]
    exact ⟨v, w, keep _, by simpa using hown, World.grownBy.refl _ _, .inl rfl, by simp⟩
  · obtain ⟨b, off, cap, rfl, hl, hnews⟩ := hu.cells hm
    have hlen : (xs ++ news).length = (n + m) * i.size := by rw [List.length_append, hown.1, hl, Nat.add_mul]
    have grown : ∀ (old : Nat), old < n + m → ∀ (row : Option Nat),
        (w.drew.alloc (.cells (xs.toArray ++ news.toArray ++ Builtin.zeroCells z.cells (grownCap w (n + m) old e - (n + m))) e)).ownsRow base e i.size
          (.slice (some ⟨w.heap.size, 0, none⟩) (n + m) (grownCap w (n + m) old e)) (n + m) (xs ++ news) ∧
        w.grownBy (w.drew.alloc (.cells (xs.toArray ++ news.toArray ++ Builtin.zeroCells z.cells (grownCap w (n + m) old e - (n + m))) e)) row := by
      intro old ho row
      have hge := grownCap_ge w (n + m) old e
      have hcm : grownCap w (n + m) old e ≤ maxLen := grownCap_le_maxLen w (n + m) old e h63
      refine ⟨⟨hlen, .inr ⟨w.heap.size, _, _, rfl, hbase, heap_alloc_new w.drew _, hge, hcm, ?_, ?_⟩⟩, ⟨rfl, rfl, rfl, by simp, fun k hk _ => heap_alloc_old w.drew _ hk⟩⟩
      · simp only [Array.size_append, List.size_toArray, size_zeroCells, hzs, hown.1, hl, ← Nat.add_mul]
        congr 1
        omega
      · simp only [Array.toList_append, List.append_assoc]
        rw [← List.append_assoc, ← hlen]
        exact List.take_left
    have hnew : ∀ (nn cc : Nat) (v : Value), Moved w v (.slice (some ⟨w.heap.size, 0, none⟩) nn cc) := fun _ _ _ => .inr fun k hk => by simp [Value.ownBlock] at hk; omega
    rcases hown.2 with ⟨rfl, rfl⟩ | ⟨g, cap', cur, rfl, hbg, hg, hnc, hcm, hcs, htake⟩
    · have hx : xs = [] := List.eq_nil_of_length_eq_zero (by simpa using hown.1)
      subst hx
      have hr := run_append_nil (P := P) w t ty e i z ht hi hz ⟨b, off, none⟩ m cap news hl hnews (by omega) (by omega) (by have hb := hbytes; simp only [Nat.zero_add] at hb; omega)
      have hgr := grown 0 (by omega) (Value.ownBlock (.slice none 0 0))
      simp only [Nat.zero_add, List.nil_append, Array.empty_append] at hgr ⊢
      exact ⟨_, _, hr, hgr.1, hgr.2, hnew _ _ _, by simp; omega⟩
    · by_cases hroom : n + m ≤ cap'
      · have hfit : n * i.size + news.length ≤ cur.size := by rw [hl, hcs, ← Nat.add_mul]; exact Nat.mul_le_mul_right _ hroom
        have hr := run_append_room (P := P) w t ty e i ht hi g n cap' cur hg ⟨b, off, none⟩ m cap news hl hnews h1 hroom hfit
        refine ⟨_, _, hr, ⟨hlen, .inr ⟨g, cap', _, rfl, hbg, setRow_heap w g cur _ e _ hg, hroom, hcm, ?_, ?_⟩⟩, ⟨rfl, rfl, rfl, by simp, fun k _ hk => setRow_other w g k _ (fun e => hk (by simp [Value.ownBlock, e]))⟩, .inl rfl, by simp⟩
        · simp only [List.size_toArray, List.length_append, List.length_take, List.length_drop, Array.length_toList]
          omega
        · rw [htake, ← hlen]
          exact List.take_left
      · have holds : ∀ j u, xs[j]? = some u → w.cell? ((⟨g, 0, none⟩ : Addr).add j) = some u := hown.cells (g := g) rfl
        have hr := run_append_grow (P := P) w t ty e i z ht hi hz ⟨g, 0, none⟩ n cap' xs hown.1 holds ⟨b, off, none⟩ m cap news hl hnews (by omega) (by omega) (growslice_fits (by omega) hbytes)
        have hgr := grown cap' (by omega) (Value.ownBlock (.slice (some ⟨g, 0, none⟩) n cap'))
        exact ⟨_, _, hr, hgr.1, hgr.2, hnew _ _ _, by simp⟩

theorem wp_app {P : Program} {w : World} {o : Oper} {a : Act} {K : Act → World → Prop} {Q : Exit → Act → World → Prop} {s x : Operand} {t e : TypeId} {size bytes : Nat} (hT : RowT P t e size bytes)
    (ho : o.op = .call { callee := .builtin .append, args := #[s, x], argTypes := #[t, t] }) {base : Nat} {v : Value} {n : Nat} {xs : List Value} (hs : a.eval s = v) (hown : w.ownsRow base e size v n xs)
    {u : Value} {m : Nat} {news : List Value} (hx : a.eval x = u) (hu : Rd w size u m news) (h1 : ∀ u ∈ news, u.oneCell' = true) (hbytes : (n + m) * bytes ≤ 140737488355328) (hcount : n + m ≤ 140737488355328) (hbase : base ≤ w.heap.size)
    (h : ∀ v' w', w'.ownsRow base e size v' (n + m) (xs ++ news) → w.grownBy w' v.ownBlock → Moved w v v' → (v' = .slice none 0 0 ↔ v = .slice none 0 0 ∧ m = 0) → K (a.put o.dst v') w') : o.wp P a w K Q := by
  obtain ⟨v', w', hr, h2, h3, h4, h5⟩ := run_app (P := P) w (ty := o.type) hT hown hu h1 hbytes hcount hbase
  unfold Oper.wp execOp
  simp only [ho, resolve, invoke, builtin, Sem.run_bind, Sem.run_pure, Result.andThen_ok, List.map_toArray, List.map_cons, List.map_nil, hs, hx, hr]
  exact h v' w' h2 h3 h4 h5

theorem wpApp {P : Program} {w : World} {ops : Array Oper} {rest : List Oper} {o : Oper} {a : Act} {Q : Exit → Act → World → Prop} {t e : TypeId} {size bytes : Nat} (hT : RowT P t e size bytes) (hgd : Region.wanted o (yielded ops a.tmps) = true) (s x : Operand)
    (ho : o.op = .call { callee := .builtin .append, args := #[s, x], argTypes := #[t, t] }) (base : Nat) (v : Value) (n : Nat) (xs : List Value) (hs : a.eval s = v) (hown : w.ownsRow base e size v n xs)
    (u : Value) (m : Nat) (news : List Value) (hx : a.eval x = u) (hu : Rd w size u m news) (h1 : ∀ u ∈ news, u.oneCell' = true) (hbytes : (n + m) * bytes ≤ 140737488355328) (hcount : n + m ≤ 140737488355328) (hbase : base ≤ w.heap.size)
    (h : ∀ ao c w', w'.ownsRow base e size (.slice ao (n + m) c) (n + m) (xs ++ news) → w.grownBy w' v.ownBlock → Moved w v (.slice ao (n + m) c) → (ao = none → v = .slice none 0 0 ∧ m = 0) → wpList P ops Q rest (a.put o.dst (.slice ao (n + m) c)) w') : wpList P ops Q (o :: rest) a w :=
  BigFrame.wpList_want hgd fun _ hK => wp_app hT ho hs hown hx hu h1 hbytes hcount hbase fun v' w' h2 h3 h4 h5 => by
    obtain ⟨ao, c, hv, hz⟩ : ∃ ao c, v' = .slice ao (n + m) c ∧ (ao = none → c = 0 ∧ n + m = 0) := by
      rcases h2.2 with ⟨rfl, hz⟩ | ⟨g, cap, cur, rfl, _⟩
      · exact ⟨none, 0, by rw [hz], fun _ => ⟨rfl, hz⟩⟩
      · exact ⟨_, cap, rfl, fun h => by simp at h⟩
    subst hv
    exact hK _ _ (h ao c w' h2 h3 h4 (fun e => h5.1 (by have := hz e; rw [e, this.1, this.2])))

theorem rowBytes : RowT Tryz.prog 39 5 1 1 := RowT.mk (z := .int .u8 0) (by kernel_rfl) (by kernel_rfl) rfl (by decide)

/-- The same for bytes. -/
theorem wpAppB {w : World} {ops : Array Oper} {rest : List Oper} {o : Oper} {a : Act} {Q : Exit → Act → World → Prop} (hgd : Region.wanted o (yielded ops a.tmps) = true) (s x : Operand)
    (ho : o.op = .call { callee := .builtin .append, args := #[s, x], argTypes := #[39, 39] }) (base : Nat) (v : Value) (l : List UInt8) (hs : a.eval s = v) (hown : OwB w base v l)
    (u : Value) (m : List UInt8) (hx : a.eval x = u) (hu : Bs w u m) (hlen : l.length + m.length ≤ 140737488355328) (hbase : base ≤ w.heap.size)
    (h : ∀ ao c w', OwB w' base (.slice ao (l.length + m.length) c) (l ++ m) → w.grownBy w' v.ownBlock → Moved w v (.slice ao (l.length + m.length) c) → wpList Tryz.prog ops Q rest (a.put o.dst (.slice ao (l.length + m.length) c)) w') : wpList Tryz.prog ops Q (o :: rest) a w :=
  wpApp rowBytes hgd s x ho base v _ _ hs hown u _ _ hx hu (vb_one _) (by omega) (by omega) hbase fun ao c w' h1 h2 h3 _ =>
    h ao c w' (by unfold OwB; rw [List.length_append, List.map_append]; exact h1) h2 h3

theorem OwB.nil (w : World) (base : Nat) : OwB w base (.slice none 0 0) [] := World.ownsRow_nil _ _ _ _
/-- Behind what was there, onto a row of the call's own. -/
theorem Chg.app {w1 w2 w3 : World} {base : Nat} {v : Value} {l : List UInt8} (h : Chg [] w1 w2) (hown : OwB w2 base v l) (hg : w2.grownBy w3 v.ownBlock) (hb : w1.heap.size ≤ base) : Chg [] w1 w3 :=
  h.grown hg (fun k hk hlt => by have := (hown.lo k hk).1; omega)
/-- A literal of bytes, just laid. -/
theorem OwB.lit (w : World) (base : Nat) (l : List UInt8) (cs : Array Value) (hcs : cs = (l.map vb).toArray) (hb : base ≤ w.heap.size) (hl : l.length ≤ 140737488355328) :
    OwB (w.alloc (.cells cs 5)) base (.slice (some ⟨w.heap.size, 0, none⟩) l.length l.length) l := by
  subst hcs
  have := World.ownsRow_lit (base := base) (e := 5) (size := 1) w (l.map vb).toArray l.length hb (by unfold maxLen; omega) (by simp)
  unfold OwB
  simpa using this
theorem OwB.one (w : World) (base : Nat) (c : UInt8) (z : Int) (hz : z = n8 c) (hb : base ≤ w.heap.size) :
    OwB (w.alloc (.cells #[.int .u8 z] 5)) base (.slice (some ⟨w.heap.size, 0, none⟩) 1 1) [c] := by
  subst hz
  exact OwB.lit w base [c] _ rfl hb (by simp)
end Go.Proofs.YtbiadpkglcdihaaGreat

/- Laws on conversions between bytes and strings, and on append of zeros. -/
namespace Go.Proofs.YtbiadpkglcdihaaGreat
open Go.RowKit

def strB (l : List UInt8) : ByteArray := ⟨l.toArray⟩
@[simp] theorem strB_data (l : List UInt8) : (strB l).data.toList = l := rfl
@[simp, go_sem] theorem strB_toList (l : List UInt8) : (strB l).toList = l := by rw [ByteArray.toList_eq]; rfl
@[simp] theorem strB_size (l : List UInt8) : (strB l).size = l.length := by simp [strB, ByteArray.size]

theorem undBytes : Tryz.prog.underlying 39 = some (.slice 5) := by kernel_rfl
theorem undByte : Tryz.prog.underlying 5 = some (.int .u8) := by kernel_rfl
theorem undString : Tryz.prog.underlying 9 = some .string := by kernel_rfl

theorem run_str {w : World} {v : Value} {l : List UInt8} (hv : Bs w v l) : (convert 39 9 v).run Tryz.prog w = .ok (.string (strB l)) w := by
  obtain ⟨ao, cap, b, off, rfl, h1, h2, h3, h4, h5⟩ := hv.open
  rcases Nat.eq_zero_or_pos l.length with h0 | h0
  · have hl : l = [] := List.eq_nil_of_length_eq_zero h0
    subst hl
    cases ao with
    | none => rw [run_convert_bytes_nil (P := Tryz.prog) w _ _ undBytes undByte _ _ _ undString]; rfl
    | some a =>
      rw [run_convert_bytes_string w _ _ _ _ _ cap undBytes undByte undString, run_bytesToString w a _ cap [] (by simp [loadCells, loadCellsFrom])]
      rfl
  · obtain rfl := h4 h0
    rw [run_convert_bytes_arg (P := Tryz.prog) w _ _ undBytes undByte b off l.length cap (l.map n8) (by simp) (fun i hi => by
      rw [h5 i hi]; simp [List.getD, List.getElem?_eq_getElem hi]) _ undString]
    congr 2
    unfold strOfNums strB
    congr 1
    congr 1
    rw [List.map_map]
    conv => rhs; rw [← List.map_id l]
    apply List.map_congr_left
    intro x _
    simp [n8]

theorem wpStr {w : World} {ops : Array Oper} {rest : List Oper} {o : Oper} {a : Act} {Q : Exit → Act → World → Prop} (hgd : Region.wanted o (yielded ops a.tmps) = true) (x : Operand)
    (ho : o.op = .convert 39 9 x) (v : Value) (l : List UInt8) (hx : a.eval x = v) (hv : Bs w v l)
    (h : wpList Tryz.prog ops Q rest (a.put o.dst (.string (strB l))) w) : wpList Tryz.prog ops Q (o :: rest) a w :=
  BigFrame.wpList_want hgd fun _ hK => by
    have hr := run_str hv
    unfold Oper.wp execOp
    simp only [ho, Sem.run_bind, Sem.run_pure, Result.andThen_ok, hx, hr]
    exact hK _ _ h

/-- Bytes of a string: a new row, marked behind its end. -/
theorem run_ofStr (w : World) (s : ByteArray) (hs : s.size ≤ 140737488355328) : ∃ c w', (convert 9 39 (.string s)).run Tryz.prog w = .ok (.slice (some ⟨w.heap.size, 0, none⟩) s.size c) w' ∧
    Bs w' (.slice (some ⟨w.heap.size, 0, none⟩) s.size c) s.data.toList ∧ Chg [] w w' := by
  have hlen : s.data.toList.length = s.size := Array.length_toList
  refine ⟨_, _, Lib.run_convert_string_bytes (P := Tryz.prog) w 9 39 5 s undString undBytes undByte, ?_, ?_⟩
  · refine ⟨by simp, _, _, w.heap.size, 0, by rw [hlen], ?_, ?_, by simp, by simp, fun j u hu => ?_⟩
    · rw [hlen]; exact grownCap_ge w s.size 0 _
    · exact grownCap_le_maxLen w s.size 0 _ (by unfold maxLen; omega)
    · have hj : j < s.data.toList.length := by
        have := (List.getElem?_eq_some_iff.1 hu).1; simpa using this
      rw [Nat.zero_add, Lib.bytesWorld_cell w _ s j (by rw [← hlen]; exact hj)]
      rw [List.getElem?_map, List.getElem?_eq_getElem hj] at hu
      simp only [Option.map_some, Option.some.injEq] at hu
      rw [← hu]
      simp only [vb, n8, List.getD, List.getElem?_eq_getElem hj, Option.getD_some]
  · exact ⟨rfl, rfl, rfl, by rw [Lib.bytesWorld_size]; omega, fun k hk _ => Lib.bytesWorld_at_old w _ s k hk⟩

theorem wpOfStr {w : World} {ops : Array Oper} {rest : List Oper} {o : Oper} {a : Act} {Q : Exit → Act → World → Prop} (hgd : Region.wanted o (yielded ops a.tmps) = true) (x : Operand)
    (ho : o.op = .convert 9 39 x) (s : ByteArray) (hx : a.eval x = .string s) (hs : s.size ≤ 140737488355328)
    (h : ∀ b c w', Bs w' (.slice (some ⟨b, 0, none⟩) s.size c) s.data.toList → b = w.heap.size → Chg [] w w' → wpList Tryz.prog ops Q rest (a.put o.dst (.slice (some ⟨b, 0, none⟩) s.size c)) w') : wpList Tryz.prog ops Q (o :: rest) a w :=
  BigFrame.wpList_want hgd fun _ hK => by
    obtain ⟨c, w', hr, h1, h2⟩ := run_ofStr w s hs
    unfold Oper.wp execOp
    simp only [ho, Sem.run_bind, Sem.run_pure, Result.andThen_ok, hx, hr]
    exact hK _ _ (h _ c w' h1 rfl h2)

/-- '[]byte("..")' of a constant. -/
theorem run_const (w : World) (l : List UInt8) (C : Array Value) (hC : C = (l.map vb).toArray) (hl : l.length ≤ 140737488355328) :
    (convert 39 39 (.slice (some ⟨w.heap.size, 0, none⟩) l.length l.length)).run Tryz.prog (w.alloc (.cells C 5)) = .ok (.slice (some ⟨w.heap.size, 0, none⟩) l.length l.length) (w.alloc (.cells C 5 (C.size, C.size + 1))) ∧
    Bs (w.alloc (.cells C 5 (C.size, C.size + 1))) (.slice (some ⟨w.heap.size, 0, none⟩) l.length l.length) l ∧ Chg [] w (w.alloc (.cells C 5 (C.size, C.size + 1))) := by
  subst hC
  refine ⟨Lib.run_convert_bytes_const (P := Tryz.prog) w _ _ _ _ _ undBytes undByte, ⟨by simp, _, _, w.heap.size, 0, rfl, Nat.le_refl _, by unfold maxLen; omega, by simp, by simp, fun j u hu => ?_⟩, (Chg.refl _ _).alloc _⟩
  rw [Nat.zero_add, World.cell?_alloc_mark]
  simpa using hu

theorem Bs.marked (w : World) (l : List UInt8) (C : Array Value) (n : Nat) (hC : C = (l.map vb).toArray) (hn : n = l.length) (hl : l.length ≤ 140737488355328) :
    Bs (w.alloc (.cells C 5 (C.size, C.size + 1))) (.slice (some ⟨w.heap.size, 0, none⟩) n n) l := by
  subst hn; exact (run_const w l C hC hl).2.1
end Go.Proofs.YtbiadpkglcdihaaGreat

/- One law for cutting a slice, whatever its elements. -/
namespace Go.Proofs.YtbiadpkglcdihaaGreat
open Go.RowKit

def Bound (lo : Option Value) (p d : Nat) : Prop := (lo = none ∧ p = d) ∨ ∃ k, lo = some (.int k (p : Int))

theorem run_cut {P : Program} {t e : TypeId} {size bytes : Nat} (hT : RowT P t e size bytes) {w : World} {v : Value} {n : Nat} {xs : List Value} (hv : Rd w size v n xs) {lo hi : Option Value} {p q : Nat}
    (hlo : Bound lo p 0) (hhi : Bound hi q n) (hpq : p ≤ q) (hq : q ≤ n) :
    ∃ ao c, (∀ W, (Instr.sliceAt t v lo hi none).run P W = .ok (.slice ao (q - p) c) W) ∧ Rd w size (.slice ao (q - p) c) (q - p) ((xs.drop (p * size)).take ((q - p) * size)) ∧
      (∀ k, (Value.slice ao (q - p) c).ownBlock = some k → v.ownBlock = some k) := by
  obtain ⟨i, z, ht, hi', hz, rfl, rfl, hzs, hsz⟩ := hT
  obtain ⟨h0, ao, cap, b, off, rfl, h2, h3, h4, h5, h6⟩ := hv
  have hb : ∀ W, (Instr.sliceBounds true n cap lo hi none).run P W = .ok (p, q, cap) W := by
    intro W
    have e1 : ∀ (k : IntKind) (code : BoundsCode), (Instr.sliceBound (.int k (q : Int)) cap code).run P W = .ok q W := by
      intro k code; simp [Instr.sliceBound, asIntOf, show (q : Int) ≤ (cap : Int) by omega, go_sem]
    have e2 : ∀ (k : IntKind) (code : BoundsCode), (Instr.sliceBound (.int k (p : Int)) q code).run P W = .ok p W := by
      intro k code; simp [Instr.sliceBound, asIntOf, show (p : Int) ≤ (q : Int) by omega, go_sem]
    rcases hlo with ⟨rfl, rfl⟩ | ⟨k, rfl⟩ <;> rcases hhi with ⟨rfl, rfl⟩ | ⟨k', rfl⟩ <;> simp [Instr.sliceBounds, e1, e2, go_sem] <;> (intro h; omega)
  refine ⟨if cap = p then ao else ao.map (·.add (p * i.size)), cap - p, fun W => ?_, ⟨?_, _, cap - p, b, if cap = p then off else off + p * i.size, rfl, by omega, by omega, ?_, ?_, ?_⟩, ?_⟩
  · simp [Instr.sliceAt, Instr.slice, run_underlying ht, sizeOf, typeInfo, hi', hb]
  · rw [List.length_take, List.length_drop, h0, ← Nat.sub_mul]
    exact Nat.min_eq_left (Nat.mul_le_mul_right _ (by omega))
  · intro hn
    have : ao = none := by
      split at hn
      · exact hn
      · simpa using hn
    have := h4 this
    omega
  · intro hpos
    rw [h5 (by omega)]
    have hne : ¬ cap = p := by omega
    rw [if_neg hne, if_neg hne]
    simp only [Option.map_some, Option.some.injEq]
    unfold Addr.add; split <;> simp_all
  · intro j u hu
    rw [List.getElem?_take] at hu
    split at hu
    · rename_i hj
      rw [List.getElem?_drop] at hu
      have hpos : 0 < q - p := by
        rcases Nat.eq_zero_or_pos (q - p) with h | h
        · rw [h] at hj; simp at hj
        · exact h
      have hne : ¬ cap = p := by omega
      rw [if_neg hne, Nat.add_assoc]
      exact h6 _ _ hu
    · simp at hu
  · intro k hk
    cases ao with
    | none => split at hk <;> simp [Value.ownBlock] at hk
    | some a =>
      split at hk
      · simpa [Value.ownBlock] using hk
      · have : (a.add (p * i.size)).block = a.block := by unfold Addr.add; split <;> rfl
        simpa [Value.ownBlock, this] using hk

theorem wpCut {P : Program} {w : World} {ops : Array Oper} {rest : List Oper} {o : Oper} {a : Act} {Q : Exit → Act → World → Prop} {t e : TypeId} {size bytes : Nat} (hT : RowT P t e size bytes) (hgd : Region.wanted o (yielded ops a.tmps) = true) (x : Operand) (lo hi : Option Operand)
    (ho : o.op = .slice t x lo hi none) (v : Value) (n : Nat) (xs : List Value) (hx : a.eval x = v) (hv : Rd w size v n xs) (p q : Nat) (hlo : Bound (lo.map a.eval) p 0) (hhi : Bound (hi.map a.eval) q n) (hpq : p ≤ q) (hq : q ≤ n)
    (h : ∀ ao c, Rd w size (.slice ao (q - p) c) (q - p) ((xs.drop (p * size)).take ((q - p) * size)) → (∀ k, (Value.slice ao (q - p) c).ownBlock = some k → v.ownBlock = some k) → wpList P ops Q rest (a.put o.dst (.slice ao (q - p) c)) w) : wpList P ops Q (o :: rest) a w :=
  BigFrame.wpList_want hgd fun _ hK => by
    obtain ⟨ao, c, hr, h2, h3⟩ := run_cut hT hv hlo hhi hpq hq
    unfold Oper.wp execOp
    simp only [ho, Sem.run_bind, Sem.run_pure, Result.andThen_ok, Option.map_none, hx, hr]
    exact hK _ _ (h ao c h2 h3)

theorem wpCutB {w : World} {ops : Array Oper} {rest : List Oper} {o : Oper} {a : Act} {Q : Exit → Act → World → Prop} (hgd : Region.wanted o (yielded ops a.tmps) = true) (x : Operand) (lo hi : Option Operand)
    (ho : o.op = .slice 39 x lo hi none) (v : Value) (l : List UInt8) (hx : a.eval x = v) (hv : Bs w v l) (p q : Nat) (hlo : Bound (lo.map a.eval) p 0) (hhi : Bound (hi.map a.eval) q l.length) (hpq : p ≤ q) (hq : q ≤ l.length)
    (h : ∀ ao c, Bs w (.slice ao (q - p) c) ((l.drop p).take (q - p)) → (∀ k, (Value.slice ao (q - p) c).ownBlock = some k → v.ownBlock = some k) → wpList Tryz.prog ops Q rest (a.put o.dst (.slice ao (q - p) c)) w) : wpList Tryz.prog ops Q (o :: rest) a w :=
  wpCut rowBytes hgd x lo hi ho v _ _ hx hv p q hlo hhi hpq hq fun ao c h1 h2 => h ao c (by
    have e : ((l.drop p).take (q - p)).length = q - p := by rw [List.length_take, List.length_drop]; omega
    unfold Bs; rw [e]; simpa [List.map_take, List.map_drop] using h1) h2
end Go.Proofs.YtbiadpkglcdihaaGreat

/- More words: what is kept over a call that turns nothing old; cuts in a region that draws. -/
namespace Go.Proofs.YtbiadpkglcdihaaGreat
open Go.RowKit

theorem Chg.cellS {w wx : World} {p : Addr} {v : Value} (h : Chg [] w wx) (hc : w.cell? p = some v) : wx.cell? p = some v :=
  (h.cell (World.block_lt_of_cell? w _ hc) (by simp)).trans hc
theorem Chg.frozenS {w wx : World} {p : Addr} {v : Value} (h : Chg [] w wx) (hc : w.cell? p = some v) : wx.frozen? p = w.frozen? p :=
  h.frozen (World.block_lt_of_cell? w _ hc) (by simp)
/- One word for 'kept over what turns nothing old'. -/
theorem Chg.k {a b c : World} (h : Chg [] a b) (hc : Chg [] b c) : Chg [] a c := h.trans hc (by simp)
theorem Bs.k {w w' : World} {v : Value} {l : List UInt8} (h : Bs w v l) (hc : Chg [] w w') : Bs w' v l := h.stays hc
theorem Fs.k {w w' : World} {v : Value} {l : List Int} (h : Fs w v l) (hc : Chg [] w w') : Fs w' v l := h.chg hc (by simp)
theorem OwB.k {w w' : World} {base : Nat} {v : Value} {l : List UInt8} (h : OwB w base v l) (hc : Chg [] w w') : OwB w' base v l := h.chg hc (by simp)
theorem Blk.k {w w' : World} {b : Nat} {cs : Array Value} {t : TypeId} (h : Blk w b cs t) (hc : Chg [] w w') : Blk w' b cs t := h.chg hc (by simp)
theorem elemBytes : Tryz.prog.elem 39 = 5 := by kernel_rfl
/-- append of bytes, as one operation. -/
theorem wp_appB {w : World} {o : Oper} {a : Act} {K : Act → World → Prop} {Q : Exit → Act → World → Prop} (s x : Operand)
    (ho : o.op = .call { callee := .builtin .append, args := #[s, x], argTypes := #[39, 39] }) (base : Nat) (v : Value) (l : List UInt8) (hs : a.eval s = v) (hown : OwB w base v l)
    (u : Value) (m : List UInt8) (hx : a.eval x = u) (hu : Bs w u m) (hlen : l.length + m.length ≤ 140737488355328) (hbase : base ≤ w.heap.size)
    (h : ∀ ao c w', OwB w' base (.slice ao (l.length + m.length) c) (l ++ m) → w.grownBy w' v.ownBlock → Moved w v (.slice ao (l.length + m.length) c) → K (a.put o.dst (.slice ao (l.length + m.length) c)) w') : o.wp Tryz.prog a w K Q := by
  refine wp_app rowBytes ho hs hown hx hu (vb_one _) (by omega) (by omega) hbase fun v' w' h2 h3 h4 h5 => ?_
  obtain ⟨ao, c, hv⟩ : ∃ ao c, v' = .slice ao (l.length + m.length) c := by
    rcases h2.2 with ⟨rfl, hz⟩ | ⟨g, cap, cur, rfl, _⟩
    · exact ⟨none, 0, by rw [hz]⟩
    · exact ⟨_, cap, rfl⟩
  subst hv
  exact h ao c w' (by unfold OwB; rw [List.length_append, List.map_append]; exact h2) h3 h4
theorem Chg.ownGrow {a b c : World} {base : Nat} {e : TypeId} {size n : Nat} {v : Value} {xs : List Value} (h : Chg [] a b) (hown : b.ownsRow base e size v n xs) (hg : b.grownBy c v.ownBlock) (hb : a.heap.size ≤ base) : Chg [] a c :=
  h.grown hg (fun k hk hlt => by have := (World.ownsRow.lt hown k hk).1; omega)
/- Rows of ints of the call's own. -/
theorem rowInt : RowT Tryz.prog 59 3 1 8 := RowT.mk (z := .int .i64 0) (by kernel_rfl) (by kernel_rfl) rfl (by decide)
def OwI (w : World) (base : Nat) (v : Value) (l : List Int) : Prop := w.ownsRow base 3 1 v l.length (l.map (Value.int .i64))
theorem OwI.nil (w : World) (base : Nat) : OwI w base (.slice none 0 0) [] := World.ownsRow_nil _ _ _ _
theorem OwI.fs {w : World} {base : Nat} {v : Value} {l : List Int} (h : OwI w base v l) : Fs w v l := Rd.ofOwn h
theorem OwI.k {w w' : World} {base : Nat} {v : Value} {l : List Int} (h : OwI w base v l) (hc : Chg [] w w') : OwI w' base v l := by
  refine ⟨h.1, ?_⟩
  rcases h.2 with hx | ⟨g, cap, cur, rfl, hb, hg, rest⟩
  · exact .inl hx
  · refine .inr ⟨g, cap, cur, rfl, hb, ?_, rest⟩
    rw [hc.block g (lt_of_block hg) (by simp)]
    exact hg
theorem wpAppI {w : World} {ops : Array Oper} {rest : List Oper} {o : Oper} {a : Act} {Q : Exit → Act → World → Prop} (hgd : Region.wanted o (yielded ops a.tmps) = true) (s x : Operand)
    (ho : o.op = .call { callee := .builtin .append, args := #[s, x], argTypes := #[59, 59] }) (base : Nat) (v : Value) (l : List Int) (hs : a.eval s = v) (hown : OwI w base v l)
    (u : Value) (m : List Int) (hx : a.eval x = u) (hu : Fs w u m) (hlen : l.length + m.length ≤ 10000000000000) (hbase : base ≤ w.heap.size)
    (h : ∀ ao c w', OwI w' base (.slice ao (l.length + m.length) c) (l ++ m) → w.grownBy w' v.ownBlock → wpList Tryz.prog ops Q rest (a.put o.dst (.slice ao (l.length + m.length) c)) w') : wpList Tryz.prog ops Q (o :: rest) a w :=
  wpApp rowInt hgd s x ho base v _ _ hs hown u _ _ hx hu (by intro u hu; obtain ⟨x, _, rfl⟩ := List.mem_map.1 hu; rfl) (by omega) (by omega) hbase fun ao c w' h1 h2 _ _ =>
    h ao c w' (by unfold OwI; rw [List.length_append, List.map_append]; exact h1) h2
/- Rows of different element types lie in different blocks. -/
theorem ownsRow_apart {w : World} {base : Nat} {e : TypeId} {size n : Nat} {v : Value} {xs : List Value} (h : w.ownsRow base e size v n xs) {b : Nat} {cs : Array Value} {t : TypeId} (hb : Blk w b cs t) (ht : t ≠ e) : v.ownBlock ≠ some b := by
  intro he
  rcases h.2 with ⟨rfl, _⟩ | ⟨g, cap, cur, rfl, _, hg, _⟩
  · simp [Value.ownBlock] at he
  · simp only [Value.ownBlock, Option.some.injEq] at he
    subst he
    unfold Blk at hb
    rw [hb] at hg
    simp at hg
    exact ht hg.2
theorem ownsRow_set {w : World} {base : Nat} {e : TypeId} {size n : Nat} {v : Value} {xs : List Value} (h : w.ownsRow base e size v n xs) {b : Nat} {cs : Array Value} {t : TypeId} (hb : Blk w b cs t) (ht : t ≠ e) (i : Nat) (u : Value) : (w.setCell ⟨b, i, none⟩ u).ownsRow base e size v n xs :=
  ownsRow_setCell_other h (a := ⟨b, i, none⟩) (ownsRow_apart h hb ht) u
theorem ownsRow_mono {w : World} {base base' : Nat} {e : TypeId} {size n : Nat} {v : Value} {xs : List Value} (h : w.ownsRow base e size v n xs) (hb : base' ≤ base) : w.ownsRow base' e size v n xs := by
  refine ⟨h.1, ?_⟩
  rcases h.2 with hx | ⟨g, cap, cur, rfl, hbg, rest⟩
  · exact .inl hx
  · exact .inr ⟨g, cap, cur, rfl, Nat.le_trans hb hbg, rest⟩
theorem ownsRow_k {w w' : World} {base : Nat} {e : TypeId} {size n : Nat} {v : Value} {xs : List Value} (h : w.ownsRow base e size v n xs) (hc : Chg [] w w') : w'.ownsRow base e size v n xs := by
  refine ⟨h.1, ?_⟩
  rcases h.2 with hx | ⟨g, cap, cur, rfl, hb, hg, rest⟩
  · exact .inl hx
  · refine .inr ⟨g, cap, cur, rfl, hb, ?_, rest⟩
    rw [hc.block g (lt_of_block hg) (by simp)]
    exact hg
/-- A literal, just laid. -/
theorem Rd.lit (w : World) (size n : Nat) (xs : List Value) (cs : Array Value) (e : TypeId) (hcs : cs = xs.toArray) (hn : xs.length = n * size) (hl : n ≤ 140737488355328) :
    Rd (w.alloc (.cells cs e)) size (.slice (some ⟨w.heap.size, 0, none⟩) n n) n xs := by
  subst hcs
  refine ⟨hn, _, _, w.heap.size, 0, rfl, Nat.le_refl _, by unfold maxLen; omega, by simp, by simp, fun j u hu => ?_⟩
  rw [Nat.zero_add, (Blk.new w _ e).cell]
  simpa using hu
theorem Chg.k' {S : List Nat} {a b c : World} (h : Chg S a b) (hc : Chg [] b c) : Chg S a c := h.trans hc (by simp)
theorem ownsRow_chg {S : List Nat} {w w' : World} {base : Nat} {e : TypeId} {size n : Nat} {v : Value} {xs : List Value} (h : w.ownsRow base e size v n xs) (hc : Chg S w w') (hn : ∀ k, v.ownBlock = some k → k ∉ S) : w'.ownsRow base e size v n xs := by
  refine ⟨h.1, ?_⟩
  rcases h.2 with hx | ⟨g, cap, cur, rfl, hb, hg, rest⟩
  · exact .inl hx
  · refine .inr ⟨g, cap, cur, rfl, hb, ?_, rest⟩
    rw [hc.block g (lt_of_block hg) (hn g rfl)]
    exact hg
theorem wp_appT {P : Program} {w : World} {o : Oper} {a : Act} {K : Act → World → Prop} {Q : Exit → Act → World → Prop} {t e : TypeId} {size bytes : Nat} (hT : RowT P t e size bytes) (s x : Operand)
    (ho : o.op = .call { callee := .builtin .append, args := #[s, x], argTypes := #[t, t] }) (base : Nat) (v : Value) (n : Nat) (xs : List Value) (hs : a.eval s = v) (hown : w.ownsRow base e size v n xs)
    (u : Value) (m : Nat) (news : List Value) (hx : a.eval x = u) (hu : Rd w size u m news) (h1 : ∀ u ∈ news, u.oneCell' = true) (hbytes : (n + m) * bytes ≤ 140737488355328) (hcount : n + m ≤ 140737488355328) (hbase : base ≤ w.heap.size)
    (h : ∀ ao c w', w'.ownsRow base e size (.slice ao (n + m) c) (n + m) (xs ++ news) → w.grownBy w' v.ownBlock → Moved w v (.slice ao (n + m) c) → K (a.put o.dst (.slice ao (n + m) c)) w') : o.wp P a w K Q :=
  wp_app hT ho hs hown hx hu h1 hbytes hcount hbase fun v' w' h2 h3 h4 h5 => by
    obtain ⟨ao, c, hv⟩ : ∃ ao c, v' = .slice ao (n + m) c := by
      rcases h2.2 with ⟨rfl, hz⟩ | ⟨g, cap, cur, rfl, _⟩
      · exact ⟨none, 0, by rw [hz]⟩
      · exact ⟨_, cap, rfl⟩
    subst hv
    exact h ao c w' h2 h3 h4
theorem Chg.cellT {S : List Nat} {w wx : World} {p : Addr} {v : Value} (h : Chg S w wx) (hc : w.cell? p = some v) (hn : p.block ∉ S) : wx.cell? p = some v :=
  (h.cell (World.block_lt_of_cell? w _ hc) hn).trans hc
end Go.Proofs.YtbiadpkglcdihaaGreat

/- A map from strings to ints as a list of names: what the map's datum says. -/
namespace Go.Proofs.YtbiadpkglcdihaaGreat
open Go.RowKit

abbrev Nm := List (List UInt8 × Nat)
def nget (es : Nm) (s : List UInt8) : Option Nat := (es.find? fun p => p.1 == s).map (·.2)
def ndel (es : Nm) (s : List UInt8) : Nm := es.filter fun p => !(p.1 == s)
def nput (es : Nm) (s : List UInt8) (i : Nat) : Nm := ndel es s ++ [(s, i)]

theorem nget_nil (s : List UInt8) : nget [] s = none := rfl
theorem find_ndel_other {es : Nm} {s k : List UInt8} (h : k ≠ s) : (ndel es s).find? (fun p => p.1 == k) = es.find? (fun p => p.1 == k) := by
  unfold ndel
  induction es with
  | nil => rfl
  | cons p es ih =>
    by_cases hp : p.1 = s
    · have hk : (p.1 == k) = false := by rw [hp]; simpa using fun e => h e.symm
      rw [List.filter_cons_of_neg (by simp [hp]), List.find?_cons_of_neg (by simp [hk]), ih]
    · rw [List.filter_cons_of_pos (by simp [hp])]
      by_cases hk : p.1 = k
      · rw [List.find?_cons_of_pos (by simp [hk]), List.find?_cons_of_pos (by simp [hk])]
      · rw [List.find?_cons_of_neg (by simp [hk]), List.find?_cons_of_neg (by simp [hk]), ih]
theorem nget_del_same (es : Nm) (s : List UInt8) : nget (ndel es s) s = none := by
  unfold nget ndel
  rw [List.find?_eq_none.2 (fun p hp => by simpa using (List.mem_filter.1 hp).2)]; rfl
theorem nget_del_other {es : Nm} {s k : List UInt8} (h : k ≠ s) : nget (ndel es s) k = nget es k := by
  unfold nget; rw [find_ndel_other h]
theorem nget_put_same (es : Nm) (s : List UInt8) (i : Nat) : nget (nput es s i) s = some i := by
  have h := nget_del_same es s
  unfold nget at h ⊢
  unfold nput
  rw [List.find?_append]
  simp only [Option.map_eq_none_iff] at h
  rw [h]; simp
theorem nget_put_other {es : Nm} {s k : List UInt8} (h : k ≠ s) (i : Nat) : nget (nput es s i) k = nget es k := by
  rw [← nget_del_other (es := es) h]
  unfold nget nput
  rw [List.find?_append]
  have : [(s, i)].find? (fun p => p.1 == k) = none := by simp; exact fun e => h e.symm
  rw [this]; simp
theorem ndel_keys (es : Nm) (s : List UInt8) : ((ndel es s).map (·.1)) = (es.map (·.1)).filter fun k => !(k == s) := by
  unfold ndel; rw [List.filter_map]; rfl
theorem nodup_del {es : Nm} (h : (es.map (·.1)).Nodup) (s : List UInt8) : ((ndel es s).map (·.1)).Nodup := by rw [ndel_keys]; exact h.filter _
theorem nodup_put {es : Nm} (h : (es.map (·.1)).Nodup) (s : List UInt8) (i : Nat) : ((nput es s i).map (·.1)).Nodup := by
  unfold nput
  rw [List.map_append, List.nodup_append]
  refine ⟨nodup_del h s, by simp, ?_⟩
  intro a ha b hb
  rw [ndel_keys] at ha
  have h1 := (List.mem_filter.1 ha).2
  simp at hb h1
  rw [hb]; exact h1
theorem nget_some_mem {es : Nm} {s : List UInt8} {i : Nat} (h : nget es s = some i) : (s, i) ∈ es := by
  unfold nget at h
  obtain ⟨p, hp, rfl⟩ := Option.map_eq_some_iff.1 h
  have h1 := List.mem_of_find?_eq_some hp
  have h2 := List.find?_some hp
  simp at h2
  rw [← h2]; exact h1
theorem nget_mem_isSome' {es : Nm} {p : List UInt8 × Nat} (h : p ∈ es) : (nget es p.1).isSome := by
  rcases hn : nget es p.1 with _ | j
  · exfalso
    unfold nget at hn
    rw [Option.map_eq_none_iff, List.find?_eq_none] at hn
    exact hn _ h (by simp)
  · rfl
theorem mem_nget {es : Nm} (hn : (es.map (·.1)).Nodup) {s : List UInt8} {i : Nat} (h : (s, i) ∈ es) : nget es s = some i := by
  induction es with
  | nil => cases h
  | cons p es ih =>
    unfold nget
    rw [List.map_cons, List.nodup_cons] at hn
    rcases List.mem_cons.1 h with rfl | h'
    · rw [List.find?_cons_of_pos (by simp)]; rfl
    · have hne : p.1 ≠ s := fun e => hn.1 (e ▸ List.mem_map.2 ⟨(s, i), h', rfl⟩)
      rw [List.find?_cons_of_neg (by simpa using hne)]
      exact ih hn.2 h'
theorem length_ndel {es : Nm} (hn : (es.map (·.1)).Nodup) (s : List UInt8) : (ndel es s).length + (if (nget es s).isSome then 1 else 0) = es.length := by
  induction es with
  | nil => simp [ndel, nget]
  | cons p es ih =>
    rw [List.map_cons, List.nodup_cons] at hn
    have ih := ih hn.2
    by_cases hp : p.1 = s
    · have hno : nget es s = none := by
        rcases h : nget es s with _ | i
        · rfl
        · exact absurd (List.mem_map.2 ⟨(s, i), nget_some_mem h, rfl⟩) (hp ▸ hn.1)
      have h1 : ndel (p :: es) s = ndel es s := by unfold ndel; rw [List.filter_cons_of_neg (by simp [hp])]
      have h2 : nget (p :: es) s = some p.2 := by unfold nget; rw [List.find?_cons_of_pos (by simp [hp])]; rfl
      rw [h1, h2]
      rw [hno] at ih
      simp at ih ⊢
      exact ih
    · have h1 : ndel (p :: es) s = p :: ndel es s := by unfold ndel; rw [List.filter_cons_of_pos (by simp [hp])]
      have h2 : nget (p :: es) s = nget es s := by unfold nget; rw [List.find?_cons_of_neg (by simpa using hp)]
      rw [h1, h2]
      simp only [List.length_cons]
      omega

/-- What the map's datum says, in these words. -/
structure ReadsN (D : DataW Unit) (es : Nm) : Prop where
  nodup : (es.map (·.1)).Nodup
  at_ : ∀ k z, D.atKey (.string k) z = ((nget es k).map fun i => DataW.lit (.int .i64 (i : Int))).getD z
  has : ∀ k, Maps.has D (.string k) = (nget es k).isSome
  size : Maps.size D = es.length
  tidy : Maps.Tidy D
  wf : ∀ p ∈ es, p.2 ≤ 4611686018427387904
theorem ReadsN.empty : ReadsN (.map []) [] := ⟨by simp, fun _ _ => rfl, fun _ => rfl, rfl, Maps.tidy_empty, by simp⟩
theorem str_ne {a b : List UInt8} (h : a ≠ b) : (Lit.string a) ≠ Lit.string b := fun e => h (by injection e)
theorem ReadsN.put {D : DataW Unit} {es : Nm} (h : ReadsN D es) (s : List UInt8) (i : Nat) (hi : i ≤ 4611686018427387904) : ReadsN (D.put (.string s) (.lit (.int .i64 (i : Int)))) (nput es s i) := by
  have hk : WideAt.IsKeyLit (.string s) := trivial
  refine ⟨nodup_put h.nodup s i, fun k z => ?_, fun k => ?_, ?_, h.tidy.put hk _, ?_⟩
  · by_cases hks : k = s
    · subst hks; rw [Maps.atKey_put_same h.tidy.isMap hk, nget_put_same]; rfl
    · rw [Maps.atKey_put_other (str_ne hks), nget_put_other hks, h.at_]
  · by_cases hks : k = s
    · subst hks; rw [Maps.has_put_same h.tidy.isMap hk, nget_put_same]; rfl
    · rw [Maps.has_put_other (str_ne hks), nget_put_other hks, h.has]
  · rw [Maps.size_put h.tidy, h.has, h.size]
    have := length_ndel h.nodup s
    unfold nput
    rw [List.length_append]
    cases hs : (nget es s).isSome <;> rw [hs] at this <;> simp at this ⊢ <;> omega
  · intro p hp
    unfold nput at hp
    rcases List.mem_append.1 hp with hp | hp
    · exact h.wf p (List.mem_filter.1 hp).1
    · obtain rfl : p = (s, i) := by simpa using hp
      exact hi
theorem ReadsN.del {D : DataW Unit} {es : Nm} (h : ReadsN D es) (s : List UInt8) : ReadsN (D.del (.string s)) (ndel es s) := by
  refine ⟨nodup_del h.nodup s, fun k z => ?_, fun k => ?_, ?_, h.tidy.del _, fun p hp => h.wf p (List.mem_filter.1 hp).1⟩
  · by_cases hks : k = s
    · subst hks; rw [Maps.atKey_del_same, nget_del_same]; rfl
    · rw [Maps.atKey_del_other (str_ne hks), nget_del_other hks, h.at_]
  · by_cases hks : k = s
    · subst hks; rw [Maps.has_del_same, nget_del_same]; rfl
    · rw [Maps.has_del_other (str_ne hks), nget_del_other hks, h.has]
  · have h1 := Maps.size_del (k := .string s) h.tidy
    rw [h.has, h.size] at h1
    have := length_ndel h.nodup s
    omega
end Go.Proofs.YtbiadpkglcdihaaGreat

/- The disk as plain data. -/
namespace Go.Proofs.YtbiadpkglcdihaaGreat
open Go.RowKit

structure Dsk where
  room : Int
  files : List (List UInt8 × Nat)
  names : Nm
  sure : Nm
  changes : List (List UInt8 × List UInt8 × Nat)
  ops : Int
  down : Int
  fail : Int
  off : Bool

def newD (room : Int) : Dsk := ⟨max room 0, [], [], [], [], 0, -1, -1, false⟩
/-- An operation begins: the disk behind it, and its error. -/
def opD (d : Dsk) : Dsk := { d with ops := d.ops + 1, off := d.off || decide (0 ≤ d.down ∧ d.down ≤ d.ops) }
def opE (d : Dsk) : Int := if d.off ∨ (0 ≤ d.down ∧ d.down ≤ d.ops) then 8 else if 0 ≤ d.fail ∧ d.ops = d.fail then 7 else 0
def turnD (es : Nm) (c : List UInt8 × List UInt8 × Nat) : Nm :=
  let es := if c.1 = [] then es else ndel es c.1
  if c.2.1 = [] then es else nput es c.2.1 c.2.2
def changeD (d : Dsk) (c : List UInt8 × List UInt8 × Nat) : Dsk := { d with names := turnD d.names c, changes := d.changes ++ [c] }
def signD (c : UInt8) : Bool := (97 ≤ c.toNat && c.toNat ≤ 122) || (48 ≤ c.toNat && c.toNat ≤ 57) || c.toNat = 45
def nameD (s : List UInt8) : Bool := s.all signD && (s ≠ [] && s.length ≤ 24)
def sizeD (d : Dsk) : Nat := (d.names.map fun p => (d.files.getD p.2 ([], 0)).1.length).sum

def createE (d : Dsk) (s : List UInt8) : Int :=
  if opE d ≠ 0 then opE d else if ¬ nameD s then 2 else if (nget d.names s).isSome then 5 else if 64 ≤ d.names.length then 3 else 0
def createD (d : Dsk) (s : List UInt8) : Dsk :=
  if createE d s ≠ 0 then opD d else changeD { opD d with files := d.files ++ [([], 0)] } ([], s, d.files.length)
def appendE (d : Dsk) (s : List UInt8) (b : List UInt8) : Int :=
  if opE d ≠ 0 then opE d else if (nget d.names s).isNone then 4 else if d.room < (sizeD d : Int) + b.length then 6 else 0
def setF (d : Dsk) (i : Nat) (f : List UInt8 × Nat) : Dsk := { d with files := d.files.set i f }
def appendD (d : Dsk) (s : List UInt8) (b : List UInt8) : Dsk :=
  if appendE d s b ≠ 0 then opD d else
  match nget d.names s with
  | none => opD d
  | some i => setF (opD d) i ((d.files.getD i ([], 0)).1 ++ b, (d.files.getD i ([], 0)).2)
def syncE (d : Dsk) (s : List UInt8) : Int := if opE d ≠ 0 then opE d else if (nget d.names s).isNone then 4 else 0
def syncD (d : Dsk) (s : List UInt8) : Dsk :=
  if syncE d s ≠ 0 then opD d else
  match nget d.names s with
  | none => opD d
  | some i => setF (opD d) i ((d.files.getD i ([], 0)).1, (d.files.getD i ([], 0)).1.length)
def dirSyncD (d : Dsk) : Dsk := if opE d ≠ 0 then opD d else { opD d with sure := d.names, changes := [] }
def bytesD (d : Dsk) (s : List UInt8) : List UInt8 := match nget d.names s with | none => [] | some i => (d.files.getD i ([], 0)).1

/-- A disk as it may be. -/
structure GoodD (d : Dsk) : Prop where
  room : 0 ≤ d.room ∧ d.room ≤ 9223372036854775807
  named : ∀ p ∈ d.names, p.2 < d.files.length
  sured : ∀ p ∈ d.sure, p.2 < d.files.length
  turned : ∀ c ∈ d.changes, c.2.1 ≠ [] → c.2.2 < d.files.length
  idx : ∀ c ∈ d.changes, c.2.2 ≤ d.files.length
  files : ∀ f ∈ d.files, f.2 ≤ f.1.length ∧ (f.1.length : Int) ≤ d.room ∧ f.1.length ≤ 4294967296
  ops : 0 ≤ d.ops ∧ d.ops ≤ 1073741824
  nfiles : (d.files.length : Int) ≤ d.ops
  nnames : (d.names.length : Int) ≤ d.ops
  nchanges : (d.sure.length + d.changes.length : Int) ≤ d.ops
  clens : ∀ c ∈ d.changes, c.1.length ≤ 140737488355328 ∧ c.2.1.length ≤ 140737488355328

theorem GoodD.scal {d d' : Dsk} (h : GoodD d) (e1 : d'.room = d.room) (e2 : d'.files = d.files) (e3 : d'.names = d.names) (e4 : d'.sure = d.sure) (e5 : d'.changes = d.changes) (h1 : d.ops ≤ d'.ops) (h2 : d'.ops ≤ 1073741824) : GoodD d' := by
  have ⟨a0, a1, a2, a3, a4, a5, a6, a7, a8, a9, a10⟩ := h
  refine ⟨?_, ?_, ?_, ?_, ?_, ?_, ⟨?_, h2⟩, ?_, ?_, ?_, ?_⟩ <;> (try simp only [e1, e2, e3, e4, e5]) <;> first | assumption | omega
theorem GoodD.op {d : Dsk} (h : GoodD d) (ho : d.ops < 1073741824) : GoodD (opD d) := h.scal rfl rfl rfl rfl rfl (by simp only [opD]; omega) (by simp only [opD]; omega)
theorem length_nput {es : Nm} (hn : (es.map (·.1)).Nodup) (s : List UInt8) (i : Nat) : (nput es s i).length ≤ es.length + 1 := by
  have := length_ndel hn s
  unfold nput
  rw [List.length_append]
  simp only [List.length_cons, List.length_nil]
  split at this <;> omega
theorem mem_turnD {es : Nm} {c : List UInt8 × List UInt8 × Nat} {p : List UInt8 × Nat} (h : p ∈ turnD es c) : p ∈ es ∨ (c.2.1 ≠ [] ∧ p = (c.2.1, c.2.2)) := by
  unfold turnD at h
  simp only at h
  have hd : ∀ {es : Nm} {s : List UInt8}, p ∈ ndel es s → p ∈ es := fun hp => (List.mem_filter.1 hp).1
  by_cases hc : c.2.1 = []
  · rw [if_pos hc] at h
    split at h
    · exact .inl h
    · exact .inl (hd h)
  · rw [if_neg hc] at h
    unfold nput at h
    rcases List.mem_append.1 h with h | h
    · left
      split at h
      · exact hd h
      · exact hd (hd h)
    · right
      exact ⟨hc, by simpa using h⟩
theorem nodup_turn {es : Nm} (hn : (es.map (·.1)).Nodup) (c : List UInt8 × List UInt8 × Nat) : ((turnD es c).map (·.1)).Nodup := by
  unfold turnD
  have h1 : ((if c.1 = [] then es else ndel es c.1).map (·.1)).Nodup := by split; exact hn; exact nodup_del hn _
  simp only
  split
  · exact h1
  · exact nodup_put h1 _ _
theorem length_turn {es : Nm} (hn : (es.map (·.1)).Nodup) (c : List UInt8 × List UInt8 × Nat) : (turnD es c).length ≤ es.length + 1 := by
  unfold turnD
  have h1 : (if c.1 = [] then es else ndel es c.1).length ≤ es.length := by split; exact Nat.le_refl _; exact List.length_filter_le _ _
  have h2 : ((if c.1 = [] then es else ndel es c.1).map (·.1)).Nodup := by split; exact hn; exact nodup_del hn _
  simp only
  split
  · omega
  · have := length_nput h2 c.2.1 c.2.2; omega
theorem opE_of {d : Dsk} (h1 : d.off = false) (h2 : d.down = -1) (h3 : d.fail = -1) : opE d = 0 := by
  unfold opE; rw [h1, h2, h3]; simp
end Go.Proofs.YtbiadpkglcdihaaGreat

/- A crash, as plain data. -/
namespace Go.Proofs.YtbiadpkglcdihaaGreat

def namedN (es : Nm) (j : Nat) : Bool := es.any fun p => p.2 == j
/-- The new index of file i. -/
def atN (es : Nm) (i : Nat) : Nat := ((List.range i).filter (namedN es)).length
def keepF (es : Nm) (fs : List (List UInt8 × Nat)) (n : Nat) : List (List UInt8 × Nat) := ((List.range n).filter (namedN es)).map fun i => ((fs.getD i ([], 0)).1, (fs.getD i ([], 0)).1.length)
def movedN (es : Nm) : Nm := es.map fun p => (p.1, atN es p.2)
def settleD (d : Dsk) : Dsk :=
  { d with files := keepF d.names d.files d.files.length, names := movedN d.names, sure := movedN d.names, changes := [], off := false, down := -1, fail := -1 }
def cutF : List (List UInt8 × Nat) → List Int → List (List UInt8 × Nat)
  | [], _ => []
  | f :: l, kept =>
    if f.2 < f.1.length then (f.1.take (f.2 + (min (max (kept.headD 0) 0) ((f.1.length : Int) - f.2)).toNat), f.2) :: cutF l kept.tail else f :: cutF l kept
def crashD (d : Dsk) (n : Int) (kept : List Int) : Dsk :=
  settleD { d with files := cutF d.files kept, names := (d.changes.take (min (max n 0) d.changes.length).toNat).foldl turnD d.sure }

theorem atN_le (es : Nm) (i : Nat) : atN es i ≤ i := by
  unfold atN; exact Nat.le_trans (List.length_filter_le _ _) (by simp)
theorem keepF_length (es : Nm) (fs : List (List UInt8 × Nat)) (n : Nat) : (keepF es fs n).length = atN es n := by simp [keepF, atN]
theorem atN_succ (es : Nm) (i : Nat) : atN es (i + 1) = atN es i + (if namedN es i then 1 else 0) := by
  unfold atN; rw [List.range_succ, List.filter_append]; by_cases h : namedN es i <;> simp [h]
theorem atN_mono (es : Nm) {i j : Nat} (h : i ≤ j) : atN es i ≤ atN es j := by
  induction j with
  | zero => simp at h; subst h; exact Nat.le_refl _
  | succ j ih =>
    by_cases hj : i = j + 1
    · subst hj; exact Nat.le_refl _
    · rw [atN_succ]; have := ih (by omega); omega
theorem atN_lt {es : Nm} {i n : Nat} (h : i < n) (hn : namedN es i = true) : atN es i < atN es n := by
  have h1 := atN_mono es (show i + 1 ≤ n by omega)
  rw [atN_succ, if_pos hn] at h1
  omega
theorem keepF_succ (es : Nm) (fs : List (List UInt8 × Nat)) (n : Nat) : keepF es fs (n + 1) = keepF es fs n ++ (if namedN es n then [((fs.getD n ([], 0)).1, (fs.getD n ([], 0)).1.length)] else []) := by
  unfold keepF; rw [List.range_succ, List.filter_append, List.map_append]; by_cases h : namedN es n <;> simp [h]
theorem named_of_mem {es : Nm} {p : List UInt8 × Nat} (h : p ∈ es) : namedN es p.2 = true := by
  unfold namedN; rw [List.any_eq_true]; exact ⟨p, h, by simp⟩
theorem cutF_length : ∀ (l : List (List UInt8 × Nat)) (kept : List Int), (cutF l kept).length = l.length
  | [], _ => rfl
  | f :: l, kept => by
    unfold cutF
    split <;> simp [cutF_length l]
theorem cutF_files {P : List UInt8 × Nat → Prop} (hP : ∀ (f : List UInt8 × Nat) (k : Nat), P f → f.2 < f.1.length → P (f.1.take (f.2 + k), f.2)) : ∀ (l : List (List UInt8 × Nat)) (kept : List Int), (∀ f ∈ l, P f) → ∀ f ∈ cutF l kept, P f
  | [], _, _, f, hf => by simp [cutF] at hf
  | g :: l, kept, h, f, hf => by
    unfold cutF at hf
    split at hf
    · rename_i hlt
      rcases List.mem_cons.1 hf with rfl | hf
      · exact hP g _ (h g (by simp)) hlt
      · exact cutF_files hP l _ (fun x hx => h x (by simp [hx])) f hf
    · rcases List.mem_cons.1 hf with rfl | hf
      · exact h f (by simp)
      · exact cutF_files hP l _ (fun x hx => h x (by simp [hx])) f hf
theorem foldl_turn (es : Nm) (cs : List (List UInt8 × List UInt8 × Nat)) : (es.map (·.1)).Nodup → ((cs.foldl turnD es).map (·.1)).Nodup ∧ (cs.foldl turnD es).length ≤ es.length + cs.length ∧
    ∀ p ∈ cs.foldl turnD es, p ∈ es ∨ ∃ c ∈ cs, c.2.1 ≠ [] ∧ p = (c.2.1, c.2.2) := by
  induction cs generalizing es with
  | nil => intro h; exact ⟨h, by simp, fun p hp => .inl hp⟩
  | cons c cs ih =>
    intro h
    obtain ⟨h1, h2, h3⟩ := ih (turnD es c) (nodup_turn h c)
    have h4 := length_turn h c
    refine ⟨h1, by simp only [List.foldl_cons, List.length_cons]; omega, fun p hp => ?_⟩
    rcases h3 p hp with hp | ⟨c', hc', hx⟩
    · rcases mem_turnD hp with hp | hx
      · exact .inl hp
      · exact .inr ⟨c, by simp, hx⟩
    · exact .inr ⟨c', by simp [hc'], hx⟩
theorem GoodD.settle {d : Dsk} (h : GoodD d) (hf : ∀ f ∈ d.files, (f.1.length : Int) ≤ d.room ∧ f.1.length ≤ 4294967296) : GoodD (settleD d) := by
  have hl : (settleD d).files.length = atN d.names d.files.length := keepF_length _ _ _
  have hle := atN_le d.names d.files.length
  have hnm : ∀ p ∈ movedN d.names, p.2 < (settleD d).files.length := by
    intro p hp
    obtain ⟨q, hq, rfl⟩ := List.mem_map.1 hp
    rw [hl]
    exact atN_lt (h.named q hq) (named_of_mem hq)
  refine ⟨h.room, hnm, hnm, by simp [settleD], by simp [settleD], fun f hf' => ?_, h.ops, ?_, ?_, ?_, by simp [settleD]⟩
  · obtain ⟨i, hi, rfl⟩ := List.mem_map.1 hf'
    have hi2 : i < d.files.length := by simpa using (List.mem_filter.1 hi).1
    have hg : d.files.getD i ([], 0) = d.files[i] := by rw [List.getD_eq_getElem?_getD, List.getElem?_eq_getElem hi2]; rfl
    rw [hg]
    exact ⟨Nat.le_refl _, hf d.files[i] (List.getElem_mem hi2)⟩
  · rw [hl]; have := h.nfiles; show (_ : Int) ≤ d.ops; omega
  · show ((movedN d.names).length : Int) ≤ d.ops; unfold movedN; rw [List.length_map]; exact h.nnames
  · show ((movedN d.names).length : Int) + (([] : List (List UInt8 × List UInt8 × Nat)).length : Int) ≤ d.ops
    unfold movedN; rw [List.length_map]; simpa using h.nnames
theorem GoodD.cut {d : Dsk} (h : GoodD d) (hn : (d.sure.map (·.1)).Nodup) (kept : List Int) (m : Nat) : GoodD { d with files := cutF d.files kept, names := (d.changes.take m).foldl turnD d.sure } := by
  have hl := cutF_length d.files kept
  obtain ⟨-, h2, h3⟩ := foldl_turn d.sure (d.changes.take m) hn
  have hc := h.nchanges
  have hm : (d.changes.take m).length ≤ d.changes.length := by rw [List.length_take]; omega
  refine { h with named := fun p hp => ?_, sured := ?_, turned := ?_, idx := ?_, files := ?_, nfiles := ?_, nnames := ?_ } <;> simp only [hl]
  · rcases h3 p hp with hp | ⟨c, hc, hne, rfl⟩
    · exact h.sured p hp
    · exact h.turned c (List.mem_of_mem_take hc) hne
  · exact h.sured
  · exact h.turned
  · exact h.idx
  · exact cutF_files (P := fun f => f.2 ≤ f.1.length ∧ (f.1.length : Int) ≤ d.room ∧ f.1.length ≤ 4294967296) (fun f k hf hlt => by simp only [List.length_take]; omega) d.files kept h.files
  · exact h.nfiles
  · omega
theorem moved_nodup {es : Nm} (h : (es.map (·.1)).Nodup) : ((movedN es).map (·.1)).Nodup := by
  unfold movedN; rw [List.map_map]; exact h
theorem nget_moved {es : Nm} (k : List UInt8) : nget (movedN es) k = (nget es k).map (atN es) := by
  unfold nget movedN
  rw [List.find?_map, Option.map_map, Option.map_map]
  rfl
def restK : List (List UInt8 × Nat) → List Int → List Int
  | [], kept => kept
  | f :: l, kept => if f.2 < f.1.length then restK l kept.tail else restK l kept
def cutOne (f : List UInt8 × Nat) (kept : List Int) : List UInt8 × Nat := (f.1.take (f.2 + (min (max (kept.headD 0) 0) ((f.1.length : Int) - f.2)).toNat), f.2)
theorem cutF_snoc (f : List UInt8 × Nat) : ∀ (l : List (List UInt8 × Nat)) (kept : List Int), cutF (l ++ [f]) kept = cutF l kept ++ [if f.2 < f.1.length then cutOne f (restK l kept) else f] ∧ restK (l ++ [f]) kept = if f.2 < f.1.length then (restK l kept).tail else restK l kept
  | [], kept => by
    by_cases h : f.2 < f.1.length <;> simp [cutF, restK, cutOne, h]
  | g :: l, kept => by
    by_cases h : g.2 < g.1.length
    · have ih := cutF_snoc f l kept.tail
      simp only [List.cons_append, cutF, restK, if_pos h, ih.1, ih.2]
      exact ⟨trivial, trivial⟩
    · have ih := cutF_snoc f l kept
      simp only [List.cons_append, cutF, restK, if_neg h, ih.1, ih.2]
      exact ⟨trivial, trivial⟩
def filesAt (fs : List (List UInt8 × Nat)) (kept : List Int) (k : Nat) : List (List UInt8 × Nat) := cutF (fs.take k) kept ++ fs.drop k
def keptAt (fs : List (List UInt8 × Nat)) (kept : List Int) (k : Nat) : List Int := restK (fs.take k) kept
theorem filesAt_zero (fs : List (List UInt8 × Nat)) (kept : List Int) : filesAt fs kept 0 = fs := by simp [filesAt, cutF]
theorem keptAt_zero (fs : List (List UInt8 × Nat)) (kept : List Int) : keptAt fs kept 0 = kept := by simp [keptAt, restK]
theorem filesAt_all (fs : List (List UInt8 × Nat)) (kept : List Int) : filesAt fs kept fs.length = cutF fs kept := by simp [filesAt]
theorem filesAt_length (fs : List (List UInt8 × Nat)) (kept : List Int) (k : Nat) : (filesAt fs kept k).length = fs.length := by
  unfold filesAt; rw [List.length_append, cutF_length, ← List.length_append, List.take_append_drop]
theorem filesAt_get (fs : List (List UInt8 × Nat)) (kept : List Int) (k : Nat) (h : k < fs.length) : (filesAt fs kept k)[k]? = some fs[k] := by
  unfold filesAt
  rw [List.getElem?_append_right (by rw [cutF_length, List.length_take]; omega), cutF_length, List.length_take, Nat.min_eq_left (by omega), Nat.sub_self, List.getElem?_drop, Nat.add_zero, List.getElem?_eq_getElem h]
theorem filesAt_succ (fs : List (List UInt8 × Nat)) (kept : List Int) (k : Nat) (h : k < fs.length) :
    filesAt fs kept (k + 1) = (filesAt fs kept k).set k (if fs[k].2 < fs[k].1.length then cutOne fs[k] (keptAt fs kept k) else fs[k]) ∧
    keptAt fs kept (k + 1) = if fs[k].2 < fs[k].1.length then (keptAt fs kept k).tail else keptAt fs kept k := by
  have e : fs.take (k + 1) = fs.take k ++ [fs[k]] := by rw [List.take_succ_eq_append_getElem h]
  have hs := cutF_snoc fs[k] (fs.take k) kept
  unfold filesAt keptAt
  rw [e, hs.1, hs.2]
  refine ⟨?_, rfl⟩
  have hl : (cutF (fs.take k) kept).length = k := by rw [cutF_length, List.length_take]; omega
  rw [List.set_append_right k _ (by omega), hl, Nat.sub_self, List.append_assoc]
  congr 1
  rw [List.drop_eq_getElem_cons h]
  rfl
end Go.Proofs.YtbiadpkglcdihaaGreat

/- A map from strings to ints in memory, and its operations in these words. -/
namespace Go.Proofs.YtbiadpkglcdihaaGreat
open Go.RowKit

theorem strKeyed : Maps.Keyed Tryz.prog 9 := Maps.string_keyed undString
theorem undMapN : Tryz.prog.underlying 71 = some (.map 9 3) := by kernel_rfl
theorem undInt : Tryz.prog.underlying 3 = some (.int .i64) := by kernel_rfl
theorem zeroInt (w : World) : (zeroValue 3).run Tryz.prog w = .ok (.int .i64 0) w := by kernel_rfl
def MapAt (w : World) (b : Nat) (es : Nm) : Prop := ∃ D : DataW Unit, w.ownsMap Tryz.prog 9 (plainElem Tryz.prog 3) b es.length D ∧ ReadsN D es
theorem MapAt.of {w : World} {b n : Nat} {es : Nm} {D : DataW Unit} (h : w.ownsMap Tryz.prog 9 (plainElem Tryz.prog 3) b n D) (hr : ReadsN D es) : MapAt w b es := by
  refine ⟨D, ?_, hr⟩
  have hsz := hr.size
  obtain ⟨xs, clock, hb, F, hs, hD⟩ := h
  refine ⟨xs, clock, hb, F, ?_, hD⟩
  rw [hD, Maps.size_eq, length_read] at hsz
  omega
theorem MapAt.nodup {w : World} {b : Nat} {es : Nm} (h : MapAt w b es) : (es.map (·.1)).Nodup := let ⟨_, _, hr⟩ := h; hr.nodup
theorem MapAt.lt {w : World} {b : Nat} {es : Nm} (h : MapAt w b es) : b < w.heap.size := let ⟨_, h1, _⟩ := h; h1.lt
theorem MapAt.block {w w' : World} {b : Nat} {es : Nm} (h : MapAt w b es) (hc : w'.heap[b]? = w.heap[b]?) : MapAt w' b es := by
  obtain ⟨D, ⟨xs, clock, hb, r⟩, hr⟩ := h
  exact ⟨D, ⟨xs, clock, hc.trans hb, r⟩, hr⟩
theorem MapAt.chg {S : List Nat} {w w' : World} {b : Nat} {es : Nm} (h : MapAt w b es) (hc : Chg S w w') (hn : b ∉ S) : MapAt w' b es := h.block (hc.block b h.lt hn)
theorem MapAt.k {w w' : World} {b : Nat} {es : Nm} (h : MapAt w b es) (hc : Chg [] w w') : MapAt w' b es := h.chg hc (by simp)
theorem MapAt.set {w : World} {b : Nat} {es : Nm} (h : MapAt w b es) (p : Addr) (u : Value) (hp : b ≠ p.block) : MapAt (w.setCell p u) b es := by
  obtain ⟨D, h1, hr⟩ := h
  exact ⟨D, h1.setCell hp u, hr⟩
theorem MapAt.alloc {w : World} {b : Nat} {es : Nm} (h : MapAt w b es) (o : Obj) : MapAt (w.alloc o) b es := h.k ((Chg.refl _ _).alloc o)
theorem MapAt.grown {w w' : World} {row : Option Nat} {b : Nat} {es : Nm} (h : MapAt w b es) (hg : w.grownBy w' row) (hn : some b ≠ row) : MapAt w' b es := h.block (hg.block b h.lt hn)
theorem MapAt.new (w : World) : MapAt (w.alloc (.map #[] 0)) w.heap.size [] := ⟨.map [], World.ownsMap_made w _ _ _, ReadsN.empty⟩
theorem strB_list (s : List UInt8) : (strB s).data.toList = s := by simp [strB]
theorem keyStr' (s : List UInt8) (hs : s.length ≤ 9223372036854775807) : keyOf Tryz.prog 9 (.string (strB s)) = some (.string s) := by
  have := WideMaps.keyOf_string_mk (P := Tryz.prog) (k := 9) undString (s := strB s) (by rw [strB_size]; unfold maxLen; omega)
  rwa [strB_list] at this
theorem keyStr (s : List UInt8) (hs : s.length ≤ 140737488355328) : keyOf Tryz.prog 9 (.string (strB s)) = some (.string s) := keyStr' s (by omega)
theorem wfNat {i : Nat} (h : i ≤ 4611686018427387904) : (Lit.int .i64 (i : Int)).wf = true := by
  simp [Lit.wf, IntKind.min, IntKind.max, IntKind.signed, IntKind.bits]; omega

theorem wpLook {w : World} {ops : Array Oper} {rest : List Oper} {o : Oper} {a : Act} {Q : Exit → Act → World → Prop} (hg : o.guard = none) (m x : Operand) (hop : o.op = Op.lookup 71 m x true)
    (b : Nat) (es : Nm) (s : List UInt8) (hm : a.eval m = .map (some b)) (hx : a.eval x = .string (strB s)) (h : MapAt w b es) (hs : s.length ≤ 140737488355328)
    (hK : wpList Tryz.prog ops Q rest (a.put o.dst (.tuple #[.int .i64 (((nget es s).getD 0 : Nat) : Int), .bool (nget es s).isSome])) w) : wpList Tryz.prog ops Q (o :: rest) a w := by
  obtain ⟨D, hown, hr⟩ := h
  refine wpList_lookup_own_ok_int w hg m x _ hop 9 3 .i64 strKeyed undMapN undInt (zeroInt w) b _ D hm hown _ _ hx (keyStr s hs) fun c hc _ => ?_
  rw [hr.at_] at hc
  have hcc : c = (((nget es s).getD 0 : Nat) : Int) := by
    rcases hn : nget es s with _ | i
    · rw [hn] at hc; simp at hc; simp [← hc]
    · rw [hn] at hc; simp at hc; simp [← hc]
  rw [hcc, hr.has]
  exact hK
theorem wpLenM {w : World} {ops : Array Oper} {rest : List Oper} {o : Oper} {a : Act} {Q : Exit → Act → World → Prop} (hg : o.guard = none) (m : Operand) (hop : o.op = Op.call { callee := Callee.builtin Builtin.len, args := #[m], argTypes := #[71] })
    (b : Nat) (es : Nm) (hm : a.eval m = .map (some b)) (h : MapAt w b es) (hK : wpList Tryz.prog ops Q rest (a.put o.dst (.int .i64 (es.length : Int))) w) : wpList Tryz.prog ops Q (o :: rest) a w := by
  obtain ⟨D, hown, hr⟩ := h
  refine wpList_len_own w hg m _ hop 9 3 undMapN _ b _ D hm hown ?_
  rw [hr.size]
  exact hK
theorem wpPut {w : World} {ops : Array Oper} {rest : List Oper} {o : Oper} {a : Act} {Q : Exit → Act → World → Prop} (hg : o.guard = none) (m x v : Operand) (hop : o.op = Op.mapUpdate 71 m x v)
    (b : Nat) (es : Nm) (s : List UInt8) (i : Nat) (hm : a.eval m = .map (some b)) (hx : a.eval x = .string (strB s)) (hv : a.eval v = .int .i64 (i : Int)) (h : MapAt w b es) (hs : s.length ≤ 140737488355328) (hi : i ≤ 4611686018427387904) (hn : es.length ≤ 10000000000000)
    (hK : ∀ w', MapAt w' b (nput es s i) → w.grownBy w' (some b) → wpList Tryz.prog ops Q rest (a.put o.dst undef) w') : wpList Tryz.prog ops Q (o :: rest) a w := by
  obtain ⟨D, hown, hr⟩ := h
  refine wpList_mapUpdate_own w hg m x v _ hop 9 3 strKeyed undMapN _ b _ D hm hown (by unfold maxLen; omega) _ _ _ hx hv (keyStr s hs) (.lit (.int .i64 (i : Int))) [] (plainElem_int undInt (wfNat hi)) fun w' h1 h2 => ?_
  exact hK w' (MapAt.of h1 (hr.put s i hi)) h2
theorem wpDel {w : World} {ops : Array Oper} {rest : List Oper} {o : Oper} {a : Act} {Q : Exit → Act → World → Prop} (hg : o.guard = none) (m x : Operand) (hop : o.op = Op.call { callee := Callee.builtin Builtin.delete, args := #[m, x], argTypes := #[71, 9] })
    (b : Nat) (es : Nm) (s : List UInt8) (hm : a.eval m = .map (some b)) (hx : a.eval x = .string (strB s)) (h : MapAt w b es) (hs : s.length ≤ 140737488355328)
    (hK : ∀ w', MapAt w' b (ndel es s) → w.grownBy w' (some b) → wpList Tryz.prog ops Q rest (a.put o.dst (.tuple #[])) w') : wpList Tryz.prog ops Q (o :: rest) a w := by
  obtain ⟨D, hown, hr⟩ := h
  refine wpList_delete_own w hg m x _ _ hop 3 strKeyed undMapN _ b _ D hm hown _ _ hx (keyStr s hs) fun w' h1 h2 => ?_
  exact hK w' (MapAt.of h1 (hr.del s)) h2.grown
end Go.Proofs.YtbiadpkglcdihaaGreat
