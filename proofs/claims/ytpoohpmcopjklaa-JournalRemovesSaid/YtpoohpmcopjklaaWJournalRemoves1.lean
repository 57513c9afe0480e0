/- Words and walks that JournalRemoves rests on, part 1. -/
import Derived.Test.YtpoohpmcopjklaaRows
import Derived.WalkKit
import Derived.WalkSpells
import Derived.WalkLawsBesides
import Derived.Lib.Hide
import Derived.Laws.BitsAllLaws
import Derived.OneCell
import Derived.Deep.Draws
import Derived.Laws.BytesArg
import Derived.Lib.ConvBytes
import Derived.Lib.SlBytesConst
import Derived.Lib.AppendStr
import Derived.Maps.OwnSet
import Derived.Maps.Views
import Derived.Maps.RangeWalk
import Derived.StringKeys
import Derived.OrdersHeld
import Derived.Deep.RegionHeld
import Derived.Laws.OwnMore
/- Words and lemmas that all walks of this work share: unsigned numbers behind opaque casts, and what a slice reads as. -/
namespace Go.Proofs.Ytpoohpmcopjklaa
open Go.RowKit
/-- A fact kept from the walk, and from whatever unfolds. -/
def Hd (p : Prop) : Prop := p
theorem hd {p : Prop} (h : p) : Hd p := h
theorem Hd.out {p : Prop} (h : Hd p) : p := h
attribute [irreducible] Hd


def n8 (x : UInt8) : Int := x.toNat
def n16 (x : UInt16) : Int := x.toNat
def n32 (x : UInt32) : Int := x.toNat
theorem n8_lo (x : UInt8) : 0 ≤ n8 x := by unfold n8; omega
theorem n8_hi (x : UInt8) : n8 x < 256 := by have := x.toNat_lt; unfold n8; omega
theorem n32_lo (x : UInt32) : 0 ≤ n32 x := by unfold n32; omega
theorem n32_hi (x : UInt32) : n32 x < 4294967296 := by have := x.toNat_lt; unfold n32; omega
theorem n8_inj {x y : UInt8} : n8 x = n8 y ↔ x = y := by
  unfold n8; constructor
  · intro h; exact UInt8.toNat_inj.1 (by omega)
  · rintro rfl; rfl
theorem n32_inj {x y : UInt32} : n32 x = n32 y ↔ x = y := by
  unfold n32; constructor
  · intro h; exact UInt32.toNat_inj.1 (by omega)
  · rintro rfl; rfl
theorem n8_beq (x y : UInt8) : (n8 x == n8 y) = (x == y) := by rw [Bool.eq_iff_iff]; simp [n8_inj]
theorem n32_beq (x y : UInt32) : (n32 x == n32 y) = (x == y) := by rw [Bool.eq_iff_iff]; simp [n32_inj]

theorem u32_xor' (a b : UInt32) : bits .xor .u32 (n32 a) (n32 b) = n32 (a ^^^ b) := by
  unfold n32; rw [u32_xor_nat _ _ a.toNat_lt b.toNat_lt, UInt32.toNat_xor]
theorem u32_and' (a b : UInt32) : bits .and .u32 (n32 a) (n32 b) = n32 (a &&& b) := by
  unfold n32; rw [u32_and_nat _ _ a.toNat_lt b.toNat_lt, UInt32.toNat_and]
theorem u32_or' (a b : UInt32) : bits .or .u32 (n32 a) (n32 b) = n32 (a ||| b) := by
  unfold n32; rw [u32_or_nat _ _ a.toNat_lt b.toNat_lt, UInt32.toNat_or]
theorem u32_not' (a : UInt32) : bits .xor .u32 IntKind.u32.max (n32 a) = n32 (~~~ a) := by
  have h : ~~~ a = 4294967295 ^^^ a := by
    apply UInt32.toBitVec_inj.1
    simp only [UInt32.toBitVec_not, UInt32.toBitVec_xor]
    show _ = 4294967295#32 ^^^ _
    have : (4294967295#32) = BitVec.allOnes 32 := by decide
    rw [this, BitVec.allOnes_xor]
  rw [h]
  exact u32_xor' 4294967295 a
theorem u32_and_1 (a : UInt32) : bits .and .u32 (n32 a) 1 = n32 (a &&& 1) := u32_and' a 1
theorem u32_poly (a : UInt32) : bits .xor .u32 (n32 a) 3988292384 = n32 (a ^^^ 3988292384) := u32_xor' a 3988292384
theorem u8_u32 (x : UInt8) : (n8 x % 4294967296) = n32 x.toUInt32 := by
  have := x.toNat_lt; simp only [n8, n32, UInt8.toNat_toUInt32]; omega
theorem u32_shr1 (a : UInt32) (k : IntKind) : Op.shift .shr .u32 (n32 a) k 1 = pure (.int .u32 (n32 (a >>> 1))) := by
  rw [shift_shr _ _ _ _ (by omega) (by decide)]
  unfold n32; rw [UInt32.toNat_shiftRight]; simp [Nat.shiftRight_eq_div_pow]
theorem u32_shl_k (a : UInt32) (j : Nat) (hj : j < 32) (k : IntKind) : Op.shift .shl .u32 (n32 a) k j = pure (.int .u32 (n32 (a <<< UInt32.ofNat j))) := by
  rw [shift_shl _ _ _ _ (by omega) (by show (j : Int) ≤ 32; omega)]
  unfold n32; rw [UInt32.toNat_shiftLeft]
  simp only [UInt32.toNat_ofNat', Nat.mod_eq_of_lt (show j < 2 ^ 32 by omega), Nat.mod_eq_of_lt hj, Nat.shiftLeft_eq, Int.toNat_natCast]
  rw [IntKind.wrap_u32]
  simp
theorem u32_shl8 (a : UInt32) (k : IntKind) : Op.shift .shl .u32 (n32 a) k 8 = pure (.int .u32 (n32 (a <<< 8))) := u32_shl_k a 8 (by decide) k
theorem u32_shl16 (a : UInt32) (k : IntKind) : Op.shift .shl .u32 (n32 a) k 16 = pure (.int .u32 (n32 (a <<< 16))) := u32_shl_k a 16 (by decide) k
theorem u32_shl24 (a : UInt32) (k : IntKind) : Op.shift .shl .u32 (n32 a) k 24 = pure (.int .u32 (n32 (a <<< 24))) := u32_shl_k a 24 (by decide) k
theorem and_mask (x : Int) (j : Nat) (hj : j ≤ 62) : bits .and .i64 x (2 ^ j - 1) = x % 2 ^ j := by
  have hp : (0 : Int) < 2 ^ j := Int.pow_pos (by decide)
  have hle : (2 : Int) ^ j ≤ 2 ^ 62 := by exact_mod_cast Nat.pow_le_pow_right (n := 2) (by decide) hj
  have h62 : (2 : Int) ^ 62 = 4611686018427387904 := by decide
  rw [h62] at hle
  have hm1 : (BitVec.ofInt 64 ((2 : Int) ^ j - 1)).toNat = 2 ^ j - 1 := by
    rw [BitVec.toNat_ofInt, Int.emod_eq_of_lt (by omega) (by show _ < (18446744073709551616 : Int); omega)]
    have : ((2 : Int) ^ j - 1) = ((2 ^ j - 1 : Nat) : Int) := by rw [Int.natCast_sub Nat.one_le_two_pow]; simp
    rw [this]; simp
  have hx : ((BitVec.ofInt 64 x).toNat : Int) = x % 18446744073709551616 := by
    rw [BitVec.toNat_ofInt]
    exact Int.toNat_of_nonneg (Int.emod_nonneg _ (by decide))
  unfold bits
  simp only
  show IntKind.i64.wrap ((BitVec.ofInt 64 x &&& BitVec.ofInt 64 (2 ^ j - 1)).toNat : Int) = _
  rw [BitVec.toNat_and, hm1, Nat.and_two_pow_sub_one_eq_mod, Int.natCast_emod, hx]
  have hc : ((2 ^ j : Nat) : Int) = 2 ^ j := by simp
  have hd : (2 : Int) ^ j ∣ 18446744073709551616 := by
    refine ⟨2 ^ (64 - j), ?_⟩
    rw [← Int.pow_add, show j + (64 - j) = 64 by omega]; rfl
  rw [hc, Int.emod_emod_of_dvd _ hd, IntWalk.i64_left]
  have h1 := Int.emod_nonneg x (Int.ne_of_gt hp)
  have h2 := Int.emod_lt_of_pos x hp
  exact IntWalk.wrap64_in _ ⟨by omega, by omega⟩
theorem and7 (x : Int) : bits .and .i64 x 7 = x % 8 := and_mask x 3 (by decide)
theorem u8_xor' (a b : UInt8) : bits .xor .u8 (n8 a) (n8 b) = n8 (a ^^^ b) := by
  unfold n8; rw [u8_xor_nat _ _ a.toNat_lt b.toNat_lt, UInt8.toNat_xor]
theorem u8_bit (j : Nat) (hj : j < 8) (k : IntKind) : Op.shift .shl .u8 1 k j = pure (.int .u8 (n8 ((1 : UInt8) <<< UInt8.ofNat j))) := by
  rw [shift_shl _ _ _ _ (by omega) (by show (j : Int) ≤ 8; omega)]
  have : j = 0 ∨ j = 1 ∨ j = 2 ∨ j = 3 ∨ j = 4 ∨ j = 5 ∨ j = 6 ∨ j = 7 := by omega
  rcases this with rfl | rfl | rfl | rfl | rfl | rfl | rfl | rfl <;> rfl
theorem u8_bitv (j : Nat) (hj : j < 8) : (2 : Int) ^ j % 256 = n8 ((1 : UInt8) <<< UInt8.ofNat j) := by
  have : j = 0 ∨ j = 1 ∨ j = 2 ∨ j = 3 ∨ j = 4 ∨ j = 5 ∨ j = 6 ∨ j = 7 := by omega
  rcases this with rfl | rfl | rfl | rfl | rfl | rfl | rfl | rfl <;> rfl
theorem u8_xor_1 (a : UInt8) : bits .xor .u8 (n8 a) 1 = n8 (a ^^^ 1) := u8_xor' a 1
theorem u8_and' (a b : UInt8) : bits .and .u8 (n8 a) (n8 b) = n8 (a &&& b) := by
  unfold n8; rw [u8_and_nat _ _ a.toNat_lt b.toNat_lt, UInt8.toNat_and]
theorem u8_div_k (a : UInt8) (j : Nat) (hj : j < 8) : n8 a / 2 ^ j = n8 (a >>> UInt8.ofNat j) := by
  unfold n8; rw [UInt8.toNat_shiftRight]
  simp [Nat.mod_eq_of_lt (show j < 256 by omega), Nat.mod_eq_of_lt hj, Nat.shiftRight_eq_div_pow]
theorem u8_bit_and (a : UInt8) (j : Nat) (hj : j < 8) : bits .and .u8 (n8 a / 2 ^ j) 1 = n8 ((a >>> UInt8.ofNat j) &&& 1) := by
  rw [u8_div_k a j hj]; exact u8_and' _ 1
theorem u32_mul_k (a : UInt32) (j : Nat) (hj : j < 32) : n32 a * 2 ^ j % 4294967296 = n32 (a <<< UInt32.ofNat j) := by
  unfold n32; rw [UInt32.toNat_shiftLeft]
  simp [Nat.mod_eq_of_lt (show j < 2 ^ 32 by omega), Nat.mod_eq_of_lt hj, Nat.shiftLeft_eq]
theorem andFFFF (x : Int) : bits .and .i64 x 65535 = x % 65536 := and_mask x 16 (by decide)
theorem andFFF (x : Int) : bits .and .i64 x 4095 = x % 4096 := and_mask x 12 (by decide)
theorem and62 (x : Int) : bits .and .i64 x 4611686018427387903 = x % 4611686018427387904 := and_mask x 62 (by decide)
theorem n32_eq1 (a : UInt32) : (n32 a == 1) = (a == 1) := n32_beq a 1
/-- v is a slice of n elements of 'size' cells each, and its cells read as xs. -/
def Rd (w : World) (size : Nat) (v : Value) (n : Nat) (xs : List Value) : Prop :=
  xs.length = n * size ∧ ∃ ao cap b off, v = .slice ao n cap ∧ n ≤ cap ∧ cap ≤ maxLen ∧ (ao = none → n = 0 ∧ cap = 0) ∧ (0 < n → ao = some ⟨b, off, none⟩) ∧
    (∀ j u, xs[j]? = some u → w.cell? ⟨b, off + j, none⟩ = some u)
def vb (x : UInt8) : Value := .int .u8 (n8 x)
/-- v is a slice of bytes that reads as l. -/
def Bs (w : World) (v : Value) (l : List UInt8) : Prop := Rd w 1 v l.length (l.map vb)

theorem Bs.open {w : World} {v : Value} {l : List UInt8} (h : Bs w v l) : ∃ ao cap b off, v = .slice ao l.length cap ∧ l.length ≤ cap ∧ cap ≤ 9223372036854775807 ∧ (ao = none → l.length = 0 ∧ cap = 0) ∧
    (0 < l.length → ao = some ⟨b, off, none⟩) ∧ (∀ j (h : j < l.length), w.cell? ⟨b, off + j, none⟩ = some (.int .u8 (n8 l[j]))) := by
  obtain ⟨_, ao, cap, b, off, h1, h2, h3, h4, h5, h6⟩ := h
  refine ⟨ao, cap, b, off, h1, h2, by simpa [maxLen] using h3, h4, h5, fun j hj => h6 j _ ?_⟩
  simp [List.getElem?_eq_getElem hj, vb]

theorem ret_of {a b : Value} (h : a = b) : Ending.returned a = .returned b := by rw [h]
end Go.Proofs.Ytpoohpmcopjklaa

/- Blocks of cells, what a call changes, what is kept. No program's function is walked here. -/
namespace Go.Proofs.Ytpoohpmcopjklaa
open Go.RowKit

/-- Block b holds the cells cs, none frozen. -/
def Blk (w : World) (b : Nat) (cs : Array Value) (t : TypeId) : Prop := w.heap[b]? = some (.cells cs t (0, 0))
theorem Blk.lt {w : World} {b cs t} (h : Blk w b cs t) : b < w.heap.size := lt_of_block h
theorem Blk.cell {w : World} {b : Nat} {cs : Array Value} {t : TypeId} (h : Blk w b cs t) (j : Nat) : w.cell? ⟨b, j, none⟩ = cs[j]? := cell_of_row w b j cs t (0, 0) h
theorem Blk.free {w : World} {b : Nat} {cs : Array Value} {t : TypeId} (h : Blk w b cs t) (j : Nat) : w.frozen? ⟨b, j, none⟩ = false := frozen_of_row w b j cs t h
theorem Blk.set {w : World} {b : Nat} {cs : Array Value} {t : TypeId} (h : Blk w b cs t) (j : Nat) (u : Value) : Blk (w.setCell ⟨b, j, none⟩ u) b (cs.setIfInBounds j u) t :=
  heap_setCell_same w b j cs t u h
theorem Blk.other {w : World} {b : Nat} {cs : Array Value} {t : TypeId} (h : Blk w b cs t) {a : Addr} (hne : b ≠ a.block) (u : Value) : Blk (w.setCell a u) b cs t :=
  (heap_setCell_other w a b u hne).trans h
theorem Blk.alloc {w : World} {b : Nat} {cs : Array Value} {t : TypeId} (h : Blk w b cs t) (o : Obj) : Blk (w.alloc o) b cs t := (heap_alloc_old w o h.lt).trans h
theorem Blk.new (w : World) (cs : Array Value) (t : TypeId) : Blk (w.alloc (.cells cs t)) w.heap.size cs t := heap_alloc_new w _

/-- From w to w' no block has turned but new ones and those of the list S. -/
structure Chg (S : List Nat) (w w' : World) : Prop where
  os : w'.os = w.os
  tape : w'.tape = w.tape
  output : w'.output = w.output
  size : w.heap.size ≤ w'.heap.size
  block : ∀ k, k < w.heap.size → k ∉ S → w'.heap[k]? = w.heap[k]?

theorem Chg.refl (S : List Nat) (w : World) : Chg S w w := ⟨rfl, rfl, rfl, Nat.le_refl _, fun _ _ _ => rfl⟩
theorem Chg.trans {S S' : List Nat} {a b c : World} (h : Chg S a b) (k : Chg S' b c) (hs : ∀ x ∈ S', x < a.heap.size → x ∈ S) : Chg S a c :=
  ⟨k.os.trans h.os, k.tape.trans h.tape, k.output.trans h.output, Nat.le_trans h.size k.size, fun i hi hn =>
    (k.block i (Nat.lt_of_lt_of_le hi h.size) (fun hx => hn (hs i hx hi))).trans (h.block i hi hn)⟩
theorem Chg.mono {S S' : List Nat} {a b : World} (h : Chg S a b) (hs : ∀ x ∈ S, x < a.heap.size → x ∈ S') : Chg S' a b :=
  ⟨h.os, h.tape, h.output, h.size, fun i hi hn => h.block i hi (fun hx => hn (hs i hx hi))⟩
theorem Chg.alloc {S : List Nat} {a b : World} (h : Chg S a b) (o : Obj) : Chg S a (b.alloc o) :=
  ⟨h.os, h.tape, h.output, Nat.le_trans h.size (by simp), fun i hi hn => (Below.heap_alloc _ _ _ (Nat.lt_of_lt_of_le hi h.size)).trans (h.block i hi hn)⟩
theorem Chg.drew {S : List Nat} {a b : World} (h : Chg S a b) : Chg S a b.drew := ⟨h.os, h.tape, h.output, h.size, h.block⟩
theorem Chg.setCell {S : List Nat} {a b : World} (h : Chg S a b) (p : Addr) (u : Value) (hp : p.block < a.heap.size → p.block ∈ S) : Chg S a (b.setCell p u) :=
  ⟨h.os, h.tape, h.output, by simpa [World.setCell] using h.size, fun i hi hn => (Below.heap_setCell _ _ _ _ (fun e => by subst e; exact hn (hp hi))).trans (h.block i hi hn)⟩
theorem Chg.grown {S : List Nat} {a b c : World} {row : Option Nat} (h : Chg S a b) (hg : b.grownBy c row) (hr : ∀ k, row = some k → k < a.heap.size → k ∈ S) : Chg S a c :=
  ⟨hg.os.trans h.os, hg.tape.trans h.tape, hg.output.trans h.output, Nat.le_trans h.size hg.size, fun i hi hn =>
    (hg.block i (Nat.lt_of_lt_of_le hi h.size) (fun e => hn (hr i e.symm hi))).trans (h.block i hi hn)⟩
theorem Chg.below {S : List Nat} {a b : World} {B : Nat} (h : Chg S a b) (hB : B ≤ a.heap.size) (hs : ∀ x ∈ S, B ≤ x) : Below B a b :=
  ⟨h.os, h.tape, h.output, h.size, fun i hi => h.block i (by omega) (fun hx => by have := hs i hx; omega)⟩
theorem Chg.new {a b : World} (h : Chg [] a b) : Below a.heap.size a b := h.below (Nat.le_refl _) (by simp)
theorem Chg.ofBelow {a b : World} (h : Below a.heap.size a b) : Chg [] a b := ⟨h.os, h.tape, h.output, h.size, fun i hi _ => h.block i hi⟩
theorem Chg.cell {S : List Nat} {w w' : World} (h : Chg S w w') {p : Addr} (hp : p.block < w.heap.size) (hn : p.block ∉ S) : w'.cell? p = w.cell? p := World.cell?_of_block (h.block _ hp hn)
theorem Chg.frozen {S : List Nat} {w w' : World} (h : Chg S w w') {p : Addr} (hp : p.block < w.heap.size) (hn : p.block ∉ S) : w'.frozen? p = w.frozen? p := World.frozen?_of_block (h.block _ hp hn)
theorem Blk.chg {S : List Nat} {w w' : World} {b : Nat} {cs : Array Value} {t : TypeId} (h : Blk w b cs t) (hc : Chg S w w') (hn : b ∉ S) : Blk w' b cs t := (hc.block b h.lt hn).trans h
theorem Blk.below {B : Nat} {w w' : World} {b : Nat} {cs : Array Value} {t : TypeId} (h : Blk w b cs t) (hc : Below B w w') (hn : b < B) : Blk w' b cs t := (hc.block b hn).trans h
theorem Blk.grown {w w' : World} {row : Option Nat} {b : Nat} {cs : Array Value} {t : TypeId} (h : Blk w b cs t) (hc : w.grownBy w' row) (hn : row ≠ some b) : Blk w' b cs t := (hc.block b h.lt (fun e => hn e.symm)).trans h

/-- What is read of a slice is read still where its block has not turned. -/
theorem Rd.keep {S : List Nat} {w w' : World} {size : Nat} {v : Value} {n : Nat} {xs : List Value} (h : Rd w size v n xs) (hc : Chg S w w') (hn : 0 < n → ∀ k, v.ownBlock = some k → k ∉ S) : Rd w' size v n xs := by
  obtain ⟨h0, ao, cap, b, off, rfl, h2, h3, h4, h5, h6⟩ := h
  refine ⟨h0, ao, cap, b, off, rfl, h2, h3, h4, h5, fun j u hu => ?_⟩
  have hcell := h6 j u hu
  have hpos : 0 < n := by
    rcases Nat.eq_zero_or_pos n with rfl | h
    · simp at h0; subst h0; simp at hu
    · exact h
  obtain rfl := h5 hpos
  rw [hc.cell (World.block_lt_of_cell? w _ hcell) (hn hpos b rfl)]
  exact hcell
theorem Bs.keep {S : List Nat} {w w' : World} {v : Value} {l : List UInt8} (h : Bs w v l) (hc : Chg S w w') (hn : 0 < l.length → ∀ k, v.ownBlock = some k → k ∉ S) : Bs w' v l := Rd.keep h hc hn
theorem Bs.stays {w w' : World} {v : Value} {l : List UInt8} (h : Bs w v l) (hc : Chg [] w w') : Bs w' v l := Rd.keep h hc (by simp)
theorem Rd.lt {w : World} {size : Nat} {v : Value} {n : Nat} {xs : List Value} (h : Rd w size v n xs) (hn : 0 < n) (hs : 0 < size) : ∀ k, v.ownBlock = some k → k < w.heap.size := by
  obtain ⟨h0, ao, cap, b, off, rfl, h2, h3, h4, h5, h6⟩ := h
  obtain rfl := h5 hn
  intro k hk
  simp only [Value.ownBlock, Option.some.injEq] at hk
  subst hk
  have hl : 0 < xs.length := by rw [h0]; exact Nat.mul_pos hn hs
  exact World.block_lt_of_cell? w _ (h6 0 _ (List.getElem?_eq_getElem hl))
theorem Bs.lt {w : World} {v : Value} {l : List UInt8} (h : Bs w v l) (hn : 0 < l.length) : ∀ k, v.ownBlock = some k → k < w.heap.size := Rd.lt h hn (by decide)
theorem Bs.alloc {w : World} {v : Value} {l : List UInt8} (h : Bs w v l) (o : Obj) : Bs (w.alloc o) v l := h.stays ((Chg.refl [] w).alloc o)
theorem Bs.setCell {w : World} {v : Value} {l : List UInt8} (h : Bs w v l) (a : Addr) (u : Value) (hn : 0 < l.length → v.ownBlock ≠ some a.block) : Bs (w.setCell a u) v l :=
  h.keep ((Chg.refl [a.block] w).setCell a u (by simp)) (fun hp k hk => by simp; intro e; subst e; exact hn hp hk)
theorem Bs.below {B : Nat} {w w' : World} {v : Value} {l : List UInt8} (h : Bs w v l) (hc : Below B w w') (hn : ∀ k, v.ownBlock = some k → k < B) : Bs w' v l := by
  obtain ⟨h0, ao, cap, b, off, rfl, h2, h3, h4, h5, h6⟩ := h
  refine ⟨h0, ao, cap, b, off, rfl, h2, h3, h4, h5, fun j u hu => ?_⟩
  have hpos : 0 < l.length := by
    have := (List.getElem?_eq_some_iff.1 hu).1; simp at this; omega
  obtain rfl := h5 hpos
  rw [hc.cell (p := ⟨b, off + j, none⟩) (hn b rfl)]
  exact h6 j u hu

theorem Chg.drewN {S : List Nat} {a b : World} (h : Chg S a b) (n : Nat) : Chg S a (b.drewN n) := ⟨h.os, h.tape, h.output, h.size, h.block⟩

/-- v, of n elements, is the call's own: a row of block from base on; it reads as xs. -/
theorem Rd.ofOwn {w : World} {base : Nat} {e : TypeId} {size : Nat} {v : Value} {n : Nat} {xs : List Value} (h : w.ownsRow base e size v n xs) : Rd w size v n xs := by
  refine ⟨h.1, ?_⟩
  rcases h.2 with ⟨rfl, rfl⟩ | ⟨g, cap, cur, rfl, _, hg, hnc, hcm, hcs, htake⟩
  · refine ⟨none, 0, 0, 0, rfl, Nat.le_refl _, by simp [maxLen], fun _ => ⟨rfl, rfl⟩, fun h => absurd h (by omega), fun j u hu => ?_⟩
    have := h.1; simp at this; subst this; simp at hu
  · refine ⟨_, cap, g, 0, rfl, hnc, hcm, fun h => by simp at h, fun _ => rfl, fun j u hu => ?_⟩
    have := h.cells (g := g) rfl j u hu
    have e : (⟨g, 0, none⟩ : Addr).add j = ⟨g, 0 + j, none⟩ := by unfold Addr.add; split <;> simp_all
    rw [e] at this
    exact this

/-- v is a slice of bytes of the call's own that reads as l. -/
def OwB (w : World) (base : Nat) (v : Value) (l : List UInt8) : Prop := w.ownsRow base 5 1 v l.length (l.map vb)
theorem OwB.bs {w : World} {base : Nat} {v : Value} {l : List UInt8} (h : OwB w base v l) : Bs w v l := Rd.ofOwn h
theorem OwB.kept {w w' : World} {row : Option Nat} {base : Nat} {v : Value} {l : List UInt8} (h : OwB w base v l) (hg : w.grownBy w' row) (hne : v.ownBlock = none ∨ v.ownBlock ≠ row) : OwB w' base v l := World.ownsRow.kept h hg hne
theorem OwB.alloc {w : World} {base : Nat} {v : Value} {l : List UInt8} (h : OwB w base v l) (o : Obj) : OwB (w.alloc o) base v l := World.ownsRow.alloc h o
theorem OwB.chg {S : List Nat} {w w' : World} {base : Nat} {v : Value} {l : List UInt8} (h : OwB w base v l) (hc : Chg S w w') (hn : ∀ k, v.ownBlock = some k → k ∉ S) : OwB w' base v l := by
  refine ⟨h.1, ?_⟩
  rcases h.2 with hx | ⟨g, cap, cur, rfl, hb, hg, rest⟩
  · exact .inl hx
  · refine .inr ⟨g, cap, cur, rfl, hb, ?_, rest⟩
    rw [hc.block g (lt_of_block hg) (hn g rfl)]
    exact hg
theorem OwB.mono {w : World} {base base' : Nat} {v : Value} {l : List UInt8} (h : OwB w base v l) (hb : base' ≤ base) : OwB w base' v l := by
  refine ⟨h.1, ?_⟩
  rcases h.2 with hx | ⟨g, cap, cur, rfl, hbg, rest⟩
  · exact .inl hx
  · exact .inr ⟨g, cap, cur, rfl, Nat.le_trans hb hbg, rest⟩
theorem OwB.lo {w : World} {base : Nat} {v : Value} {l : List UInt8} (h : OwB w base v l) : ∀ k, v.ownBlock = some k → base ≤ k ∧ k < w.heap.size := World.ownsRow.lt h
theorem OwB.addr {w : World} {base : Nat} {ao : Option Addr} {n c : Nat} {l : List UInt8} (h : OwB w base (.slice ao n c) l) (hp : 0 < l.length) : ∃ g, ao = some ⟨g, 0, none⟩ ∧ n = l.length ∧ base ≤ g ∧ g < w.heap.size := by
  rcases h.2 with ⟨he, h0⟩ | ⟨g, cap, cur, he, hb, hg, _⟩
  · omega
  · simp only [Value.slice.injEq] at he
    obtain ⟨rfl, rfl, rfl⟩ := he
    exact ⟨g, rfl, rfl, hb, lt_of_block hg⟩
theorem OwB.cell {w : World} {base g n c : Nat} {l : List UInt8} (h : OwB w base (.slice (some ⟨g, 0, none⟩) n c) l) (j : Nat) (hj : j < l.length) : w.cell? ⟨g, j, none⟩ = some (.int .u8 (n8 l[j])) := by
  have := World.ownsRow.cells h (g := g) rfl j (vb l[j]) (by simp [List.getElem?_eq_getElem hj])
  have e : (⟨g, 0, none⟩ : Addr).add j = ⟨g, j, none⟩ := by unfold Addr.add; split <;> simp_all
  rw [e] at this
  exact this
theorem OwB.free {w : World} {base g n c : Nat} {l : List UInt8} (h : OwB w base (.slice (some ⟨g, 0, none⟩) n c) l) (j : Nat) : w.frozen? ⟨g, j, none⟩ = false := by
  rcases h.2 with ⟨he, h0⟩ | ⟨g', cap, cur, he, hb, hg, _⟩
  · simp at he
  · simp only [Value.slice.injEq, Option.some.injEq, Addr.mk.injEq, and_true] at he
    obtain ⟨rfl, _⟩ := he
    exact frozen_of_row w g j cur _ hg
theorem OwB.set {w : World} {base g n c : Nat} {l : List UInt8} (h : OwB w base (.slice (some ⟨g, 0, none⟩) n c) l) (j : Nat) (x : UInt8) : OwB (w.setCell ⟨g, j, none⟩ (.int .u8 (n8 x))) base (.slice (some ⟨g, 0, none⟩) n c) (l.set j x) := by
  rcases h.2 with ⟨he, h0⟩ | ⟨g', cap, cur, he, hb, hg, hnc, hcm, hcs, htake⟩
  · simp at he
  · simp only [Value.slice.injEq, Option.some.injEq, Addr.mk.injEq, and_true] at he
    obtain ⟨rfl, rfl, rfl⟩ := he
    refine ⟨by simp, .inr ⟨g, c, cur.setIfInBounds j (vb x), by simp, hb, heap_setCell_same w g j cur _ _ hg, by simpa using hnc, hcm, by simpa using hcs, ?_⟩⟩
    rw [Array.toList_setIfInBounds, List.map_set, ← htake, List.take_set]
    simp
theorem vb_one (l : List UInt8) : ∀ u ∈ l.map vb, u.oneCell' = true := by
  intro u hu; simp only [List.mem_map] at hu; obtain ⟨x, _, rfl⟩ := hu; rfl
/-- A slice of numbers of 64 bits (int, api.F). -/
def Fs (w : World) (v : Value) (l : List Int) : Prop := Rd w 1 v l.length (l.map (Value.int .i64))
theorem Fs.open {w : World} {v : Value} {l : List Int} (h : Fs w v l) : ∃ ao cap b off, v = .slice ao l.length cap ∧ l.length ≤ cap ∧ cap ≤ 9223372036854775807 ∧ (ao = none → l.length = 0 ∧ cap = 0) ∧
    (0 < l.length → ao = some ⟨b, off, none⟩) ∧ (∀ j (h : j < l.length), w.cell? ⟨b, off + j, none⟩ = some (.int .i64 l[j])) := by
  obtain ⟨_, ao, cap, b, off, h1, h2, h3, h4, h5, h6⟩ := h
  refine ⟨ao, cap, b, off, h1, h2, by simpa [maxLen] using h3, h4, h5, fun j hj => h6 j _ ?_⟩
  simp [List.getElem?_eq_getElem hj]
theorem Fs.chg {S : List Nat} {w w' : World} {v : Value} {l : List Int} (h : Fs w v l) (hc : Chg S w w') (hn : 0 < l.length → ∀ k, v.ownBlock = some k → k ∉ S) : Fs w' v l := Rd.keep h hc hn
theorem Fs.cell {w : World} {b off n c : Nat} {l : List Int} (h : Fs w (.slice (some ⟨b, off, none⟩) n c) l) (j : Nat) (hj : j < l.length) : w.cell? ⟨b, off + j, none⟩ = some (.int .i64 l[j]) := by
  obtain ⟨ao, cap, b', off', he, -, -, -, hao, hc⟩ := h.open
  simp only [Value.slice.injEq] at he
  obtain ⟨rfl, rfl, rfl⟩ := he
  have := hao (by omega)
  simp only [Option.some.injEq, Addr.mk.injEq, and_true] at this
  obtain ⟨rfl, rfl⟩ := this
  exact hc j hj
/-- A literal of ints, just laid. -/
theorem Fs.lit (w : World) (l : List Int) (cs : Array Value) (e : TypeId) (n : Nat) (hcs : cs = (l.map (Value.int .i64)).toArray) (hn : n = l.length) (hl : l.length ≤ 140737488355328) :
    Fs (w.alloc (.cells cs e)) (.slice (some ⟨w.heap.size, 0, none⟩) n n) l := by
  subst hcs; subst hn
  refine ⟨by simp, _, _, w.heap.size, 0, rfl, Nat.le_refl _, by unfold maxLen; omega, by simp, by simp, fun j u hu => ?_⟩
  rw [Nat.zero_add, (Blk.new w _ e).cell]
  simpa using hu
end Go.Proofs.Ytpoohpmcopjklaa

/- One law for append onto a row of the call's own, whatever is appended, and what becomes of the row's block. -/
namespace Go.Proofs.Ytpoohpmcopjklaa
open Go.RowKit

/-- A slice type's row of the table. -/
def RowT (P : Program) (t e : TypeId) (size bytes : Nat) : Prop :=
  ∃ i z, P.underlying t = some (.slice e) ∧ P.info? e = some i ∧ i.zero = some z ∧ i.size = size ∧ i.bytes = bytes ∧ z.cells.size = size ∧ 0 < size
theorem RowT.mk {P : Program} {t e : TypeId} {z : Value} {size bytes : Nat} (ht : P.underlying t = some (.slice e)) (h : (P.info? e).map (fun i => (i.zero, i.size, i.bytes)) = some (some z, size, bytes)) (hz : z.cells.size = size) (hs : 0 < size) : RowT P t e size bytes := by
  obtain ⟨i, h1, h2, h3, h4⟩ := info_parts h
  exact ⟨i, z, ht, h1, h2, h3, h4, hz, hs⟩

/-- The new value stands in the old one's block, or in a new one. -/
def Moved (w : World) (v v' : Value) : Prop := v'.ownBlock = v.ownBlock ∨ ∀ k, v'.ownBlock = some k → w.heap.size ≤ k

theorem Rd.cells {w : World} {size : Nat} {v : Value} {n : Nat} {xs : List Value} (h : Rd w size v n xs) (hn : 0 < n) : ∃ b off cap, v = .slice (some ⟨b, off, none⟩) n cap ∧ xs.length = n * size ∧ ∀ j u, xs[j]? = some u → w.cell? ((⟨b, off, none⟩ : Addr).add j) = some u := by
  obtain ⟨h0, ao, cap, b, off, rfl, h2, h3, h4, h5, h6⟩ := h
  obtain rfl := h5 hn
  refine ⟨b, off, cap, rfl, h0, fun j u hu => ?_⟩
  have e : (⟨b, off, none⟩ : Addr).add j = ⟨b, off + j, none⟩ := by unfold Addr.add; split <;> simp_all
  rw [e]; exact h6 j u hu

theorem Rd.length {w : World} {size : Nat} {v : Value} {n : Nat} {xs : List Value} (h : Rd w size v n xs) : xs.length = n * size := h.1

theorem run_app {P : Program} (w : World) {t ty e : TypeId} {size bytes : Nat} (hT : RowT P t e size bytes) {base : Nat} {v : Value} {n : Nat} {xs : List Value} (hown : w.ownsRow base e size v n xs)
    {u : Value} {m : Nat} {news : List Value} (hu : Rd w size u m news) (h1 : ∀ u ∈ news, u.oneCell' = true) (hbytes : (n + m) * bytes ≤ 140737488355328) (hcount : n + m ≤ 140737488355328) (hbase : base ≤ w.heap.size) :
    ∃ v' w', (Builtin.append_ #[t, t] ty #[v, u]).run P w = .ok v' w' ∧ w'.ownsRow base e size v' (n + m) (xs ++ news) ∧ w.grownBy w' v.ownBlock ∧ Moved w v v' ∧ (v' = .slice none 0 0 ↔ v = .slice none 0 0 ∧ m = 0) := by
  obtain ⟨i, z, ht, hi, hz, rfl, rfl, hzs, hsz⟩ := hT
  have h63 : n + m ≤ maxLen := by unfold maxLen; omega
  have hsmall : n + m ≤ 9223372036854775807 := by omega
  rcases Nat.eq_zero_or_pos m with rfl | hm
  · -- nothing comes
    have hnews : news = [] := List.eq_nil_of_length_eq_zero (by simpa using hu.1)
    subst hnews
    obtain ⟨_, ao, cap, b, off, rfl, h2, h3, h4, h5, h6⟩ := hu
    have keep : ∀ a : Option Addr, (Builtin.append_ #[t, t] ty #[v, .slice a 0 cap]).run P w = .ok v w := by
      intro a
      rcases hown.2 with ⟨rfl, rfl⟩ | ⟨g, cap', cur, rfl, _, hg, hnc, _⟩
      · cases a <;> simp [Builtin.append_, run_underlying ht, sizeOf, typeInfo, hi, Builtin.lenOf, Builtin.firstCells, loadCells, loadCellsFrom]
      · cases a <;> simp [Builtin.append_, run_underlying ht, sizeOf, typeInfo, hi, Builtin.lenOf, Builtin.firstCells, hnc, storeCells, loadCells, loadCellsFrom]
    exact ⟨v, w, keep _, by simpa using hown, World.grownBy.refl _ _, .inl rfl, by simp⟩
  · obtain ⟨b, off, cap, rfl, hl, hnews⟩ := hu.cells hm
    have hlen : (xs ++ news).length = (n + m) * i.size := by rw [List.length_append, hown.1, hl, Nat.add_mul]
    have grown : ∀ (old : Nat), old < n + m → ∀ (row : Option Nat),
        (w.drew.alloc (.cells (xs.toArray ++ news.toArray ++ Builtin.zeroCells z.cells (grownCap w (n + m) old e - (n + m))) e)).ownsRow base e i.size
          (.slice (some ⟨w.heap.size, 0, none⟩) (n + m) (grownCap w (n + m) old e)) (n + m) (xs ++ news) ∧
        w.grownBy (w.drew.alloc (.cells (xs.toArray ++ news.toArray ++ Builtin.zeroCells z.cells (grownCap w (n + m) old e - (n + m))) e)) row := by
      intro old ho row
      have hge := grownCap_ge w (n + m) old e
      have hcm : grownCap w (n + m) old e ≤ maxLen := grownCap_le_maxLen w (n + m) old e h63
      refine ⟨⟨hlen, .inr ⟨w.heap.size, _, _, rfl, hbase, heap_alloc_new w.drew _, hge, hcm, ?_, ?_⟩⟩, ⟨rfl, rfl, rfl, by simp, fun k hk _ => heap_alloc_old w.drew _ hk⟩⟩
      · simp only [Array.size_append, List.size_toArray, size_zeroCells, hzs, hown.1, hl, ← Nat.add_mul]
        congr 1
        omega
      · simp only [Array.toList_append, List.append_assoc]
        rw [← List.append_assoc, ← hlen]
        exact List.take_left
    have hnew : ∀ (nn cc : Nat) (v : Value), Moved w v (.slice (some ⟨w.heap.size, 0, none⟩) nn cc) := fun _ _ _ => .inr fun k hk => by simp [Value.ownBlock] at hk; omega
    rcases hown.2 with ⟨rfl, rfl⟩ | ⟨g, cap', cur, rfl, hbg, hg, hnc, hcm, hcs, htake⟩
    · have hx : xs = [] := List.eq_nil_of_length_eq_zero (by simpa using hown.1)
      subst hx
      have hr := run_append_nil (P := P) w t ty e i z ht hi hz ⟨b, off, none⟩ m cap news hl hnews (by omega) (by omega) (by have hb := hbytes; simp only [Nat.zero_add] at hb; omega)
      have hgr := grown 0 (by omega) (Value.ownBlock (.slice none 0 0))
      simp only [Nat.zero_add, List.nil_append, Array.empty_append] at hgr ⊢
      exact ⟨_, _, hr, hgr.1, hgr.2, hnew _ _ _, by simp; omega⟩
    · by_cases hroom : n + m ≤ cap'
      · have hfit : n * i.size + news.length ≤ cur.size := by rw [hl, hcs, ← Nat.add_mul]; exact Nat.mul_le_mul_right _ hroom
        have hr := run_append_room (P := P) w t ty e i ht hi g n cap' cur hg ⟨b, off, none⟩ m cap news hl hnews h1 hroom hfit
        refine ⟨_, _, hr, ⟨hlen, .inr ⟨g, cap', _, rfl, hbg, setRow_heap w g cur _ e _ hg, hroom, hcm, ?_, ?_⟩⟩, ⟨rfl, rfl, rfl, by simp, fun k _ hk => setRow_other w g k _ (fun e => hk (by simp [Value.ownBlock, e]))⟩, .inl rfl, by simp⟩
        · simp only [List.size_toArray, List.length_append, List.length_take, List.length_drop, Array.length_toList]
          omega
        · rw [htake, ← hlen]
          exact List.take_left
      · have holds : ∀ j u, xs[j]? = some u → w.cell? ((⟨g, 0, none⟩ : Addr).add j) = some u := hown.cells (g := g) rfl
        have hr := run_append_grow (P := P) w t ty e i z ht hi hz ⟨g, 0, none⟩ n cap' xs hown.1 holds ⟨b, off, none⟩ m cap news hl hnews (by omega) (by omega) (growslice_fits (by omega) hbytes)
        have hgr := grown cap' (by omega) (Value.ownBlock (.slice (some ⟨g, 0, none⟩) n cap'))
        exact ⟨_, _, hr, hgr.1, hgr.2, hnew _ _ _, by simp⟩

theorem wp_app {P : Program} {w : World} {o : Oper} {a : Act} {K : Act → World → Prop} {Q : Exit → Act → World → Prop} {s x : Operand} {t e : TypeId} {size bytes : Nat} (hT : RowT P t e size bytes)
    (ho : o.op = .call { callee := .builtin .append, args := #[s, x], argTypes := #[t, t] }) {base : Nat} {v : Value} {n : Nat} {xs : List Value} (hs : a.eval s = v) (hown : w.ownsRow base e size v n xs)
    {u : Value} {m : Nat} {news : List Value} (hx : a.eval x = u) (hu : Rd w size u m news) (h1 : ∀ u ∈ news, u.oneCell' = true) (hbytes : (n + m) * bytes ≤ 140737488355328) (hcount : n + m ≤ 140737488355328) (hbase : base ≤ w.heap.size)
    (h : ∀ v' w', w'.ownsRow base e size v' (n + m) (xs ++ news) → w.grownBy w' v.ownBlock → Moved w v v' → (v' = .slice none 0 0 ↔ v = .slice none 0 0 ∧ m = 0) → K (a.put o.dst v') w') : o.wp P a w K Q := by
  obtain ⟨v', w', hr, h2, h3, h4, h5⟩ := run_app (P := P) w (ty := o.type) hT hown hu h1 hbytes hcount hbase
  unfold Oper.wp execOp
  simp only [ho, resolve, invoke, builtin, Sem.run_bind, Sem.run_pure, Result.andThen_ok, List.map_toArray, List.map_cons, List.map_nil, hs, hx, hr]
  exact h v' w' h2 h3 h4 h5

theorem wpApp {P : Program} {w : World} {ops : Array Oper} {rest : List Oper} {o : Oper} {a : Act} {Q : Exit → Act → World → Prop} {t e : TypeId} {size bytes : Nat} (hT : RowT P t e size bytes) (hgd : Region.wanted o (yielded ops a.tmps) = true) (s x : Operand)
    (ho : o.op = .call { callee := .builtin .append, args := #[s, x], argTypes := #[t, t] }) (base : Nat) (v : Value) (n : Nat) (xs : List Value) (hs : a.eval s = v) (hown : w.ownsRow base e size v n xs)
    (u : Value) (m : Nat) (news : List Value) (hx : a.eval x = u) (hu : Rd w size u m news) (h1 : ∀ u ∈ news, u.oneCell' = true) (hbytes : (n + m) * bytes ≤ 140737488355328) (hcount : n + m ≤ 140737488355328) (hbase : base ≤ w.heap.size)
    (h : ∀ ao c w', w'.ownsRow base e size (.slice ao (n + m) c) (n + m) (xs ++ news) → w.grownBy w' v.ownBlock → Moved w v (.slice ao (n + m) c) → (ao = none → v = .slice none 0 0 ∧ m = 0) → wpList P ops Q rest (a.put o.dst (.slice ao (n + m) c)) w') : wpList P ops Q (o :: rest) a w :=
  BigFrame.wpList_want hgd fun _ hK => wp_app hT ho hs hown hx hu h1 hbytes hcount hbase fun v' w' h2 h3 h4 h5 => by
    obtain ⟨ao, c, hv, hz⟩ : ∃ ao c, v' = .slice ao (n + m) c ∧ (ao = none → c = 0 ∧ n + m = 0) := by
      rcases h2.2 with ⟨rfl, hz⟩ | ⟨g, cap, cur, rfl, _⟩
      · exact ⟨none, 0, by rw [hz], fun _ => ⟨rfl, hz⟩⟩
      · exact ⟨_, cap, rfl, fun h => by simp at h⟩
    subst hv
    exact hK _ _ (h ao c w' h2 h3 h4 (fun e => h5.1 (by have := hz e; rw [e, this.1, this.2])))

theorem rowBytes : RowT Try.prog 30 5 1 1 := RowT.mk (z := .int .u8 0) (by kernel_rfl) (by kernel_rfl) rfl (by decide)

/-- The same for bytes. -/
theorem wpAppB {w : World} {ops : Array Oper} {rest : List Oper} {o : Oper} {a : Act} {Q : Exit → Act → World → Prop} (hgd : Region.wanted o (yielded ops a.tmps) = true) (s x : Operand)
    (ho : o.op = .call { callee := .builtin .append, args := #[s, x], argTypes := #[30, 30] }) (base : Nat) (v : Value) (l : List UInt8) (hs : a.eval s = v) (hown : OwB w base v l)
    (u : Value) (m : List UInt8) (hx : a.eval x = u) (hu : Bs w u m) (hlen : l.length + m.length ≤ 140737488355328) (hbase : base ≤ w.heap.size)
    (h : ∀ ao c w', OwB w' base (.slice ao (l.length + m.length) c) (l ++ m) → w.grownBy w' v.ownBlock → Moved w v (.slice ao (l.length + m.length) c) → wpList Try.prog ops Q rest (a.put o.dst (.slice ao (l.length + m.length) c)) w') : wpList Try.prog ops Q (o :: rest) a w :=
  wpApp rowBytes hgd s x ho base v _ _ hs hown u _ _ hx hu (vb_one _) (by omega) (by omega) hbase fun ao c w' h1 h2 h3 _ =>
    h ao c w' (by unfold OwB; rw [List.length_append, List.map_append]; exact h1) h2 h3

theorem OwB.nil (w : World) (base : Nat) : OwB w base (.slice none 0 0) [] := World.ownsRow_nil _ _ _ _
/-- append([]byte(nil), x...). -/
theorem wpClone {w : World} {ops : Array Oper} {rest : List Oper} {o : Oper} {a : Act} {Q : Exit → Act → World → Prop} (hgd : Region.wanted o (yielded ops a.tmps) = true) (x : Operand)
    (ho : o.op = .call { callee := .builtin .append, args := #[.const (.slice none 0 0), x], argTypes := #[30, 30] })
    (u : Value) (m : List UInt8) (hx : a.eval x = u) (hu : Bs w u m) (hlen : m.length ≤ 140737488355328)
    (h : ∀ ao c w', OwB w' w.heap.size (.slice ao m.length c) m → Chg [] w w' → wpList Try.prog ops Q rest (a.put o.dst (.slice ao m.length c)) w') : wpList Try.prog ops Q (o :: rest) a w :=
  wpAppB hgd _ x ho w.heap.size (.slice none 0 0) [] rfl (OwB.nil _ _) u m hx hu (by simpa using hlen) (Nat.le_refl _) fun ao c w' h1 h2 _ => by
    simp only [List.length_nil, Nat.zero_add, List.nil_append] at h1 ⊢
    exact h ao c w' h1 ((Chg.refl _ _).grown h2 (by simp [Value.ownBlock]))
/-- Behind what was there, onto a row of the call's own. -/
theorem Chg.app {w1 w2 w3 : World} {base : Nat} {v : Value} {l : List UInt8} (h : Chg [] w1 w2) (hown : OwB w2 base v l) (hg : w2.grownBy w3 v.ownBlock) (hb : w1.heap.size ≤ base) : Chg [] w1 w3 :=
  h.grown hg (fun k hk hlt => by have := (hown.lo k hk).1; omega)
/-- A literal of bytes, just laid. -/
theorem OwB.lit (w : World) (base : Nat) (l : List UInt8) (cs : Array Value) (hcs : cs = (l.map vb).toArray) (hb : base ≤ w.heap.size) (hl : l.length ≤ 140737488355328) :
    OwB (w.alloc (.cells cs 5)) base (.slice (some ⟨w.heap.size, 0, none⟩) l.length l.length) l := by
  subst hcs
  have := World.ownsRow_lit (base := base) (e := 5) (size := 1) w (l.map vb).toArray l.length hb (by unfold maxLen; omega) (by simp)
  unfold OwB
  simpa using this
theorem OwB.one (w : World) (base : Nat) (c : UInt8) (z : Int) (hz : z = n8 c) (hb : base ≤ w.heap.size) :
    OwB (w.alloc (.cells #[.int .u8 z] 5)) base (.slice (some ⟨w.heap.size, 0, none⟩) 1 1) [c] := by
  subst hz
  exact OwB.lit w base [c] _ rfl hb (by simp)
end Go.Proofs.Ytpoohpmcopjklaa

/- Laws on conversions between bytes and strings, and on append of zeros. -/
namespace Go.Proofs.Ytpoohpmcopjklaa
open Go.RowKit

def strB (l : List UInt8) : ByteArray := ⟨l.toArray⟩
theorem strB_inj {a b : List UInt8} : strB a = strB b ↔ a = b := by
  unfold strB; constructor
  · intro h; injection h with h; exact List.toArray_inj h
  · rintro rfl; rfl
@[simp] theorem strB_data (l : List UInt8) : (strB l).data.toList = l := rfl
@[simp, go_sem] theorem strB_toList (l : List UInt8) : (strB l).toList = l := by rw [ByteArray.toList_eq]; rfl
@[simp] theorem strB_size (l : List UInt8) : (strB l).size = l.length := by simp [strB, ByteArray.size]

theorem undBytes : Try.prog.underlying 30 = some (.slice 5) := by kernel_rfl
theorem undByte : Try.prog.underlying 5 = some (.int .u8) := by kernel_rfl
theorem undString : Try.prog.underlying 9 = some .string := by kernel_rfl

theorem run_str {w : World} {v : Value} {l : List UInt8} (hv : Bs w v l) : (convert 30 9 v).run Try.prog w = .ok (.string (strB l)) w := by
  obtain ⟨ao, cap, b, off, rfl, h1, h2, h3, h4, h5⟩ := hv.open
  rcases Nat.eq_zero_or_pos l.length with h0 | h0
  · have hl : l = [] := List.eq_nil_of_length_eq_zero h0
    subst hl
    cases ao with
    | none => rw [run_convert_bytes_nil (P := Try.prog) w _ _ undBytes undByte _ _ _ undString]; rfl
    | some a =>
      rw [run_convert_bytes_string w _ _ _ _ _ cap undBytes undByte undString, run_bytesToString w a _ cap [] (by simp [loadCells, loadCellsFrom])]
      rfl
  · obtain rfl := h4 h0
    rw [run_convert_bytes_arg (P := Try.prog) w _ _ undBytes undByte b off l.length cap (l.map n8) (by simp) (fun i hi => by
      rw [h5 i hi]; simp [List.getD, List.getElem?_eq_getElem hi]) _ undString]
    congr 2
    unfold strOfNums strB
    congr 1
    congr 1
    rw [List.map_map]
    conv => rhs; rw [← List.map_id l]
    apply List.map_congr_left
    intro x _
    simp [n8]

theorem wpStr {w : World} {ops : Array Oper} {rest : List Oper} {o : Oper} {a : Act} {Q : Exit → Act → World → Prop} (hgd : Region.wanted o (yielded ops a.tmps) = true) (x : Operand)
    (ho : o.op = .convert 30 9 x) (v : Value) (l : List UInt8) (hx : a.eval x = v) (hv : Bs w v l)
    (h : wpList Try.prog ops Q rest (a.put o.dst (.string (strB l))) w) : wpList Try.prog ops Q (o :: rest) a w :=
  BigFrame.wpList_want hgd fun _ hK => by
    have hr := run_str hv
    unfold Oper.wp execOp
    simp only [ho, Sem.run_bind, Sem.run_pure, Result.andThen_ok, hx, hr]
    exact hK _ _ h

/-- Bytes of a string: a new row, marked behind its end. -/
theorem run_ofStr (w : World) (s : ByteArray) (hs : s.size ≤ 140737488355328) : ∃ c w', (convert 9 30 (.string s)).run Try.prog w = .ok (.slice (some ⟨w.heap.size, 0, none⟩) s.size c) w' ∧
    Bs w' (.slice (some ⟨w.heap.size, 0, none⟩) s.size c) s.data.toList ∧ Chg [] w w' := by
  have hlen : s.data.toList.length = s.size := Array.length_toList
  refine ⟨_, _, Lib.run_convert_string_bytes (P := Try.prog) w 9 30 5 s undString undBytes undByte, ?_, ?_⟩
  · refine ⟨by simp, _, _, w.heap.size, 0, by rw [hlen], ?_, ?_, by simp, by simp, fun j u hu => ?_⟩
    · rw [hlen]; exact grownCap_ge w s.size 0 _
    · exact grownCap_le_maxLen w s.size 0 _ (by unfold maxLen; omega)
    · have hj : j < s.data.toList.length := by
        have := (List.getElem?_eq_some_iff.1 hu).1; simpa using this
      rw [Nat.zero_add, Lib.bytesWorld_cell w _ s j (by rw [← hlen]; exact hj)]
      rw [List.getElem?_map, List.getElem?_eq_getElem hj] at hu
      simp only [Option.map_some, Option.some.injEq] at hu
      rw [← hu]
      simp only [vb, n8, List.getD, List.getElem?_eq_getElem hj, Option.getD_some]
  · exact ⟨rfl, rfl, rfl, by rw [Lib.bytesWorld_size]; omega, fun k hk _ => Lib.bytesWorld_at_old w _ s k hk⟩

theorem wpOfStr {w : World} {ops : Array Oper} {rest : List Oper} {o : Oper} {a : Act} {Q : Exit → Act → World → Prop} (hgd : Region.wanted o (yielded ops a.tmps) = true) (x : Operand)
    (ho : o.op = .convert 9 30 x) (s : ByteArray) (hx : a.eval x = .string s) (hs : s.size ≤ 140737488355328)
    (h : ∀ b c w', Bs w' (.slice (some ⟨b, 0, none⟩) s.size c) s.data.toList → b = w.heap.size → Chg [] w w' → wpList Try.prog ops Q rest (a.put o.dst (.slice (some ⟨b, 0, none⟩) s.size c)) w') : wpList Try.prog ops Q (o :: rest) a w :=
  BigFrame.wpList_want hgd fun _ hK => by
    obtain ⟨c, w', hr, h1, h2⟩ := run_ofStr w s hs
    unfold Oper.wp execOp
    simp only [ho, Sem.run_bind, Sem.run_pure, Result.andThen_ok, hx, hr]
    exact hK _ _ (h _ c w' h1 rfl h2)

/-- '[]byte("..")' of a constant. -/
theorem run_const (w : World) (l : List UInt8) (C : Array Value) (hC : C = (l.map vb).toArray) (hl : l.length ≤ 140737488355328) :
    (convert 30 30 (.slice (some ⟨w.heap.size, 0, none⟩) l.length l.length)).run Try.prog (w.alloc (.cells C 5)) = .ok (.slice (some ⟨w.heap.size, 0, none⟩) l.length l.length) (w.alloc (.cells C 5 (C.size, C.size + 1))) ∧
    Bs (w.alloc (.cells C 5 (C.size, C.size + 1))) (.slice (some ⟨w.heap.size, 0, none⟩) l.length l.length) l ∧ Chg [] w (w.alloc (.cells C 5 (C.size, C.size + 1))) := by
  subst hC
  refine ⟨Lib.run_convert_bytes_const (P := Try.prog) w _ _ _ _ _ undBytes undByte, ⟨by simp, _, _, w.heap.size, 0, rfl, Nat.le_refl _, by unfold maxLen; omega, by simp, by simp, fun j u hu => ?_⟩, (Chg.refl _ _).alloc _⟩
  rw [Nat.zero_add, World.cell?_alloc_mark]
  simpa using hu

theorem Bs.marked (w : World) (l : List UInt8) (C : Array Value) (n : Nat) (hC : C = (l.map vb).toArray) (hn : n = l.length) (hl : l.length ≤ 140737488355328) :
    Bs (w.alloc (.cells C 5 (C.size, C.size + 1))) (.slice (some ⟨w.heap.size, 0, none⟩) n n) l := by
  subst hn; exact (run_const w l C hC hl).2.1
theorem bsConst (w : World) (C : Array Value) (n c : Nat) :
    (convert 30 30 (.slice (some ⟨w.heap.size, 0, none⟩) n c)).run Try.prog (w.alloc (.cells C 5)) = .ok (.slice (some ⟨w.heap.size, 0, none⟩) n c) (w.alloc (.cells C 5 (C.size, C.size + 1))) := Lib.run_convert_bytes_const (P := Try.prog) w 30 5 C n c undBytes undByte
end Go.Proofs.Ytpoohpmcopjklaa

/- One law for cutting a slice, whatever its elements. -/
namespace Go.Proofs.Ytpoohpmcopjklaa
open Go.RowKit

def Bound (lo : Option Value) (p d : Nat) : Prop := (lo = none ∧ p = d) ∨ ∃ k, lo = some (.int k (p : Int))

theorem run_cut {P : Program} {t e : TypeId} {size bytes : Nat} (hT : RowT P t e size bytes) {w : World} {v : Value} {n : Nat} {xs : List Value} (hv : Rd w size v n xs) {lo hi : Option Value} {p q : Nat}
    (hlo : Bound lo p 0) (hhi : Bound hi q n) (hpq : p ≤ q) (hq : q ≤ n) :
    ∃ ao c, (∀ W, (Instr.sliceAt t v lo hi none).run P W = .ok (.slice ao (q - p) c) W) ∧ Rd w size (.slice ao (q - p) c) (q - p) ((xs.drop (p * size)).take ((q - p) * size)) ∧
      (∀ k, (Value.slice ao (q - p) c).ownBlock = some k → v.ownBlock = some k) := by
  obtain ⟨i, z, ht, hi', hz, rfl, rfl, hzs, hsz⟩ := hT
  obtain ⟨h0, ao, cap, b, off, rfl, h2, h3, h4, h5, h6⟩ := hv
  have hb : ∀ W, (Instr.sliceBounds true n cap lo hi none).run P W = .ok (p, q, cap) W := by
    intro W
    have e1 : ∀ (k : IntKind) (code : BoundsCode), (Instr.sliceBound (.int k (q : Int)) cap code).run P W = .ok q W := by
      intro k code; simp [Instr.sliceBound, asIntOf, show (q : Int) ≤ (cap : Int) by omega, go_sem]
    have e2 : ∀ (k : IntKind) (code : BoundsCode), (Instr.sliceBound (.int k (p : Int)) q code).run P W = .ok p W := by
      intro k code; simp [Instr.sliceBound, asIntOf, show (p : Int) ≤ (q : Int) by omega, go_sem]
    rcases hlo with ⟨rfl, rfl⟩ | ⟨k, rfl⟩ <;> rcases hhi with ⟨rfl, rfl⟩ | ⟨k', rfl⟩ <;> simp [Instr.sliceBounds, e1, e2, go_sem] <;> (intro h; omega)
  refine ⟨if cap = p then ao else ao.map (·.add (p * i.size)), cap - p, fun W => ?_, ⟨?_, _, cap - p, b, if cap = p then off else off + p * i.size, rfl, by omega, by omega, ?_, ?_, ?_⟩, ?_⟩
  · simp [Instr.sliceAt, Instr.slice, run_underlying ht, sizeOf, typeInfo, hi', hb]
  · rw [List.length_take, List.length_drop, h0, ← Nat.sub_mul]
    exact Nat.min_eq_left (Nat.mul_le_mul_right _ (by omega))
  · intro hn
    have : ao = none := by
      split at hn
      · exact hn
      · simpa using hn
    have := h4 this
    omega
  · intro hpos
    rw [h5 (by omega)]
    have hne : ¬ cap = p := by omega
    rw [if_neg hne, if_neg hne]
    simp only [Option.map_some, Option.some.injEq]
    unfold Addr.add; split <;> simp_all
  · intro j u hu
    rw [List.getElem?_take] at hu
    split at hu
    · rename_i hj
      rw [List.getElem?_drop] at hu
      have hpos : 0 < q - p := by
        rcases Nat.eq_zero_or_pos (q - p) with h | h
        · rw [h] at hj; simp at hj
        · exact h
      have hne : ¬ cap = p := by omega
      rw [if_neg hne, Nat.add_assoc]
      exact h6 _ _ hu
    · simp at hu
  · intro k hk
    cases ao with
    | none => split at hk <;> simp [Value.ownBlock] at hk
    | some a =>
      split at hk
      · simpa [Value.ownBlock] using hk
      · have : (a.add (p * i.size)).block = a.block := by unfold Addr.add; split <;> rfl
        simpa [Value.ownBlock, this] using hk

theorem wpCut {P : Program} {w : World} {ops : Array Oper} {rest : List Oper} {o : Oper} {a : Act} {Q : Exit → Act → World → Prop} {t e : TypeId} {size bytes : Nat} (hT : RowT P t e size bytes) (hgd : Region.wanted o (yielded ops a.tmps) = true) (x : Operand) (lo hi : Option Operand)
    (ho : o.op = .slice t x lo hi none) (v : Value) (n : Nat) (xs : List Value) (hx : a.eval x = v) (hv : Rd w size v n xs) (p q : Nat) (hlo : Bound (lo.map a.eval) p 0) (hhi : Bound (hi.map a.eval) q n) (hpq : p ≤ q) (hq : q ≤ n)
    (h : ∀ ao c, Rd w size (.slice ao (q - p) c) (q - p) ((xs.drop (p * size)).take ((q - p) * size)) → (∀ k, (Value.slice ao (q - p) c).ownBlock = some k → v.ownBlock = some k) → wpList P ops Q rest (a.put o.dst (.slice ao (q - p) c)) w) : wpList P ops Q (o :: rest) a w :=
  BigFrame.wpList_want hgd fun _ hK => by
    obtain ⟨ao, c, hr, h2, h3⟩ := run_cut hT hv hlo hhi hpq hq
    unfold Oper.wp execOp
    simp only [ho, Sem.run_bind, Sem.run_pure, Result.andThen_ok, Option.map_none, hx, hr]
    exact hK _ _ (h ao c h2 h3)

theorem wpCutB {w : World} {ops : Array Oper} {rest : List Oper} {o : Oper} {a : Act} {Q : Exit → Act → World → Prop} (hgd : Region.wanted o (yielded ops a.tmps) = true) (x : Operand) (lo hi : Option Operand)
    (ho : o.op = .slice 30 x lo hi none) (v : Value) (l : List UInt8) (hx : a.eval x = v) (hv : Bs w v l) (p q : Nat) (hlo : Bound (lo.map a.eval) p 0) (hhi : Bound (hi.map a.eval) q l.length) (hpq : p ≤ q) (hq : q ≤ l.length)
    (h : ∀ ao c, Bs w (.slice ao (q - p) c) ((l.drop p).take (q - p)) → (∀ k, (Value.slice ao (q - p) c).ownBlock = some k → v.ownBlock = some k) → wpList Try.prog ops Q rest (a.put o.dst (.slice ao (q - p) c)) w) : wpList Try.prog ops Q (o :: rest) a w :=
  wpCut rowBytes hgd x lo hi ho v _ _ hx hv p q hlo hhi hpq hq fun ao c h1 h2 => h ao c (by
    have e : ((l.drop p).take (q - p)).length = q - p := by rw [List.length_take, List.length_drop]; omega
    unfold Bs; rw [e]; simpa [List.map_take, List.map_drop] using h1) h2
end Go.Proofs.Ytpoohpmcopjklaa

/- More words: what is kept over a call that turns nothing old; cuts in a region that draws. -/
namespace Go.Proofs.Ytpoohpmcopjklaa
open Go.RowKit

theorem Chg.cellS {w wx : World} {p : Addr} {v : Value} (h : Chg [] w wx) (hc : w.cell? p = some v) : wx.cell? p = some v :=
  (h.cell (World.block_lt_of_cell? w _ hc) (by simp)).trans hc
theorem Chg.frozenS {w wx : World} {p : Addr} {v : Value} (h : Chg [] w wx) (hc : w.cell? p = some v) : wx.frozen? p = w.frozen? p :=
  h.frozen (World.block_lt_of_cell? w _ hc) (by simp)
/- One word for 'kept over what turns nothing old'. -/
theorem Chg.k {a b c : World} (h : Chg [] a b) (hc : Chg [] b c) : Chg [] a c := h.trans hc (by simp)
theorem Bs.k {w w' : World} {v : Value} {l : List UInt8} (h : Bs w v l) (hc : Chg [] w w') : Bs w' v l := h.stays hc
theorem Fs.k {w w' : World} {v : Value} {l : List Int} (h : Fs w v l) (hc : Chg [] w w') : Fs w' v l := h.chg hc (by simp)
theorem OwB.k {w w' : World} {base : Nat} {v : Value} {l : List UInt8} (h : OwB w base v l) (hc : Chg [] w w') : OwB w' base v l := h.chg hc (by simp)
theorem Blk.k {w w' : World} {b : Nat} {cs : Array Value} {t : TypeId} (h : Blk w b cs t) (hc : Chg [] w w') : Blk w' b cs t := h.chg hc (by simp)
theorem elemBytes : Try.prog.elem 30 = 5 := by kernel_rfl
theorem run_cutB {w : World} {v : Value} {l : List UInt8} (hv : Bs w v l) {lo hi : Option Value} {p q : Nat} (hlo : Bound lo p 0) (hhi : Bound hi q l.length) (hpq : p ≤ q) (hq : q ≤ l.length) :
    ∃ ao c, (∀ W, (Instr.slice 30 v lo hi none).run Try.prog W = .ok (.slice ao (q - p) c) W) ∧ Bs w (.slice ao (q - p) c) ((l.drop p).take (q - p)) ∧
      (∀ k, (Value.slice ao (q - p) c).ownBlock = some k → v.ownBlock = some k) := by
  obtain ⟨ao, c, h1, h2, h3⟩ := run_cut rowBytes hv hlo hhi hpq hq
  refine ⟨ao, c, fun W => ?_, ?_, h3⟩
  · rw [← run_sliceAt_slice (P := Try.prog) W 30 v lo hi none (by rw [elemBytes]; exact undBytes)]
    exact h1 W
  · have e : ((l.drop p).take (q - p)).length = q - p := by rw [List.length_take, List.length_drop]; omega
    unfold Bs; rw [e]; simpa [List.map_take, List.map_drop] using h2
/-- append of bytes, as one operation. -/
theorem wp_appB {w : World} {o : Oper} {a : Act} {K : Act → World → Prop} {Q : Exit → Act → World → Prop} (s x : Operand)
    (ho : o.op = .call { callee := .builtin .append, args := #[s, x], argTypes := #[30, 30] }) (base : Nat) (v : Value) (l : List UInt8) (hs : a.eval s = v) (hown : OwB w base v l)
    (u : Value) (m : List UInt8) (hx : a.eval x = u) (hu : Bs w u m) (hlen : l.length + m.length ≤ 140737488355328) (hbase : base ≤ w.heap.size)
    (h : ∀ ao c w', OwB w' base (.slice ao (l.length + m.length) c) (l ++ m) → w.grownBy w' v.ownBlock → Moved w v (.slice ao (l.length + m.length) c) → K (a.put o.dst (.slice ao (l.length + m.length) c)) w') : o.wp Try.prog a w K Q := by
  refine wp_app rowBytes ho hs hown hx hu (vb_one _) (by omega) (by omega) hbase fun v' w' h2 h3 h4 h5 => ?_
  obtain ⟨ao, c, hv⟩ : ∃ ao c, v' = .slice ao (l.length + m.length) c := by
    rcases h2.2 with ⟨rfl, hz⟩ | ⟨g, cap, cur, rfl, _⟩
    · exact ⟨none, 0, by rw [hz]⟩
    · exact ⟨_, cap, rfl⟩
  subst hv
  exact h ao c w' (by unfold OwB; rw [List.length_append, List.map_append]; exact h2) h3 h4
theorem wp_cloneB {w : World} {o : Oper} {a : Act} {K : Act → World → Prop} {Q : Exit → Act → World → Prop} (x : Operand)
    (ho : o.op = .call { callee := .builtin .append, args := #[.const (.slice none 0 0), x], argTypes := #[30, 30] })
    (u : Value) (m : List UInt8) (hx : a.eval x = u) (hu : Bs w u m) (hlen : m.length ≤ 140737488355328)
    (h : ∀ ao c w', OwB w' w.heap.size (.slice ao m.length c) m → Chg [] w w' → K (a.put o.dst (.slice ao m.length c)) w') : o.wp Try.prog a w K Q :=
  wp_appB _ x ho w.heap.size (.slice none 0 0) [] rfl (OwB.nil _ _) u m hx hu (by simpa using hlen) (Nat.le_refl _) fun ao c w' h1 h2 _ => by
    simp only [List.length_nil, Nat.zero_add, List.nil_append] at h1 ⊢
    exact h ao c w' h1 ((Chg.refl _ _).grown h2 (by simp [Value.ownBlock]))
theorem strCells_strB (l : List UInt8) : Lib.strCells (strB l) = l.map vb := rfl
/-- append(b, s...) of a string. -/
theorem wp_appS {w : World} {o : Oper} {a : Act} {K : Act → World → Prop} {Q : Exit → Act → World → Prop} (s x : Operand)
    (ho : o.op = .call { callee := .builtin .append, args := #[s, x], argTypes := #[30, 9] }) (base : Nat) (v : Value) (l : List UInt8) (hs : a.eval s = v) (hown : OwB w base v l)
    (m : List UInt8) (hx : a.eval x = .string (strB m)) (hlen : l.length + m.length ≤ 140737488355328) (hbase : base ≤ w.heap.size)
    (h : ∀ ao c w', OwB w' base (.slice ao (l.length + m.length) c) (l ++ m) → w.grownBy w' v.ownBlock → K (a.put o.dst (.slice ao (l.length + m.length) c)) w') : o.wp Try.prog a w K Q := by
  obtain ⟨i, h1, h2, h3, h4⟩ := info_parts (P := Try.prog) (show (Try.prog.info? 5).map (fun i => (i.zero, i.size, i.bytes)) = some (some (.int .u8 0), 1, 1) by kernel_rfl)
  obtain ⟨v', w', hr, k1, k2, -⟩ := Lib.run_append_own_string (P := Try.prog) w base 30 9 o.type 5 i undBytes undString h1 h2 h3 h4 v _ _ hown (strB m) (by simp [maxLen]; omega) (by simpa using hlen) hbase
  rw [strCells_strB] at k1
  simp only [strB_size] at k1
  obtain ⟨ao, c, hv⟩ : ∃ ao c, v' = .slice ao (l.length + m.length) c := by
    rcases k1.2 with ⟨rfl, hz⟩ | ⟨g, cap, cur, rfl, _⟩
    · exact ⟨none, 0, by rw [hz]⟩
    · exact ⟨_, cap, rfl⟩
  subst hv
  unfold Oper.wp execOp
  simp only [ho, resolve, invoke, builtin, Sem.run_bind, Sem.run_pure, Result.andThen_ok, List.map_toArray, List.map_cons, List.map_nil, hs, hx, hr]
  exact h ao c w' (by unfold OwB; rw [List.length_append, List.map_append]; exact k1) k2
theorem Chg.ownGrow {a b c : World} {base : Nat} {e : TypeId} {size n : Nat} {v : Value} {xs : List Value} (h : Chg [] a b) (hown : b.ownsRow base e size v n xs) (hg : b.grownBy c v.ownBlock) (hb : a.heap.size ≤ base) : Chg [] a c :=
  h.grown hg (fun k hk hlt => by have := (World.ownsRow.lt hown k hk).1; omega)
/- Rows of ints of the call's own. -/
theorem rowInt : RowT Try.prog 53 3 1 8 := RowT.mk (z := .int .i64 0) (by kernel_rfl) (by kernel_rfl) rfl (by decide)
def OwI (w : World) (base : Nat) (v : Value) (l : List Int) : Prop := w.ownsRow base 3 1 v l.length (l.map (Value.int .i64))
theorem OwI.nil (w : World) (base : Nat) : OwI w base (.slice none 0 0) [] := World.ownsRow_nil _ _ _ _
theorem OwI.fs {w : World} {base : Nat} {v : Value} {l : List Int} (h : OwI w base v l) : Fs w v l := Rd.ofOwn h
theorem OwI.k {w w' : World} {base : Nat} {v : Value} {l : List Int} (h : OwI w base v l) (hc : Chg [] w w') : OwI w' base v l := by
  refine ⟨h.1, ?_⟩
  rcases h.2 with hx | ⟨g, cap, cur, rfl, hb, hg, rest⟩
  · exact .inl hx
  · refine .inr ⟨g, cap, cur, rfl, hb, ?_, rest⟩
    rw [hc.block g (lt_of_block hg) (by simp)]
    exact hg
theorem wpAppI {w : World} {ops : Array Oper} {rest : List Oper} {o : Oper} {a : Act} {Q : Exit → Act → World → Prop} (hgd : Region.wanted o (yielded ops a.tmps) = true) (s x : Operand)
    (ho : o.op = .call { callee := .builtin .append, args := #[s, x], argTypes := #[53, 53] }) (base : Nat) (v : Value) (l : List Int) (hs : a.eval s = v) (hown : OwI w base v l)
    (u : Value) (m : List Int) (hx : a.eval x = u) (hu : Fs w u m) (hlen : l.length + m.length ≤ 10000000000000) (hbase : base ≤ w.heap.size)
    (h : ∀ ao c w', OwI w' base (.slice ao (l.length + m.length) c) (l ++ m) → w.grownBy w' v.ownBlock → wpList Try.prog ops Q rest (a.put o.dst (.slice ao (l.length + m.length) c)) w') : wpList Try.prog ops Q (o :: rest) a w :=
  wpApp rowInt hgd s x ho base v _ _ hs hown u _ _ hx hu (by intro u hu; obtain ⟨x, _, rfl⟩ := List.mem_map.1 hu; rfl) (by omega) (by omega) hbase fun ao c w' h1 h2 _ _ =>
    h ao c w' (by unfold OwI; rw [List.length_append, List.map_append]; exact h1) h2
/- Rows of different element types lie in different blocks. -/
theorem ownsRow_apart {w : World} {base : Nat} {e : TypeId} {size n : Nat} {v : Value} {xs : List Value} (h : w.ownsRow base e size v n xs) {b : Nat} {cs : Array Value} {t : TypeId} (hb : Blk w b cs t) (ht : t ≠ e) : v.ownBlock ≠ some b := by
  intro he
  rcases h.2 with ⟨rfl, _⟩ | ⟨g, cap, cur, rfl, _, hg, _⟩
  · simp [Value.ownBlock] at he
  · simp only [Value.ownBlock, Option.some.injEq] at he
    subst he
    unfold Blk at hb
    rw [hb] at hg
    simp at hg
    exact ht hg.2
theorem ownsRow_grow {w w' : World} {base base' : Nat} {e e' : TypeId} {size size' n n' : Nat} {v u : Value} {xs ys : List Value} (h : w.ownsRow base e size v n xs) (hu : w.ownsRow base' e' size' u n' ys) (hne : e ≠ e') (hg : w.grownBy w' u.ownBlock) : w'.ownsRow base e size v n xs := by
  refine World.ownsRow.kept h hg ?_
  rcases hu.2 with ⟨rfl, _⟩ | ⟨g, cap, cur, rfl, _, hgg, _⟩
  · rcases h.2 with ⟨rfl, _⟩ | ⟨k, _, _, rfl, _⟩
    · exact .inl rfl
    · exact .inr (by simp [Value.ownBlock])
  · exact .inr (ownsRow_apart h (b := g) hgg (fun x => hne x.symm))
theorem ownsRow_set {w : World} {base : Nat} {e : TypeId} {size n : Nat} {v : Value} {xs : List Value} (h : w.ownsRow base e size v n xs) {b : Nat} {cs : Array Value} {t : TypeId} (hb : Blk w b cs t) (ht : t ≠ e) (i : Nat) (u : Value) : (w.setCell ⟨b, i, none⟩ u).ownsRow base e size v n xs :=
  ownsRow_setCell_other h (a := ⟨b, i, none⟩) (ownsRow_apart h hb ht) u
theorem ownsRow_mono {w : World} {base base' : Nat} {e : TypeId} {size n : Nat} {v : Value} {xs : List Value} (h : w.ownsRow base e size v n xs) (hb : base' ≤ base) : w.ownsRow base' e size v n xs := by
  refine ⟨h.1, ?_⟩
  rcases h.2 with hx | ⟨g, cap, cur, rfl, hbg, rest⟩
  · exact .inl hx
  · exact .inr ⟨g, cap, cur, rfl, Nat.le_trans hb hbg, rest⟩
theorem ownsRow_k {w w' : World} {base : Nat} {e : TypeId} {size n : Nat} {v : Value} {xs : List Value} (h : w.ownsRow base e size v n xs) (hc : Chg [] w w') : w'.ownsRow base e size v n xs := by
  refine ⟨h.1, ?_⟩
  rcases h.2 with hx | ⟨g, cap, cur, rfl, hb, hg, rest⟩
  · exact .inl hx
  · refine .inr ⟨g, cap, cur, rfl, hb, ?_, rest⟩
    rw [hc.block g (lt_of_block hg) (by simp)]
    exact hg
/-- A literal, just laid. -/
theorem Rd.lit (w : World) (size n : Nat) (xs : List Value) (cs : Array Value) (e : TypeId) (hcs : cs = xs.toArray) (hn : xs.length = n * size) (hl : n ≤ 140737488355328) :
    Rd (w.alloc (.cells cs e)) size (.slice (some ⟨w.heap.size, 0, none⟩) n n) n xs := by
  subst hcs
  refine ⟨hn, _, _, w.heap.size, 0, rfl, Nat.le_refl _, by unfold maxLen; omega, by simp, by simp, fun j u hu => ?_⟩
  rw [Nat.zero_add, (Blk.new w _ e).cell]
  simpa using hu
/-- The string of bytes that read so, in whatever world that kept them. -/
theorem Bs.strs {w : World} {v : Value} {l : List UInt8} (h : Bs w v l) : ∀ wx : World, Chg [] w wx → (convert 30 9 v).run Try.prog wx = .ok (.string (strB l)) wx :=
  fun _ hx => run_str (h.stays hx)
end Go.Proofs.Ytpoohpmcopjklaa

/- A map from strings to ints as a list of names: what the map's datum says. -/
namespace Go.Proofs.Ytpoohpmcopjklaa
open Go.RowKit

abbrev Nm := List (List UInt8 × Nat)
def nget (es : Nm) (s : List UInt8) : Option Nat := (es.find? fun p => p.1 == s).map (·.2)
def ndel (es : Nm) (s : List UInt8) : Nm := es.filter fun p => !(p.1 == s)
def nput (es : Nm) (s : List UInt8) (i : Nat) : Nm := ndel es s ++ [(s, i)]

theorem nget_nil (s : List UInt8) : nget [] s = none := rfl
theorem find_ndel_other {es : Nm} {s k : List UInt8} (h : k ≠ s) : (ndel es s).find? (fun p => p.1 == k) = es.find? (fun p => p.1 == k) := by
  unfold ndel
  induction es with
  | nil => rfl
  | cons p es ih =>
    by_cases hp : p.1 = s
    · have hk : (p.1 == k) = false := by rw [hp]; simpa using fun e => h e.symm
      rw [List.filter_cons_of_neg (by simp [hp]), List.find?_cons_of_neg (by simp [hk]), ih]
    · rw [List.filter_cons_of_pos (by simp [hp])]
      by_cases hk : p.1 = k
      · rw [List.find?_cons_of_pos (by simp [hk]), List.find?_cons_of_pos (by simp [hk])]
      · rw [List.find?_cons_of_neg (by simp [hk]), List.find?_cons_of_neg (by simp [hk]), ih]
theorem nget_del_same (es : Nm) (s : List UInt8) : nget (ndel es s) s = none := by
  unfold nget ndel
  rw [List.find?_eq_none.2 (fun p hp => by simpa using (List.mem_filter.1 hp).2)]; rfl
theorem nget_del_other {es : Nm} {s k : List UInt8} (h : k ≠ s) : nget (ndel es s) k = nget es k := by
  unfold nget; rw [find_ndel_other h]
theorem nget_put_same (es : Nm) (s : List UInt8) (i : Nat) : nget (nput es s i) s = some i := by
  have h := nget_del_same es s
  unfold nget at h ⊢
  unfold nput
  rw [List.find?_append]
  simp only [Option.map_eq_none_iff] at h
  rw [h]; simp
theorem nget_put_other {es : Nm} {s k : List UInt8} (h : k ≠ s) (i : Nat) : nget (nput es s i) k = nget es k := by
  rw [← nget_del_other (es := es) h]
  unfold nget nput
  rw [List.find?_append]
  have : [(s, i)].find? (fun p => p.1 == k) = none := by simp; exact fun e => h e.symm
  rw [this]; simp
theorem ndel_keys (es : Nm) (s : List UInt8) : ((ndel es s).map (·.1)) = (es.map (·.1)).filter fun k => !(k == s) := by
  unfold ndel; rw [List.filter_map]; rfl
theorem nodup_del {es : Nm} (h : (es.map (·.1)).Nodup) (s : List UInt8) : ((ndel es s).map (·.1)).Nodup := by rw [ndel_keys]; exact h.filter _
theorem nodup_put {es : Nm} (h : (es.map (·.1)).Nodup) (s : List UInt8) (i : Nat) : ((nput es s i).map (·.1)).Nodup := by
  unfold nput
  rw [List.map_append, List.nodup_append]
  refine ⟨nodup_del h s, by simp, ?_⟩
  intro a ha b hb
  rw [ndel_keys] at ha
  have h1 := (List.mem_filter.1 ha).2
  simp at hb h1
  rw [hb]; exact h1
theorem nget_some_mem {es : Nm} {s : List UInt8} {i : Nat} (h : nget es s = some i) : (s, i) ∈ es := by
  unfold nget at h
  obtain ⟨p, hp, rfl⟩ := Option.map_eq_some_iff.1 h
  have h1 := List.mem_of_find?_eq_some hp
  have h2 := List.find?_some hp
  simp at h2
  rw [← h2]; exact h1
theorem nget_mem_isSome' {es : Nm} {p : List UInt8 × Nat} (h : p ∈ es) : (nget es p.1).isSome := by
  rcases hn : nget es p.1 with _ | j
  · exfalso
    unfold nget at hn
    rw [Option.map_eq_none_iff, List.find?_eq_none] at hn
    exact hn _ h (by simp)
  · rfl
theorem mem_nget {es : Nm} (hn : (es.map (·.1)).Nodup) {s : List UInt8} {i : Nat} (h : (s, i) ∈ es) : nget es s = some i := by
  induction es with
  | nil => cases h
  | cons p es ih =>
    unfold nget
    rw [List.map_cons, List.nodup_cons] at hn
    rcases List.mem_cons.1 h with rfl | h'
    · rw [List.find?_cons_of_pos (by simp)]; rfl
    · have hne : p.1 ≠ s := fun e => hn.1 (e ▸ List.mem_map.2 ⟨(s, i), h', rfl⟩)
      rw [List.find?_cons_of_neg (by simpa using hne)]
      exact ih hn.2 h'
theorem length_ndel {es : Nm} (hn : (es.map (·.1)).Nodup) (s : List UInt8) : (ndel es s).length + (if (nget es s).isSome then 1 else 0) = es.length := by
  induction es with
  | nil => simp [ndel, nget]
  | cons p es ih =>
    rw [List.map_cons, List.nodup_cons] at hn
    have ih := ih hn.2
    by_cases hp : p.1 = s
    · have hno : nget es s = none := by
        rcases h : nget es s with _ | i
        · rfl
        · exact absurd (List.mem_map.2 ⟨(s, i), nget_some_mem h, rfl⟩) (hp ▸ hn.1)
      have h1 : ndel (p :: es) s = ndel es s := by unfold ndel; rw [List.filter_cons_of_neg (by simp [hp])]
      have h2 : nget (p :: es) s = some p.2 := by unfold nget; rw [List.find?_cons_of_pos (by simp [hp])]; rfl
      rw [h1, h2]
      rw [hno] at ih
      simp at ih ⊢
      exact ih
    · have h1 : ndel (p :: es) s = p :: ndel es s := by unfold ndel; rw [List.filter_cons_of_pos (by simp [hp])]
      have h2 : nget (p :: es) s = nget es s := by unfold nget; rw [List.find?_cons_of_neg (by simpa using hp)]
      rw [h1, h2]
      simp only [List.length_cons]
      omega

/-- What the map's datum says, in these words. -/
structure ReadsN (D : DataW Unit) (es : Nm) : Prop where
  nodup : (es.map (·.1)).Nodup
  at_ : ∀ k z, D.atKey (.string k) z = ((nget es k).map fun i => DataW.lit (.int .i64 (i : Int))).getD z
  has : ∀ k, Maps.has D (.string k) = (nget es k).isSome
  size : Maps.size D = es.length
  tidy : Maps.Tidy D
  wf : ∀ p ∈ es, p.2 ≤ 4611686018427387904
theorem ReadsN.empty : ReadsN (.map []) [] := ⟨by simp, fun _ _ => rfl, fun _ => rfl, rfl, Maps.tidy_empty, by simp⟩
theorem str_ne {a b : List UInt8} (h : a ≠ b) : (Lit.string a) ≠ Lit.string b := fun e => h (by injection e)
theorem ReadsN.put {D : DataW Unit} {es : Nm} (h : ReadsN D es) (s : List UInt8) (i : Nat) (hi : i ≤ 4611686018427387904) : ReadsN (D.put (.string s) (.lit (.int .i64 (i : Int)))) (nput es s i) := by
  have hk : WideAt.IsKeyLit (.string s) := trivial
  refine ⟨nodup_put h.nodup s i, fun k z => ?_, fun k => ?_, ?_, h.tidy.put hk _, ?_⟩
  · by_cases hks : k = s
    · subst hks; rw [Maps.atKey_put_same h.tidy.isMap hk, nget_put_same]; rfl
    · rw [Maps.atKey_put_other (str_ne hks), nget_put_other hks, h.at_]
  · by_cases hks : k = s
    · subst hks; rw [Maps.has_put_same h.tidy.isMap hk, nget_put_same]; rfl
    · rw [Maps.has_put_other (str_ne hks), nget_put_other hks, h.has]
  · rw [Maps.size_put h.tidy, h.has, h.size]
    have := length_ndel h.nodup s
    unfold nput
    rw [List.length_append]
    cases hs : (nget es s).isSome <;> rw [hs] at this <;> simp at this ⊢ <;> omega
  · intro p hp
    unfold nput at hp
    rcases List.mem_append.1 hp with hp | hp
    · exact h.wf p (List.mem_filter.1 hp).1
    · obtain rfl : p = (s, i) := by simpa using hp
      exact hi
theorem ReadsN.del {D : DataW Unit} {es : Nm} (h : ReadsN D es) (s : List UInt8) : ReadsN (D.del (.string s)) (ndel es s) := by
  refine ⟨nodup_del h.nodup s, fun k z => ?_, fun k => ?_, ?_, h.tidy.del _, fun p hp => h.wf p (List.mem_filter.1 hp).1⟩
  · by_cases hks : k = s
    · subst hks; rw [Maps.atKey_del_same, nget_del_same]; rfl
    · rw [Maps.atKey_del_other (str_ne hks), nget_del_other hks, h.at_]
  · by_cases hks : k = s
    · subst hks; rw [Maps.has_del_same, nget_del_same]; rfl
    · rw [Maps.has_del_other (str_ne hks), nget_del_other hks, h.has]
  · have h1 := Maps.size_del (k := .string s) h.tidy
    rw [h.has, h.size] at h1
    have := length_ndel h.nodup s
    omega
end Go.Proofs.Ytpoohpmcopjklaa

/- A map from strings to ints in memory, and its operations in these words. -/
namespace Go.Proofs.Ytpoohpmcopjklaa
open Go.RowKit

theorem strKeyed : Maps.Keyed Try.prog 9 := Maps.string_keyed undString
theorem undMapN : Try.prog.underlying 81 = some (.map 9 3) := by kernel_rfl
theorem undInt : Try.prog.underlying 3 = some (.int .i64) := by kernel_rfl
theorem zeroInt (w : World) : (zeroValue 3).run Try.prog w = .ok (.int .i64 0) w := by kernel_rfl
def MapAt (w : World) (b : Nat) (es : Nm) : Prop := ∃ D : DataW Unit, w.ownsMap Try.prog 9 (plainElem Try.prog 3) b es.length D ∧ ReadsN D es
theorem MapAt.of {w : World} {b n : Nat} {es : Nm} {D : DataW Unit} (h : w.ownsMap Try.prog 9 (plainElem Try.prog 3) b n D) (hr : ReadsN D es) : MapAt w b es := by
  refine ⟨D, ?_, hr⟩
  have hsz := hr.size
  obtain ⟨xs, clock, hb, F, hs, hD⟩ := h
  refine ⟨xs, clock, hb, F, ?_, hD⟩
  rw [hD, Maps.size_eq, length_read] at hsz
  omega
theorem MapAt.nodup {w : World} {b : Nat} {es : Nm} (h : MapAt w b es) : (es.map (·.1)).Nodup := let ⟨_, _, hr⟩ := h; hr.nodup
theorem MapAt.lt {w : World} {b : Nat} {es : Nm} (h : MapAt w b es) : b < w.heap.size := let ⟨_, h1, _⟩ := h; h1.lt
theorem MapAt.block {w w' : World} {b : Nat} {es : Nm} (h : MapAt w b es) (hc : w'.heap[b]? = w.heap[b]?) : MapAt w' b es := by
  obtain ⟨D, ⟨xs, clock, hb, r⟩, hr⟩ := h
  exact ⟨D, ⟨xs, clock, hc.trans hb, r⟩, hr⟩
theorem MapAt.chg {S : List Nat} {w w' : World} {b : Nat} {es : Nm} (h : MapAt w b es) (hc : Chg S w w') (hn : b ∉ S) : MapAt w' b es := h.block (hc.block b h.lt hn)
theorem MapAt.k {w w' : World} {b : Nat} {es : Nm} (h : MapAt w b es) (hc : Chg [] w w') : MapAt w' b es := h.chg hc (by simp)
theorem MapAt.set {w : World} {b : Nat} {es : Nm} (h : MapAt w b es) (p : Addr) (u : Value) (hp : b ≠ p.block) : MapAt (w.setCell p u) b es := by
  obtain ⟨D, h1, hr⟩ := h
  exact ⟨D, h1.setCell hp u, hr⟩
theorem MapAt.alloc {w : World} {b : Nat} {es : Nm} (h : MapAt w b es) (o : Obj) : MapAt (w.alloc o) b es := h.k ((Chg.refl _ _).alloc o)
theorem MapAt.grown {w w' : World} {row : Option Nat} {b : Nat} {es : Nm} (h : MapAt w b es) (hg : w.grownBy w' row) (hn : some b ≠ row) : MapAt w' b es := h.block (hg.block b h.lt hn)
theorem MapAt.new (w : World) : MapAt (w.alloc (.map #[] 0)) w.heap.size [] := ⟨.map [], World.ownsMap_made w _ _ _, ReadsN.empty⟩
theorem strB_list (s : List UInt8) : (strB s).data.toList = s := by simp [strB]
theorem keyStr' (s : List UInt8) (hs : s.length ≤ 9223372036854775807) : keyOf Try.prog 9 (.string (strB s)) = some (.string s) := by
  have := WideMaps.keyOf_string_mk (P := Try.prog) (k := 9) undString (s := strB s) (by rw [strB_size]; unfold maxLen; omega)
  rwa [strB_list] at this
theorem keyStr (s : List UInt8) (hs : s.length ≤ 140737488355328) : keyOf Try.prog 9 (.string (strB s)) = some (.string s) := keyStr' s (by omega)
theorem wfNat {i : Nat} (h : i ≤ 4611686018427387904) : (Lit.int .i64 (i : Int)).wf = true := by
  simp [Lit.wf, IntKind.min, IntKind.max, IntKind.signed, IntKind.bits]; omega

theorem wpLook {w : World} {ops : Array Oper} {rest : List Oper} {o : Oper} {a : Act} {Q : Exit → Act → World → Prop} (hg : o.guard = none) (m x : Operand) (hop : o.op = Op.lookup 81 m x true)
    (b : Nat) (es : Nm) (s : List UInt8) (hm : a.eval m = .map (some b)) (hx : a.eval x = .string (strB s)) (h : MapAt w b es) (hs : s.length ≤ 140737488355328)
    (hK : wpList Try.prog ops Q rest (a.put o.dst (.tuple #[.int .i64 (((nget es s).getD 0 : Nat) : Int), .bool (nget es s).isSome])) w) : wpList Try.prog ops Q (o :: rest) a w := by
  obtain ⟨D, hown, hr⟩ := h
  refine wpList_lookup_own_ok_int w hg m x _ hop 9 3 .i64 strKeyed undMapN undInt (zeroInt w) b _ D hm hown _ _ hx (keyStr s hs) fun c hc _ => ?_
  rw [hr.at_] at hc
  have hcc : c = (((nget es s).getD 0 : Nat) : Int) := by
    rcases hn : nget es s with _ | i
    · rw [hn] at hc; simp at hc; simp [← hc]
    · rw [hn] at hc; simp at hc; simp [← hc]
  rw [hcc, hr.has]
  exact hK
theorem wpLenM {w : World} {ops : Array Oper} {rest : List Oper} {o : Oper} {a : Act} {Q : Exit → Act → World → Prop} (hg : o.guard = none) (m : Operand) (hop : o.op = Op.call { callee := Callee.builtin Builtin.len, args := #[m], argTypes := #[81] })
    (b : Nat) (es : Nm) (hm : a.eval m = .map (some b)) (h : MapAt w b es) (hK : wpList Try.prog ops Q rest (a.put o.dst (.int .i64 (es.length : Int))) w) : wpList Try.prog ops Q (o :: rest) a w := by
  obtain ⟨D, hown, hr⟩ := h
  refine wpList_len_own w hg m _ hop 9 3 undMapN _ b _ D hm hown ?_
  rw [hr.size]
  exact hK
theorem wpPut {w : World} {ops : Array Oper} {rest : List Oper} {o : Oper} {a : Act} {Q : Exit → Act → World → Prop} (hg : o.guard = none) (m x v : Operand) (hop : o.op = Op.mapUpdate 81 m x v)
    (b : Nat) (es : Nm) (s : List UInt8) (i : Nat) (hm : a.eval m = .map (some b)) (hx : a.eval x = .string (strB s)) (hv : a.eval v = .int .i64 (i : Int)) (h : MapAt w b es) (hs : s.length ≤ 140737488355328) (hi : i ≤ 4611686018427387904) (hn : es.length ≤ 10000000000000)
    (hK : ∀ w', MapAt w' b (nput es s i) → w.grownBy w' (some b) → wpList Try.prog ops Q rest (a.put o.dst undef) w') : wpList Try.prog ops Q (o :: rest) a w := by
  obtain ⟨D, hown, hr⟩ := h
  refine wpList_mapUpdate_own w hg m x v _ hop 9 3 strKeyed undMapN _ b _ D hm hown (by unfold maxLen; omega) _ _ _ hx hv (keyStr s hs) (.lit (.int .i64 (i : Int))) [] (plainElem_int undInt (wfNat hi)) fun w' h1 h2 => ?_
  exact hK w' (MapAt.of h1 (hr.put s i hi)) h2
theorem wpDel {w : World} {ops : Array Oper} {rest : List Oper} {o : Oper} {a : Act} {Q : Exit → Act → World → Prop} (hg : o.guard = none) (m x : Operand) (hop : o.op = Op.call { callee := Callee.builtin Builtin.delete, args := #[m, x], argTypes := #[81, 9] })
    (b : Nat) (es : Nm) (s : List UInt8) (hm : a.eval m = .map (some b)) (hx : a.eval x = .string (strB s)) (h : MapAt w b es) (hs : s.length ≤ 140737488355328)
    (hK : ∀ w', MapAt w' b (ndel es s) → w.grownBy w' (some b) → wpList Try.prog ops Q rest (a.put o.dst (.tuple #[])) w') : wpList Try.prog ops Q (o :: rest) a w := by
  obtain ⟨D, hown, hr⟩ := h
  refine wpList_delete_own w hg m x _ _ hop 3 strKeyed undMapN _ b _ D hm hown _ _ hx (keyStr s hs) fun w' h1 h2 => ?_
  exact hK w' (MapAt.of h1 (hr.del s)) h2.grown
end Go.Proofs.Ytpoohpmcopjklaa

/- The disk as plain data. -/
namespace Go.Proofs.Ytpoohpmcopjklaa
open Go.RowKit

structure Dsk where
  room : Int
  files : List (List UInt8 × Nat)
  names : Nm
  sure : Nm
  changes : List (List UInt8 × List UInt8 × Nat)
  ops : Int
  down : Int
  fail : Int
  off : Bool

def newD (room : Int) : Dsk := ⟨max room 0, [], [], [], [], 0, -1, -1, false⟩
/-- An operation begins: the disk behind it, and its error. -/
def opD (d : Dsk) : Dsk := { d with ops := d.ops + 1, off := d.off || decide (0 ≤ d.down ∧ d.down ≤ d.ops) }
def opE (d : Dsk) : Int := if d.off ∨ (0 ≤ d.down ∧ d.down ≤ d.ops) then 8 else if 0 ≤ d.fail ∧ d.ops = d.fail then 7 else 0
def turnD (es : Nm) (c : List UInt8 × List UInt8 × Nat) : Nm :=
  let es := if c.1 = [] then es else ndel es c.1
  if c.2.1 = [] then es else nput es c.2.1 c.2.2
def changeD (d : Dsk) (c : List UInt8 × List UInt8 × Nat) : Dsk := { d with names := turnD d.names c, changes := d.changes ++ [c] }
def signD (c : UInt8) : Bool := (97 ≤ c.toNat && c.toNat ≤ 122) || (48 ≤ c.toNat && c.toNat ≤ 57) || c.toNat = 45
def nameD (s : List UInt8) : Bool := s.all signD && (s ≠ [] && s.length ≤ 24)
def sizeD (d : Dsk) : Nat := (d.names.map fun p => (d.files.getD p.2 ([], 0)).1.length).sum

def createE (d : Dsk) (s : List UInt8) : Int :=
  if opE d ≠ 0 then opE d else if ¬ nameD s then 2 else if (nget d.names s).isSome then 5 else if 64 ≤ d.names.length then 3 else 0
def createD (d : Dsk) (s : List UInt8) : Dsk :=
  if createE d s ≠ 0 then opD d else changeD { opD d with files := d.files ++ [([], 0)] } ([], s, d.files.length)
def appendE (d : Dsk) (s : List UInt8) (b : List UInt8) : Int :=
  if opE d ≠ 0 then opE d else if (nget d.names s).isNone then 4 else if d.room < (sizeD d : Int) + b.length then 6 else 0
def setF (d : Dsk) (i : Nat) (f : List UInt8 × Nat) : Dsk := { d with files := d.files.set i f }
def appendD (d : Dsk) (s : List UInt8) (b : List UInt8) : Dsk :=
  if appendE d s b ≠ 0 then opD d else
  match nget d.names s with
  | none => opD d
  | some i => setF (opD d) i ((d.files.getD i ([], 0)).1 ++ b, (d.files.getD i ([], 0)).2)
def syncE (d : Dsk) (s : List UInt8) : Int := if opE d ≠ 0 then opE d else if (nget d.names s).isNone then 4 else 0
def syncD (d : Dsk) (s : List UInt8) : Dsk :=
  if syncE d s ≠ 0 then opD d else
  match nget d.names s with
  | none => opD d
  | some i => setF (opD d) i ((d.files.getD i ([], 0)).1, (d.files.getD i ([], 0)).1.length)
def dirSyncD (d : Dsk) : Dsk := if opE d ≠ 0 then opD d else { opD d with sure := d.names, changes := [] }
def bytesD (d : Dsk) (s : List UInt8) : List UInt8 := match nget d.names s with | none => [] | some i => (d.files.getD i ([], 0)).1

/-- A disk as it may be. -/
structure GoodD (d : Dsk) : Prop where
  room : 0 ≤ d.room ∧ d.room ≤ 9223372036854775807
  named : ∀ p ∈ d.names, p.2 < d.files.length
  sured : ∀ p ∈ d.sure, p.2 < d.files.length
  turned : ∀ c ∈ d.changes, c.2.1 ≠ [] → c.2.2 < d.files.length
  idx : ∀ c ∈ d.changes, c.2.2 ≤ d.files.length
  files : ∀ f ∈ d.files, f.2 ≤ f.1.length ∧ (f.1.length : Int) ≤ d.room ∧ f.1.length ≤ 4294967296
  ops : 0 ≤ d.ops ∧ d.ops ≤ 1073741824
  nfiles : (d.files.length : Int) ≤ d.ops
  nnames : (d.names.length : Int) ≤ d.ops
  nchanges : (d.sure.length + d.changes.length : Int) ≤ d.ops
  clens : ∀ c ∈ d.changes, c.1.length ≤ 140737488355328 ∧ c.2.1.length ≤ 140737488355328

theorem GoodD.scal {d d' : Dsk} (h : GoodD d) (e1 : d'.room = d.room) (e2 : d'.files = d.files) (e3 : d'.names = d.names) (e4 : d'.sure = d.sure) (e5 : d'.changes = d.changes) (h1 : d.ops ≤ d'.ops) (h2 : d'.ops ≤ 1073741824) : GoodD d' := by
  have ⟨a0, a1, a2, a3, a4, a5, a6, a7, a8, a9, a10⟩ := h
  refine ⟨?_, ?_, ?_, ?_, ?_, ?_, ⟨?_, h2⟩, ?_, ?_, ?_, ?_⟩ <;> (try simp only [e1, e2, e3, e4, e5]) <;> first | assumption | omega
theorem GoodD.op {d : Dsk} (h : GoodD d) (ho : d.ops < 1073741824) : GoodD (opD d) := h.scal rfl rfl rfl rfl rfl (by simp only [opD]; omega) (by simp only [opD]; omega)
theorem length_nput {es : Nm} (hn : (es.map (·.1)).Nodup) (s : List UInt8) (i : Nat) : (nput es s i).length ≤ es.length + 1 := by
  have := length_ndel hn s
  unfold nput
  rw [List.length_append]
  simp only [List.length_cons, List.length_nil]
  split at this <;> omega
theorem mem_turnD {es : Nm} {c : List UInt8 × List UInt8 × Nat} {p : List UInt8 × Nat} (h : p ∈ turnD es c) : p ∈ es ∨ (c.2.1 ≠ [] ∧ p = (c.2.1, c.2.2)) := by
  unfold turnD at h
  simp only at h
  have hd : ∀ {es : Nm} {s : List UInt8}, p ∈ ndel es s → p ∈ es := fun hp => (List.mem_filter.1 hp).1
  by_cases hc : c.2.1 = []
  · rw [if_pos hc] at h
    split at h
    · exact .inl h
    · exact .inl (hd h)
  · rw [if_neg hc] at h
    unfold nput at h
    rcases List.mem_append.1 h with h | h
    · left
      split at h
      · exact hd h
      · exact hd (hd h)
    · right
      exact ⟨hc, by simpa using h⟩
theorem nodup_turn {es : Nm} (hn : (es.map (·.1)).Nodup) (c : List UInt8 × List UInt8 × Nat) : ((turnD es c).map (·.1)).Nodup := by
  unfold turnD
  have h1 : ((if c.1 = [] then es else ndel es c.1).map (·.1)).Nodup := by split; exact hn; exact nodup_del hn _
  simp only
  split
  · exact h1
  · exact nodup_put h1 _ _
theorem length_turn {es : Nm} (hn : (es.map (·.1)).Nodup) (c : List UInt8 × List UInt8 × Nat) : (turnD es c).length ≤ es.length + 1 := by
  unfold turnD
  have h1 : (if c.1 = [] then es else ndel es c.1).length ≤ es.length := by split; exact Nat.le_refl _; exact List.length_filter_le _ _
  have h2 : ((if c.1 = [] then es else ndel es c.1).map (·.1)).Nodup := by split; exact hn; exact nodup_del hn _
  simp only
  split
  · omega
  · have := length_nput h2 c.2.1 c.2.2; omega
theorem opE_of {d : Dsk} (h1 : d.off = false) (h2 : d.down = -1) (h3 : d.fail = -1) : opE d = 0 := by
  unfold opE; rw [h1, h2, h3]; simp
end Go.Proofs.Ytpoohpmcopjklaa

/- A region that draws its order, met by one order: laws on listed operations, with every computed part a literal. -/
namespace Go.Proofs.Ytpoohpmcopjklaa
open Go.RowKit

def listAt {α : Type} : List α → Nat → Option α
  | [], _ => none
  | x :: _, 0 => some x
  | _ :: l, n + 1 => listAt l n
theorem listAt_eq {α : Type} (l : List α) : ∀ i, l.toArray[i]? = listAt l i := by
  intro i
  rw [List.getElem?_toArray]
  induction l generalizing i with
  | nil => rfl
  | cons x l ih => cases i with
    | zero => rfl
    | succ i => simpa [listAt] using ih i
def takeOk (ops : Array Oper) (L : Array Bool) (i : Nat) (L' : Array Bool) : Bool :=
  Region.noSelect ops && (Region.free .any ops L i && ((Region.ready .any ops L).contains i && decide (L.setIfInBounds i true = L')))
def runOk (ops : Array Oper) (L : Array Bool) (i : Nat) (L' : Array Bool) : Bool :=
  decide (Region.ready .any ops L = [i]) && decide (L.setIfInBounds i true = L')
def startOk (ops : Array Oper) (n : Nat) (L : Array Bool) : Bool := decide (ops.size = n) && decide (Array.replicate n false = L)
section
variable {P : Program} {l : List Oper} {Q : Exit → Act → World → Prop} {S : World → Prop} {n : Nat} {L L' : Array Bool} {a : Act} {w : World} {i : Nat} {o : Oper}

theorem anyH_start {id : Nat} (hok : startOk l.toArray n L = true) (hm : P.follows .mixedOrders = true) (hS : S w.drew) (h : S w.drew → wpAnyH P .any l.toArray Q S n L a w.drew) : (Code.region id l.toArray true).wp P Q a w := by
  simp only [startOk, Bool.and_eq_true, decide_eq_true_eq] at hok
  obtain ⟨rfl, rfl⟩ := hok
  exact wp_region_held_drew hm hS h
theorem anyH_take {d : Tmp} {v : Value} (hi : listAt l i = some o) (hd : o.dst = some d) (hok : takeOk l.toArray L i L' = true) (hQ : ∀ c a w, Q (.panic c) (a.put (some d) v) w → Q (.panic c) a w)
    (hw : Region.wanted o (yielded l.toArray a.tmps) = true) (hy : ∀ w, S w → (execOp a.eval o).run P w = .ok (.value v) w) (hS : S w) (h : wpAnyH P .any l.toArray Q S n L' (a.put (some d) v) w) : wpAnyH P .any l.toArray Q S (n + 1) L a w := by
  simp only [takeOk, Bool.and_eq_true, decide_eq_true_eq] at hok
  obtain ⟨h1, h2, h3, rfl⟩ := hok
  refine wpAnyH_take (i := i) (oi := o) (v := v) (by rw [listAt_eq]; exact hi) h1 h2 h3 (by rw [hd]; exact hQ) (.inl ⟨hw, hy⟩) hS ?_
  rw [hd]; exact h
theorem anyH_skip {d : Tmp} (hi : listAt l i = some o) (hd : o.dst = some d) (hok : takeOk l.toArray L i L' = true) (hQ : ∀ c a w, Q (.panic c) (a.put (some d) undef) w → Q (.panic c) a w)
    (hw : Region.wanted o (yielded l.toArray a.tmps) = false) (hS : S w) (h : wpAnyH P .any l.toArray Q S n L' (a.put (some d) undef) w) : wpAnyH P .any l.toArray Q S (n + 1) L a w := by
  simp only [takeOk, Bool.and_eq_true, decide_eq_true_eq] at hok
  obtain ⟨h1, h2, h3, rfl⟩ := hok
  refine wpAnyH_take (i := i) (oi := o) (v := undef) (by rw [listAt_eq]; exact hi) h1 h2 h3 (by rw [hd]; exact hQ) (.inr ⟨hw, rfl⟩) hS ?_
  rw [hd]; exact h
theorem anyH_run (hi : listAt l i = some o) (hok : runOk l.toArray L i L' = true) (hw : Region.wanted o (yielded l.toArray a.tmps) = true)
    (h : ∀ K : Act → World → Prop, Shut (∀ a w, S w → (S w → wpAnyH P .any l.toArray Q S n L' a w) → K a w) → Oper.wp P o a w K Q) : wpAnyH P .any l.toArray Q S (n + 1) L a w := by
  simp only [runOk, Bool.and_eq_true, decide_eq_true_eq] at hok
  obtain ⟨h1, rfl⟩ := hok
  refine wpAnyH_ready (rs := [i]) h1 (by simp) (AllReadyH.cons (o := o) (by rw [listAt_eq]; exact hi) (fun K hK => ?_) AllReadyH.nil)
  rw [if_pos hw]
  exact h K hK
def runOk2 (ops : Array Oper) (L : Array Bool) (i j : Nat) (L1 L2 : Array Bool) : Bool :=
  decide (Region.ready .any ops L = [i, j]) && (decide (L.setIfInBounds i true = L1) && decide (L.setIfInBounds j true = L2))
/-- Two operations can come up: both ways. -/
theorem anyH_run2 {j : Nat} {o2 : Oper} {L1 L2 : Array Bool} (hi : listAt l i = some o) (hj : listAt l j = some o2) (hok : runOk2 l.toArray L i j L1 L2 = true) (hw : Region.wanted o (yielded l.toArray a.tmps) = true) (hw2 : Region.wanted o2 (yielded l.toArray a.tmps) = true)
    (h : ∀ K : Act → World → Prop, Shut (∀ a w, S w → (S w → wpAnyH P .any l.toArray Q S n L1 a w) → K a w) → Oper.wp P o a w K Q)
    (h2 : ∀ K : Act → World → Prop, Shut (∀ a w, S w → (S w → wpAnyH P .any l.toArray Q S n L2 a w) → K a w) → Oper.wp P o2 a w K Q) : wpAnyH P .any l.toArray Q S (n + 1) L a w := by
  simp only [runOk2, Bool.and_eq_true, decide_eq_true_eq] at hok
  obtain ⟨h1, rfl, rfl⟩ := hok
  refine wpAnyH_ready (rs := [i, j]) h1 (by simp) (AllReadyH.cons (o := o) (by rw [listAt_eq]; exact hi) (fun K hK => ?_) (AllReadyH.cons (o := o2) (by rw [listAt_eq]; exact hj) (fun K hK => ?_) AllReadyH.nil))
  · rw [if_pos hw]; exact h K hK
  · rw [if_pos hw2]; exact h2 K hK
end
end Go.Proofs.Ytpoohpmcopjklaa

/- The disk in memory. -/
namespace Go.Proofs.Ytpoohpmcopjklaa
open Go.RowKit

theorem size_set (w : World) (p : Addr) (u : Value) : (w.setCell p u).heap.size = w.heap.size := by simp
abbrev HF := Value × List UInt8 × Nat
def fileCells : List HF → List Value
  | [] => []
  | f :: l => f.1 :: .int .i64 (f.2.2 : Int) :: fileCells l
def chCells : List (List UInt8 × List UInt8 × Nat) → List Value
  | [] => []
  | c :: l => .string (strB c.1) :: .string (strB c.2.1) :: .int .i64 (c.2.2 : Int) :: chCells l
theorem fileCells_app : ∀ a b : List HF, fileCells (a ++ b) = fileCells a ++ fileCells b
  | [], _ => rfl
  | f :: a, b => by simp [fileCells, fileCells_app a b]
theorem chCells_app : ∀ a b, chCells (a ++ b) = chCells a ++ chCells b
  | [], _ => rfl
  | f :: a, b => by simp [chCells, chCells_app a b]
theorem fileCells_length : ∀ l, (fileCells l).length = l.length * 2
  | [] => rfl
  | f :: l => by simp [fileCells, fileCells_length l]; omega
theorem chCells_length : ∀ l, (chCells l).length = l.length * 3
  | [] => rfl
  | f :: l => by simp [chCells, chCells_length l]; omega
theorem fileCells_get : ∀ (l : List HF) (i : Nat) (h : i < l.length), (fileCells l)[i * 2]? = some l[i].1 ∧ (fileCells l)[i * 2 + 1]? = some (.int .i64 (l[i].2.2 : Int))
  | f :: l, 0, _ => by simp [fileCells]
  | f :: l, i + 1, h => by
    have := fileCells_get l i (by simpa using h)
    rw [show (i + 1) * 2 = i * 2 + 1 + 1 by omega]
    simpa [fileCells] using this
theorem fileCells_set : ∀ (l : List HF) (i : Nat) (x : HF), i < l.length → fileCells (l.set i x) = ((fileCells l).set (i * 2) x.1).set (i * 2 + 1) (.int .i64 (x.2.2 : Int))
  | f :: l, 0, x, _ => by simp [fileCells]
  | f :: l, i + 1, x, h => by
    have := fileCells_set l i x (by simpa using h)
    rw [show (i + 1) * 2 = i * 2 + 1 + 1 by omega]
    simp [fileCells, this]
theorem fileCells_set_eq {l : List HF} {i : Nat} (h : i < l.length) (v : Value) (b : List UInt8) : fileCells (l.set i (v, b, l[i].2.2)) = (fileCells l).set (i * 2) v := by
  rw [fileCells_set l i _ h]
  apply List.ext_getElem?
  intro j
  by_cases hj : j = i * 2 + 1
  · subst hj
    rw [List.getElem?_set_self (by rw [List.length_set, fileCells_length]; omega), List.getElem?_set_ne (by omega), (fileCells_get l i h).2]
  · rw [List.getElem?_set_ne (by omega)]
theorem fileCells_set_sure {l : List HF} {i : Nat} (h : i < l.length) (n : Nat) : fileCells (l.set i (l[i].1, l[i].2.1, n)) = (fileCells l).set (i * 2 + 1) (.int .i64 (n : Int)) := by
  rw [fileCells_set l i _ h]
  congr 1
  apply List.ext_getElem?
  intro j
  by_cases hj : j = i * 2
  · subst hj
    rw [List.getElem?_set_self (by rw [fileCells_length]; omega), (fileCells_get l i h).1]
  · rw [List.getElem?_set_ne (by omega)]

def boxCells (fv cv : Value) (nb sb : Nat) (d : Dsk) : Array Value :=
  #[.int .i64 d.room, fv, .map (some nb), .map (some sb), cv, .int .i64 d.ops, .int .i64 d.down, .int .i64 d.fail, .bool d.off]

/-- w holds the disk d at block b; its blocks are among fp. -/
structure DkP (w : World) (fp : List Nat) (b : Nat) (fv cv : Value) (nb sb : Nat) (hs : List HF) (d : Dsk) : Prop where
  box : Blk w b (boxCells fv cv nb sb d) 85
  names : MapAt w nb d.names
  sure : MapAt w sb d.sure
  files : w.ownsRow 0 94 2 fv hs.length (fileCells hs)
  same : hs.map (·.2) = d.files
  changes : w.ownsRow 0 99 3 cv d.changes.length (chCells d.changes)
  bytes : ∀ f ∈ hs, OwB w 0 f.1 f.2.1
  apart : hs.Pairwise fun f g => ∀ k, f.1.ownBlock = some k → g.1.ownBlock ≠ some k
  ne : nb ≠ sb
  fpb : b ∈ fp
  fpn : nb ∈ fp
  fps : sb ∈ fp
  fpf : ∀ k, fv.ownBlock = some k → k ∈ fp
  fpc : ∀ k, cv.ownBlock = some k → k ∈ fp
  fph : ∀ f ∈ hs, ∀ k, f.1.ownBlock = some k → k ∈ fp
  fpl : ∀ k ∈ fp, k < w.heap.size
  good : GoodD d

def Dk (w : World) (fp : List Nat) (b : Nat) (d : Dsk) : Prop := ∃ fv cv nb sb hs, DkP w fp b fv cv nb sb hs d

theorem MapAt.heap {w : World} {b : Nat} {es : Nm} (h : MapAt w b es) : ∃ xs c, w.heap[b]? = some (.map xs c) := by
  obtain ⟨_, ⟨xs, c, hb, _⟩, _⟩ := h; exact ⟨xs, c, hb⟩
theorem MapAt.apart {w : World} {b b' : Nat} {es : Nm} {cs : Array Value} {t : TypeId} (h : MapAt w b es) (hb : Blk w b' cs t) : b ≠ b' := by
  rintro rfl
  obtain ⟨xs, c, hx⟩ := h.heap
  unfold Blk at hb
  rw [hx] at hb
  simp at hb
theorem MapAt.apartRow {w : World} {b : Nat} {es : Nm} (h : MapAt w b es) {base : Nat} {e : TypeId} {size n : Nat} {v : Value} {xs : List Value} (hr : w.ownsRow base e size v n xs) : v.ownBlock ≠ some b := by
  intro he
  obtain ⟨ys, c, hx⟩ := h.heap
  rcases hr.2 with ⟨rfl, _⟩ | ⟨g, cap, cur, rfl, _, hg, _⟩
  · simp [Value.ownBlock] at he
  · simp only [Value.ownBlock, Option.some.injEq] at he
    subst he
    rw [hx] at hg
    simp at hg
theorem ownsRow_chg {S : List Nat} {w w' : World} {base : Nat} {e : TypeId} {size n : Nat} {v : Value} {xs : List Value} (h : w.ownsRow base e size v n xs) (hc : Chg S w w') (hn : ∀ k, v.ownBlock = some k → k ∉ S) : w'.ownsRow base e size v n xs := by
  refine ⟨h.1, ?_⟩
  rcases h.2 with hx | ⟨g, cap, cur, rfl, hb, hg, rest⟩
  · exact .inl hx
  · refine .inr ⟨g, cap, cur, rfl, hb, ?_, rest⟩
    rw [hc.block g (lt_of_block hg) (hn g rfl)]
    exact hg

theorem DkP.chg {S : List Nat} {w w' : World} {fp : List Nat} {b : Nat} {fv cv : Value} {nb sb : Nat} {hs : List HF} {d : Dsk} (h : DkP w fp b fv cv nb sb hs d) (hc : Chg S w w') (hn : ∀ k ∈ fp, k ∉ S) : DkP w' fp b fv cv nb sb hs d :=
  { h with
    box := h.box.chg hc (hn _ h.fpb)
    names := h.names.chg hc (hn _ h.fpn)
    sure := h.sure.chg hc (hn _ h.fps)
    files := ownsRow_chg h.files hc fun k hk => hn _ (h.fpf k hk)
    changes := ownsRow_chg h.changes hc fun k hk => hn _ (h.fpc k hk)
    bytes := fun f hf => OwB.chg (h.bytes f hf) hc fun k hk => hn _ (h.fph f hf k hk)
    fpl := fun k hk => Nat.lt_of_lt_of_le (h.fpl k hk) hc.size }
theorem DkP.k {w w' : World} {fp : List Nat} {b : Nat} {fv cv : Value} {nb sb : Nat} {hs : List HF} {d : Dsk} (h : DkP w fp b fv cv nb sb hs d) (hc : Chg [] w w') : DkP w' fp b fv cv nb sb hs d := h.chg hc (by simp)
theorem Dk.chg {S : List Nat} {w w' : World} {fp : List Nat} {b : Nat} {d : Dsk} (h : Dk w fp b d) (hc : Chg S w w') (hn : ∀ k ∈ fp, k ∉ S) : Dk w' fp b d :=
  let ⟨fv, cv, nb, sb, hs, h⟩ := h; ⟨fv, cv, nb, sb, hs, h.chg hc hn⟩
theorem Dk.k {w w' : World} {fp : List Nat} {b : Nat} {d : Dsk} (h : Dk w fp b d) (hc : Chg [] w w') : Dk w' fp b d := h.chg hc (by simp)
theorem Dk.good {w : World} {fp : List Nat} {b : Nat} {d : Dsk} (h : Dk w fp b d) : GoodD d := let ⟨_, _, _, _, _, h⟩ := h; h.good
/-- The scalars of the disk have turned. -/
theorem DkP.scal {w w' : World} {fp : List Nat} {b : Nat} {fv cv : Value} {nb sb : Nat} {hs : List HF} {d d' : Dsk} (h : DkP w fp b fv cv nb sb hs d) (hc : Chg [b] w w')
    (hb : Blk w' b (boxCells fv cv nb sb d') 85) (e2 : d'.files = d.files) (e3 : d'.names = d.names) (e4 : d'.sure = d.sure) (e5 : d'.changes = d.changes) (hg : GoodD d') : DkP w' fp b fv cv nb sb hs d' :=
  { h with
    box := hb
    names := by rw [e3]; exact h.names.chg hc (by simpa using h.names.apart h.box)
    sure := by rw [e4]; exact h.sure.chg hc (by simpa using h.sure.apart h.box)
    files := ownsRow_chg h.files hc fun k hk => by
      have := ownsRow_apart h.files h.box (by decide); rw [hk] at this; simpa using this
    same := by rw [e2]; exact h.same
    changes := by
      rw [e5]
      exact ownsRow_chg h.changes hc fun k hk => by
        have := ownsRow_apart h.changes h.box (by decide); rw [hk] at this; simpa using this
    bytes := fun f hf => OwB.chg (h.bytes f hf) hc fun k hk => by
      have := ownsRow_apart (h.bytes f hf) h.box (by decide); rw [hk] at this; simpa using this
    fpl := fun k hk => Nat.lt_of_lt_of_le (h.fpl k hk) hc.size
    good := hg }
theorem ownsRow_ne2 {w : World} {base base' : Nat} {e e' : TypeId} {size size' n n' : Nat} {v u : Value} {xs ys : List Value} (h : w.ownsRow base e size v n xs) (hu : w.ownsRow base' e' size' u n' ys) (hne : e ≠ e') : ∀ k, v.ownBlock = some k → u.ownBlock ≠ some k := by
  intro k hk hk'
  rcases h.2 with ⟨rfl, _⟩ | ⟨g, cap, cur, rfl, _, hg, _⟩
  · simp [Value.ownBlock] at hk
  rcases hu.2 with ⟨rfl, _⟩ | ⟨g', cap', cur', rfl, _, hg', _⟩
  · simp [Value.ownBlock] at hk'
  simp only [Value.ownBlock, Option.some.injEq] at hk hk'
  subst hk hk'
  rw [hg] at hg'
  simp at hg'
  exact hne hg'.2
theorem Chg.cellT {S : List Nat} {w wx : World} {p : Addr} {v : Value} (h : Chg S w wx) (hc : w.cell? p = some v) (hn : p.block ∉ S) : wx.cell? p = some v :=
  (h.cell (World.block_lt_of_cell? w _ hc) hn).trans hc
theorem Chg.ofGrown {w w' : World} {row : Option Nat} (h : w.grownBy w' row) : Chg row.toList w w' :=
  (Chg.refl _ _).grown h (by rintro k rfl _; simp)
/-- What is told of blocks that come up. -/
def Gr (fp : List Nat) (w : World) (fp' : List Nat) : Prop := ∀ k ∈ fp', k ∈ fp ∨ w.heap.size ≤ k
theorem Gr.refl (fp : List Nat) (w : World) : Gr fp w fp := fun _ h => .inl h
theorem Gr.trans {fp fp' fp'' : List Nat} {w w' : World} (h : Gr fp w fp') (h' : Gr fp' w' fp'') (hs : w.heap.size ≤ w'.heap.size) : Gr fp w fp'' := fun k hk => by
  rcases h' k hk with h1 | h1
  · exact h k h1
  · exact .inr (Nat.le_trans hs h1)
theorem Gr.cons {fp : List Nat} {w : World} {v v' : Value} (hm : Moved w v v') (hv : ∀ k, v.ownBlock = some k → k ∈ fp) : Gr fp w (v'.ownBlock.toList ++ fp) := by
  intro k hk
  rcases List.mem_append.1 hk with h | h
  · rw [Option.mem_toList] at h
    rcases hm with e | e
    · exact .inl (hv k (e ▸ h))
    · exact .inr (e k h)
  · exact .inl h
/-- The map of names has turned. -/
theorem DkP.named {w w' : World} {fp : List Nat} {b : Nat} {fv cv : Value} {nb sb : Nat} {hs : List HF} {d : Dsk} (h : DkP w fp b fv cv nb sb hs d) (hc : Chg [nb] w w') {es : Nm} (hm : MapAt w' nb es) (hg : GoodD { d with names := es }) :
    DkP w' fp b fv cv nb sb hs { d with names := es } :=
  { h with
    box := h.box.chg hc (by simpa using fun e => h.names.apart h.box e.symm)
    names := hm
    sure := h.sure.chg hc (by simpa using fun e => h.ne e.symm)
    files := ownsRow_chg h.files hc fun k hk => by have := h.names.apartRow h.files; rw [hk] at this; simpa using this
    changes := ownsRow_chg h.changes hc fun k hk => by have := h.names.apartRow h.changes; rw [hk] at this; simpa using this
    bytes := fun f hf => OwB.chg (h.bytes f hf) hc fun k hk => by have := h.names.apartRow (h.bytes f hf); rw [hk] at this; simpa using this
    fpl := fun k hk => Nat.lt_of_lt_of_le (h.fpl k hk) hc.size
    good := hg }
/-- The row of changes has grown. -/
theorem DkP.changed {w w' : World} {fp : List Nat} {b : Nat} {fv cv : Value} {nb sb : Nat} {hs : List HF} {d : Dsk} (h : DkP w fp b fv cv nb sb hs d) {cv' : Value} {cs : List (List UInt8 × List UInt8 × Nat)}
    (hgw : w.grownBy w' cv.ownBlock) (hrow : w'.ownsRow 0 99 3 cv' cs.length (chCells cs)) (hg : GoodD { d with changes := cs }) :
    DkP (w'.setCell ⟨b, 4, none⟩ cv') (cv'.ownBlock.toList ++ fp) b fv cv' nb sb hs { d with changes := cs } := by
  have hc := Chg.ofGrown hgw
  have hbox : Blk w' b (boxCells fv cv nb sb d) 85 := h.box.grown hgw (ownsRow_apart h.changes h.box (by decide))
  exact
  { box := hbox.set 4 cv'
    names := (h.names.grown hgw fun e => h.names.apartRow h.changes e.symm).set _ _ (h.names.apart h.box)
    sure := (h.sure.grown hgw fun e => h.sure.apartRow h.changes e.symm).set _ _ (h.sure.apart h.box)
    files := ownsRow_set (ownsRow_chg h.files hc fun k hk => by simpa using ownsRow_ne2 h.files h.changes (by decide) k hk) hbox (by decide) 4 _
    same := h.same
    changes := ownsRow_set hrow hbox (by decide) 4 _
    bytes := fun f hf => ownsRow_set (ownsRow_chg (h.bytes f hf) hc fun k hk => by simpa using ownsRow_ne2 (h.bytes f hf) h.changes (by decide) k hk) hbox (by decide) 4 _
    apart := h.apart
    ne := h.ne
    fpb := by simp [h.fpb]
    fpn := by simp [h.fpn]
    fps := by simp [h.fps]
    fpf := fun k hk => by simp [h.fpf k hk]
    fpc := fun k hk => by simp [hk]
    fph := fun f hf k hk => by simp [h.fph f hf k hk]
    fpl := fun k hk => by
      rw [size_set]
      rcases List.mem_append.1 hk with hk | hk
      · exact (World.ownsRow.lt hrow k (by simpa using hk)).2
      · exact Nat.lt_of_lt_of_le (h.fpl k hk) hc.size
    good := hg }
/-- Behind a call: the disk is d', at blocks that it had or that came up; nothing else has turned. -/
def DkOut (w : World) (fp : List Nat) (b : Nat) (d' : Dsk) (w' : World) : Prop := ∃ fp', Dk w' fp' b d' ∧ Chg fp w w' ∧ Gr fp w fp'
theorem DkOut.mk {w w' : World} {fp fp' : List Nat} {b : Nat} {d' : Dsk} (h : Dk w' fp' b d') (hc : Chg fp w w') (hg : Gr fp w fp') : DkOut w fp b d' w' := ⟨fp', h, hc, hg⟩
theorem DkOut.same {w w' : World} {fp : List Nat} {b : Nat} {d' : Dsk} (h : Dk w' fp b d') (hc : Chg fp w w') : DkOut w fp b d' w' := ⟨fp, h, hc, Gr.refl _ _⟩
theorem DkOut.after {w w1 w2 : World} {fp : List Nat} {b : Nat} {d' : Dsk} (h : DkOut w1 fp b d' w2) (hc : Chg fp w w1) : DkOut w fp b d' w2 :=
  let ⟨fp', h1, h2, h3⟩ := h; ⟨fp', h1, hc.trans h2 (fun _ h _ => h), (Gr.refl fp w).trans h3 hc.size⟩
theorem Gr.mem {fp fp' : List Nat} {w : World} (h : Gr fp w fp') : ∀ x ∈ fp', x < w.heap.size → x ∈ fp := fun x hx hl => by
  rcases h x hx with h | h
  · exact h
  · omega
theorem DkOut.chain {w w1 w2 : World} {fp fp' : List Nat} {b : Nat} {d' : Dsk} (h : DkOut w1 fp' b d' w2) (hc : Chg fp w w1) (hg : Gr fp w fp') : DkOut w fp b d' w2 :=
  let ⟨fp'', h1, h2, h3⟩ := h; ⟨fp'', h1, hc.trans h2 hg.mem, hg.trans h3 hc.size⟩
theorem wp_appT {P : Program} {w : World} {o : Oper} {a : Act} {K : Act → World → Prop} {Q : Exit → Act → World → Prop} {t e : TypeId} {size bytes : Nat} (hT : RowT P t e size bytes) (s x : Operand)
    (ho : o.op = .call { callee := .builtin .append, args := #[s, x], argTypes := #[t, t] }) (base : Nat) (v : Value) (n : Nat) (xs : List Value) (hs : a.eval s = v) (hown : w.ownsRow base e size v n xs)
    (u : Value) (m : Nat) (news : List Value) (hx : a.eval x = u) (hu : Rd w size u m news) (h1 : ∀ u ∈ news, u.oneCell' = true) (hbytes : (n + m) * bytes ≤ 140737488355328) (hcount : n + m ≤ 140737488355328) (hbase : base ≤ w.heap.size)
    (h : ∀ ao c w', w'.ownsRow base e size (.slice ao (n + m) c) (n + m) (xs ++ news) → w.grownBy w' v.ownBlock → Moved w v (.slice ao (n + m) c) → K (a.put o.dst (.slice ao (n + m) c)) w') : o.wp P a w K Q :=
  wp_app hT ho hs hown hx hu h1 hbytes hcount hbase fun v' w' h2 h3 h4 h5 => by
    obtain ⟨ao, c, hv⟩ : ∃ ao c, v' = .slice ao (n + m) c := by
      rcases h2.2 with ⟨rfl, hz⟩ | ⟨g, cap, cur, rfl, _⟩
      · exact ⟨none, 0, by rw [hz]⟩
      · exact ⟨_, cap, rfl⟩
    subst hv
    exact h ao c w' h2 h3 h4
theorem rowCh : RowT Try.prog 83 99 3 40 := RowT.mk (z := .agg #[.string ByteArray.empty, .string ByteArray.empty, .int .i64 0]) (by kernel_rfl) (by kernel_rfl) rfl (by decide)
theorem rowFile : RowT Try.prog 82 94 2 32 := RowT.mk (z := .agg #[.slice none 0 0, .int .i64 0]) (by kernel_rfl) (by kernel_rfl) rfl (by decide)
theorem DkP.len {w : World} {fp : List Nat} {b : Nat} {fv cv : Value} {nb sb : Nat} {hs : List HF} {d : Dsk} (h : DkP w fp b fv cv nb sb hs d) : hs.length = d.files.length := by rw [← h.same]; simp
end Go.Proofs.Ytpoohpmcopjklaa

/- The disk's small methods. -/
namespace Go.Proofs.Ytpoohpmcopjklaa
open Go.RowKit

variable {w : World} {fp : List Nat} {b : Nat} {fv cv : Value} {nb sb : Nat} {hs : List HF} {d : Dsk}

set_option maxHeartbeats 1000000 in
theorem op_any (h : DkP w fp b fv cv nb sb hs d) (hops : d.ops < 1073741824) :
    Calls Try.prog 51 #[.pointer (some ⟨b, 0, none⟩)] w fun e w' => e = .returned (.int .i64 (opE d)) ∧ DkP w' fp b fv cv nb sb hs (opD d) ∧ Chg [b] w w' ∧ w'.heap.size = w.heap.size := by
  have hg := h.good.op hops
  have ho := h.good.ops
  have q5 := h.box.cell 5
  have f5 := h.box.free 5
  have k1 := h.box.set 5 (.int .i64 (d.ops + 1))
  have r6 := k1.cell 6
  have r8 := k1.cell 8
  have f8 := k1.free 8
  simp [boxCells] at q5 r6 r8
  have H := hd h
  obtain ⟨E, hE⟩ : ∃ E, opE d = E := ⟨_, rfl⟩
  have HE := hd hE
  rw [hE]
  clear hE h
  have fin : ∀ off', off' = (opD d).off → Blk ((w.setCell ⟨b, 5, none⟩ (.int .i64 (d.ops + 1))).setCell ⟨b, 8, none⟩ (.bool off')) b (boxCells fv cv nb sb (opD d)) 85 := by
    rintro off' rfl
    exact k1.set 8 _
  have fin2 : ∀ off', off' = (opD d).off → DkP ((w.setCell ⟨b, 5, none⟩ (.int .i64 (d.ops + 1))).setCell ⟨b, 8, none⟩ (.bool off')) fp b fv cv nb sb hs (opD d) ∧ Chg [b] w ((w.setCell ⟨b, 5, none⟩ (.int .i64 (d.ops + 1))).setCell ⟨b, 8, none⟩ (.bool off')) ∧ ((w.setCell ⟨b, 5, none⟩ (.int .i64 (d.ops + 1))).setCell ⟨b, 8, none⟩ (.bool off')).heap.size = w.heap.size := by
    intro off' e
    have hc : Chg [b] w ((w.setCell ⟨b, 5, none⟩ (.int .i64 (d.ops + 1))).setCell ⟨b, 8, none⟩ (.bool off')) := ((Chg.refl _ _).setCell _ _ (by simp)).setCell _ _ (by simp)
    exact ⟨H.out.scal hc (fin off' e) rfl rfl rfl rfl hg, hc, by simp⟩
  have F2 := hd fin2
  clear fin fin2 hg H
  have hwrap : ¬ 9223372036854775807 < d.ops + 1 := by omega
  have hoff : d.off = true ∨ (d.off = false ∧ 0 ≤ d.down ∧ d.down ≤ d.ops) ∨ (d.off = false ∧ 0 ≤ d.down ∧ ¬ d.down ≤ d.ops) ∨ (d.off = false ∧ ¬ 0 ≤ d.down) := by
    cases d.off <;> simp <;> omega
  generalize hX : (opD d).off = X at F2
  have k2 := k1.set 8 (.bool X)
  have s7 := k2.cell 7
  have s8 := k2.cell 8
  simp [boxCells] at s7 s8
  clear k1 k2
  have hXv : X = (d.off || decide (0 ≤ d.down ∧ d.down ≤ d.ops)) := by rw [← hX]; rfl
  have HX := hd hX
  clear hX
  have hEv : E = if d.off = true ∨ (0 ≤ d.down ∧ d.down ≤ d.ops) then 8 else if 0 ≤ d.fail ∧ d.ops = d.fail then 7 else 0 := by rw [← HE.out]; rfl
  clear HE
  have HEv := hd hEv
  clear hEv
  go_enter Try.func51, Try.ntmps51
  rcases hoff with e | ⟨e, h1, h2⟩ | ⟨e, h1, h2⟩ | ⟨e, h1⟩ <;> rw [e] at r8 hXv
  · obtain rfl : X = true := by rw [hXv]; simp
    clear hXv
    go_wp2_with fail
    refine bodyPost_ret (v := .int .i64 8) ?_ rfl ⟨?_, F2.out true rfl⟩
    · simp only [results]; go_simp
    · rw [HEv.out, e]; simp
  · obtain rfl : X = true := by rw [hXv]; simp [h1, h2]
    clear hXv
    go_wp2_with fail
    refine bodyPost_ret (v := .int .i64 8) ?_ rfl ⟨?_, F2.out true rfl⟩
    · simp only [results]; go_simp
    · rw [HEv.out, e]; simp [h1, h2]
  all_goals
    obtain rfl : X = false := by rw [hXv]; simp; omega
    clear hXv
    by_cases h3 : 0 ≤ d.fail
    · by_cases h4 : d.ops = d.fail
      · have h4' : (d.ops == d.fail) = true := by simpa using h4
        have H4 := hd h4
        clear h4
        go_wp2_with fail
        refine bodyPost_ret (v := .int .i64 7) ?_ rfl ⟨?_, F2.out false rfl⟩
        · simp only [results]; go_simp
        · have h4 := H4.out; rw [HEv.out, e]; simp; omega
      · have h4' : (d.ops == d.fail) = false := by simpa using h4
        go_wp2_with fail
        refine bodyPost_ret (v := .int .i64 0) ?_ rfl ⟨?_, F2.out false rfl⟩
        · simp only [results]; go_simp
        · rw [HEv.out, e]; simp; omega
    · go_wp2_with fail
      refine bodyPost_ret (v := .int .i64 0) ?_ rfl ⟨?_, F2.out false rfl⟩
      · simp only [results]; go_simp
      · rw [HEv.out, e]; simp; omega

set_option maxHeartbeats 400000 in
theorem find_any (h : DkP w fp b fv cv nb sb hs d) (s : List UInt8) (hs' : s.length ≤ 140737488355328) :
    Calls Try.prog 52 #[.pointer (some ⟨b, 0, none⟩), .string (strB s)] w fun e w' => w' = w ∧
      match nget d.names s with
      | none => e = .returned (.tuple #[.pointer none, .int .i64 4])
      | some i => ∃ g c, fv = .slice (some ⟨g, 0, none⟩) hs.length c ∧ i < hs.length ∧ e = .returned (.tuple #[.pointer (some ⟨g, i * 2, none⟩), .int .i64 0]) := by
  have q1 := h.box.cell 1
  have q2 := h.box.cell 2
  simp [boxCells] at q1 q2
  have hN := h.names
  rcases hi : nget d.names s with _ | i
  · go_enter Try.func52, Try.ntmps52
    clear h
    go_wp2_with (at_lookup; refine wpLook rfl _ _ rfl nb _ s rfl rfl hN hs' ?_; rw [hi]; dsimp only [Option.getD_none, Option.isSome_none])
    refine bodyPost_ret (v := .tuple #[.pointer none, .int .i64 4]) ?_ rfl ⟨rfl, rfl⟩
    simp only [results]; go_simp
  · have hlt : i < hs.length := by rw [h.len]; exact h.good.named _ (nget_some_mem hi)
    obtain ⟨g, c, rfl⟩ : ∃ g c, fv = .slice (some ⟨g, 0, none⟩) hs.length c := by
      rcases h.files.2 with ⟨rfl, hz⟩ | ⟨g, cap, cur, rfl, _⟩
      · omega
      · exact ⟨g, cap, rfl⟩
    have hlti : (i : Int) < (hs.length : Int) := by omega
    go_enter Try.func52, Try.ntmps52
    clear h
    go_wp2_with (at_lookup; refine wpLook rfl _ _ rfl nb _ s rfl rfl hN hs' ?_; rw [hi]; dsimp only [Option.getD_some, Option.isSome_some])
    refine bodyPost_ret (v := .tuple #[.pointer (some ⟨g, i * 2, none⟩), .int .i64 0]) ?_ rfl ⟨rfl, g, c, rfl, hlt, rfl⟩
    simp only [results]; go_simp
end Go.Proofs.Ytpoohpmcopjklaa
