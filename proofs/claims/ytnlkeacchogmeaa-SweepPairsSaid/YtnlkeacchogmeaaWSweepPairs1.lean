/- Words and walks that SweepPairs rests on, part 1. -/
import Derived.Test.YtnlkeacchogmeaaRows
import Derived.WalkKit
import Derived.WalkSpells
import Derived.WalkLawsBesides
import Derived.Lib.Hide
import Derived.Laws.BitsAllLaws
import Derived.OneCell
import Derived.Deep.Draws
import Derived.ProofKit
import Derived.OpenShut
import Derived.Laws.BytesArg
import Derived.Lib.ConvBytes
import Derived.Lib.SlBytesConst
import Derived.Lib.AppendStr
import Derived.ChangeOld
import Derived.OrdersHeld
import Derived.Deep.RegionHeld
/- Words and lemmas that all walks of this work share: unsigned numbers behind opaque casts, and what a slice reads as. -/
namespace Go.Proofs.Ytnlkeacchogmeaa
open Go.RowKit
/-- A fact kept from the walk, and from whatever unfolds. -/
def Hd (p : Prop) : Prop := p
theorem hd {p : Prop} (h : p) : Hd p := h
theorem Hd.out {p : Prop} (h : Hd p) : p := h
attribute [irreducible] Hd


def n8 (x : UInt8) : Int := x.toNat
def n16 (x : UInt16) : Int := x.toNat
def n32 (x : UInt32) : Int := x.toNat
theorem n8_lo (x : UInt8) : 0 ≤ n8 x := by unfold n8; omega
theorem n8_hi (x : UInt8) : n8 x < 256 := by have := x.toNat_lt; unfold n8; omega
theorem n32_lo (x : UInt32) : 0 ≤ n32 x := by unfold n32; omega
theorem n32_hi (x : UInt32) : n32 x < 4294967296 := by have := x.toNat_lt; unfold n32; omega
theorem n8_inj {x y : UInt8} : n8 x = n8 y ↔ x = y := by
  unfold n8; constructor
  · intro h; exact UInt8.toNat_inj.1 (by omega)
  · rintro rfl; rfl
theorem n32_inj {x y : UInt32} : n32 x = n32 y ↔ x = y := by
  unfold n32; constructor
  · intro h; exact UInt32.toNat_inj.1 (by omega)
  · rintro rfl; rfl
theorem n8_beq (x y : UInt8) : (n8 x == n8 y) = (x == y) := by rw [Bool.eq_iff_iff]; simp [n8_inj]
theorem n32_beq (x y : UInt32) : (n32 x == n32 y) = (x == y) := by rw [Bool.eq_iff_iff]; simp [n32_inj]

theorem u32_xor' (a b : UInt32) : bits .xor .u32 (n32 a) (n32 b) = n32 (a ^^^ b) := by
  unfold n32; rw [u32_xor_nat _ _ a.toNat_lt b.toNat_lt, UInt32.toNat_xor]
theorem u32_and' (a b : UInt32) : bits .and .u32 (n32 a) (n32 b) = n32 (a &&& b) := by
  unfold n32; rw [u32_and_nat _ _ a.toNat_lt b.toNat_lt, UInt32.toNat_and]
theorem u32_or' (a b : UInt32) : bits .or .u32 (n32 a) (n32 b) = n32 (a ||| b) := by
  unfold n32; rw [u32_or_nat _ _ a.toNat_lt b.toNat_lt, UInt32.toNat_or]
theorem u32_not' (a : UInt32) : bits .xor .u32 IntKind.u32.max (n32 a) = n32 (~~~ a) := by
  have h : ~~~ a = 4294967295 ^^^ a := by
    apply UInt32.toBitVec_inj.1
    simp only [UInt32.toBitVec_not, UInt32.toBitVec_xor]
    show _ = 4294967295#32 ^^^ _
    have : (4294967295#32) = BitVec.allOnes 32 := by decide
    rw [this, BitVec.allOnes_xor]
  rw [h]
  exact u32_xor' 4294967295 a
theorem u32_and_1 (a : UInt32) : bits .and .u32 (n32 a) 1 = n32 (a &&& 1) := u32_and' a 1
theorem u32_poly (a : UInt32) : bits .xor .u32 (n32 a) 3988292384 = n32 (a ^^^ 3988292384) := u32_xor' a 3988292384
theorem u8_u32 (x : UInt8) : (n8 x % 4294967296) = n32 x.toUInt32 := by
  have := x.toNat_lt; simp only [n8, n32, UInt8.toNat_toUInt32]; omega
theorem u32_shr1 (a : UInt32) (k : IntKind) : Op.shift .shr .u32 (n32 a) k 1 = pure (.int .u32 (n32 (a >>> 1))) := by
  rw [shift_shr _ _ _ _ (by omega) (by decide)]
  unfold n32; rw [UInt32.toNat_shiftRight]; simp [Nat.shiftRight_eq_div_pow]
theorem u32_shl_k (a : UInt32) (j : Nat) (hj : j < 32) (k : IntKind) : Op.shift .shl .u32 (n32 a) k j = pure (.int .u32 (n32 (a <<< UInt32.ofNat j))) := by
  rw [shift_shl _ _ _ _ (by omega) (by show (j : Int) ≤ 32; omega)]
  unfold n32; rw [UInt32.toNat_shiftLeft]
  simp only [UInt32.toNat_ofNat', Nat.mod_eq_of_lt (show j < 2 ^ 32 by omega), Nat.mod_eq_of_lt hj, Nat.shiftLeft_eq, Int.toNat_natCast]
  rw [IntKind.wrap_u32]
  simp
theorem u32_shl8 (a : UInt32) (k : IntKind) : Op.shift .shl .u32 (n32 a) k 8 = pure (.int .u32 (n32 (a <<< 8))) := u32_shl_k a 8 (by decide) k
theorem u32_shl16 (a : UInt32) (k : IntKind) : Op.shift .shl .u32 (n32 a) k 16 = pure (.int .u32 (n32 (a <<< 16))) := u32_shl_k a 16 (by decide) k
theorem u32_shl24 (a : UInt32) (k : IntKind) : Op.shift .shl .u32 (n32 a) k 24 = pure (.int .u32 (n32 (a <<< 24))) := u32_shl_k a 24 (by decide) k
theorem and_mask (x : Int) (j : Nat) (hj : j ≤ 62) : bits .and .i64 x (2 ^ j - 1) = x % 2 ^ j := by
  have hp : (0 : Int) < 2 ^ j := Int.pow_pos (by decide)
  have hle : (2 : Int) ^ j ≤ 2 ^ 62 := by exact_mod_cast Nat.pow_le_pow_right (n := 2) (by decide) hj
  have h62 : (2 : Int) ^ 62 = 4611686018427387904 := by decide
  rw [h62] at hle
  have hm1 : (BitVec.ofInt 64 ((2 : Int) ^ j - 1)).toNat = 2 ^ j - 1 := by
    rw [BitVec.toNat_ofInt, Int.emod_eq_of_lt (by omega) (by show _ < (18446744073709551616 : Int); omega)]
    have : ((2 : Int) ^ j - 1) = ((2 ^ j - 1 : Nat) : Int) := by rw [Int.natCast_sub Nat.one_le_two_pow]; simp
    rw [this]; simp
  have hx : ((BitVec.ofInt 64 x).toNat : Int) = x % 18446744073709551616 := by
    rw [BitVec.toNat_ofInt]
    exact Int.toNat_of_nonneg (Int.emod_nonneg _ (by decide))
  unfold bits
  simp only
  show IntKind.i64.wrap ((BitVec.ofInt 64 x &&& BitVec.ofInt 64 (2 ^ j - 1)).toNat : Int) = _
  rw [BitVec.toNat_and, hm1, Nat.and_two_pow_sub_one_eq_mod, Int.natCast_emod, hx]
  have hc : ((2 ^ j : Nat) : Int) = 2 ^ j := by simp
  have hd : (2 : Int) ^ j ∣ 18446744073709551616 := by
    refine ⟨2 ^ (64 - j), ?_⟩
    rw [← Int.pow_add, show j + (64 - j) = 64 by omega]; rfl
  rw [hc, Int.emod_emod_of_dvd _ hd, IntWalk.i64_left]
  have h1 := Int.emod_nonneg x (Int.ne_of_gt hp)
  have h2 := Int.emod_lt_of_pos x hp
  exact IntWalk.wrap64_in _ ⟨by omega, by omega⟩
theorem and7 (x : Int) : bits .and .i64 x 7 = x % 8 := and_mask x 3 (by decide)
theorem u8_xor' (a b : UInt8) : bits .xor .u8 (n8 a) (n8 b) = n8 (a ^^^ b) := by
  unfold n8; rw [u8_xor_nat _ _ a.toNat_lt b.toNat_lt, UInt8.toNat_xor]
theorem u8_bit (j : Nat) (hj : j < 8) (k : IntKind) : Op.shift .shl .u8 1 k j = pure (.int .u8 (n8 ((1 : UInt8) <<< UInt8.ofNat j))) := by
  rw [shift_shl _ _ _ _ (by omega) (by show (j : Int) ≤ 8; omega)]
  have : j = 0 ∨ j = 1 ∨ j = 2 ∨ j = 3 ∨ j = 4 ∨ j = 5 ∨ j = 6 ∨ j = 7 := by omega
  rcases this with rfl | rfl | rfl | rfl | rfl | rfl | rfl | rfl <;> rfl
theorem u8_bitv (j : Nat) (hj : j < 8) : (2 : Int) ^ j % 256 = n8 ((1 : UInt8) <<< UInt8.ofNat j) := by
  have : j = 0 ∨ j = 1 ∨ j = 2 ∨ j = 3 ∨ j = 4 ∨ j = 5 ∨ j = 6 ∨ j = 7 := by omega
  rcases this with rfl | rfl | rfl | rfl | rfl | rfl | rfl | rfl <;> rfl
theorem u8_xor_1 (a : UInt8) : bits .xor .u8 (n8 a) 1 = n8 (a ^^^ 1) := u8_xor' a 1
theorem u8_and' (a b : UInt8) : bits .and .u8 (n8 a) (n8 b) = n8 (a &&& b) := by
  unfold n8; rw [u8_and_nat _ _ a.toNat_lt b.toNat_lt, UInt8.toNat_and]
theorem u8_div_k (a : UInt8) (j : Nat) (hj : j < 8) : n8 a / 2 ^ j = n8 (a >>> UInt8.ofNat j) := by
  unfold n8; rw [UInt8.toNat_shiftRight]
  simp [Nat.mod_eq_of_lt (show j < 256 by omega), Nat.mod_eq_of_lt hj, Nat.shiftRight_eq_div_pow]
theorem u8_bit_and (a : UInt8) (j : Nat) (hj : j < 8) : bits .and .u8 (n8 a / 2 ^ j) 1 = n8 ((a >>> UInt8.ofNat j) &&& 1) := by
  rw [u8_div_k a j hj]; exact u8_and' _ 1
theorem u32_mul_k (a : UInt32) (j : Nat) (hj : j < 32) : n32 a * 2 ^ j % 4294967296 = n32 (a <<< UInt32.ofNat j) := by
  unfold n32; rw [UInt32.toNat_shiftLeft]
  simp [Nat.mod_eq_of_lt (show j < 2 ^ 32 by omega), Nat.mod_eq_of_lt hj, Nat.shiftLeft_eq]
theorem andFFFF (x : Int) : bits .and .i64 x 65535 = x % 65536 := and_mask x 16 (by decide)
theorem andFFF (x : Int) : bits .and .i64 x 4095 = x % 4096 := and_mask x 12 (by decide)
theorem and62 (x : Int) : bits .and .i64 x 4611686018427387903 = x % 4611686018427387904 := and_mask x 62 (by decide)
theorem n32_eq1 (a : UInt32) : (n32 a == 1) = (a == 1) := n32_beq a 1
/-- v is a slice of n elements of 'size' cells each, and its cells read as xs. -/
def Rd (w : World) (size : Nat) (v : Value) (n : Nat) (xs : List Value) : Prop :=
  xs.length = n * size ∧ ∃ ao cap b off, v = .slice ao n cap ∧ n ≤ cap ∧ cap ≤ maxLen ∧ (ao = none → n = 0 ∧ cap = 0) ∧ (0 < n → ao = some ⟨b, off, none⟩) ∧
    (∀ j u, xs[j]? = some u → w.cell? ⟨b, off + j, none⟩ = some u)
def vb (x : UInt8) : Value := .int .u8 (n8 x)
/-- v is a slice of bytes that reads as l. -/
def Bs (w : World) (v : Value) (l : List UInt8) : Prop := Rd w 1 v l.length (l.map vb)

theorem Bs.open {w : World} {v : Value} {l : List UInt8} (h : Bs w v l) : ∃ ao cap b off, v = .slice ao l.length cap ∧ l.length ≤ cap ∧ cap ≤ 9223372036854775807 ∧ (ao = none → l.length = 0 ∧ cap = 0) ∧
    (0 < l.length → ao = some ⟨b, off, none⟩) ∧ (∀ j (h : j < l.length), w.cell? ⟨b, off + j, none⟩ = some (.int .u8 (n8 l[j]))) := by
  obtain ⟨_, ao, cap, b, off, h1, h2, h3, h4, h5, h6⟩ := h
  refine ⟨ao, cap, b, off, h1, h2, by simpa [maxLen] using h3, h4, h5, fun j hj => h6 j _ ?_⟩
  simp [List.getElem?_eq_getElem hj, vb]

theorem ret_of {a b : Value} (h : a = b) : Ending.returned a = .returned b := by rw [h]
end Go.Proofs.Ytnlkeacchogmeaa

/- Blocks of cells, what a call changes, what is kept. No program's function is walked here. -/
namespace Go.Proofs.Ytnlkeacchogmeaa
open Go.RowKit

/-- Block b holds the cells cs, none frozen. -/
def Blk (w : World) (b : Nat) (cs : Array Value) (t : TypeId) : Prop := w.heap[b]? = some (.cells cs t (0, 0))
theorem Blk.lt {w : World} {b cs t} (h : Blk w b cs t) : b < w.heap.size := lt_of_block h
theorem Blk.cell {w : World} {b : Nat} {cs : Array Value} {t : TypeId} (h : Blk w b cs t) (j : Nat) : w.cell? ⟨b, j, none⟩ = cs[j]? := cell_of_row w b j cs t (0, 0) h
theorem Blk.free {w : World} {b : Nat} {cs : Array Value} {t : TypeId} (h : Blk w b cs t) (j : Nat) : w.frozen? ⟨b, j, none⟩ = false := frozen_of_row w b j cs t h
theorem Blk.set {w : World} {b : Nat} {cs : Array Value} {t : TypeId} (h : Blk w b cs t) (j : Nat) (u : Value) : Blk (w.setCell ⟨b, j, none⟩ u) b (cs.setIfInBounds j u) t :=
  heap_setCell_same w b j cs t u h
theorem Blk.other {w : World} {b : Nat} {cs : Array Value} {t : TypeId} (h : Blk w b cs t) {a : Addr} (hne : b ≠ a.block) (u : Value) : Blk (w.setCell a u) b cs t :=
  (heap_setCell_other w a b u hne).trans h
theorem Blk.alloc {w : World} {b : Nat} {cs : Array Value} {t : TypeId} (h : Blk w b cs t) (o : Obj) : Blk (w.alloc o) b cs t := (heap_alloc_old w o h.lt).trans h
theorem Blk.new (w : World) (cs : Array Value) (t : TypeId) : Blk (w.alloc (.cells cs t)) w.heap.size cs t := heap_alloc_new w _

/-- From w to w' no block has turned but new ones and those of the list S. -/
structure Chg (S : List Nat) (w w' : World) : Prop where
  os : w'.os = w.os
  tape : w'.tape = w.tape
  output : w'.output = w.output
  size : w.heap.size ≤ w'.heap.size
  block : ∀ k, k < w.heap.size → k ∉ S → w'.heap[k]? = w.heap[k]?

theorem Chg.refl (S : List Nat) (w : World) : Chg S w w := ⟨rfl, rfl, rfl, Nat.le_refl _, fun _ _ _ => rfl⟩
theorem Chg.trans {S S' : List Nat} {a b c : World} (h : Chg S a b) (k : Chg S' b c) (hs : ∀ x ∈ S', x < a.heap.size → x ∈ S) : Chg S a c :=
  ⟨k.os.trans h.os, k.tape.trans h.tape, k.output.trans h.output, Nat.le_trans h.size k.size, fun i hi hn =>
    (k.block i (Nat.lt_of_lt_of_le hi h.size) (fun hx => hn (hs i hx hi))).trans (h.block i hi hn)⟩
theorem Chg.mono {S S' : List Nat} {a b : World} (h : Chg S a b) (hs : ∀ x ∈ S, x < a.heap.size → x ∈ S') : Chg S' a b :=
  ⟨h.os, h.tape, h.output, h.size, fun i hi hn => h.block i hi (fun hx => hn (hs i hx hi))⟩
theorem Chg.alloc {S : List Nat} {a b : World} (h : Chg S a b) (o : Obj) : Chg S a (b.alloc o) :=
  ⟨h.os, h.tape, h.output, Nat.le_trans h.size (by simp), fun i hi hn => (Below.heap_alloc _ _ _ (Nat.lt_of_lt_of_le hi h.size)).trans (h.block i hi hn)⟩
theorem Chg.drew {S : List Nat} {a b : World} (h : Chg S a b) : Chg S a b.drew := ⟨h.os, h.tape, h.output, h.size, h.block⟩
theorem Chg.setCell {S : List Nat} {a b : World} (h : Chg S a b) (p : Addr) (u : Value) (hp : p.block < a.heap.size → p.block ∈ S) : Chg S a (b.setCell p u) :=
  ⟨h.os, h.tape, h.output, by simpa [World.setCell] using h.size, fun i hi hn => (Below.heap_setCell _ _ _ _ (fun e => by subst e; exact hn (hp hi))).trans (h.block i hi hn)⟩
theorem Chg.grown {S : List Nat} {a b c : World} {row : Option Nat} (h : Chg S a b) (hg : b.grownBy c row) (hr : ∀ k, row = some k → k < a.heap.size → k ∈ S) : Chg S a c :=
  ⟨hg.os.trans h.os, hg.tape.trans h.tape, hg.output.trans h.output, Nat.le_trans h.size hg.size, fun i hi hn =>
    (hg.block i (Nat.lt_of_lt_of_le hi h.size) (fun e => hn (hr i e.symm hi))).trans (h.block i hi hn)⟩
theorem Chg.below {S : List Nat} {a b : World} {B : Nat} (h : Chg S a b) (hB : B ≤ a.heap.size) (hs : ∀ x ∈ S, B ≤ x) : Below B a b :=
  ⟨h.os, h.tape, h.output, h.size, fun i hi => h.block i (by omega) (fun hx => by have := hs i hx; omega)⟩
theorem Chg.new {a b : World} (h : Chg [] a b) : Below a.heap.size a b := h.below (Nat.le_refl _) (by simp)
theorem Chg.ofBelow {a b : World} (h : Below a.heap.size a b) : Chg [] a b := ⟨h.os, h.tape, h.output, h.size, fun i hi _ => h.block i hi⟩
theorem Chg.cell {S : List Nat} {w w' : World} (h : Chg S w w') {p : Addr} (hp : p.block < w.heap.size) (hn : p.block ∉ S) : w'.cell? p = w.cell? p := World.cell?_of_block (h.block _ hp hn)
theorem Chg.frozen {S : List Nat} {w w' : World} (h : Chg S w w') {p : Addr} (hp : p.block < w.heap.size) (hn : p.block ∉ S) : w'.frozen? p = w.frozen? p := World.frozen?_of_block (h.block _ hp hn)
theorem Blk.chg {S : List Nat} {w w' : World} {b : Nat} {cs : Array Value} {t : TypeId} (h : Blk w b cs t) (hc : Chg S w w') (hn : b ∉ S) : Blk w' b cs t := (hc.block b h.lt hn).trans h
theorem Blk.below {B : Nat} {w w' : World} {b : Nat} {cs : Array Value} {t : TypeId} (h : Blk w b cs t) (hc : Below B w w') (hn : b < B) : Blk w' b cs t := (hc.block b hn).trans h
theorem Blk.grown {w w' : World} {row : Option Nat} {b : Nat} {cs : Array Value} {t : TypeId} (h : Blk w b cs t) (hc : w.grownBy w' row) (hn : row ≠ some b) : Blk w' b cs t := (hc.block b h.lt (fun e => hn e.symm)).trans h

/-- What is read of a slice is read still where its block has not turned. -/
theorem Rd.keep {S : List Nat} {w w' : World} {size : Nat} {v : Value} {n : Nat} {xs : List Value} (h : Rd w size v n xs) (hc : Chg S w w') (hn : 0 < n → ∀ k, v.ownBlock = some k → k ∉ S) : Rd w' size v n xs := by
  obtain ⟨h0, ao, cap, b, off, rfl, h2, h3, h4, h5, h6⟩ := h
  refine ⟨h0, ao, cap, b, off, rfl, h2, h3, h4, h5, fun j u hu => ?_⟩
  have hcell := h6 j u hu
  have hpos : 0 < n := by
    rcases Nat.eq_zero_or_pos n with rfl | h
    · simp at h0; subst h0; simp at hu
    · exact h
  obtain rfl := h5 hpos
  rw [hc.cell (World.block_lt_of_cell? w _ hcell) (hn hpos b rfl)]
  exact hcell
theorem Bs.keep {S : List Nat} {w w' : World} {v : Value} {l : List UInt8} (h : Bs w v l) (hc : Chg S w w') (hn : 0 < l.length → ∀ k, v.ownBlock = some k → k ∉ S) : Bs w' v l := Rd.keep h hc hn
theorem Bs.stays {w w' : World} {v : Value} {l : List UInt8} (h : Bs w v l) (hc : Chg [] w w') : Bs w' v l := Rd.keep h hc (by simp)
theorem Rd.lt {w : World} {size : Nat} {v : Value} {n : Nat} {xs : List Value} (h : Rd w size v n xs) (hn : 0 < n) (hs : 0 < size) : ∀ k, v.ownBlock = some k → k < w.heap.size := by
  obtain ⟨h0, ao, cap, b, off, rfl, h2, h3, h4, h5, h6⟩ := h
  obtain rfl := h5 hn
  intro k hk
  simp only [Value.ownBlock, Option.some.injEq] at hk
  subst hk
  have hl : 0 < xs.length := by rw [h0]; exact Nat.mul_pos hn hs
  exact World.block_lt_of_cell? w _ (h6 0 _ (List.getElem?_eq_getElem hl))
theorem Bs.lt {w : World} {v : Value} {l : List UInt8} (h : Bs w v l) (hn : 0 < l.length) : ∀ k, v.ownBlock = some k → k < w.heap.size := Rd.lt h hn (by decide)
theorem Bs.alloc {w : World} {v : Value} {l : List UInt8} (h : Bs w v l) (o : Obj) : Bs (w.alloc o) v l := h.stays ((Chg.refl [] w).alloc o)
theorem Bs.setCell {w : World} {v : Value} {l : List UInt8} (h : Bs w v l) (a : Addr) (u : Value) (hn : 0 < l.length → v.ownBlock ≠ some a.block) : Bs (w.setCell a u) v l :=
  h.keep ((Chg.refl [a.block] w).setCell a u (by simp)) (fun hp k hk => by simp; intro e; subst e; exact hn hp hk)
theorem Bs.below {B : Nat} {w w' : World} {v : Value} {l : List UInt8} (h : Bs w v l) (hc : Below B w w') (hn : ∀ k, v.ownBlock = some k → k < B) : Bs w' v l := by
  obtain ⟨h0, ao, cap, b, off, rfl, h2, h3, h4, h5, h6⟩ := h
  refine ⟨h0, ao, cap, b, off, rfl, h2, h3, h4, h5, fun j u hu => ?_⟩
  have hpos : 0 < l.length := by
    have := (List.getElem?_eq_some_iff.1 hu).1; simp at this; omega
  obtain rfl := h5 hpos
  rw [hc.cell (p := ⟨b, off + j, none⟩) (hn b rfl)]
  exact h6 j u hu

theorem Chg.drewN {S : List Nat} {a b : World} (h : Chg S a b) (n : Nat) : Chg S a (b.drewN n) := ⟨h.os, h.tape, h.output, h.size, h.block⟩

/-- v, of n elements, is the call's own: a row of block from base on; it reads as xs. -/
theorem Rd.ofOwn {w : World} {base : Nat} {e : TypeId} {size : Nat} {v : Value} {n : Nat} {xs : List Value} (h : w.ownsRow base e size v n xs) : Rd w size v n xs := by
  refine ⟨h.1, ?_⟩
  rcases h.2 with ⟨rfl, rfl⟩ | ⟨g, cap, cur, rfl, _, hg, hnc, hcm, hcs, htake⟩
  · refine ⟨none, 0, 0, 0, rfl, Nat.le_refl _, by simp [maxLen], fun _ => ⟨rfl, rfl⟩, fun h => absurd h (by omega), fun j u hu => ?_⟩
    have := h.1; simp at this; subst this; simp at hu
  · refine ⟨_, cap, g, 0, rfl, hnc, hcm, fun h => by simp at h, fun _ => rfl, fun j u hu => ?_⟩
    have := h.cells (g := g) rfl j u hu
    have e : (⟨g, 0, none⟩ : Addr).add j = ⟨g, 0 + j, none⟩ := by unfold Addr.add; split <;> simp_all
    rw [e] at this
    exact this

/-- v is a slice of bytes of the call's own that reads as l. -/
def OwB (w : World) (base : Nat) (v : Value) (l : List UInt8) : Prop := w.ownsRow base 5 1 v l.length (l.map vb)
theorem OwB.bs {w : World} {base : Nat} {v : Value} {l : List UInt8} (h : OwB w base v l) : Bs w v l := Rd.ofOwn h
theorem OwB.kept {w w' : World} {row : Option Nat} {base : Nat} {v : Value} {l : List UInt8} (h : OwB w base v l) (hg : w.grownBy w' row) (hne : v.ownBlock = none ∨ v.ownBlock ≠ row) : OwB w' base v l := World.ownsRow.kept h hg hne
theorem OwB.alloc {w : World} {base : Nat} {v : Value} {l : List UInt8} (h : OwB w base v l) (o : Obj) : OwB (w.alloc o) base v l := World.ownsRow.alloc h o
theorem OwB.chg {S : List Nat} {w w' : World} {base : Nat} {v : Value} {l : List UInt8} (h : OwB w base v l) (hc : Chg S w w') (hn : ∀ k, v.ownBlock = some k → k ∉ S) : OwB w' base v l := by
  refine ⟨h.1, ?_⟩
  rcases h.2 with hx | ⟨g, cap, cur, rfl, hb, hg, rest⟩
  · exact .inl hx
  · refine .inr ⟨g, cap, cur, rfl, hb, ?_, rest⟩
    rw [hc.block g (lt_of_block hg) (hn g rfl)]
    exact hg
theorem OwB.mono {w : World} {base base' : Nat} {v : Value} {l : List UInt8} (h : OwB w base v l) (hb : base' ≤ base) : OwB w base' v l := by
  refine ⟨h.1, ?_⟩
  rcases h.2 with hx | ⟨g, cap, cur, rfl, hbg, rest⟩
  · exact .inl hx
  · exact .inr ⟨g, cap, cur, rfl, Nat.le_trans hb hbg, rest⟩
theorem OwB.lo {w : World} {base : Nat} {v : Value} {l : List UInt8} (h : OwB w base v l) : ∀ k, v.ownBlock = some k → base ≤ k ∧ k < w.heap.size := World.ownsRow.lt h
theorem OwB.addr {w : World} {base : Nat} {ao : Option Addr} {n c : Nat} {l : List UInt8} (h : OwB w base (.slice ao n c) l) (hp : 0 < l.length) : ∃ g, ao = some ⟨g, 0, none⟩ ∧ n = l.length ∧ base ≤ g ∧ g < w.heap.size := by
  rcases h.2 with ⟨he, h0⟩ | ⟨g, cap, cur, he, hb, hg, _⟩
  · omega
  · simp only [Value.slice.injEq] at he
    obtain ⟨rfl, rfl, rfl⟩ := he
    exact ⟨g, rfl, rfl, hb, lt_of_block hg⟩
theorem OwB.cell {w : World} {base g n c : Nat} {l : List UInt8} (h : OwB w base (.slice (some ⟨g, 0, none⟩) n c) l) (j : Nat) (hj : j < l.length) : w.cell? ⟨g, j, none⟩ = some (.int .u8 (n8 l[j])) := by
  have := World.ownsRow.cells h (g := g) rfl j (vb l[j]) (by simp [List.getElem?_eq_getElem hj])
  have e : (⟨g, 0, none⟩ : Addr).add j = ⟨g, j, none⟩ := by unfold Addr.add; split <;> simp_all
  rw [e] at this
  exact this
theorem OwB.free {w : World} {base g n c : Nat} {l : List UInt8} (h : OwB w base (.slice (some ⟨g, 0, none⟩) n c) l) (j : Nat) : w.frozen? ⟨g, j, none⟩ = false := by
  rcases h.2 with ⟨he, h0⟩ | ⟨g', cap, cur, he, hb, hg, _⟩
  · simp at he
  · simp only [Value.slice.injEq, Option.some.injEq, Addr.mk.injEq, and_true] at he
    obtain ⟨rfl, _⟩ := he
    exact frozen_of_row w g j cur _ hg
theorem OwB.set {w : World} {base g n c : Nat} {l : List UInt8} (h : OwB w base (.slice (some ⟨g, 0, none⟩) n c) l) (j : Nat) (x : UInt8) : OwB (w.setCell ⟨g, j, none⟩ (.int .u8 (n8 x))) base (.slice (some ⟨g, 0, none⟩) n c) (l.set j x) := by
  rcases h.2 with ⟨he, h0⟩ | ⟨g', cap, cur, he, hb, hg, hnc, hcm, hcs, htake⟩
  · simp at he
  · simp only [Value.slice.injEq, Option.some.injEq, Addr.mk.injEq, and_true] at he
    obtain ⟨rfl, rfl, rfl⟩ := he
    refine ⟨by simp, .inr ⟨g, c, cur.setIfInBounds j (vb x), by simp, hb, heap_setCell_same w g j cur _ _ hg, by simpa using hnc, hcm, by simpa using hcs, ?_⟩⟩
    rw [Array.toList_setIfInBounds, List.map_set, ← htake, List.take_set]
    simp
theorem vb_one (l : List UInt8) : ∀ u ∈ l.map vb, u.oneCell' = true := by
  intro u hu; simp only [List.mem_map] at hu; obtain ⟨x, _, rfl⟩ := hu; rfl
/-- A slice of numbers of 64 bits (int, api.F). -/
def Fs (w : World) (v : Value) (l : List Int) : Prop := Rd w 1 v l.length (l.map (Value.int .i64))
theorem Fs.open {w : World} {v : Value} {l : List Int} (h : Fs w v l) : ∃ ao cap b off, v = .slice ao l.length cap ∧ l.length ≤ cap ∧ cap ≤ 9223372036854775807 ∧ (ao = none → l.length = 0 ∧ cap = 0) ∧
    (0 < l.length → ao = some ⟨b, off, none⟩) ∧ (∀ j (h : j < l.length), w.cell? ⟨b, off + j, none⟩ = some (.int .i64 l[j])) := by
  obtain ⟨_, ao, cap, b, off, h1, h2, h3, h4, h5, h6⟩ := h
  refine ⟨ao, cap, b, off, h1, h2, by simpa [maxLen] using h3, h4, h5, fun j hj => h6 j _ ?_⟩
  simp [List.getElem?_eq_getElem hj]
theorem Fs.chg {S : List Nat} {w w' : World} {v : Value} {l : List Int} (h : Fs w v l) (hc : Chg S w w') (hn : 0 < l.length → ∀ k, v.ownBlock = some k → k ∉ S) : Fs w' v l := Rd.keep h hc hn
theorem Fs.cell {w : World} {b off n c : Nat} {l : List Int} (h : Fs w (.slice (some ⟨b, off, none⟩) n c) l) (j : Nat) (hj : j < l.length) : w.cell? ⟨b, off + j, none⟩ = some (.int .i64 l[j]) := by
  obtain ⟨ao, cap, b', off', he, -, -, -, hao, hc⟩ := h.open
  simp only [Value.slice.injEq] at he
  obtain ⟨rfl, rfl, rfl⟩ := he
  have := hao (by omega)
  simp only [Option.some.injEq, Addr.mk.injEq, and_true] at this
  obtain ⟨rfl, rfl⟩ := this
  exact hc j hj
/-- A literal of ints, just laid. -/
theorem Fs.lit (w : World) (l : List Int) (cs : Array Value) (e : TypeId) (n : Nat) (hcs : cs = (l.map (Value.int .i64)).toArray) (hn : n = l.length) (hl : l.length ≤ 140737488355328) :
    Fs (w.alloc (.cells cs e)) (.slice (some ⟨w.heap.size, 0, none⟩) n n) l := by
  subst hcs; subst hn
  refine ⟨by simp, _, _, w.heap.size, 0, rfl, Nat.le_refl _, by unfold maxLen; omega, by simp, by simp, fun j u hu => ?_⟩
  rw [Nat.zero_add, (Blk.new w _ e).cell]
  simpa using hu
end Go.Proofs.Ytnlkeacchogmeaa

/- One law for append onto a row of the call's own, whatever is appended, and what becomes of the row's block. -/
namespace Go.Proofs.Ytnlkeacchogmeaa
open Go.RowKit

/-- A slice type's row of the table. -/
def RowT (P : Program) (t e : TypeId) (size bytes : Nat) : Prop :=
  ∃ i z, P.underlying t = some (.slice e) ∧ P.info? e = some i ∧ i.zero = some z ∧ i.size = size ∧ i.bytes = bytes ∧ z.cells.size = size ∧ 0 < size
theorem RowT.mk {P : Program} {t e : TypeId} {z : Value} {size bytes : Nat} (ht : P.underlying t = some (.slice e)) (h : (P.info? e).map (fun i => (i.zero, i.size, i.bytes)) = some (some z, size, bytes)) (hz : z.cells.size = size) (hs : 0 < size) : RowT P t e size bytes := by
  obtain ⟨i, h1, h2, h3, h4⟩ := info_parts h
  exact ⟨i, z, ht, h1, h2, h3, h4, hz, hs⟩

/-- The new value stands in the old one's block, or in a new one. -/
def Moved (w : World) (v v' : Value) : Prop := v'.ownBlock = v.ownBlock ∨ ∀ k, v'.ownBlock = some k → w.heap.size ≤ k

theorem Rd.cells {w : World} {size : Nat} {v : Value} {n : Nat} {xs : List Value} (h : Rd w size v n xs) (hn : 0 < n) : ∃ b off cap, v = .slice (some ⟨b, off, none⟩) n cap ∧ xs.length = n * size ∧ ∀ j u, xs[j]? = some u → w.cell? ((⟨b, off, none⟩ : Addr).add j) = some u := by
  obtain ⟨h0, ao, cap, b, off, rfl, h2, h3, h4, h5, h6⟩ := h
  obtain rfl := h5 hn
  refine ⟨b, off, cap, rfl, h0, fun j u hu => ?_⟩
  have e : (⟨b, off, none⟩ : Addr).add j = ⟨b, off + j, none⟩ := by unfold Addr.add; split <;> simp_all
  rw [e]; exact h6 j u hu

theorem Rd.length {w : World} {size : Nat} {v : Value} {n : Nat} {xs : List Value} (h : Rd w size v n xs) : xs.length = n * size := h.1

theorem run_app {P : Program} (w : World) {t ty e : TypeId} {size bytes : Nat} (hT : RowT P t e size bytes) {base : Nat} {v : Value} {n : Nat} {xs : List Value} (hown : w.ownsRow base e size v n xs)
    {u : Value} {m : Nat} {news : List Value} (hu : Rd w size u m news) (h1 : ∀ u ∈ news, u.oneCell' = true) (hbytes : (n + m) * bytes ≤ 140737488355328) (hcount : n + m ≤ 140737488355328) (hbase : base ≤ w.heap.size) :
    ∃ v' w', (Builtin.append_ #[t, t] ty #[v, u]).run P w = .ok v' w' ∧ w'.ownsRow base e size v' (n + m) (xs ++ news) ∧ w.grownBy w' v.ownBlock ∧ Moved w v v' ∧ (v' = .slice none 0 0 ↔ v = .slice none 0 0 ∧ m = 0) := by
  obtain ⟨i, z, ht, hi, hz, rfl, rfl, hzs, hsz⟩ := hT
  have h63 : n + m ≤ maxLen := by unfold maxLen; omega
  have hsmall : n + m ≤ 9223372036854775807 := by omega
  rcases Nat.eq_zero_or_pos m with rfl | hm
  · -- nothing comes
    have hnews : news = [] := List.eq_nil_of_length_eq_zero (by simpa using hu.1)
    subst hnews
    obtain ⟨_, ao, cap, b, off, rfl, h2, h3, h4, h5, h6⟩ := hu
    have keep : ∀ a : Option Addr, (Builtin.append_ #[t, t] ty #[v, .slice a 0 cap]).run P w = .ok v w := by
      intro a
      rcases hown.2 with ⟨rfl, rfl⟩ | ⟨g, cap', cur, rfl, _, hg, hnc, _⟩
      · cases a <;> simp [Builtin.append_, run_underlying ht, sizeOf, typeInfo, hi, Builtin.lenOf, Builtin.firstCells, loadCells, loadCellsFrom]
      · cases a <;> simp [Builtin.append_, run_underlying ht, sizeOf, typeInfo, hi, Builtin.lenOf, Builtin.firstCells, hnc, storeCells, loadCells, loadCellsFrom]
    exact ⟨v, w, keep _, by simpa using hown, World.grownBy.refl _ _, .inl rfl, by simp⟩
  · obtain ⟨b, off, cap, rfl, hl, hnews⟩ := hu.cells hm
    have hlen : (xs ++ news).length = (n + m) * i.size := by rw [List.length_append, hown.1, hl, Nat.add_mul]
    have grown : ∀ (old : Nat), old < n + m → ∀ (row : Option Nat),
        (w.drew.alloc (.cells (xs.toArray ++ news.toArray ++ Builtin.zeroCells z.cells (grownCap w (n + m) old e - (n + m))) e)).ownsRow base e i.size
          (.slice (some ⟨w.heap.size, 0, none⟩) (n + m) (grownCap w (n + m) old e)) (n + m) (xs ++ news) ∧
        w.grownBy (w.drew.alloc (.cells (xs.toArray ++ news.toArray ++ Builtin.zeroCells z.cells (grownCap w (n + m) old e - (n + m))) e)) row := by
      intro old ho row
      have hge := grownCap_ge w (n + m) old e
      have hcm : grownCap w (n + m) old e ≤ maxLen := grownCap_le_maxLen w (n + m) old e h63
      refine ⟨⟨hlen, .inr ⟨w.heap.size, _, _, rfl, hbase, heap_alloc_new w.drew _, hge, hcm, ?_, ?_⟩⟩, ⟨rfl, rfl, rfl, by simp, fun k hk _ => heap_alloc_old w.drew _ hk⟩⟩
      · simp only [Array.size_append, List.size_toArray, size_zeroCells, hzs, hown.1, hl, ← Nat.add_mul]
        congr 1
        omega
      · simp only [Array.toList_append, List.append_assoc]
        rw [← List.append_assoc, ← hlen]
        exact List.take_left
    have hnew : ∀ (nn cc : Nat) (v : Value), Moved w v (.slice (some ⟨w.heap.size, 0, none⟩) nn cc) := fun _ _ _ => .inr fun k hk => by simp [Value.ownBlock] at hk; omega
    rcases hown.2 with ⟨rfl, rfl⟩ | ⟨g, cap', cur, rfl, hbg, hg, hnc, hcm, hcs, htake⟩
    · have hx : xs = [] := List.eq_nil_of_length_eq_zero (by simpa using hown.1)
      subst hx
      have hr := run_append_nil (P := P) w t ty e i z ht hi hz ⟨b, off, none⟩ m cap news hl hnews (by omega) (by omega) (by have hb := hbytes; simp only [Nat.zero_add] at hb; omega)
      have hgr := grown 0 (by omega) (Value.ownBlock (.slice none 0 0))
      simp only [Nat.zero_add, List.nil_append, Array.empty_append] at hgr ⊢
      exact ⟨_, _, hr, hgr.1, hgr.2, hnew _ _ _, by simp; omega⟩
    · by_cases hroom : n + m ≤ cap'
      · have hfit : n * i.size + news.length ≤ cur.size := by rw [hl, hcs, ← Nat.add_mul]; exact Nat.mul_le_mul_right _ hroom
        have hr := run_append_room (P := P) w t ty e i ht hi g n cap' cur hg ⟨b, off, none⟩ m cap news hl hnews h1 hroom hfit
        refine ⟨_, _, hr, ⟨hlen, .inr ⟨g, cap', _, rfl, hbg, setRow_heap w g cur _ e _ hg, hroom, hcm, ?_, ?_⟩⟩, ⟨rfl, rfl, rfl, by simp, fun k _ hk => setRow_other w g k _ (fun e => hk (by simp [Value.ownBlock, e]))⟩, .inl rfl, by simp⟩
        · simp only [List.size_toArray, List.length_append, List.length_take, List.length_drop, Array.length_toList]
          omega
        · rw [htake, ← hlen]
          exact List.take_left
      · have holds : ∀ j u, xs[j]? = some u → w.cell? ((⟨g, 0, none⟩ : Addr).add j) = some u := hown.cells (g := g) rfl
        have hr := run_append_grow (P := P) w t ty e i z ht hi hz ⟨g, 0, none⟩ n cap' xs hown.1 holds ⟨b, off, none⟩ m cap news hl hnews (by omega) (by omega) (growslice_fits (by omega) hbytes)
        have hgr := grown cap' (by omega) (Value.ownBlock (.slice (some ⟨g, 0, none⟩) n cap'))
        exact ⟨_, _, hr, hgr.1, hgr.2, hnew _ _ _, by simp⟩

theorem wp_app {P : Program} {w : World} {o : Oper} {a : Act} {K : Act → World → Prop} {Q : Exit → Act → World → Prop} {s x : Operand} {t e : TypeId} {size bytes : Nat} (hT : RowT P t e size bytes)
    (ho : o.op = .call { callee := .builtin .append, args := #[s, x], argTypes := #[t, t] }) {base : Nat} {v : Value} {n : Nat} {xs : List Value} (hs : a.eval s = v) (hown : w.ownsRow base e size v n xs)
    {u : Value} {m : Nat} {news : List Value} (hx : a.eval x = u) (hu : Rd w size u m news) (h1 : ∀ u ∈ news, u.oneCell' = true) (hbytes : (n + m) * bytes ≤ 140737488355328) (hcount : n + m ≤ 140737488355328) (hbase : base ≤ w.heap.size)
    (h : ∀ v' w', w'.ownsRow base e size v' (n + m) (xs ++ news) → w.grownBy w' v.ownBlock → Moved w v v' → (v' = .slice none 0 0 ↔ v = .slice none 0 0 ∧ m = 0) → K (a.put o.dst v') w') : o.wp P a w K Q := by
  obtain ⟨v', w', hr, h2, h3, h4, h5⟩ := run_app (P := P) w (ty := o.type) hT hown hu h1 hbytes hcount hbase
  unfold Oper.wp execOp
  simp only [ho, resolve, invoke, builtin, Sem.run_bind, Sem.run_pure, Result.andThen_ok, List.map_toArray, List.map_cons, List.map_nil, hs, hx, hr]
  exact h v' w' h2 h3 h4 h5

theorem wpApp {P : Program} {w : World} {ops : Array Oper} {rest : List Oper} {o : Oper} {a : Act} {Q : Exit → Act → World → Prop} {t e : TypeId} {size bytes : Nat} (hT : RowT P t e size bytes) (hgd : Region.wanted o (yielded ops a.tmps) = true) (s x : Operand)
    (ho : o.op = .call { callee := .builtin .append, args := #[s, x], argTypes := #[t, t] }) (base : Nat) (v : Value) (n : Nat) (xs : List Value) (hs : a.eval s = v) (hown : w.ownsRow base e size v n xs)
    (u : Value) (m : Nat) (news : List Value) (hx : a.eval x = u) (hu : Rd w size u m news) (h1 : ∀ u ∈ news, u.oneCell' = true) (hbytes : (n + m) * bytes ≤ 140737488355328) (hcount : n + m ≤ 140737488355328) (hbase : base ≤ w.heap.size)
    (h : ∀ ao c w', w'.ownsRow base e size (.slice ao (n + m) c) (n + m) (xs ++ news) → w.grownBy w' v.ownBlock → Moved w v (.slice ao (n + m) c) → (ao = none → v = .slice none 0 0 ∧ m = 0) → wpList P ops Q rest (a.put o.dst (.slice ao (n + m) c)) w') : wpList P ops Q (o :: rest) a w :=
  BigFrame.wpList_want hgd fun _ hK => wp_app hT ho hs hown hx hu h1 hbytes hcount hbase fun v' w' h2 h3 h4 h5 => by
    obtain ⟨ao, c, hv, hz⟩ : ∃ ao c, v' = .slice ao (n + m) c ∧ (ao = none → c = 0 ∧ n + m = 0) := by
      rcases h2.2 with ⟨rfl, hz⟩ | ⟨g, cap, cur, rfl, _⟩
      · exact ⟨none, 0, by rw [hz], fun _ => ⟨rfl, hz⟩⟩
      · exact ⟨_, cap, rfl, fun h => by simp at h⟩
    subst hv
    exact hK _ _ (h ao c w' h2 h3 h4 (fun e => h5.1 (by have := hz e; rw [e, this.1, this.2])))

theorem OwB.nil (w : World) (base : Nat) : OwB w base (.slice none 0 0) [] := World.ownsRow_nil _ _ _ _
/-- Behind what was there, onto a row of the call's own. -/
theorem Chg.app {w1 w2 w3 : World} {base : Nat} {v : Value} {l : List UInt8} (h : Chg [] w1 w2) (hown : OwB w2 base v l) (hg : w2.grownBy w3 v.ownBlock) (hb : w1.heap.size ≤ base) : Chg [] w1 w3 :=
  h.grown hg (fun k hk hlt => by have := (hown.lo k hk).1; omega)
/-- A literal of bytes, just laid. -/
theorem OwB.lit (w : World) (base : Nat) (l : List UInt8) (cs : Array Value) (hcs : cs = (l.map vb).toArray) (hb : base ≤ w.heap.size) (hl : l.length ≤ 140737488355328) :
    OwB (w.alloc (.cells cs 5)) base (.slice (some ⟨w.heap.size, 0, none⟩) l.length l.length) l := by
  subst hcs
  have := World.ownsRow_lit (base := base) (e := 5) (size := 1) w (l.map vb).toArray l.length hb (by unfold maxLen; omega) (by simp)
  unfold OwB
  simpa using this
theorem OwB.one (w : World) (base : Nat) (c : UInt8) (z : Int) (hz : z = n8 c) (hb : base ≤ w.heap.size) :
    OwB (w.alloc (.cells #[.int .u8 z] 5)) base (.slice (some ⟨w.heap.size, 0, none⟩) 1 1) [c] := by
  subst hz
  exact OwB.lit w base [c] _ rfl hb (by simp)
end Go.Proofs.Ytnlkeacchogmeaa

/- From a row's reading of its arguments to the words of these walks. -/
namespace Go.Proofs.Ytnlkeacchogmeaa
open Go.RowKit

def Row8 (k : IntKind) (w : World) (a : Option Addr) (len cap : Nat) (zs : List Int) : Prop :=
  (a = none ∧ len = 0 ∧ cap = 0 ∧ zs = []) ∨
  ∃ x, a = some x ∧ len ≤ cap ∧ cap ≤ maxLen ∧ zs.length = cap ∧ (∀ i, i < zs.length → w.cell? (x.add i) = some (.int k (zs.getD i 0))) ∧ ∀ n ∈ zs, (Lit.int k n).wf = true

theorem spot_none {w : World} {x : Addr} {v : Value} (h : w.cell? x = some v) : x.spot = none := by
  unfold World.cell? at h
  split at h
  · cases hs : x.spot with
    | none => rfl
    | some s => rw [hs] at h; simp at h
  · simp at h

theorem Row8.rd {k : IntKind} {w : World} {a : Option Addr} {len cap : Nat} {zs : List Int} (h : Row8 k w a len cap zs) : Rd w 1 (.slice a len cap) len ((zs.take len).map (Value.int k)) := by
  rcases h with ⟨rfl, rfl, rfl, rfl⟩ | ⟨x, rfl, hl, hm, hz, hc, -⟩
  · exact ⟨rfl, none, 0, 0, 0, rfl, Nat.le_refl _, by simp [maxLen], fun _ => ⟨rfl, rfl⟩, fun h => absurd h (by omega), fun j u hu => by simp at hu⟩
  · refine ⟨by simp; omega, some x, cap, x.block, x.off, rfl, hl, hm, fun h => by simp at h, fun hp => ?_, fun j u hu => ?_⟩
    · have h0 := hc 0 (by omega)
      have hs := spot_none h0
      have e : x.spot = none := by
        cases x; simpa [Addr.add] using hs
      cases x; simp at e; subst e; rfl
    · have hj : j < len := by
        have := (List.getElem?_eq_some_iff.1 hu).1
        simp at this; omega
      have h1 := hc j (by omega)
      have h0 := hc 0 (by omega)
      have hs : x.spot = none := by
        have := spot_none h0
        cases x; simpa [Addr.add] using this
      have e : x.add j = ⟨x.block, x.off + j, none⟩ := by
        cases x; simp at hs; subst hs; unfold Addr.add; split <;> simp_all
      rw [e] at h1
      rw [h1]
      rw [List.getElem?_map, List.getElem?_take, if_pos hj, List.getElem?_eq_getElem (by omega)] at hu
      simp only [Option.map_some, Option.some.injEq] at hu
      rw [← hu, List.getD_eq_getElem?_getD, List.getElem?_eq_getElem (by omega)]
      rfl

theorem n8_of (z : Int) (h0 : 0 ≤ z) (h1 : z < 256) : n8 (UInt8.ofNat z.toNat) = z := by
  unfold n8
  rw [UInt8.toNat_ofNat', Nat.mod_eq_of_lt (show z.toNat < 2 ^ 8 by omega)]
  omega
theorem wf_u8 {z : Int} (h : (Lit.int .u8 z).wf = true) : 0 ≤ z ∧ z < 256 := by
  simp [Lit.wf, IntKind.min, IntKind.max, IntKind.signed, IntKind.bits] at h
  omega
theorem wf_i64 {z : Int} (h : (Lit.int .i64 z).wf = true) : -9223372036854775808 ≤ z ∧ z ≤ 9223372036854775807 := by
  simp [Lit.wf, IntKind.min, IntKind.max, IntKind.signed, IntKind.bits] at h
  omega
theorem wf_u32 {z : Int} (h : (Lit.int .u32 z).wf = true) : 0 ≤ z ∧ z < 4294967296 := by
  simp [Lit.wf, IntKind.min, IntKind.max, IntKind.signed, IntKind.bits] at h
  omega
theorem wf_u16 {z : Int} (h : (Lit.int .u16 z).wf = true) : 0 ≤ z ∧ z < 65536 := by
  simp [Lit.wf, IntKind.min, IntKind.max, IntKind.signed, IntKind.bits] at h
  omega
theorem Row8.wf {k : IntKind} {w : World} {a : Option Addr} {len cap : Nat} {zs : List Int} (h : Row8 k w a len cap zs) : ∀ n ∈ zs, (Lit.int k n).wf = true := by
  rcases h with ⟨_, _, _, rfl⟩ | ⟨x, _, _, _, _, _, hw⟩
  · simp
  · exact hw
theorem Row8.len {k : IntKind} {w : World} {a : Option Addr} {len cap : Nat} {zs : List Int} (h : Row8 k w a len cap zs) : (zs.take len).length = len := by
  have := h.rd.1; simpa using this

theorem Row8.le {k : IntKind} {w : World} {a : Option Addr} {len cap : Nat} {zs : List Int} (h : Row8 k w a len cap zs) : len ≤ cap := by
  rcases h with ⟨_, rfl, rfl, _⟩ | ⟨x, _, h, _⟩
  · exact Nat.le_refl _
  · exact h
/-- A slice of bytes that came in. -/
theorem Row8.bs {w : World} {a : Option Addr} {len cap : Nat} {zs : List Int} (h : Row8 .u8 w a len cap zs) : ∃ l : List UInt8, l.length = len ∧ Bs w (.slice a len cap) l := by
  refine ⟨(zs.take len).map fun z => UInt8.ofNat z.toNat, by rw [List.length_map]; exact h.len, ?_⟩
  have hr := h.rd
  unfold Bs
  rw [List.length_map, h.len, List.map_map]
  have e : (zs.take len).map (vb ∘ fun z => UInt8.ofNat z.toNat) = (zs.take len).map (Value.int .u8) := by
    apply List.map_congr_left
    intro z hz
    have hb := wf_u8 (h.wf z (List.mem_of_mem_take hz))
    show Value.int .u8 (n8 _) = _
    rw [n8_of z hb.1 hb.2]
  rw [e]
  exact hr
/-- A slice of ints that came in. -/
theorem Row8.fs {w : World} {a : Option Addr} {len cap : Nat} {zs : List Int} (h : Row8 .i64 w a len cap zs) : Fs w (.slice a len cap) (zs.take len) ∧ (zs.take len).length = len ∧ ∀ z ∈ zs.take len, -9223372036854775808 ≤ z ∧ z ≤ 9223372036854775807 := by
  refine ⟨?_, h.len, fun z hz => wf_i64 (h.wf z (List.mem_of_mem_take hz))⟩
  unfold Fs; rw [h.len]; exact h.rd
theorem u32_of {z : Int} (h : (Lit.int .u32 z).wf = true) : ∃ x : UInt32, z = n32 x := by
  have hb := wf_u32 h
  refine ⟨UInt32.ofNat z.toNat, ?_⟩
  unfold n32
  rw [UInt32.toNat_ofNat', Nat.mod_eq_of_lt (show z.toNat < 2 ^ 32 by omega)]
  omega
theorem u8_of {z : Int} (h : (Lit.int .u8 z).wf = true) : ∃ x : UInt8, z = n8 x := by
  have hb := wf_u8 h
  exact ⟨UInt8.ofNat z.toNat, (n8_of z hb.1 hb.2).symm⟩
theorem u16_of {z : Int} (h : (Lit.int .u16 z).wf = true) : ∃ x : UInt16, z = n16 x := by
  have hb := wf_u16 h
  refine ⟨UInt16.ofNat z.toNat, ?_⟩
  unfold n16
  rw [UInt16.toNat_ofNat', Nat.mod_eq_of_lt (show z.toNat < 2 ^ 16 by omega)]
  omega

section
open Go.ChangeShapes Go.WideShapes
variable {H : Type} {enc : TypeId × Value → H} {P : Program} {w : World} {base : Nat} {spare : Nat → Bool} {held : Bool}
theorem okWide_arr {t e : TypeId} {n : Nat} {r : Reach} {b0 : Nat} {v : Value} (ht : P.underlying t = some (.array n e)) (h : Value.okWide P w r b0 t v) : ∃ cs, v = .agg cs ∧ cs.size = P.cellsOf t := by
  simp only [Value.okWide, ht] at h
  obtain ⟨cs, h1, h2, _⟩ := h
  exact ⟨cs, h1, h2⟩
theorem open_arr4 {t e : TypeId} {r : Reach} {b0 : Nat} {v : Value} {d : DataW H} {ps : List MemPlace} (ht : P.underlying t = some (.array 4 e)) (he : P.underlying e = some (.int .u8)) (hC : P.cellsOf e = 1) (hCt : P.cellsOf t = 4)
    (hv : Value.okWide P w r b0 t v) (h : DataW.Trod enc P w base spare held t v d ps) :
    ∃ x0 x1 x2 x3 : UInt8, v = .agg #[.int .u8 (n8 x0), .int .u8 (n8 x1), .int .u8 (n8 x2), .int .u8 (n8 x3)] := by
  obtain ⟨cs, rfl, hsz⟩ := okWide_arr ht hv
  obtain ⟨fuel, hf⟩ := h
  obtain ⟨xs, m, _, hx, hl, hn, hg⟩ := DataW.trod_array ht hf
  simp only [Value.cells] at hl hg
  have one : ∀ i, i < 4 → ∃ x : UInt8, cs.toList[i]? = some (.int .u8 (n8 x)) := by
    intro i hi
    have h1 := hg i hi
    rw [hC, Nat.mul_one] at h1
    have hxi : i < xs.length := by omega
    rw [List.getElem?_eq_getElem hxi] at h1
    obtain ⟨n, hn', _, hw⟩ := DataW.trod_int he h1
    have hb := wf_u8 hw
    refine ⟨UInt8.ofNat n.toNat, ?_⟩
    rw [n8_of n hb.1 hb.2]
    have : (cs.toList.drop i).take 1 = [.int .u8 n] := hn'
    have h2 := congrArg (fun l => l[0]?) this
    simpa using h2
  obtain ⟨x0, e0⟩ := one 0 (by decide)
  obtain ⟨x1, e1⟩ := one 1 (by decide)
  obtain ⟨x2, e2⟩ := one 2 (by decide)
  obtain ⟨x3, e3⟩ := one 3 (by decide)
  refine ⟨x0, x1, x2, x3, ?_⟩
  have hlen : cs.toList.length = 4 := by rw [hl, hCt]
  congr 1
  apply Array.toList_inj.1
  apply List.ext_getElem?
  intro i
  rcases Nat.lt_or_ge i 4 with hi | hi
  · have : i = 0 ∨ i = 1 ∨ i = 2 ∨ i = 3 := by omega
    rcases this with rfl | rfl | rfl | rfl
    · rw [e0]; rfl
    · rw [e1]; rfl
    · rw [e2]; rfl
    · rw [e3]; rfl
  · rw [List.getElem?_eq_none (by omega), List.getElem?_eq_none (by simpa using hi)]
end
end Go.Proofs.Ytnlkeacchogmeaa

/- Laws on conversions between bytes and strings, and on append of zeros. -/
namespace Go.Proofs.Ytnlkeacchogmeaa
open Go.RowKit

def strB (l : List UInt8) : ByteArray := ⟨l.toArray⟩
theorem strB_inj {a b : List UInt8} : strB a = strB b ↔ a = b := by
  unfold strB; constructor
  · intro h; injection h with h; exact List.toArray_inj h
  · rintro rfl; rfl
@[simp] theorem strB_data (l : List UInt8) : (strB l).data.toList = l := rfl
@[simp, go_sem] theorem strB_toList (l : List UInt8) : (strB l).toList = l := by rw [ByteArray.toList_eq]; rfl
@[simp] theorem strB_size (l : List UInt8) : (strB l).size = l.length := by simp [strB, ByteArray.size]

theorem undByte : Try.prog.underlying 5 = some (.int .u8) := by kernel_rfl
theorem undString : Try.prog.underlying 9 = some .string := by kernel_rfl

end Go.Proofs.Ytnlkeacchogmeaa

/- One law for cutting a slice, whatever its elements. -/
namespace Go.Proofs.Ytnlkeacchogmeaa
open Go.RowKit

def Bound (lo : Option Value) (p d : Nat) : Prop := (lo = none ∧ p = d) ∨ ∃ k, lo = some (.int k (p : Int))

theorem run_cut {P : Program} {t e : TypeId} {size bytes : Nat} (hT : RowT P t e size bytes) {w : World} {v : Value} {n : Nat} {xs : List Value} (hv : Rd w size v n xs) {lo hi : Option Value} {p q : Nat}
    (hlo : Bound lo p 0) (hhi : Bound hi q n) (hpq : p ≤ q) (hq : q ≤ n) :
    ∃ ao c, (∀ W, (Instr.sliceAt t v lo hi none).run P W = .ok (.slice ao (q - p) c) W) ∧ Rd w size (.slice ao (q - p) c) (q - p) ((xs.drop (p * size)).take ((q - p) * size)) ∧
      (∀ k, (Value.slice ao (q - p) c).ownBlock = some k → v.ownBlock = some k) := by
  obtain ⟨i, z, ht, hi', hz, rfl, rfl, hzs, hsz⟩ := hT
  obtain ⟨h0, ao, cap, b, off, rfl, h2, h3, h4, h5, h6⟩ := hv
  have hb : ∀ W, (Instr.sliceBounds true n cap lo hi none).run P W = .ok (p, q, cap) W := by
    intro W
    have e1 : ∀ (k : IntKind) (code : BoundsCode), (Instr.sliceBound (.int k (q : Int)) cap code).run P W = .ok q W := by
      intro k code; simp [Instr.sliceBound, asIntOf, show (q : Int) ≤ (cap : Int) by omega, go_sem]
    have e2 : ∀ (k : IntKind) (code : BoundsCode), (Instr.sliceBound (.int k (p : Int)) q code).run P W = .ok p W := by
      intro k code; simp [Instr.sliceBound, asIntOf, show (p : Int) ≤ (q : Int) by omega, go_sem]
    rcases hlo with ⟨rfl, rfl⟩ | ⟨k, rfl⟩ <;> rcases hhi with ⟨rfl, rfl⟩ | ⟨k', rfl⟩ <;> simp [Instr.sliceBounds, e1, e2, go_sem] <;> (intro h; omega)
  refine ⟨if cap = p then ao else ao.map (·.add (p * i.size)), cap - p, fun W => ?_, ⟨?_, _, cap - p, b, if cap = p then off else off + p * i.size, rfl, by omega, by omega, ?_, ?_, ?_⟩, ?_⟩
  · simp [Instr.sliceAt, Instr.slice, run_underlying ht, sizeOf, typeInfo, hi', hb]
  · rw [List.length_take, List.length_drop, h0, ← Nat.sub_mul]
    exact Nat.min_eq_left (Nat.mul_le_mul_right _ (by omega))
  · intro hn
    have : ao = none := by
      split at hn
      · exact hn
      · simpa using hn
    have := h4 this
    omega
  · intro hpos
    rw [h5 (by omega)]
    have hne : ¬ cap = p := by omega
    rw [if_neg hne, if_neg hne]
    simp only [Option.map_some, Option.some.injEq]
    unfold Addr.add; split <;> simp_all
  · intro j u hu
    rw [List.getElem?_take] at hu
    split at hu
    · rename_i hj
      rw [List.getElem?_drop] at hu
      have hpos : 0 < q - p := by
        rcases Nat.eq_zero_or_pos (q - p) with h | h
        · rw [h] at hj; simp at hj
        · exact h
      have hne : ¬ cap = p := by omega
      rw [if_neg hne, Nat.add_assoc]
      exact h6 _ _ hu
    · simp at hu
  · intro k hk
    cases ao with
    | none => split at hk <;> simp [Value.ownBlock] at hk
    | some a =>
      split at hk
      · simpa [Value.ownBlock] using hk
      · have : (a.add (p * i.size)).block = a.block := by unfold Addr.add; split <;> rfl
        simpa [Value.ownBlock, this] using hk

theorem wpCut {P : Program} {w : World} {ops : Array Oper} {rest : List Oper} {o : Oper} {a : Act} {Q : Exit → Act → World → Prop} {t e : TypeId} {size bytes : Nat} (hT : RowT P t e size bytes) (hgd : Region.wanted o (yielded ops a.tmps) = true) (x : Operand) (lo hi : Option Operand)
    (ho : o.op = .slice t x lo hi none) (v : Value) (n : Nat) (xs : List Value) (hx : a.eval x = v) (hv : Rd w size v n xs) (p q : Nat) (hlo : Bound (lo.map a.eval) p 0) (hhi : Bound (hi.map a.eval) q n) (hpq : p ≤ q) (hq : q ≤ n)
    (h : ∀ ao c, Rd w size (.slice ao (q - p) c) (q - p) ((xs.drop (p * size)).take ((q - p) * size)) → (∀ k, (Value.slice ao (q - p) c).ownBlock = some k → v.ownBlock = some k) → wpList P ops Q rest (a.put o.dst (.slice ao (q - p) c)) w) : wpList P ops Q (o :: rest) a w :=
  BigFrame.wpList_want hgd fun _ hK => by
    obtain ⟨ao, c, hr, h2, h3⟩ := run_cut hT hv hlo hhi hpq hq
    unfold Oper.wp execOp
    simp only [ho, Sem.run_bind, Sem.run_pure, Result.andThen_ok, Option.map_none, hx, hr]
    exact hK _ _ (h ao c h2 h3)

end Go.Proofs.Ytnlkeacchogmeaa

/- More words: what is kept over a call that turns nothing old; cuts in a region that draws. -/
namespace Go.Proofs.Ytnlkeacchogmeaa
open Go.RowKit

theorem Chg.cellS {w wx : World} {p : Addr} {v : Value} (h : Chg [] w wx) (hc : w.cell? p = some v) : wx.cell? p = some v :=
  (h.cell (World.block_lt_of_cell? w _ hc) (by simp)).trans hc
theorem Chg.frozenS {w wx : World} {p : Addr} {v : Value} (h : Chg [] w wx) (hc : w.cell? p = some v) : wx.frozen? p = w.frozen? p :=
  h.frozen (World.block_lt_of_cell? w _ hc) (by simp)
/- One word for 'kept over what turns nothing old'. -/
theorem Chg.k {a b c : World} (h : Chg [] a b) (hc : Chg [] b c) : Chg [] a c := h.trans hc (by simp)
theorem Bs.k {w w' : World} {v : Value} {l : List UInt8} (h : Bs w v l) (hc : Chg [] w w') : Bs w' v l := h.stays hc
theorem Fs.k {w w' : World} {v : Value} {l : List Int} (h : Fs w v l) (hc : Chg [] w w') : Fs w' v l := h.chg hc (by simp)
theorem OwB.k {w w' : World} {base : Nat} {v : Value} {l : List UInt8} (h : OwB w base v l) (hc : Chg [] w w') : OwB w' base v l := h.chg hc (by simp)
theorem Blk.k {w w' : World} {b : Nat} {cs : Array Value} {t : TypeId} (h : Blk w b cs t) (hc : Chg [] w w') : Blk w' b cs t := h.chg hc (by simp)
theorem strCells_strB (l : List UInt8) : Lib.strCells (strB l) = l.map vb := rfl
theorem Chg.ownGrow {a b c : World} {base : Nat} {e : TypeId} {size n : Nat} {v : Value} {xs : List Value} (h : Chg [] a b) (hown : b.ownsRow base e size v n xs) (hg : b.grownBy c v.ownBlock) (hb : a.heap.size ≤ base) : Chg [] a c :=
  h.grown hg (fun k hk hlt => by have := (World.ownsRow.lt hown k hk).1; omega)
/- Rows of ints of the call's own. -/
theorem rowInt : RowT Try.prog 59 3 1 8 := RowT.mk (z := .int .i64 0) (by kernel_rfl) (by kernel_rfl) rfl (by decide)
def OwI (w : World) (base : Nat) (v : Value) (l : List Int) : Prop := w.ownsRow base 3 1 v l.length (l.map (Value.int .i64))
theorem OwI.nil (w : World) (base : Nat) : OwI w base (.slice none 0 0) [] := World.ownsRow_nil _ _ _ _
theorem OwI.fs {w : World} {base : Nat} {v : Value} {l : List Int} (h : OwI w base v l) : Fs w v l := Rd.ofOwn h
theorem OwI.k {w w' : World} {base : Nat} {v : Value} {l : List Int} (h : OwI w base v l) (hc : Chg [] w w') : OwI w' base v l := by
  refine ⟨h.1, ?_⟩
  rcases h.2 with hx | ⟨g, cap, cur, rfl, hb, hg, rest⟩
  · exact .inl hx
  · refine .inr ⟨g, cap, cur, rfl, hb, ?_, rest⟩
    rw [hc.block g (lt_of_block hg) (by simp)]
    exact hg
theorem wpAppI {w : World} {ops : Array Oper} {rest : List Oper} {o : Oper} {a : Act} {Q : Exit → Act → World → Prop} (hgd : Region.wanted o (yielded ops a.tmps) = true) (s x : Operand)
    (ho : o.op = .call { callee := .builtin .append, args := #[s, x], argTypes := #[59, 59] }) (base : Nat) (v : Value) (l : List Int) (hs : a.eval s = v) (hown : OwI w base v l)
    (u : Value) (m : List Int) (hx : a.eval x = u) (hu : Fs w u m) (hlen : l.length + m.length ≤ 10000000000000) (hbase : base ≤ w.heap.size)
    (h : ∀ ao c w', OwI w' base (.slice ao (l.length + m.length) c) (l ++ m) → w.grownBy w' v.ownBlock → wpList Try.prog ops Q rest (a.put o.dst (.slice ao (l.length + m.length) c)) w') : wpList Try.prog ops Q (o :: rest) a w :=
  wpApp rowInt hgd s x ho base v _ _ hs hown u _ _ hx hu (by intro u hu; obtain ⟨x, _, rfl⟩ := List.mem_map.1 hu; rfl) (by omega) (by omega) hbase fun ao c w' h1 h2 _ _ =>
    h ao c w' (by unfold OwI; rw [List.length_append, List.map_append]; exact h1) h2
/- Rows of different element types lie in different blocks. -/
theorem ownsRow_apart {w : World} {base : Nat} {e : TypeId} {size n : Nat} {v : Value} {xs : List Value} (h : w.ownsRow base e size v n xs) {b : Nat} {cs : Array Value} {t : TypeId} (hb : Blk w b cs t) (ht : t ≠ e) : v.ownBlock ≠ some b := by
  intro he
  rcases h.2 with ⟨rfl, _⟩ | ⟨g, cap, cur, rfl, _, hg, _⟩
  · simp [Value.ownBlock] at he
  · simp only [Value.ownBlock, Option.some.injEq] at he
    subst he
    unfold Blk at hb
    rw [hb] at hg
    simp at hg
    exact ht hg.2
theorem ownsRow_grow {w w' : World} {base base' : Nat} {e e' : TypeId} {size size' n n' : Nat} {v u : Value} {xs ys : List Value} (h : w.ownsRow base e size v n xs) (hu : w.ownsRow base' e' size' u n' ys) (hne : e ≠ e') (hg : w.grownBy w' u.ownBlock) : w'.ownsRow base e size v n xs := by
  refine World.ownsRow.kept h hg ?_
  rcases hu.2 with ⟨rfl, _⟩ | ⟨g, cap, cur, rfl, _, hgg, _⟩
  · rcases h.2 with ⟨rfl, _⟩ | ⟨k, _, _, rfl, _⟩
    · exact .inl rfl
    · exact .inr (by simp [Value.ownBlock])
  · exact .inr (ownsRow_apart h (b := g) hgg (fun x => hne x.symm))
theorem ownsRow_set {w : World} {base : Nat} {e : TypeId} {size n : Nat} {v : Value} {xs : List Value} (h : w.ownsRow base e size v n xs) {b : Nat} {cs : Array Value} {t : TypeId} (hb : Blk w b cs t) (ht : t ≠ e) (i : Nat) (u : Value) : (w.setCell ⟨b, i, none⟩ u).ownsRow base e size v n xs :=
  ownsRow_setCell_other h (a := ⟨b, i, none⟩) (ownsRow_apart h hb ht) u
theorem ownsRow_mono {w : World} {base base' : Nat} {e : TypeId} {size n : Nat} {v : Value} {xs : List Value} (h : w.ownsRow base e size v n xs) (hb : base' ≤ base) : w.ownsRow base' e size v n xs := by
  refine ⟨h.1, ?_⟩
  rcases h.2 with hx | ⟨g, cap, cur, rfl, hbg, rest⟩
  · exact .inl hx
  · exact .inr ⟨g, cap, cur, rfl, Nat.le_trans hb hbg, rest⟩
theorem ownsRow_k {w w' : World} {base : Nat} {e : TypeId} {size n : Nat} {v : Value} {xs : List Value} (h : w.ownsRow base e size v n xs) (hc : Chg [] w w') : w'.ownsRow base e size v n xs := by
  refine ⟨h.1, ?_⟩
  rcases h.2 with hx | ⟨g, cap, cur, rfl, hb, hg, rest⟩
  · exact .inl hx
  · refine .inr ⟨g, cap, cur, rfl, hb, ?_, rest⟩
    rw [hc.block g (lt_of_block hg) (by simp)]
    exact hg
/-- A literal, just laid. -/
theorem Rd.lit (w : World) (size n : Nat) (xs : List Value) (cs : Array Value) (e : TypeId) (hcs : cs = xs.toArray) (hn : xs.length = n * size) (hl : n ≤ 140737488355328) :
    Rd (w.alloc (.cells cs e)) size (.slice (some ⟨w.heap.size, 0, none⟩) n n) n xs := by
  subst hcs
  refine ⟨hn, _, _, w.heap.size, 0, rfl, Nat.le_refl _, by unfold maxLen; omega, by simp, by simp, fun j u hu => ?_⟩
  rw [Nat.zero_add, (Blk.new w _ e).cell]
  simpa using hu
theorem Chg.k' {S : List Nat} {a b c : World} (h : Chg S a b) (hc : Chg [] b c) : Chg S a c := h.trans hc (by simp)
theorem ownsRow_chg {S : List Nat} {w w' : World} {base : Nat} {e : TypeId} {size n : Nat} {v : Value} {xs : List Value} (h : w.ownsRow base e size v n xs) (hc : Chg S w w') (hn : ∀ k, v.ownBlock = some k → k ∉ S) : w'.ownsRow base e size v n xs := by
  refine ⟨h.1, ?_⟩
  rcases h.2 with hx | ⟨g, cap, cur, rfl, hb, hg, rest⟩
  · exact .inl hx
  · refine .inr ⟨g, cap, cur, rfl, hb, ?_, rest⟩
    rw [hc.block g (lt_of_block hg) (hn g rfl)]
    exact hg
theorem wp_appT {P : Program} {w : World} {o : Oper} {a : Act} {K : Act → World → Prop} {Q : Exit → Act → World → Prop} {t e : TypeId} {size bytes : Nat} (hT : RowT P t e size bytes) (s x : Operand)
    (ho : o.op = .call { callee := .builtin .append, args := #[s, x], argTypes := #[t, t] }) (base : Nat) (v : Value) (n : Nat) (xs : List Value) (hs : a.eval s = v) (hown : w.ownsRow base e size v n xs)
    (u : Value) (m : Nat) (news : List Value) (hx : a.eval x = u) (hu : Rd w size u m news) (h1 : ∀ u ∈ news, u.oneCell' = true) (hbytes : (n + m) * bytes ≤ 140737488355328) (hcount : n + m ≤ 140737488355328) (hbase : base ≤ w.heap.size)
    (h : ∀ ao c w', w'.ownsRow base e size (.slice ao (n + m) c) (n + m) (xs ++ news) → w.grownBy w' v.ownBlock → Moved w v (.slice ao (n + m) c) → K (a.put o.dst (.slice ao (n + m) c)) w') : o.wp P a w K Q :=
  wp_app hT ho hs hown hx hu h1 hbytes hcount hbase fun v' w' h2 h3 h4 h5 => by
    obtain ⟨ao, c, hv⟩ : ∃ ao c, v' = .slice ao (n + m) c := by
      rcases h2.2 with ⟨rfl, hz⟩ | ⟨g, cap, cur, rfl, _⟩
      · exact ⟨none, 0, by rw [hz]⟩
      · exact ⟨_, cap, rfl⟩
    subst hv
    exact h ao c w' h2 h3 h4
theorem Chg.cellT {S : List Nat} {w wx : World} {p : Addr} {v : Value} (h : Chg S w wx) (hc : w.cell? p = some v) (hn : p.block ∉ S) : wx.cell? p = some v :=
  (h.cell (World.block_lt_of_cell? w _ hc) hn).trans hc
end Go.Proofs.Ytnlkeacchogmeaa

/- Reading arguments with depth: structs and slices of structs. -/
namespace Go.Proofs.Ytnlkeacchogmeaa
open Go.RowKit Go.ChangeShapes Go.WideShapes

/-- v is a slice whose elements, of 'size' cells each, read as l. -/
def Rds {α : Type} (E : World → α → List Value → Prop) (size : Nat) (w : World) (v : Value) (l : List α) : Prop :=
  ∃ css : List (List Value), css.length = l.length ∧ (∀ i (h : i < l.length) (h' : i < css.length), E w l[i] css[i] ∧ css[i].length = size) ∧ Rd w size v l.length css.flatten
theorem Rds.form {α : Type} {E : World → α → List Value → Prop} {size : Nat} {w : World} {v : Value} {l : List α} (h : Rds E size w v l) : ∃ ao c, v = .slice ao l.length c := by
  obtain ⟨_, _, _, _, ao, cap, b, off, rfl, _⟩ := h
  exact ⟨ao, cap, rfl⟩
theorem Rds.k {α : Type} {E : World → α → List Value → Prop} {size : Nat} {w w' : World} {v : Value} {l : List α} (h : Rds E size w v l) (hE : ∀ a c, E w a c → E w' a c) (hc : Chg [] w w') : Rds E size w' v l := by
  obtain ⟨css, h1, h2, h3⟩ := h
  exact ⟨css, h1, fun i h h' => ⟨hE _ _ (h2 i h h').1, (h2 i h h').2⟩, Rd.keep h3 hc (by simp)⟩
theorem flatten_get {css : List (List Value)} {size : Nat} (h : ∀ i (h' : i < css.length), css[i].length = size) (i j : Nat) (hi : i < css.length) (hj : j < size) : css.flatten[i * size + j]? = css[i][j]? := by
  induction css generalizing i with
  | nil => simp at hi
  | cons c css ih =>
    have h0 : c.length = size := h 0 (by simp)
    cases i with
    | zero => simp only [List.flatten_cons, Nat.zero_mul, Nat.zero_add, List.getElem_cons_zero]; rw [List.getElem?_append_left (by omega)]
    | succ i =>
      simp only [List.flatten_cons, List.getElem_cons_succ]
      rw [List.getElem?_append_right (by rw [h0]; rw [Nat.succ_mul]; omega), h0, show (i + 1) * size + j - size = i * size + j by rw [Nat.succ_mul]; omega]
      exact ih (fun k hk => h (k + 1) (by simpa using hk)) i (by simpa using hi)
theorem flatten_len {css : List (List Value)} {size : Nat} (h : ∀ c ∈ css, c.length = size) : css.flatten.length = css.length * size := by
  induction css with
  | nil => simp
  | cons c css ih => simp only [List.flatten_cons, List.length_append, List.length_cons]; rw [h c (by simp), ih (fun x hx => h x (by simp [hx])), Nat.succ_mul]; omega
/-- The cells of element i. -/
theorem Rds.at {α : Type} {E : World → α → List Value → Prop} {size : Nat} {w : World} {v : Value} {l : List α} (h : Rds E size w v l) (hl : 0 < l.length) : ∃ b off cap, v = .slice (some ⟨b, off, none⟩) l.length cap ∧ l.length ≤ cap ∧ cap ≤ maxLen ∧
    ∀ i (hi : i < l.length), ∃ c, E w l[i] c ∧ c.length = size ∧ ∀ j, j < size → w.cell? ⟨b, off + i * size + j, none⟩ = c[j]? := by
  obtain ⟨css, h1, h2, h0, ao, cap, b, off, rfl, h3, h4, h5, h6, h7⟩ := h
  obtain rfl := h6 hl
  refine ⟨b, off, cap, rfl, h3, h4, fun i hi => ⟨css[i]'(by omega), (h2 i hi (by omega)).1, (h2 i hi (by omega)).2, fun j hj => ?_⟩⟩
  have hg := flatten_get (size := size) (fun i h' => (h2 i (by omega) h').2) i j (by omega) hj
  have hlen : j < (css[i]'(by omega)).length := by rw [(h2 i hi (by omega)).2]; exact hj
  rw [List.getElem?_eq_getElem hlen] at hg ⊢
  rw [Nat.add_assoc]
  exact h7 _ _ hg

section
variable {H : Type} {enc : TypeId × Value → H} {P : Program} {w : World} {base : Nat} {spare : Nat → Bool} {held : Bool}
/-- A slice that is read, whatever its elements. -/
theorem trod_rdsW {α : Type} {t e : TypeId} {size fuel : Nat} {cs : List Value} {x : DataW H × List MemPlace} (E : World → α → List Value → Prop) (Pw : DataW H → Prop) (ht : P.underlying t = some (.slice e)) (hC : P.cellsOf e = size) (hpos : 0 < size)
    (hP : ∀ es sp, x.1 = .slice es sp → ∀ y ∈ es, Pw y)
    (hE : ∀ n cs x, DataW.trod enc P w base spare held n e cs = some x → Pw x.1 → cs.length = size → ∃ a : α, E w a cs) (h : DataW.trod enc P w base spare held fuel t cs = some x) : ∃ v l, cs = [v] ∧ Rds E size w v l ∧ ((x.1 = .nil ∧ l = []) ∨ ∃ es sp, x.1 = .slice es sp ∧ es.length = l.length) := by
  rcases DataW.trod_slice ht h with ⟨rfl, rfl⟩ | ⟨a, len, cap, elems, rest, n, _, rfl, rfl, hb, hl, hm, hlen, hel, -, -⟩
  · exact ⟨_, [], rfl, ⟨[], rfl, by simp, by simp, none, 0, 0, 0, rfl, by simp, by simp [maxLen], by simp, by simp, by simp⟩, .inl ⟨rfl, rfl⟩⟩
  · have each : ∀ i, i < len → ∃ c, w.cells? base (a.add (i * size)) size = some c ∧ ∃ y : α, E w y c := by
      intro i hi
      have h1 := hel i hi
      rw [hC, List.getElem?_eq_getElem (by omega), Option.bind_eq_some_iff] at h1
      obtain ⟨c, hc, hy⟩ := h1
      exact ⟨c, hc, hE n c _ hy (hP _ _ rfl _ (List.mem_map.2 ⟨_, List.getElem_mem (by omega), rfl⟩)) (World.cells?_some hc).2.1⟩
    have hsp : 0 < len → a.spot = none := by
      intro hp
      obtain ⟨c, hc, -⟩ := each 0 hp
      have h0 := (World.cells?_some hc).2.2
      rw [Nat.zero_mul] at h0
      have hcl := (World.cells?_some hc).2.1
      have h00 := h0 0 (by omega)
      have := spot_none (h00.trans (List.getElem?_eq_getElem (by omega)))
      cases a; simpa [Addr.add] using this
    obtain ⟨f, hf⟩ : ∃ f : Nat → List Value × Option α, ∀ i, i < len → w.cells? base (a.add (i * size)) size = some (f i).1 ∧ ∃ y, (f i).2 = some y ∧ E w y (f i).1 := by
      refine ⟨fun i => if hi : i < len then (Classical.choose (each i hi), some (Classical.choose (Classical.choose_spec (each i hi)).2)) else ([], none), fun i hi => ?_⟩
      simp only [dif_pos hi]
      exact ⟨(Classical.choose_spec (each i hi)).1, _, rfl, Classical.choose_spec (Classical.choose_spec (each i hi)).2⟩
    obtain ⟨g, hg⟩ : ∃ l : List α, l.length = len ∧ ∀ i (h : i < l.length), (f i).2 = some l[i] := by
      have : ∀ k, k ≤ len → ∃ l : List α, l.length = k ∧ ∀ i (h : i < l.length), (f i).2 = some l[i] := by
        intro k
        induction k with
        | zero => intro _; exact ⟨[], rfl, by simp⟩
        | succ k ih =>
          intro hk
          obtain ⟨l, hl1, hl2⟩ := ih (by omega)
          obtain ⟨-, y, hy, -⟩ := hf k (by omega)
          refine ⟨l ++ [y], by simp [hl1], fun i hi => ?_⟩
          by_cases hik : i < l.length
          · rw [List.getElem_append_left hik]; exact hl2 i hik
          · have : i = k := by simp at hi; omega
            subst this
            rw [List.getElem_append_right (by omega)]
            simpa using hy
      exact this len (Nat.le_refl _)
    obtain ⟨hgl, hg⟩ := hg
    have hcl : ∀ i, i < len → (f i).1.length = size := fun i hi => (World.cells?_some (hf i hi).1).2.1
    refine ⟨_, g, rfl, ⟨(List.range len).map fun i => (f i).1, by simp [hgl], fun i hi h' => ?_, ?_, some a, cap, a.block, a.off, by rw [hgl], by omega, hm, by simp, fun hp => ?_, fun j u hu => ?_⟩, .inr ⟨_, _, rfl, by simp [hlen, hgl]⟩⟩
    · simp only [List.getElem_map, List.getElem_range]
      obtain ⟨-, y, hy, hE'⟩ := hf i (by omega)
      have := hg i hi
      rw [hy] at this
      simp only [Option.some.injEq] at this
      subst this
      exact ⟨hE', hcl i (by omega)⟩
    · rw [flatten_len (size := size) (by intro c hc; obtain ⟨i, hi, rfl⟩ := List.mem_map.1 hc; exact hcl i (by simpa using hi)), hgl]; simp
    · have := hsp (by omega)
      cases a; simp at this; subst this; rfl
    · have hj : j < len * size := by
        have h1 := (List.getElem?_eq_some_iff.1 hu).1
        rw [flatten_len (size := size) (by intro c hc; obtain ⟨i, hi, rfl⟩ := List.mem_map.1 hc; exact hcl i (by simpa using hi))] at h1
        simpa using h1
      have hi : j / size < len := (Nat.div_lt_iff_lt_mul hpos).2 hj
      have hr : j % size < size := Nat.mod_lt _ hpos
      have hjd : j = j / size * size + j % size := by rw [Nat.mul_comm]; exact (Nat.div_add_mod j size).symm
      have hfl := flatten_get (css := (List.range len).map fun i => (f i).1) (size := size) (fun i h' => by simp at h' ⊢; exact hcl i h') (j / size) (j % size) (by simpa using hi) hr
      rw [← hjd, hu] at hfl
      simp only [List.getElem_map, List.getElem_range] at hfl
      have h0 := (World.cells?_some (hf _ hi).1).2.2 (j % size) hr
      rw [← hfl] at h0
      have hsp' := hsp (Nat.lt_of_le_of_lt (Nat.zero_le _) hi)
      have e : ∀ k1 k2, (a.add k1).add k2 = ⟨a.block, a.off + (k1 + k2), none⟩ := by
        intro k1 k2
        obtain ⟨b, o, s⟩ := a
        simp at hsp'
        subst hsp'
        unfold Addr.add
        by_cases h1 : k1 = 0 <;> by_cases h2 : k2 = 0 <;> simp [h1, h2, Nat.add_assoc]
      rw [e, ← hjd] at h0
      exact h0
theorem trod_i64 {t : TypeId} {fuel : Nat} {cs : List Value} {x : DataW H × List MemPlace} (ht : P.underlying t = some (.int .i64)) (h : DataW.trod enc P w base spare held fuel t cs = some x) : ∃ n, cs = [.int .i64 n] ∧ -9223372036854775808 ≤ n ∧ n ≤ 9223372036854775807 := by
  obtain ⟨n, rfl, _, hw⟩ := DataW.trod_int ht h
  exact ⟨n, rfl, wf_i64 hw⟩
def EByte (_ : World) (x : UInt8) (c : List Value) : Prop := c = [vb x]
theorem rds_bs {v : Value} {l : List UInt8} (h : Rds EByte 1 w v l) : Bs w v l := by
  obtain ⟨css, h1, h2, h3⟩ := h
  have : css.flatten = l.map vb := by
    have hcss : css = l.map fun x => [vb x] := by
      apply List.ext_getElem
      · simp [h1]
      · intro i a b
        simp only [List.getElem_map]
        exact (h2 i (by simpa using b) a).1
    rw [hcss]
    clear h1 h2 h3 hcss
    induction l with
    | nil => rfl
    | cons x l ih => simp only [List.map_cons, List.flatten_cons, ih]; rfl
  unfold Bs
  rw [← this]; exact h3
/-- A slice that is read, whatever its elements. -/
theorem trod_rds {α : Type} {t e : TypeId} {size fuel : Nat} {cs : List Value} {x : DataW H × List MemPlace} (E : World → α → List Value → Prop) (ht : P.underlying t = some (.slice e)) (hC : P.cellsOf e = size) (hpos : 0 < size)
    (hE : ∀ n cs x, DataW.trod enc P w base spare held n e cs = some x → cs.length = size → ∃ a : α, E w a cs) (h : DataW.trod enc P w base spare held fuel t cs = some x) : ∃ v l, cs = [v] ∧ Rds E size w v l := by
  obtain ⟨v, l, h1, h2, -⟩ := trod_rdsW E (fun _ => True) ht hC hpos (fun _ _ _ _ _ => trivial) (fun n cs x hx _ hl => hE n cs x hx hl) h
  exact ⟨v, l, h1, h2⟩
end
end Go.Proofs.Ytnlkeacchogmeaa

/- The sweep, as plain data. -/
namespace Go.Proofs.Ytnlkeacchogmeaa

structure Itm where
  id : Int
  lx : Int
  ly : Int
  hx : Int
  hy : Int
  still : Bool
def meetI (a b : Itm) : Bool := decide (a.lx ≤ b.hx) && decide (b.lx ≤ a.hx) && decide (a.ly ≤ b.hy) && decide (b.ly ≤ a.hy)
def hitI (a b : Itm) : Bool := !(a.still && b.still) && meetI a b
def pairI (a b : Itm) : Int × Int := (min a.id b.id, max a.id b.id)
theorem hitI_comm (a b : Itm) : hitI a b = hitI b a := by
  unfold hitI meetI
  rw [Bool.and_comm a.still]
  congr 1
  rw [Bool.eq_iff_iff]
  simp only [Bool.and_eq_true, decide_eq_true_eq]
  omega
theorem pairI_comm (a b : Itm) : pairI a b = pairI b a := by unfold pairI; rw [Int.min_comm, Int.max_comm]
/-- The pairs of an item with those of a list. -/
def newP (l : List Itm) (x : Itm) : List (Int × Int) := (l.filter (hitI · x)).map (pairI · x)
theorem newP_app (a b : List Itm) (x : Itm) : newP (a ++ b) x = newP a x ++ newP b x := by unfold newP; rw [List.filter_append, List.map_append]
theorem newP_perm {a b : List Itm} (h : a.Perm b) (x : Itm) : (newP a x).Perm (newP b x) := (h.filter _).map _
/-- All pairs of a list that meet. -/
def allP : List Itm → List (Int × Int)
  | [] => []
  | x :: l => newP l x ++ allP l
theorem newP_one (x y : Itm) : newP [x] y = newP [y] x := by
  unfold newP
  simp only [List.filter_cons, List.filter_nil]
  rw [hitI_comm y x]
  split <;> simp [pairI_comm]
theorem allP_perm {a b : List Itm} (h : a.Perm b) : (allP a).Perm (allP b) := by
  induction h with
  | nil => exact .refl _
  | cons x h ih => exact (newP_perm h x).append ih
  | swap x y l =>
    simp only [allP]
    have e1 : newP (x :: l) y = newP [x] y ++ newP l y := newP_app [x] l y
    have e2 : newP (y :: l) x = newP [y] x ++ newP l x := newP_app [y] l x
    rw [e1, e2, newP_one x y, List.append_assoc, List.append_assoc]
    refine List.Perm.append_left _ ?_
    rw [← List.append_assoc, ← List.append_assoc]
    exact List.Perm.append_right _ List.perm_append_comm
  | trans _ _ h1 h2 => exact h1.trans h2
/-- The pairs as the sweep finds them: each item with those ahead of it. -/
def accP (s : List Itm) (k : Nat) : List (Int × Int) := (List.range k).flatMap fun i => match s[i]? with | none => [] | some x => newP (s.take i) x
theorem accP_succ (s : List Itm) (k : Nat) (h : k < s.length) : accP s (k + 1) = accP s k ++ newP (s.take k) s[k] := by
  unfold accP
  rw [List.range_succ, List.flatMap_append]
  simp [List.getElem?_eq_getElem h]
theorem allP_snoc (x : Itm) : ∀ l : List Itm, (allP (l ++ [x])).Perm (allP l ++ newP l x)
  | [] => by simp [allP, newP]
  | y :: l => by
    have ih := allP_snoc x l
    simp only [List.cons_append, allP]
    have e1 : newP (l ++ [x]) y = newP l y ++ newP [x] y := newP_app l [x] y
    have e2 : newP (y :: l) x = newP [y] x ++ newP l x := newP_app [y] l x
    rw [e1, e2, newP_one x y, List.append_assoc, List.append_assoc]
    refine List.Perm.append_left _ ?_
    refine (List.Perm.append_left _ ih).trans ?_
    rw [← List.append_assoc, ← List.append_assoc]
    exact List.Perm.append_right _ List.perm_append_comm
theorem accP_all (s : List Itm) : ∀ k, k ≤ s.length → (accP s k).Perm (allP (s.take k))
  | 0, _ => by simp [accP, allP]
  | k + 1, h => by
    rw [accP_succ s k (by omega), List.take_succ_eq_append_getElem (by omega)]
    exact ((accP_all s k (by omega)).append_right _).trans (allP_snoc _ _).symm
/-- Those that aren't done with at z. -/
def goesP (z : Int) (l : List Itm) : List Itm := l.filter fun o => !decide (o.hx < z)
theorem goesP_hit (z : Int) (l : List Itm) (x : Itm) (hz : z = x.lx) : newP (goesP z l) x = newP l x := by
  unfold newP goesP
  rw [List.filter_filter]
  congr 1
  apply List.filter_congr
  intro o _
  unfold hitI meetI
  subst hz
  by_cases h : o.hx < x.lx
  · have : decide (x.lx ≤ o.hx) = false := decide_eq_false (by omega)
    rw [this]; simp
  · rw [decide_eq_false h]; simp
/-- What is open ahead of item k: told by what is left of it at any later place. -/
def OpenP (s : List Itm) (k : Nat) (op : List Itm) : Prop := ∀ z, (∀ j (h : j < k) (h' : j < s.length), s[j].lx ≤ z) → goesP z op = goesP z (s.take k)
theorem OpenP.start (s : List Itm) : OpenP s 0 [] := fun z _ => by simp
theorem OpenP.step {s : List Itm} {k : Nat} {op : List Itm} (h : OpenP s k op) (hk : k < s.length) (hs : ∀ i j (hi : i < s.length) (hj : j < s.length), i ≤ j → s[i].lx ≤ s[j].lx) :
    goesP s[k].lx op = goesP s[k].lx (s.take k) ∧ OpenP s (k + 1) (goesP s[k].lx op ++ [s[k]]) := by
  have e := h s[k].lx (fun j hj h' => hs j k h' hk (by omega))
  refine ⟨e, fun z hz => ?_⟩
  have hzk := hz k (by omega) hk
  rw [e, List.take_succ_eq_append_getElem hk]
  unfold goesP
  rw [List.filter_append, List.filter_append, List.filter_filter]
  congr 1
  apply List.filter_congr
  intro o _
  by_cases ho : o.hx < z
  · simp [ho]
  · have : ¬ o.hx < s[k].lx := by omega
    simp [ho, this]
/-- Lesser pairs first. -/
def leP (a b : Int × Int) : Bool := decide (a.1 < b.1 ∨ (a.1 = b.1 ∧ a.2 ≤ b.2))
def pairsS (l : List Itm) : List (Int × Int) := (allP l).mergeSort leP
theorem leP_trans (a b c : Int × Int) (h1 : leP a b = true) (h2 : leP b c = true) : leP a c = true := by
  unfold leP at *; simp only [decide_eq_true_eq] at *; omega
theorem leP_total (a b : Int × Int) : (leP a b || leP b a) = true := by
  unfold leP; simp only [Bool.or_eq_true, decide_eq_true_eq]; omega
theorem leP_antisymm {a b : Int × Int} (h1 : leP a b = true) (h2 : leP b a = true) : a = b := by
  unfold leP at *; simp only [decide_eq_true_eq] at *
  exact Prod.ext (by omega) (by omega)
theorem pairsS_of {l : List Itm} {d : List (Int × Int)} (hp : d.Perm (allP l)) (hs : d.Pairwise fun a b => leP a b = true) : d = pairsS l :=
  List.Perm.eq_of_pairwise (le := fun a b => leP a b = true) (fun _ _ _ _ h1 h2 => leP_antisymm h1 h2) hs (List.pairwise_mergeSort leP_trans leP_total _) (hp.trans (List.mergeSort_perm _ _).symm)
theorem pairsS_perm {a b : List Itm} (h : a.Perm b) : pairsS a = pairsS b :=
  pairsS_of ((List.mergeSort_perm _ _).trans (allP_perm h)) (List.pairwise_mergeSort leP_trans leP_total _)
end Go.Proofs.Ytnlkeacchogmeaa

/- A region that draws its order, met by one order: laws on listed operations, with every computed part a literal. -/
namespace Go.Proofs.Ytnlkeacchogmeaa
open Go.RowKit

def listAt {α : Type} : List α → Nat → Option α
  | [], _ => none
  | x :: _, 0 => some x
  | _ :: l, n + 1 => listAt l n
theorem listAt_eq {α : Type} (l : List α) : ∀ i, l.toArray[i]? = listAt l i := by
  intro i
  rw [List.getElem?_toArray]
  induction l generalizing i with
  | nil => rfl
  | cons x l ih => cases i with
    | zero => rfl
    | succ i => simpa [listAt] using ih i
def takeOk (ops : Array Oper) (L : Array Bool) (i : Nat) (L' : Array Bool) : Bool :=
  Region.noSelect ops && (Region.free .any ops L i && ((Region.ready .any ops L).contains i && decide (L.setIfInBounds i true = L')))
def runOk (ops : Array Oper) (L : Array Bool) (i : Nat) (L' : Array Bool) : Bool :=
  decide (Region.ready .any ops L = [i]) && decide (L.setIfInBounds i true = L')
def startOk (ops : Array Oper) (n : Nat) (L : Array Bool) : Bool := decide (ops.size = n) && decide (Array.replicate n false = L)
section
variable {P : Program} {l : List Oper} {Q : Exit → Act → World → Prop} {S : World → Prop} {n : Nat} {L L' : Array Bool} {a : Act} {w : World} {i : Nat} {o : Oper}

theorem anyH_start {id : Nat} (hok : startOk l.toArray n L = true) (hm : P.follows .mixedOrders = true) (hS : S w.drew) (h : S w.drew → wpAnyH P .any l.toArray Q S n L a w.drew) : (Code.region id l.toArray true).wp P Q a w := by
  simp only [startOk, Bool.and_eq_true, decide_eq_true_eq] at hok
  obtain ⟨rfl, rfl⟩ := hok
  exact wp_region_held_drew hm hS h
theorem anyH_take {d : Tmp} {v : Value} (hi : listAt l i = some o) (hd : o.dst = some d) (hok : takeOk l.toArray L i L' = true) (hQ : ∀ c a w, Q (.panic c) (a.put (some d) v) w → Q (.panic c) a w)
    (hw : Region.wanted o (yielded l.toArray a.tmps) = true) (hy : ∀ w, S w → (execOp a.eval o).run P w = .ok (.value v) w) (hS : S w) (h : wpAnyH P .any l.toArray Q S n L' (a.put (some d) v) w) : wpAnyH P .any l.toArray Q S (n + 1) L a w := by
  simp only [takeOk, Bool.and_eq_true, decide_eq_true_eq] at hok
  obtain ⟨h1, h2, h3, rfl⟩ := hok
  refine wpAnyH_take (i := i) (oi := o) (v := v) (by rw [listAt_eq]; exact hi) h1 h2 h3 (by rw [hd]; exact hQ) (.inl ⟨hw, hy⟩) hS ?_
  rw [hd]; exact h
theorem anyH_skip {d : Tmp} (hi : listAt l i = some o) (hd : o.dst = some d) (hok : takeOk l.toArray L i L' = true) (hQ : ∀ c a w, Q (.panic c) (a.put (some d) undef) w → Q (.panic c) a w)
    (hw : Region.wanted o (yielded l.toArray a.tmps) = false) (hS : S w) (h : wpAnyH P .any l.toArray Q S n L' (a.put (some d) undef) w) : wpAnyH P .any l.toArray Q S (n + 1) L a w := by
  simp only [takeOk, Bool.and_eq_true, decide_eq_true_eq] at hok
  obtain ⟨h1, h2, h3, rfl⟩ := hok
  refine wpAnyH_take (i := i) (oi := o) (v := undef) (by rw [listAt_eq]; exact hi) h1 h2 h3 (by rw [hd]; exact hQ) (.inr ⟨hw, rfl⟩) hS ?_
  rw [hd]; exact h
theorem anyH_run (hi : listAt l i = some o) (hok : runOk l.toArray L i L' = true) (hw : Region.wanted o (yielded l.toArray a.tmps) = true)
    (h : ∀ K : Act → World → Prop, Shut (∀ a w, S w → (S w → wpAnyH P .any l.toArray Q S n L' a w) → K a w) → Oper.wp P o a w K Q) : wpAnyH P .any l.toArray Q S (n + 1) L a w := by
  simp only [runOk, Bool.and_eq_true, decide_eq_true_eq] at hok
  obtain ⟨h1, rfl⟩ := hok
  refine wpAnyH_ready (rs := [i]) h1 (by simp) (AllReadyH.cons (o := o) (by rw [listAt_eq]; exact hi) (fun K hK => ?_) AllReadyH.nil)
  rw [if_pos hw]
  exact h K hK
def runOk2 (ops : Array Oper) (L : Array Bool) (i j : Nat) (L1 L2 : Array Bool) : Bool :=
  decide (Region.ready .any ops L = [i, j]) && (decide (L.setIfInBounds i true = L1) && decide (L.setIfInBounds j true = L2))
/-- Two operations can come up: both ways. -/
theorem anyH_run2 {j : Nat} {o2 : Oper} {L1 L2 : Array Bool} (hi : listAt l i = some o) (hj : listAt l j = some o2) (hok : runOk2 l.toArray L i j L1 L2 = true) (hw : Region.wanted o (yielded l.toArray a.tmps) = true) (hw2 : Region.wanted o2 (yielded l.toArray a.tmps) = true)
    (h : ∀ K : Act → World → Prop, Shut (∀ a w, S w → (S w → wpAnyH P .any l.toArray Q S n L1 a w) → K a w) → Oper.wp P o a w K Q)
    (h2 : ∀ K : Act → World → Prop, Shut (∀ a w, S w → (S w → wpAnyH P .any l.toArray Q S n L2 a w) → K a w) → Oper.wp P o2 a w K Q) : wpAnyH P .any l.toArray Q S (n + 1) L a w := by
  simp only [runOk2, Bool.and_eq_true, decide_eq_true_eq] at hok
  obtain ⟨h1, rfl, rfl⟩ := hok
  refine wpAnyH_ready (rs := [i, j]) h1 (by simp) (AllReadyH.cons (o := o) (by rw [listAt_eq]; exact hi) (fun K hK => ?_) (AllReadyH.cons (o := o2) (by rw [listAt_eq]; exact hj) (fun K hK => ?_) AllReadyH.nil))
  · rw [if_pos hw]; exact h K hK
  · rw [if_pos hw2]; exact h2 K hK
end
end Go.Proofs.Ytnlkeacchogmeaa

/- An item more: the pairs without it are those of the others. -/
namespace Go.Proofs.Ytnlkeacchogmeaa

/-- No pair holds this ID. -/
def freeP (i : Int) (p : Int × Int) : Bool := !(p.1 == i || p.2 == i)
theorem newP_in {l : List Itm} {x : Itm} {p : Int × Int} (h : p ∈ newP l x) : freeP x.id p = false := by
  unfold newP at h
  obtain ⟨y, -, rfl⟩ := List.mem_map.1 h
  unfold freeP pairI
  simp only [Bool.not_eq_false', Bool.or_eq_true, beq_iff_eq]
  omega
theorem allP_ids : ∀ {l : List Itm} {p : Int × Int}, p ∈ allP l → (∃ x ∈ l, p.1 = x.id) ∧ ∃ x ∈ l, p.2 = x.id
  | x :: l, p, h => by
    simp only [allP] at h
    rcases List.mem_append.1 h with h | h
    · unfold newP at h
      obtain ⟨y, hy, rfl⟩ := List.mem_map.1 h
      have hy := (List.mem_filter.1 hy).1
      unfold pairI
      simp only
      constructor
      · rcases Int.le_total y.id x.id with h1 | h1
        · exact ⟨y, by simp [hy], by omega⟩
        · exact ⟨x, by simp, by omega⟩
      · rcases Int.le_total y.id x.id with h1 | h1
        · exact ⟨x, by simp, by omega⟩
        · exact ⟨y, by simp [hy], by omega⟩
    · obtain ⟨⟨a, ha, h1⟩, b, hb, h2⟩ := allP_ids h
      exact ⟨⟨a, by simp [ha], h1⟩, b, by simp [hb], h2⟩
theorem more_filter {l : List Itm} {x : Itm} (h : ∀ y ∈ l, y.id ≠ x.id) : (pairsS (l ++ [x])).filter (freeP x.id) = pairsS l := by
  refine pairsS_of ?_ ?_
  · have h1 : (pairsS (l ++ [x])).Perm (allP l ++ newP l x) := (List.mergeSort_perm _ _).trans (allP_snoc x l)
    refine (h1.filter _).trans ?_
    rw [List.filter_append]
    have e1 : (allP l).filter (freeP x.id) = allP l := by
      rw [List.filter_eq_self]
      intro p hp
      obtain ⟨⟨a, ha, h1⟩, b, hb, h2⟩ := allP_ids hp
      have n1 := h a ha
      have n2 := h b hb
      unfold freeP
      simp only [Bool.not_eq_true', Bool.or_eq_false_iff, beq_eq_false_iff_ne]
      exact ⟨by omega, by omega⟩
    have e2 : (newP l x).filter (freeP x.id) = [] := by
      rw [List.filter_eq_nil_iff]
      intro p hp
      rw [newP_in hp]; decide
    rw [e1, e2, List.append_nil]
  · exact (List.pairwise_mergeSort leP_trans leP_total _).filter _
theorem filter_at {α : Type} (f : α → Bool) (l : List α) (i : Nat) (h : i < l.length) (hf : f l[i] = true) : ∃ h2 : ((l.take i).filter f).length < (l.filter f).length, (l.filter f)[((l.take i).filter f).length] = l[i] := by
  have e : l.filter f = (l.take i).filter f ++ l[i] :: (l.drop (i + 1)).filter f := by
    conv => lhs; rw [← List.take_append_drop i l, List.drop_eq_getElem_cons h, List.filter_append, List.filter_cons_of_pos hf]
  refine ⟨by rw [e, List.length_append, List.length_cons]; omega, ?_⟩
  simp only [e]
  rw [List.getElem_append_right (by omega)]
  simp
theorem filter_next {α : Type} (f : α → Bool) (l : List α) (i : Nat) (h : i < l.length) : ((l.take (i + 1)).filter f).length = ((l.take i).filter f).length + (if f l[i] then 1 else 0) := by
  rw [List.take_succ_eq_append_getElem h, List.filter_append, List.length_append]
  cases hf : f l[i] <;> simp [hf]
end Go.Proofs.Ytnlkeacchogmeaa
