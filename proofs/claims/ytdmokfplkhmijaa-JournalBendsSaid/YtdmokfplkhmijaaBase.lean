/- Words and lemmas that all walks of this work share: unsigned numbers behind opaque casts, and what a slice reads as. -/
import Derived.Test.YtdmokfplkhmijaaRows
import Derived.WalkKit
import Derived.WalkSpells
import Derived.WalkLawsBesides
import Derived.Lib.Hide
import Derived.Laws.BitsAllLaws
namespace Go.Proofs.Ytdmokfplkhmijaa
open Go.RowKit
/-- A fact kept from the walk, and from whatever unfolds. -/
def Hd (p : Prop) : Prop := p
theorem hd {p : Prop} (h : p) : Hd p := h
theorem Hd.out {p : Prop} (h : Hd p) : p := h
attribute [irreducible] Hd


def n8 (x : UInt8) : Int := x.toNat
def n16 (x : UInt16) : Int := x.toNat
def n32 (x : UInt32) : Int := x.toNat
theorem n8_lo (x : UInt8) : 0 ≤ n8 x := by unfold n8; omega
theorem n8_hi (x : UInt8) : n8 x < 256 := by have := x.toNat_lt; unfold n8; omega
theorem n32_lo (x : UInt32) : 0 ≤ n32 x := by unfold n32; omega
theorem n32_hi (x : UInt32) : n32 x < 4294967296 := by have := x.toNat_lt; unfold n32; omega
theorem n8_inj {x y : UInt8} : n8 x = n8 y ↔ x = y := by
  unfold n8; constructor
  · intro h; exact UInt8.toNat_inj.1 (by omega)
  · rintro rfl; rfl
theorem n32_inj {x y : UInt32} : n32 x = n32 y ↔ x = y := by
  unfold n32; constructor
  · intro h; exact UInt32.toNat_inj.1 (by omega)
  · rintro rfl; rfl
theorem n8_beq (x y : UInt8) : (n8 x == n8 y) = (x == y) := by rw [Bool.eq_iff_iff]; simp [n8_inj]
theorem n32_beq (x y : UInt32) : (n32 x == n32 y) = (x == y) := by rw [Bool.eq_iff_iff]; simp [n32_inj]

theorem u32_xor' (a b : UInt32) : bits .xor .u32 (n32 a) (n32 b) = n32 (a ^^^ b) := by
  unfold n32; rw [u32_xor_nat _ _ a.toNat_lt b.toNat_lt, UInt32.toNat_xor]
theorem u32_and' (a b : UInt32) : bits .and .u32 (n32 a) (n32 b) = n32 (a &&& b) := by
  unfold n32; rw [u32_and_nat _ _ a.toNat_lt b.toNat_lt, UInt32.toNat_and]
theorem u32_or' (a b : UInt32) : bits .or .u32 (n32 a) (n32 b) = n32 (a ||| b) := by
  unfold n32; rw [u32_or_nat _ _ a.toNat_lt b.toNat_lt, UInt32.toNat_or]
theorem u32_not' (a : UInt32) : bits .xor .u32 IntKind.u32.max (n32 a) = n32 (~~~ a) := by
  have h : ~~~ a = 4294967295 ^^^ a := by
    apply UInt32.toBitVec_inj.1
    simp only [UInt32.toBitVec_not, UInt32.toBitVec_xor]
    show _ = 4294967295#32 ^^^ _
    have : (4294967295#32) = BitVec.allOnes 32 := by decide
    rw [this, BitVec.allOnes_xor]
  rw [h]
  exact u32_xor' 4294967295 a
theorem u32_and_1 (a : UInt32) : bits .and .u32 (n32 a) 1 = n32 (a &&& 1) := u32_and' a 1
theorem u32_poly (a : UInt32) : bits .xor .u32 (n32 a) 3988292384 = n32 (a ^^^ 3988292384) := u32_xor' a 3988292384
theorem u8_u32 (x : UInt8) : (n8 x % 4294967296) = n32 x.toUInt32 := by
  have := x.toNat_lt; simp only [n8, n32, UInt8.toNat_toUInt32]; omega
theorem u32_shr1 (a : UInt32) (k : IntKind) : Op.shift .shr .u32 (n32 a) k 1 = pure (.int .u32 (n32 (a >>> 1))) := by
  rw [shift_shr _ _ _ _ (by omega) (by decide)]
  unfold n32; rw [UInt32.toNat_shiftRight]; simp [Nat.shiftRight_eq_div_pow]
theorem u32_shl_k (a : UInt32) (j : Nat) (hj : j < 32) (k : IntKind) : Op.shift .shl .u32 (n32 a) k j = pure (.int .u32 (n32 (a <<< UInt32.ofNat j))) := by
  rw [shift_shl _ _ _ _ (by omega) (by show (j : Int) ≤ 32; omega)]
  unfold n32; rw [UInt32.toNat_shiftLeft]
  simp only [UInt32.toNat_ofNat', Nat.mod_eq_of_lt (show j < 2 ^ 32 by omega), Nat.mod_eq_of_lt hj, Nat.shiftLeft_eq, Int.toNat_natCast]
  rw [IntKind.wrap_u32]
  simp
theorem u32_shl8 (a : UInt32) (k : IntKind) : Op.shift .shl .u32 (n32 a) k 8 = pure (.int .u32 (n32 (a <<< 8))) := u32_shl_k a 8 (by decide) k
theorem u32_shl16 (a : UInt32) (k : IntKind) : Op.shift .shl .u32 (n32 a) k 16 = pure (.int .u32 (n32 (a <<< 16))) := u32_shl_k a 16 (by decide) k
theorem u32_shl24 (a : UInt32) (k : IntKind) : Op.shift .shl .u32 (n32 a) k 24 = pure (.int .u32 (n32 (a <<< 24))) := u32_shl_k a 24 (by decide) k
theorem and_mask (x : Int) (j : Nat) (hj : j ≤ 62) : bits .and .i64 x (2 ^ j - 1) = x % 2 ^ j := by
  have hp : (0 : Int) < 2 ^ j := Int.pow_pos (by decide)
  have hle : (2 : Int) ^ j ≤ 2 ^ 62 := by exact_mod_cast Nat.pow_le_pow_right (n := 2) (by decide) hj
  have h62 : (2 : Int) ^ 62 = 4611686018427387904 := by decide
  rw [h62] at hle
  have hm1 : (BitVec.ofInt 64 ((2 : Int) ^ j - 1)).toNat = 2 ^ j - 1 := by
    rw [BitVec.toNat_ofInt, Int.emod_eq_of_lt (by omega) (by show _ < (18446744073709551616 : Int); omega)]
    have : ((2 : Int) ^ j - 1) = ((2 ^ j - 1 : Nat) : Int) := by rw [Int.natCast_sub Nat.one_le_two_pow]; simp
    rw [this]; simp
  have hx : ((BitVec.ofInt 64 x).toNat : Int) = x % 18446744073709551616 := by
    rw [BitVec.toNat_ofInt]
    exact Int.toNat_of_nonneg (Int.emod_nonneg _ (by decide))
  unfold bits
  simp only
  show IntKind.i64.wrap ((BitVec.ofInt 64 x &&& BitVec.ofInt 64 (2 ^ j - 1)).toNat : Int) = _
  rw [BitVec.toNat_and, hm1, Nat.and_two_pow_sub_one_eq_mod, Int.natCast_emod, hx]
  have hc : ((2 ^ j : Nat) : Int) = 2 ^ j := by simp
  have hd : (2 : Int) ^ j ∣ 18446744073709551616 := by
    refine ⟨2 ^ (64 - j), ?_⟩
    rw [← Int.pow_add, show j + (64 - j) = 64 by omega]; rfl
  rw [hc, Int.emod_emod_of_dvd _ hd, IntWalk.i64_left]
  have h1 := Int.emod_nonneg x (Int.ne_of_gt hp)
  have h2 := Int.emod_lt_of_pos x hp
  exact IntWalk.wrap64_in _ ⟨by omega, by omega⟩
theorem and7 (x : Int) : bits .and .i64 x 7 = x % 8 := and_mask x 3 (by decide)
theorem u8_xor' (a b : UInt8) : bits .xor .u8 (n8 a) (n8 b) = n8 (a ^^^ b) := by
  unfold n8; rw [u8_xor_nat _ _ a.toNat_lt b.toNat_lt, UInt8.toNat_xor]
theorem u8_bit (j : Nat) (hj : j < 8) (k : IntKind) : Op.shift .shl .u8 1 k j = pure (.int .u8 (n8 ((1 : UInt8) <<< UInt8.ofNat j))) := by
  rw [shift_shl _ _ _ _ (by omega) (by show (j : Int) ≤ 8; omega)]
  have : j = 0 ∨ j = 1 ∨ j = 2 ∨ j = 3 ∨ j = 4 ∨ j = 5 ∨ j = 6 ∨ j = 7 := by omega
  rcases this with rfl | rfl | rfl | rfl | rfl | rfl | rfl | rfl <;> rfl
theorem u8_bitv (j : Nat) (hj : j < 8) : (2 : Int) ^ j % 256 = n8 ((1 : UInt8) <<< UInt8.ofNat j) := by
  have : j = 0 ∨ j = 1 ∨ j = 2 ∨ j = 3 ∨ j = 4 ∨ j = 5 ∨ j = 6 ∨ j = 7 := by omega
  rcases this with rfl | rfl | rfl | rfl | rfl | rfl | rfl | rfl <;> rfl
theorem u8_xor_1 (a : UInt8) : bits .xor .u8 (n8 a) 1 = n8 (a ^^^ 1) := u8_xor' a 1
theorem u8_and' (a b : UInt8) : bits .and .u8 (n8 a) (n8 b) = n8 (a &&& b) := by
  unfold n8; rw [u8_and_nat _ _ a.toNat_lt b.toNat_lt, UInt8.toNat_and]
theorem u8_div_k (a : UInt8) (j : Nat) (hj : j < 8) : n8 a / 2 ^ j = n8 (a >>> UInt8.ofNat j) := by
  unfold n8; rw [UInt8.toNat_shiftRight]
  simp [Nat.mod_eq_of_lt (show j < 256 by omega), Nat.mod_eq_of_lt hj, Nat.shiftRight_eq_div_pow]
theorem u8_bit_and (a : UInt8) (j : Nat) (hj : j < 8) : bits .and .u8 (n8 a / 2 ^ j) 1 = n8 ((a >>> UInt8.ofNat j) &&& 1) := by
  rw [u8_div_k a j hj]; exact u8_and' _ 1
theorem u32_mul_k (a : UInt32) (j : Nat) (hj : j < 32) : n32 a * 2 ^ j % 4294967296 = n32 (a <<< UInt32.ofNat j) := by
  unfold n32; rw [UInt32.toNat_shiftLeft]
  simp [Nat.mod_eq_of_lt (show j < 2 ^ 32 by omega), Nat.mod_eq_of_lt hj, Nat.shiftLeft_eq]
theorem andFFFF (x : Int) : bits .and .i64 x 65535 = x % 65536 := and_mask x 16 (by decide)
theorem andFFF (x : Int) : bits .and .i64 x 4095 = x % 4096 := and_mask x 12 (by decide)
theorem and62 (x : Int) : bits .and .i64 x 4611686018427387903 = x % 4611686018427387904 := and_mask x 62 (by decide)
theorem n32_eq1 (a : UInt32) : (n32 a == 1) = (a == 1) := n32_beq a 1
/-- v is a slice of n elements of 'size' cells each, and its cells read as xs. -/
def Rd (w : World) (size : Nat) (v : Value) (n : Nat) (xs : List Value) : Prop :=
  xs.length = n * size ∧ ∃ ao cap b off, v = .slice ao n cap ∧ n ≤ cap ∧ cap ≤ maxLen ∧ (ao = none → n = 0 ∧ cap = 0) ∧ (0 < n → ao = some ⟨b, off, none⟩) ∧
    (∀ j u, xs[j]? = some u → w.cell? ⟨b, off + j, none⟩ = some u)
def vb (x : UInt8) : Value := .int .u8 (n8 x)
/-- v is a slice of bytes that reads as l. -/
def Bs (w : World) (v : Value) (l : List UInt8) : Prop := Rd w 1 v l.length (l.map vb)

theorem Bs.open {w : World} {v : Value} {l : List UInt8} (h : Bs w v l) : ∃ ao cap b off, v = .slice ao l.length cap ∧ l.length ≤ cap ∧ cap ≤ 9223372036854775807 ∧ (ao = none → l.length = 0 ∧ cap = 0) ∧
    (0 < l.length → ao = some ⟨b, off, none⟩) ∧ (∀ j (h : j < l.length), w.cell? ⟨b, off + j, none⟩ = some (.int .u8 (n8 l[j]))) := by
  obtain ⟨_, ao, cap, b, off, h1, h2, h3, h4, h5, h6⟩ := h
  refine ⟨ao, cap, b, off, h1, h2, by simpa [maxLen] using h3, h4, h5, fun j hj => h6 j _ ?_⟩
  simp [List.getElem?_eq_getElem hj, vb]

theorem ret_of {a b : Value} (h : a = b) : Ending.returned a = .returned b := by rw [h]
end Go.Proofs.Ytdmokfplkhmijaa
