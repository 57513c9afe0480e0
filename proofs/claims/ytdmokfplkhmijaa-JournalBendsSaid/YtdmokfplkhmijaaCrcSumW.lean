/- bagatellelaw13.sum: the division of polynomials, bit by bit: what it computes. -/
import Derived.Test.YtdmokfplkhmijaaSlice
import Derived.Test.YtdmokfplkhmijaaAppZ
namespace Go.Proofs.Ytdmokfplkhmijaa
open Go.RowKit

def bitAt (l : List UInt8) (i : Nat) : UInt8 := (l.getD (i / 8) 0 >>> UInt8.ofNat (i % 8)) &&& 1
def flip1 (b : List UInt8) (j : Nat) : List UInt8 := b.set j (b.getD j 0 ^^^ 1)
def powers : List Nat := [32, 26, 23, 22, 16, 12, 11, 10, 8, 7, 5, 4, 2, 1, 0]
def powZ : List Int := [32, 26, 23, 22, 16, 12, 11, 10, 8, 7, 5, 4, 2, 1, 0]
theorem powZ_eq (q : Nat) (h : q < 15) : powZ[q]'h = (powers[q]'h : Nat) := by
  have : ∀ q : Fin 15, powZ[q.1]'q.2 = (powers[q.1]'q.2 : Nat) := by decide
  exact this ⟨q, h⟩
theorem powers_le (q : Nat) (h : q < 15) : powers[q]'h ≤ 32 := by
  have : ∀ q : Fin 15, powers[q.1]'q.2 ≤ 32 := by decide
  exact this ⟨q, h⟩
def polyStep (b : List UInt8) (i : Nat) : List UInt8 := if b.getD i 0 = 1 then powers.foldl (fun b p => flip1 b (i + 32 - p)) b else b
def sumBits (l : List UInt8) : List UInt8 := (List.range (8 * l.length)).foldl polyStep ((List.range 32).foldl flip1 ((List.range (8 * l.length)).map (bitAt l) ++ List.replicate 32 0))
def gather (b : List UInt8) : Nat → UInt32
  | 0 => 0
  | n + 1 => gather b n ||| (((b.getD n 0).toUInt32 ^^^ 1) <<< UInt32.ofNat n)
def polySum (l : List UInt8) : UInt32 := gather ((sumBits l).drop (8 * l.length)) 32

@[simp] theorem flip1_length (b : List UInt8) (j : Nat) : (flip1 b j).length = b.length := by simp [flip1]
theorem flips_length (b : List UInt8) (js : List Nat) : (js.foldl flip1 b).length = b.length := by
  induction js generalizing b with
  | nil => rfl
  | cons j js ih => rw [List.foldl_cons, ih, flip1_length]
theorem flipsp_length (b : List UInt8) (i : Nat) (ps : List Nat) : (ps.foldl (fun b p => flip1 b (i + 32 - p)) b).length = b.length := by
  induction ps generalizing b with
  | nil => rfl
  | cons j js ih => rw [List.foldl_cons, ih, flip1_length]
theorem polyStep_length (b : List UInt8) (i : Nat) : (polyStep b i).length = b.length := by
  unfold polyStep; split
  · exact flipsp_length _ _ _
  · rfl
theorem polySteps_length (b : List UInt8) (js : List Nat) : (js.foldl polyStep b).length = b.length := by
  induction js generalizing b with
  | nil => rfl
  | cons j js ih => rw [List.foldl_cons, ih, polyStep_length]
theorem fold_range_succ {α : Type} (f : α → Nat → α) (a : α) (n : Nat) : (List.range (n + 1)).foldl f a = f ((List.range n).foldl f a) n := by rw [List.range_succ, List.foldl_append]; rfl
theorem fold_take_succ {α β : Type} (f : α → β → α) (a : α) (l : List β) (k : Nat) (h : k < l.length) : (l.take (k + 1)).foldl f a = f ((l.take k).foldl f a) l[k] := by rw [List.take_succ_eq_append_getElem h, List.foldl_append]; rfl

attribute [local go_sem] and7 u8_xor_1 u32_or' u8_u32

end Go.Proofs.Ytdmokfplkhmijaa
