/- crc.Seal, crc.Open: bytes with their checksum behind them. -/
import Derived.Test.YtdmokfplkhmijaaCrcAdd
import Derived.Test.YtdmokfplkhmijaaSlice
import Derived.Test.YtdmokfplkhmijaaPackMath
import Derived.Deep.QuietTactic
import Derived.BigQuiet
namespace Go.Proofs.Ytdmokfplkhmijaa
open Go.RowKit

/-- A sum in four bytes, the lowest first. -/
def le4 (s : UInt32) : List UInt8 := leB 4 (n32 s)
def sealB (l : List UInt8) : List UInt8 := l ++ le4 (crcSum l)
theorem le4_eq (s : UInt32) : le4 s = [UInt8.ofInt (n32 s), UInt8.ofInt (n32 s / 256), UInt8.ofInt (n32 s / 65536), UInt8.ofInt (n32 s / 16777216)] := by
  have := n32_lo s
  simp only [le4, leB, Int.ediv_ediv_of_nonneg (show (0:Int) ≤ 256 by decide)]
  simp only [List.cons.injEq, true_and, and_true]
  rw [Int.ediv_ediv_of_nonneg (by decide)]
  exact ⟨rfl, rfl⟩
theorem sealB_length (l : List UInt8) : (sealB l).length = l.length + 4 := by simp [sealB, le4]

set_option maxHeartbeats 400000 in
theorem Seal_any (v : Value) (l : List UInt8) (w : World) (hl : Bs w v l) (hlen : l.length ≤ 140737488355000) :
    Calls Try.prog 72 #[v] w fun e w' => ∃ ao c, e = .returned (.slice ao (l.length + 4) c) ∧ OwB w' w.heap.size (.slice ao (l.length + 4) c) (sealB l) ∧ Chg [] w w' := by
  go_enter Try.func72, Try.ntmps72
  go_wp2_with fail
  refine (Sum_any _ l _ hl).mono ?_
  rintro e w1 ⟨rfl, rfl⟩
  have hlit : ∀ w1 : World, w.heap.size ≤ w1.heap.size → OwB (w1.alloc (.cells #[.int .u8 (n32 (crcSum l) % 256), .int .u8 (n32 (crcSum l) / 256 % 256), .int .u8 (n32 (crcSum l) / 65536 % 256), .int .u8 (n32 (crcSum l) / 16777216 % 256)] 5)) w.heap.size (.slice (some ⟨w1.heap.size, 0, none⟩) 4 4) (le4 (crcSum l)) := by
    intro w1 hw
    exact OwB.lit w1 w.heap.size (le4 (crcSum l)) _ (by rw [le4_eq]; simp [vb, n8_ofInt]) hw (by simp [le4])
  go_wp2_with (first | (refine wpAppB rfl (.const _) _ rfl w.heap.size (.slice none 0 0) _ rfl (OwB.nil _ _) _ _ rfl hl (by simp; omega) (Nat.le_refl _) ?_; intro ao c w1 h1 h2 h3; have h4 := (Chg.refl [] _).grown h2 (by simp [Value.ownBlock]); have h5 := h4.size; simp only [List.length_nil, Nat.zero_add, List.nil_append] at h1) | (refine wpAppB rfl (.tmp 7) _ rfl w.heap.size _ _ rfl (h1.alloc _) _ _ rfl (hlit _ h5).bs (by simp [le4]; omega) (by simp; omega) ?_; intro ao' c' w2 g1 g2 g3))
  go_ret
  refine ⟨ao', c', rfl, g1, (h4.alloc _).grown g2 (fun k hk hlt => ?_)⟩
  have := (h1.lo k hk).1
  omega


def w32 (a b c d : UInt8) : UInt32 := a.toUInt32 ||| b.toUInt32 <<< 8 ||| c.toUInt32 <<< 16 ||| d.toUInt32 <<< 24

def OpenPost (w : World) (m : Nat) (l : List UInt8) (ok : Bool) (e : Ending) (w' : World) : Prop :=
  match ok with
  | true => ∃ ao c, e = .returned (.tuple #[.slice ao m c, .bool true]) ∧ OwB w' w.heap.size (.slice ao m c) (l.take m) ∧ Chg [] w w'
  | false => e = .returned (.tuple #[.slice none 0 0, .bool false]) ∧ Chg [] w w'

section
attribute [local go_sem] u32_or' u8_u32
attribute [local go_sem ↓] u32_shl8 u32_shl16 u32_shl24
set_option maxHeartbeats 800000 in
theorem Open_walk (v : Value) (l : List UInt8) (m : Nat) (w : World) (hl : Bs w v l) (hm : l.length = m + 4) (hlen : l.length ≤ 140737488355000) (ok : Bool)
    (hok : (n32 (crcSum (l.take m)) != n32 (w32 (l[m]'(by omega)) (l[m+1]'(by omega)) (l[m+2]'(by omega)) (l[m+3]'(by omega)))) = !ok) :
    Calls Try.prog 93 #[v] w (OpenPost w m l ok) := by
  obtain ⟨ao, cap, b, off, rfl, hcap, hbig, -, hao, hc⟩ := hl.open
  obtain rfl := hao (by omega)
  have c0 := hc m (by omega)
  have c1 := hc (m + 1) (by omega)
  have c2 := hc (m + 2) (by omega)
  have c3 := hc (m + 3) (by omega)
  generalize l[m]'(by omega) = x0 at *
  generalize l[m+1]'(by omega) = x1 at *
  generalize l[m+2]'(by omega) = x2 at *
  generalize l[m+3]'(by omega) = x3 at *
  clear hc
  have e4 : ((l.length : Int) - 4) = (m : Int) := by omega
  have i0 : (m : Int) < (l.length : Int) := by omega
  have i1 : (m : Int) + 1 < (l.length : Int) := by omega
  have i2 : (m : Int) + 2 < (l.length : Int) := by omega
  have i3 : (m : Int) + 3 < (l.length : Int) := by omega
  have Hm := hd hm; clear hm
  go_enter Try.func93, Try.ntmps93
  go_wp2_with fail
  go_quiet (fail)
  have hdr := (Chg.refl [] w).drewN nq
  have hl1 := hl.stays hdr
  clear c0 c1 c2 c3 hl
  generalize w.drewN nq = w1 at *
  unfold w32 at hok
  cases ok
  · simp only [Bool.not_false] at hok
    go_wp2_with (first | (refine wpCutB rfl _ none _ rfl _ _ rfl hl1 0 m (.inl ⟨rfl, rfl⟩) (.inr ⟨.i64, rfl⟩) (by omega) (by omega) ?_; intro ao1 c1 h1 g1; simp only [Nat.sub_zero, List.drop_zero] at h1) | (go_at_call 86; refine (Sum_any _ _ _ h1).mono ?_; rintro e w2 ⟨rfl, rfl⟩))
    go_ret2
    exact ⟨rfl, hdr⟩
  · simp only [Bool.not_true] at hok
    go_wp2_with (first | (refine wpAppB rfl (.const _) _ rfl w1.heap.size (.slice none 0 0) _ rfl (OwB.nil _ _) _ _ rfl h2 (by simp; omega) (Nat.le_refl _) ?_; intro ao c w3 k1 k2 k3) | (go_at_call 86; refine (Sum_any _ _ _ h1).mono ?_; rintro e w2 ⟨rfl, rfl⟩) | (refine wpCutB rfl (.tmp 40) none _ rfl _ _ rfl hl1 0 m (.inl ⟨rfl, rfl⟩) (.inr ⟨.i64, rfl⟩) (by omega) (by omega) ?_; intro ao1 c1 h1 g1; simp only [Nat.sub_zero, List.drop_zero] at h1) | (refine wpCutB rfl (.tmp 46) none _ rfl _ _ rfl hl1 0 m (.inl ⟨rfl, rfl⟩) (.inr ⟨.i64, rfl⟩) (by omega) (by omega) ?_; intro ao2 c2 h2 g2; simp only [Nat.sub_zero, List.drop_zero] at h2))
    go_ret2
    simp only [List.length_take, List.length_nil, Nat.zero_add, List.nil_append, Nat.min_eq_left (show m ≤ l.length by have := Hm.out; omega)] at k1 ⊢
    exact ⟨ao, c, rfl, k1.mono hdr.size, hdr.grown k2 (by simp [Value.ownBlock])⟩
end

theorem shl_toNat (x : UInt8) (j : Nat) (hj : j ≤ 24) : (x.toUInt32 <<< UInt32.ofNat j).toNat = x.toNat * 2 ^ j := by
  rw [UInt32.toNat_shiftLeft]
  simp only [UInt32.toNat_ofNat', Nat.mod_eq_of_lt (show j < 2 ^ 32 by omega), Nat.mod_eq_of_lt (show j < 32 by omega), Nat.shiftLeft_eq, UInt8.toNat_toUInt32]
  apply Nat.mod_eq_of_lt
  have h1 := x.toNat_lt
  have h2 : 2 ^ j ≤ 2 ^ 24 := Nat.pow_le_pow_right (by decide) hj
  calc x.toNat * 2 ^ j < 256 * 2 ^ j := Nat.mul_lt_mul_of_pos_right h1 (Nat.two_pow_pos j)
    _ ≤ 256 * 2 ^ 24 := Nat.mul_le_mul_left _ h2
    _ = 2 ^ 32 := by decide
theorem or_join (i x y : Nat) (hx : x % 2 ^ i = 0) (hy : y < 2 ^ i) : y ||| x = y + x := by rw [Nat.or_comm, nat_join i x y hx hy, Nat.add_comm]
theorem w32_toNat (a b c d : UInt8) : (w32 a b c d).toNat = a.toNat + b.toNat * 256 + c.toNat * 65536 + d.toNat * 16777216 := by
  have ha := a.toNat_lt
  have hb := b.toNat_lt
  have hc := c.toNat_lt
  have hd := d.toNat_lt
  have e8 := shl_toNat b 8 (by decide)
  have e16 := shl_toNat c 16 (by decide)
  have e24 := shl_toNat d 24 (by decide)
  change (b.toUInt32 <<< 8).toNat = _ at e8
  change (c.toUInt32 <<< 16).toNat = _ at e16
  change (d.toUInt32 <<< 24).toNat = _ at e24
  unfold w32
  rw [UInt32.toNat_or, UInt32.toNat_or, UInt32.toNat_or, e8, e16, e24, UInt8.toNat_toUInt32]
  rw [or_join 8 (b.toNat * 2 ^ 8) a.toNat (by omega) (by omega), or_join 16 (c.toNat * 2 ^ 16) _ (by omega) (by omega), or_join 24 (d.toNat * 2 ^ 24) _ (by omega) (by omega)]
theorem le4_w32 (a b c d : UInt8) : le4 (w32 a b c d) = [a, b, c, d] := by
  have ha := n8_hi a
  have hb := n8_hi b
  have hc := n8_hi c
  have hd := n8_hi d
  have ha0 := n8_lo a
  have hb0 := n8_lo b
  have hc0 := n8_lo c
  have hd0 := n8_lo d
  have e : n32 (w32 a b c d) = n8 a + n8 b * 256 + n8 c * 65536 + n8 d * 16777216 := by
    have := w32_toNat a b c d
    unfold n32 n8
    omega
  rw [le4_eq, e]
  simp only [List.cons.injEq, and_true]
  refine ⟨?_, ?_, ?_, ?_⟩ <;> (apply n8_inj.1; rw [n8_ofInt]; omega)
theorem le4_inj {s t : UInt32} (h : le4 s = le4 t) : s = t := by
  have := congrArg rdB h
  unfold le4 at this
  rw [rdB_leB, rdB_leB] at this
  have h1 := n32_hi s
  have h2 := n32_hi t
  have h3 := n32_lo s
  have h4 := n32_lo t
  apply n32_inj.1
  have e : (256 : Int) ^ 4 = 4294967296 := by decide
  rw [e] at this
  omega
theorem split4 (l : List UInt8) (m : Nat) (hm : l.length = m + 4) : l = l.take m ++ [l[m]'(by omega), l[m+1]'(by omega), l[m+2]'(by omega), l[m+3]'(by omega)] := by
  apply List.ext_getElem
  · simp; omega
  · intro i h1 h2
    rw [List.getElem_append]
    split
    · simp
    · rename_i hi
      simp only [List.length_take, Nat.min_eq_left (show m ≤ l.length by omega)] at hi ⊢
      have hi4 : i = m ∨ i = m + 1 ∨ i = m + 2 ∨ i = m + 3 := by omega
      rcases hi4 with rfl | rfl | rfl | rfl <;> simp
theorem sealed_iff (l : List UInt8) (m : Nat) (hm : l.length = m + 4) :
    crcSum (l.take m) = w32 (l[m]'(by omega)) (l[m+1]'(by omega)) (l[m+2]'(by omega)) (l[m+3]'(by omega)) ↔ l = sealB (l.take m) := by
  have hs := split4 l m hm
  constructor
  · intro h
    conv => lhs; rw [hs]
    unfold sealB
    rw [h, le4_w32]
  · intro h
    apply le4_inj
    rw [le4_w32]
    have h2 : l.take m ++ le4 (crcSum (l.take m)) = l.take m ++ [l[m]'(by omega), l[m+1]'(by omega), l[m+2]'(by omega), l[m+3]'(by omega)] := by
      rw [← hs]; exact h.symm
    exact List.append_cancel_left h2

theorem sealB_inj {x y : List UInt8} (h : sealB x = sealB y) : x = y := by
  have hl := congrArg List.length h
  rw [sealB_length, sealB_length] at hl
  exact List.append_inj_left h (by omega)

/-- What was sealed is opened. -/
theorem Open_yes (v : Value) (l : List UInt8) (w : World) (hl : Bs w v (sealB l)) (hlen : l.length ≤ 140737488354000) :
    Calls Try.prog 93 #[v] w fun e w' => ∃ ao c, e = .returned (.tuple #[.slice ao l.length c, .bool true]) ∧ OwB w' w.heap.size (.slice ao l.length c) l ∧ Chg [] w w' := by
  have ht : (sealB l).take l.length = l := by simp [sealB]
  have hm := sealB_length l
  have hi := (sealed_iff (sealB l) l.length hm).2 (by rw [ht])
  refine (Open_walk v (sealB l) l.length w hl hm (by omega) true (by rw [hi, Bool.not_true]; simp)).mono ?_
  intro e w' h
  obtain ⟨ao, c, h1, h2, h3⟩ := h
  rw [ht] at h2
  exact ⟨ao, c, h1, h2, h3⟩

/-- What was not sealed is not. -/
theorem Open_no (v : Value) (l : List UInt8) (w : World) (hl : Bs w v l) (hlen : l.length ≤ 140737488354000) (hno : ∀ x, l ≠ sealB x) :
    Calls Try.prog 93 #[v] w fun e w' => e = .returned (.tuple #[.slice none 0 0, .bool false]) ∧ Chg [] w w' := by
  by_cases h4 : l.length < 4
  · obtain ⟨ao, cap, b, off, rfl, hcap, hbig, -, hao, hc⟩ := hl.open
    clear hao hc
    go_enter Try.func93, Try.ntmps93
    go_wp2_with fail
    go_ret2
    exact ⟨rfl, Chg.refl _ _⟩
  · obtain ⟨m, hm⟩ : ∃ m, l.length = m + 4 := ⟨l.length - 4, by omega⟩
    have hi := mt (sealed_iff l m hm).1 (hno _)
    refine (Open_walk v l m w hl hm (by omega) false (by rw [Bool.not_false, bne_iff_ne]; exact fun h => hi (n32_inj.1 h))).mono ?_
    intro e w' h
    exact h
end Go.Proofs.Ytdmokfplkhmijaa
