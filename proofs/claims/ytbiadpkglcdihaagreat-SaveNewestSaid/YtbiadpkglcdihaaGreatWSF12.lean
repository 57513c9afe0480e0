/- Words and walks that SF rests on: PackFit, CrcMath, CrcAdd, CrcSeal, FrameB, DiskCreate, MapR, DiskSize, DiskFile, DiskClone, DiskSync, DiskAppend, DiskDS. -/
import Derived.Test.YtbiadpkglcdihaaGreatWSF4
import Derived.Test.YtbiadpkglcdihaaGreatWSF5
import Derived.Test.YtbiadpkglcdihaaGreatWSF1
import Derived.Deep.QuietTactic
import Derived.BigQuiet
import Derived.Test.YtbiadpkglcdihaaGreatWSF2
import Derived.Deep.Cut
import Derived.Shelf.SlMaps.Clone
import Derived.Lib.SliceRun
/- bagatellelaw14.fit. -/
namespace Go.Proofs.YtbiadpkglcdihaaGreat
open Go.RowKit

end Go.Proofs.YtbiadpkglcdihaaGreat

/- The checksum's own functions on lists of bytes; no program. -/
namespace Go.Proofs.YtbiadpkglcdihaaGreat

def crcBit (s : UInt32) : UInt32 := if s &&& 1 = 1 then (s >>> 1) ^^^ 3988292384 else s >>> 1
def crcBits : Nat → UInt32 → UInt32
  | 0, s => s
  | n + 1, s => crcBit (crcBits n s)
def crcByte (s : UInt32) (c : UInt8) : UInt32 := crcBits 8 (s ^^^ c.toUInt32)
def crcRun (s : UInt32) (l : List UInt8) : UInt32 := l.foldl crcByte s
def crcAdd (s : UInt32) (l : List UInt8) : UInt32 := ~~~ (crcRun (~~~ s) l)
def crcSum (l : List UInt8) : UInt32 := crcAdd 0 l

theorem crcRun_snoc (s : UInt32) (l : List UInt8) (k : Nat) (h : k < l.length) : crcRun s (l.take (k + 1)) = crcByte (crcRun s (l.take k)) l[k] := by
  unfold crcRun; rw [List.take_succ_eq_append_getElem h, List.foldl_append]; rfl
end Go.Proofs.YtbiadpkglcdihaaGreat

/- What crc.Add and crc.Sum return: the checksum of the bytes that the slice reads as. -/
namespace Go.Proofs.YtbiadpkglcdihaaGreat
open Go.RowKit
attribute [local go_sem] u32_xor' u32_and' u32_not' u32_and_1 u32_poly u8_u32
attribute [local go_sem ↓] u32_shr1

set_option maxHeartbeats 400000 in
theorem Add_any (s : UInt32) (v : Value) (l : List UInt8) (w : World) (hl : Bs w v l) :
    Calls Tryz.prog 119 #[.int .u32 (n32 s), v] w fun e w' => e = .returned (.int .u32 (n32 (crcAdd s l))) ∧ w = w' := by
  obtain ⟨ao, cap, b, off, rfl, hcap, hbig, -, hao, hc⟩ := hl.open
  by_cases h0 : l = []
  · subst h0
    clear hc hao
    go_enter Tryz.func119, Tryz.ntmps119
    go_wp2
    refine wp_loop_once ?_
    go_wp2
    go_ret
    exact ⟨ret_of (by show _ = Value.int .u32 (n32 (~~~ (~~~ s))); rw [UInt32.not_not]; rfl), rfl⟩
  have hpos : 0 < l.length := List.length_pos_iff.2 h0
  obtain rfl := hao hpos
  clear h0 hao
  clear hl
  go_enter Tryz.func119, Tryz.ntmps119
  go_wp2
  go_loop [0, 6, 7, 12, 20] (fun t _ _ i _ => ∃ k : Nat, k ≤ l.length ∧ i = .int .i64 k ∧ t = .int .u32 (n32 (crcRun (~~~ s) (l.take k)))) (fun _ _ _ i _ => l.length - (intOf i).toNat)
  case atStart => exact ⟨0, by omega, rfl, rfl⟩
  case round =>
    obtain ⟨k, hk, rfl, rfl⟩ := hrel
    by_cases hlt : k < l.length
    · have hcell := hc k hlt
      have hS := hd (crcRun_snoc (~~~ s) l k hlt)
      generalize crcRun (~~~ s) (l.take k) = s1 at *
      generalize l[k] = x at *
      clear hc
      go_wp2
      go_loop [0, 7, 20] (fun t _ i => ∃ j : Nat, j ≤ 8 ∧ i = .int .i64 j ∧ t = .int .u32 (n32 (crcBits j (s1 ^^^ x.toUInt32)))) (fun _ _ i => 8 - (intOf i).toNat)
      case atStart => exact ⟨0, by omega, rfl, rfl⟩
      case round =>
        obtain ⟨j, hj, rfl, rfl⟩ := hrel
        have hT := hd (show crcBits (j+1) (s1 ^^^ x.toUInt32) = crcBit (crcBits j (s1 ^^^ x.toUInt32)) from rfl)
        generalize ht : crcBits j (s1 ^^^ x.toUInt32) = t at *
        have Ht := hd ht; clear ht
        go_wp2
        · rename_i h
          go_round
          case rel => exact ⟨j + 1, by omega, by go_num, by rw [hT.out, crcBit, if_pos (by simpa [n32_eq1] using h)]⟩
          case measure => simp [intOf]; omega
        · rename_i h
          go_round
          case rel => exact ⟨j + 1, by omega, by go_num, by rw [hT.out, crcBit, if_neg (by simpa [n32_eq1] using h)]⟩
          case measure => simp [intOf]; omega
        · have : j = 8 := by omega
          go_round
          case rel => exact ⟨k + 1, by omega, by go_num, by rw [hS.out, crcByte, ← Ht.out, this]⟩
          case measure => simp [intOf]; omega
    · have : k = l.length := by omega
      have H := hd this; clear this
      go_wp2
      go_ret
      exact ⟨by rw [List.take_of_length_le (by rw [H.out]; omega)]; rfl, rfl⟩

theorem Sum_any (v : Value) (l : List UInt8) (w : World) (hl : Bs w v l) :
    Calls Tryz.prog 89 #[v] w fun e w' => e = .returned (.int .u32 (n32 (crcSum l))) ∧ w = w' := by
  go_enter Tryz.func89, Tryz.ntmps89
  go_wp2_with fail
  refine (Add_any 0 _ l _ hl).mono ?_
  rintro e w1 ⟨rfl, rfl⟩
  go_wp2_with fail
  go_ret
  exact ⟨rfl, rfl⟩
end Go.Proofs.YtbiadpkglcdihaaGreat

/- crc.Seal, crc.Open: bytes with their checksum behind them. -/
namespace Go.Proofs.YtbiadpkglcdihaaGreat
open Go.RowKit

/-- A sum in four bytes, the lowest first. -/
def le4 (s : UInt32) : List UInt8 := leB 4 (n32 s)
def sealB (l : List UInt8) : List UInt8 := l ++ le4 (crcSum l)
theorem le4_eq (s : UInt32) : le4 s = [UInt8.ofInt (n32 s), UInt8.ofInt (n32 s / 256), UInt8.ofInt (n32 s / 65536), UInt8.ofInt (n32 s / 16777216)] := by
  have := n32_lo s
  simp only [le4, leB, Int.ediv_ediv_of_nonneg (show (0:Int) ≤ 256 by decide)]
  simp only [List.cons.injEq, true_and, and_true]
  rw [Int.ediv_ediv_of_nonneg (by decide)]
  exact ⟨rfl, rfl⟩
theorem sealB_length (l : List UInt8) : (sealB l).length = l.length + 4 := by simp [sealB, le4]

set_option maxHeartbeats 400000 in
theorem Seal_any (v : Value) (l : List UInt8) (w : World) (hl : Bs w v l) (hlen : l.length ≤ 140737488355000) :
    Calls Tryz.prog 60 #[v] w fun e w' => ∃ ao c, e = .returned (.slice ao (l.length + 4) c) ∧ OwB w' w.heap.size (.slice ao (l.length + 4) c) (sealB l) ∧ Chg [] w w' := by
  go_enter Tryz.func60, Tryz.ntmps60
  go_wp2_with fail
  refine (Sum_any _ l _ hl).mono ?_
  rintro e w1 ⟨rfl, rfl⟩
  have hlit : ∀ w1 : World, w.heap.size ≤ w1.heap.size → OwB (w1.alloc (.cells #[.int .u8 (n32 (crcSum l) % 256), .int .u8 (n32 (crcSum l) / 256 % 256), .int .u8 (n32 (crcSum l) / 65536 % 256), .int .u8 (n32 (crcSum l) / 16777216 % 256)] 5)) w.heap.size (.slice (some ⟨w1.heap.size, 0, none⟩) 4 4) (le4 (crcSum l)) := by
    intro w1 hw
    exact OwB.lit w1 w.heap.size (le4 (crcSum l)) _ (by rw [le4_eq]; simp [vb, n8_ofInt]) hw (by simp [le4])
  go_wp2_with (first | (refine wpAppB rfl (.const _) _ rfl w.heap.size (.slice none 0 0) _ rfl (OwB.nil _ _) _ _ rfl hl (by simp; omega) (Nat.le_refl _) ?_; intro ao c w1 h1 h2 h3; have h4 := (Chg.refl [] _).grown h2 (by simp [Value.ownBlock]); have h5 := h4.size; simp only [List.length_nil, Nat.zero_add, List.nil_append] at h1) | (refine wpAppB rfl (.tmp 7) _ rfl w.heap.size _ _ rfl (h1.alloc _) _ _ rfl (hlit _ h5).bs (by simp [le4]; omega) (by simp; omega) ?_; intro ao' c' w2 g1 g2 g3))
  go_ret
  refine ⟨ao', c', rfl, g1, (h4.alloc _).grown g2 (fun k hk hlt => ?_)⟩
  have := (h1.lo k hk).1
  omega


def w32 (a b c d : UInt8) : UInt32 := a.toUInt32 ||| b.toUInt32 <<< 8 ||| c.toUInt32 <<< 16 ||| d.toUInt32 <<< 24

def OpenPost (w : World) (m : Nat) (l : List UInt8) (ok : Bool) (e : Ending) (w' : World) : Prop :=
  match ok with
  | true => ∃ ao c, e = .returned (.tuple #[.slice ao m c, .bool true]) ∧ OwB w' w.heap.size (.slice ao m c) (l.take m) ∧ Chg [] w w'
  | false => e = .returned (.tuple #[.slice none 0 0, .bool false]) ∧ Chg [] w w'

section
attribute [local go_sem] u32_or' u8_u32
attribute [local go_sem ↓] u32_shl8 u32_shl16 u32_shl24
set_option maxHeartbeats 800000 in
theorem Open_walk (v : Value) (l : List UInt8) (m : Nat) (w : World) (hl : Bs w v l) (hm : l.length = m + 4) (hlen : l.length ≤ 140737488355000) (ok : Bool)
    (hok : (n32 (crcSum (l.take m)) != n32 (w32 (l[m]'(by omega)) (l[m+1]'(by omega)) (l[m+2]'(by omega)) (l[m+3]'(by omega)))) = !ok) :
    Calls Tryz.prog 100 #[v] w (OpenPost w m l ok) := by
  obtain ⟨ao, cap, b, off, rfl, hcap, hbig, -, hao, hc⟩ := hl.open
  obtain rfl := hao (by omega)
  have c0 := hc m (by omega)
  have c1 := hc (m + 1) (by omega)
  have c2 := hc (m + 2) (by omega)
  have c3 := hc (m + 3) (by omega)
  generalize l[m]'(by omega) = x0 at *
  generalize l[m+1]'(by omega) = x1 at *
  generalize l[m+2]'(by omega) = x2 at *
  generalize l[m+3]'(by omega) = x3 at *
  clear hc
  have e4 : ((l.length : Int) - 4) = (m : Int) := by omega
  have i0 : (m : Int) < (l.length : Int) := by omega
  have i1 : (m : Int) + 1 < (l.length : Int) := by omega
  have i2 : (m : Int) + 2 < (l.length : Int) := by omega
  have i3 : (m : Int) + 3 < (l.length : Int) := by omega
  have Hm := hd hm; clear hm
  go_enter Tryz.func100, Tryz.ntmps100
  go_wp2_with fail
  go_quiet (fail)
  have hdr := (Chg.refl [] w).drewN nq
  have hl1 := hl.stays hdr
  clear c0 c1 c2 c3 hl
  generalize w.drewN nq = w1 at *
  unfold w32 at hok
  cases ok
  · simp only [Bool.not_false] at hok
    go_wp2_with (first | (refine wpCutB rfl _ none _ rfl _ _ rfl hl1 0 m (.inl ⟨rfl, rfl⟩) (.inr ⟨.i64, rfl⟩) (by omega) (by omega) ?_; intro ao1 c1 h1 g1; simp only [Nat.sub_zero, List.drop_zero] at h1) | (go_at_call 89; refine (Sum_any _ _ _ h1).mono ?_; rintro e w2 ⟨rfl, rfl⟩))
    go_ret2
    exact ⟨rfl, hdr⟩
  · simp only [Bool.not_true] at hok
    go_wp2_with (first | (refine wpAppB rfl (.const _) _ rfl w1.heap.size (.slice none 0 0) _ rfl (OwB.nil _ _) _ _ rfl h2 (by simp; omega) (Nat.le_refl _) ?_; intro ao c w3 k1 k2 k3) | (go_at_call 89; refine (Sum_any _ _ _ h1).mono ?_; rintro e w2 ⟨rfl, rfl⟩) | (refine wpCutB rfl (.tmp 40) none _ rfl _ _ rfl hl1 0 m (.inl ⟨rfl, rfl⟩) (.inr ⟨.i64, rfl⟩) (by omega) (by omega) ?_; intro ao1 c1 h1 g1; simp only [Nat.sub_zero, List.drop_zero] at h1) | (refine wpCutB rfl (.tmp 46) none _ rfl _ _ rfl hl1 0 m (.inl ⟨rfl, rfl⟩) (.inr ⟨.i64, rfl⟩) (by omega) (by omega) ?_; intro ao2 c2 h2 g2; simp only [Nat.sub_zero, List.drop_zero] at h2))
    go_ret2
    simp only [List.length_take, List.length_nil, Nat.zero_add, List.nil_append, Nat.min_eq_left (show m ≤ l.length by have := Hm.out; omega)] at k1 ⊢
    exact ⟨ao, c, rfl, k1.mono hdr.size, hdr.grown k2 (by simp [Value.ownBlock])⟩
end

theorem shl_toNat (x : UInt8) (j : Nat) (hj : j ≤ 24) : (x.toUInt32 <<< UInt32.ofNat j).toNat = x.toNat * 2 ^ j := by
  rw [UInt32.toNat_shiftLeft]
  simp only [UInt32.toNat_ofNat', Nat.mod_eq_of_lt (show j < 2 ^ 32 by omega), Nat.mod_eq_of_lt (show j < 32 by omega), Nat.shiftLeft_eq, UInt8.toNat_toUInt32]
  apply Nat.mod_eq_of_lt
  have h1 := x.toNat_lt
  have h2 : 2 ^ j ≤ 2 ^ 24 := Nat.pow_le_pow_right (by decide) hj
  calc x.toNat * 2 ^ j < 256 * 2 ^ j := Nat.mul_lt_mul_of_pos_right h1 (Nat.two_pow_pos j)
    _ ≤ 256 * 2 ^ 24 := Nat.mul_le_mul_left _ h2
    _ = 2 ^ 32 := by decide
theorem or_join (i x y : Nat) (hx : x % 2 ^ i = 0) (hy : y < 2 ^ i) : y ||| x = y + x := by rw [Nat.or_comm, nat_join i x y hx hy, Nat.add_comm]
theorem w32_toNat (a b c d : UInt8) : (w32 a b c d).toNat = a.toNat + b.toNat * 256 + c.toNat * 65536 + d.toNat * 16777216 := by
  have ha := a.toNat_lt
  have hb := b.toNat_lt
  have hc := c.toNat_lt
  have hd := d.toNat_lt
  have e8 := shl_toNat b 8 (by decide)
  have e16 := shl_toNat c 16 (by decide)
  have e24 := shl_toNat d 24 (by decide)
  change (b.toUInt32 <<< 8).toNat = _ at e8
  change (c.toUInt32 <<< 16).toNat = _ at e16
  change (d.toUInt32 <<< 24).toNat = _ at e24
  unfold w32
  rw [UInt32.toNat_or, UInt32.toNat_or, UInt32.toNat_or, e8, e16, e24, UInt8.toNat_toUInt32]
  rw [or_join 8 (b.toNat * 2 ^ 8) a.toNat (by omega) (by omega), or_join 16 (c.toNat * 2 ^ 16) _ (by omega) (by omega), or_join 24 (d.toNat * 2 ^ 24) _ (by omega) (by omega)]
theorem le4_w32 (a b c d : UInt8) : le4 (w32 a b c d) = [a, b, c, d] := by
  have ha := n8_hi a
  have hb := n8_hi b
  have hc := n8_hi c
  have hd := n8_hi d
  have ha0 := n8_lo a
  have hb0 := n8_lo b
  have hc0 := n8_lo c
  have hd0 := n8_lo d
  have e : n32 (w32 a b c d) = n8 a + n8 b * 256 + n8 c * 65536 + n8 d * 16777216 := by
    have := w32_toNat a b c d
    unfold n32 n8
    omega
  rw [le4_eq, e]
  simp only [List.cons.injEq, and_true]
  refine ⟨?_, ?_, ?_, ?_⟩ <;> (apply n8_inj.1; rw [n8_ofInt]; omega)
theorem le4_inj {s t : UInt32} (h : le4 s = le4 t) : s = t := by
  have := congrArg rdB h
  unfold le4 at this
  rw [rdB_leB, rdB_leB] at this
  have h1 := n32_hi s
  have h2 := n32_hi t
  have h3 := n32_lo s
  have h4 := n32_lo t
  apply n32_inj.1
  have e : (256 : Int) ^ 4 = 4294967296 := by decide
  rw [e] at this
  omega
theorem split4 (l : List UInt8) (m : Nat) (hm : l.length = m + 4) : l = l.take m ++ [l[m]'(by omega), l[m+1]'(by omega), l[m+2]'(by omega), l[m+3]'(by omega)] := by
  apply List.ext_getElem
  · simp; omega
  · intro i h1 h2
    rw [List.getElem_append]
    split
    · simp
    · rename_i hi
      simp only [List.length_take, Nat.min_eq_left (show m ≤ l.length by omega)] at hi ⊢
      have hi4 : i = m ∨ i = m + 1 ∨ i = m + 2 ∨ i = m + 3 := by omega
      rcases hi4 with rfl | rfl | rfl | rfl <;> simp
theorem sealed_iff (l : List UInt8) (m : Nat) (hm : l.length = m + 4) :
    crcSum (l.take m) = w32 (l[m]'(by omega)) (l[m+1]'(by omega)) (l[m+2]'(by omega)) (l[m+3]'(by omega)) ↔ l = sealB (l.take m) := by
  have hs := split4 l m hm
  constructor
  · intro h
    conv => lhs; rw [hs]
    unfold sealB
    rw [h, le4_w32]
  · intro h
    apply le4_inj
    rw [le4_w32]
    have h2 : l.take m ++ le4 (crcSum (l.take m)) = l.take m ++ [l[m]'(by omega), l[m+1]'(by omega), l[m+2]'(by omega), l[m+3]'(by omega)] := by
      rw [← hs]; exact h.symm
    exact List.append_cancel_left h2

theorem sealB_inj {x y : List UInt8} (h : sealB x = sealB y) : x = y := by
  have hl := congrArg List.length h
  rw [sealB_length, sealB_length] at hl
  exact List.append_inj_left h (by omega)

/-- What was sealed is opened. -/
theorem Open_yes (v : Value) (l : List UInt8) (w : World) (hl : Bs w v (sealB l)) (hlen : l.length ≤ 140737488354000) :
    Calls Tryz.prog 100 #[v] w fun e w' => ∃ ao c, e = .returned (.tuple #[.slice ao l.length c, .bool true]) ∧ OwB w' w.heap.size (.slice ao l.length c) l ∧ Chg [] w w' := by
  have ht : (sealB l).take l.length = l := by simp [sealB]
  have hm := sealB_length l
  have hi := (sealed_iff (sealB l) l.length hm).2 (by rw [ht])
  refine (Open_walk v (sealB l) l.length w hl hm (by omega) true (by rw [hi, Bool.not_true]; simp)).mono ?_
  intro e w' h
  obtain ⟨ao, c, h1, h2, h3⟩ := h
  rw [ht] at h2
  exact ⟨ao, c, h1, h2, h3⟩

/-- What was not sealed is not. -/
theorem Open_no (v : Value) (l : List UInt8) (w : World) (hl : Bs w v l) (hlen : l.length ≤ 140737488354000) (hno : ∀ x, l ≠ sealB x) :
    Calls Tryz.prog 100 #[v] w fun e w' => e = .returned (.tuple #[.slice none 0 0, .bool false]) ∧ Chg [] w w' := by
  by_cases h4 : l.length < 4
  · obtain ⟨ao, cap, b, off, rfl, hcap, hbig, -, hao, hc⟩ := hl.open
    clear hao hc
    go_enter Tryz.func100, Tryz.ntmps100
    go_wp2_with fail
    go_ret2
    exact ⟨rfl, Chg.refl _ _⟩
  · obtain ⟨m, hm⟩ : ∃ m, l.length = m + 4 := ⟨l.length - 4, by omega⟩
    have hi := mt (sealed_iff l m hm).1 (hno _)
    refine (Open_walk v l m w hl hm (by omega) false (by rw [Bool.not_false, bne_iff_ne]; exact fun h => hi (n32_inj.1 h))).mono ?_
    intro e w' h
    exact h
end Go.Proofs.YtbiadpkglcdihaaGreat

/- frame.Bytes. -/
namespace Go.Proofs.YtbiadpkglcdihaaGreat
open Go.RowKit

def frameB (no : Int) (l : List UInt8) : List UInt8 := sealB (leB 4 l.length ++ leB 8 no) ++ sealB l
theorem frameB_length (no : Int) (l : List UInt8) : (frameB no l).length = l.length + 20 := by
  unfold frameB; rw [List.length_append, sealB_length, sealB_length, List.length_append, leB_length, leB_length]; omega
set_option maxHeartbeats 800000 in
theorem FBytes_any (no : Int) (v : Value) (l : List UInt8) (w : World) (hl : Bs w v l) (hlen : l.length ≤ 140737488354000) :
    Calls Tryz.prog 24 #[.int .i64 no, v] w fun e w' => ∃ ao c, e = .returned (.slice ao (l.length + 20) c) ∧ OwB w' w.heap.size (.slice ao (l.length + 20) c) (frameB no l) ∧ Chg [] w w' := by
  obtain ⟨ao, cap, b, off, rfl, -⟩ := hl.open
  go_enter Tryz.func24, Tryz.ntmps24
  go_wp2_with fail
  have hw0 : Wr (w.alloc (.cells #[.slice none 0 0] 118)) w.heap.size w.heap.size [] := ⟨_, Blk.new _ _ _, OwB.nil _ _⟩
  have hb0 := ((Chg.refl [] w).alloc (.cells #[.slice none 0 0] 118)).new
  refine (WNum_any 4 l.length w.heap.size w.heap.size [] _ hw0 (Nat.le_refl _) (by decide) (by decide) (by simp)).mono ?_
  rintro e w1 ⟨rfl, hw1, hb1⟩
  go_wp2_with fail
  refine (WNum_any 8 no w.heap.size w.heap.size _ _ hw1 (Nat.le_refl _) (by decide) (by decide) (by simp)).mono ?_
  rintro e w2 ⟨rfl, hw2, hb2⟩
  have hch := Chg.ofBelow ((hb0.trans hb1).trans hb2)
  rw [List.nil_append, show (4 : Int).toNat = 4 from rfl, show (8 : Int).toNat = 8 from rfl] at hw2
  obtain ⟨H, hH⟩ : ∃ H, H = leB 4 l.length ++ leB 8 no := ⟨_, rfl⟩
  rw [← hH] at hw2
  have hHl : H.length = 12 := by rw [hH]; simp
  have HH := hd hH
  have HHl := hd hHl
  clear hH hHl hw1 hb1 hb2 hb0 hw0
  go_wp2_with fail
  refine (WBytes_any _ _ _ _ hw2 (by rw [HHl.out]; decide)).mono ?_
  rintro e w3 ⟨ao3, c3, rfl, ho3, hc3⟩
  rw [HHl.out] at ho3 ⊢
  have hch3 := hch.trans hc3 (by simp)
  clear hw2 hch hc3
  go_wp2_with fail
  refine (Seal_any _ H _ ho3.bs (by rw [HHl.out]; decide)).mono ?_
  rintro e w4 ⟨ao4, c4, rfl, ho4, hc4⟩
  rw [HHl.out] at ho4 ⊢
  have hch4 := hch3.trans hc4 (by simp)
  have hl4 := hl.stays hch4
  have hz3 := hch3.size
  have hzc := hc4.size
  clear ho3 hch3 hc4
  go_wp2_with fail
  refine (Seal_any _ l _ hl4 (by omega)).mono ?_
  rintro e w5 ⟨ao5, c5, rfl, ho5, hc5⟩
  have hch5 := hch4.trans hc5 (by simp)
  have ho4' : OwB w5 w3.heap.size (.slice ao4 16 c4) (sealB H) := ho4.chg hc5 (by simp)
  have hz4 := hc5.size
  have hz5 : w3.heap.size ≤ w4.heap.size := hzc
  clear ho4 hch4 hc5
  have hS1 : (sealB H).length = 16 := by rw [sealB_length, HHl.out]
  have hS2 : (sealB l).length = l.length + 4 := sealB_length l
  go_wp2_with (refine wpAppB rfl _ _ rfl w3.heap.size _ _ rfl ho4' _ _ rfl ho5.bs (by rw [hS1, hS2]; omega) (by omega) ?_; intro ao6 c6 w6 k1 k2 k3)
  go_ret
  rw [hS1, hS2] at k1
  have e : 16 + (l.length + 4) = l.length + 20 := by omega
  rw [e] at k1
  refine ⟨ao6, c6, ret_of (show Value.slice ao6 (16 + (l.length + 4)) c6 = Value.slice ao6 (l.length + 20) c6 by rw [e]), ?_, ?_⟩
  · unfold frameB
    rw [← HH.out]
    exact k1.mono hz3
  · exact hch5.app ho4' k2 hz3
end Go.Proofs.YtbiadpkglcdihaaGreat

/- Disk.Create. -/
namespace Go.Proofs.YtbiadpkglcdihaaGreat
open Go.RowKit

variable {w : World} {fp : List Nat} {b : Nat} {fv cv : Value} {nb sb : Nat} {hs : List HF} {d : Dsk}

/-- The row of files has grown by an empty one. -/
theorem DkP.filed {w w' : World} {fp : List Nat} {b : Nat} {fv cv : Value} {nb sb : Nat} {hs : List HF} {d : Dsk} (h : DkP w fp b fv cv nb sb hs d) {fv' : Value}
    (hgw : w.grownBy w' fv.ownBlock) (hrow : w'.ownsRow 0 85 2 fv' (hs.length + 1) (fileCells hs ++ [.slice none 0 0, .int .i64 0])) (hg : GoodD { d with files := d.files ++ [([], 0)] }) :
    DkP (w'.setCell ⟨b, 1, none⟩ fv') (fv'.ownBlock.toList ++ fp) b fv' cv nb sb (hs ++ [(.slice none 0 0, [], 0)]) { d with files := d.files ++ [([], 0)] } := by
  have hc := Chg.ofGrown hgw
  have hbox : Blk w' b (boxCells fv cv nb sb d) 75 := h.box.grown hgw (ownsRow_apart h.files h.box (by decide))
  exact
  { box := hbox.set 1 fv'
    names := (h.names.grown hgw fun e => h.names.apartRow h.files e.symm).set _ _ (h.names.apart h.box)
    sure := (h.sure.grown hgw fun e => h.sure.apartRow h.files e.symm).set _ _ (h.sure.apart h.box)
    files := by
      rw [fileCells_app, List.length_append]
      exact ownsRow_set hrow hbox (by decide) 1 _
    same := by rw [List.map_append, h.same]; rfl
    changes := ownsRow_set (ownsRow_chg h.changes hc fun k hk => by simpa using ownsRow_ne2 h.changes h.files (by decide) k hk) hbox (by decide) 1 _
    bytes := fun f hf => by
      rcases List.mem_append.1 hf with hf | hf
      · exact ownsRow_set (ownsRow_chg (h.bytes f hf) hc fun k hk => by simpa using ownsRow_ne2 (h.bytes f hf) h.files (by decide) k hk) hbox (by decide) 1 _
      · obtain rfl : f = (.slice none 0 0, [], 0) := by simpa using hf
        exact OwB.nil _ _
    apart := by
      rw [List.pairwise_append]
      refine ⟨h.apart, by simp, fun f _ g hg k _ => ?_⟩
      obtain rfl : g = (.slice none 0 0, [], 0) := by simpa using hg
      simp [Value.ownBlock]
    ne := h.ne
    fpb := by simp [h.fpb]
    fpn := by simp [h.fpn]
    fps := by simp [h.fps]
    fpf := fun k hk => by simp [hk]
    fpc := fun k hk => by simp [h.fpc k hk]
    fph := fun f hf k hk => by
      rcases List.mem_append.1 hf with hf | hf
      · simp [h.fph f hf k hk]
      · obtain rfl : f = (.slice none 0 0, [], 0) := by simpa using hf
        simp [Value.ownBlock] at hk
    fpl := fun k hk => by
      rw [size_set]
      rcases List.mem_append.1 hk with hk | hk
      · exact (World.ownsRow.lt hrow k (by simpa using hk)).2
      · exact Nat.lt_of_lt_of_le (h.fpl k hk) hc.size
    good := hg }
theorem GoodD.filed {d : Dsk} (h : GoodD d) (ho : d.ops < 1073741824) : GoodD { opD d with files := d.files ++ [([], 0)] } := by
  have ⟨a0, a1, a2, a3, a4, a5, a6, a7, a8, a9, a10⟩ := h
  refine { h.op ho with named := fun p hp => ?_, sured := fun p hp => ?_, turned := fun c hc hne => ?_, idx := fun c hc => ?_, files := fun f hf => ?_, nfiles := ?_ }
  · have := a1 p hp; simp; omega
  · have := a2 p hp; simp; omega
  · have := a3 c hc hne; simp; omega
  · have := a4 c hc; simp; omega
  · rcases List.mem_append.1 hf with hf | hf
    · exact a5 f hf
    · obtain rfl : f = ([], 0) := by simpa using hf
      exact ⟨Nat.le_refl _, by show (0 : Int) ≤ d.room; exact a0.1, by simp⟩
  · show ((d.files ++ [(([] : List UInt8), 0)]).length : Int) ≤ d.ops + 1
    simp; omega

set_option maxHeartbeats 2000000 in
theorem Create_any (h : Dk w fp b d) (s : List UInt8) (hsl : s.length ≤ 140737488355328) (hops : d.ops < 1073741824) :
    Calls Tryz.prog 21 #[.pointer (some ⟨b, 0, none⟩), .string (strB s)] w fun e w' => e = .returned (.int .i64 (createE d s)) ∧ DkOut w fp b (createD d s) w' := by
  obtain ⟨fv, cv, nb, sb, hs, h⟩ := h
  have hg := h.good
  obtain ⟨CE, hCE⟩ : ∃ x, createE d s = x := ⟨_, rfl⟩
  obtain ⟨CD, hCD⟩ : ∃ x, createD d s = x := ⟨_, rfl⟩
  rw [hCE, hCD]
  have HG := hd hg
  have hCE2 := hCE
  unfold createE at hCE2
  unfold createD at hCD
  rw [hCE] at hCD
  clear hCE
  go_enter Tryz.func21, Tryz.ntmps21
  go_wp2_with fail
  refine (op_any h hops).mono ?_
  rintro e w1 ⟨rfl, h1, hc1, hz1⟩
  have hcf : Chg fp w w1 := hc1.mono (by simp only [List.mem_singleton]; rintro x rfl _; exact h.fpb)
  clear hc1 hz1 h
  by_cases hE : opE d = 0
  case neg =>
    rw [if_pos hE] at hCE2
    rw [if_pos (by rw [← hCE2]; exact hE)] at hCD
    subst hCD
    subst hCE2
    have hE' : (opE d == 0) = false := by simpa using hE
    clear hE
    go_wp2_with fail
    go_ret
    exact ⟨rfl, DkOut.same ⟨_, _, _, _, _, h1⟩ hcf⟩
  rw [if_neg (by simpa using hE)] at hCE2
  have q2 := h1.box.cell 2
  simp [boxCells] at q2
  have hm : MapAt w1 nb d.names := h1.names
  rw [hE]
  clear hE
  generalize hr : nget d.names s = r at hCE2
  go_upto_region 5 with (at_lookup; refine wpLook rfl _ _ rfl nb _ s rfl rfl hm hsl ?_; rw [hr])
  clear q2 hr
  have hnl := hg.nnames
  have hfl := hg.nfiles
  have hol := hg.ops
  clear hg
  have H1 := hd h1
  have HM := hd hm
  have HCF := hd hcf
  clear h1 hm hcf
  go_wp2_with fail
  refine (name_any w1 s hsl).mono ?_
  rintro e w2 ⟨rfl, hc2⟩
  have h2 := H1.out.k hc2
  have hm2 := HM.out.k hc2
  have hcf2 := HCF.out.trans hc2 (by simp)
  clear hc2 H1 HM HCF
  have q2 := h2.box.cell 2
  simp [boxCells] at q2
  have h20 : Dk w2 fp b (opD d) := ⟨_, _, _, _, _, h2⟩
  cases hn : nameD s
  case false =>
    rw [if_pos (by simp [hn])] at hCE2
    subst hCE2
    rw [if_pos (by decide)] at hCD
    subst hCD
    have H2 := hd (DkOut.same h20 hcf2)
    clear h2 h20 hm2 hcf2 q2
    go_wp2_with fail
    go_ret
    exact ⟨rfl, H2.out⟩
  rw [if_neg (by simp [hn])] at hCE2
  cases r with
  | some i =>
    rw [if_pos (by rfl)] at hCE2
    subst hCE2
    rw [if_pos (by decide)] at hCD
    subst hCD
    have H2 := hd (DkOut.same h20 hcf2)
    clear h2 h20 hm2 hcf2 q2
    go_wp2_with fail
    go_ret
    exact ⟨rfl, H2.out⟩
  | none =>
    rw [if_neg (by decide)] at hCE2
    by_cases h64 : 64 ≤ d.names.length
    · rw [if_pos h64] at hCE2
      subst hCE2
      rw [if_pos (by decide)] at hCD
      subst hCD
      have H2 := hd (DkOut.same h20 hcf2)
      have h64' : (64 : Int) ≤ (d.names.length : Int) := by omega
      clear h2 h20 hcf2
      go_wp2_with (at_len; refine wpLenM rfl _ rfl nb _ rfl hm2 ?_)
      go_ret
      exact ⟨rfl, H2.out⟩
    · rw [if_neg h64] at hCE2
      subst hCE2
      rw [if_neg (by decide)] at hCD
      have h64' : ¬ (64 : Int) ≤ (d.names.length : Int) := by omega
      have HGF := hd (HG.out.filed hops)
      have hfl' : hs.length = d.files.length := h2.len
      have hfi : (hs.length : Int) ≤ d.ops := by omega
      have HFL := hd hfl'
      have HCD := hd hCD
      clear hfl' hCD
      go_upto_region 11 with (at_len; refine wpLenM rfl _ rfl nb _ rfl hm2 ?_)
      have q1 := h2.box.cell 1
      simp [boxCells] at q1
      have hA := (Chg.refl [] w2).alloc (.cells #[.slice none 0 0, .int .i64 0] 85)
      have hrow := ownsRow_k h2.files hA
      have hbA := (h2.box.alloc (.cells #[.slice none 0 0, .int .i64 0] 85))
      have hap := ownsRow_apart hrow hbA (by decide)
      have H2 := hd h2
      have HCF2 := hd hcf2
      have HM2 := hd hm2
      clear h2 hcf2 hm2 h20 q2
      go_upto_region 12 with (at_builtin; refine wpApp rowFile rfl _ _ rfl 0 fv hs.length (fileCells hs) rfl hrow _ 1 [.slice none 0 0, .int .i64 0] rfl (Rd.lit w2 2 1 _ _ _ rfl rfl (by decide)) (by simp [Value.oneCell']) (by omega) (by omega) (Nat.zero_le _) ?_; intro ao3 c3 w3 hr3 hg3 hm3 _; have hb3 := hbA.grown hg3 hap; have q3 := hb3.cell 1; have f3 := hb3.free 1; simp [boxCells] at q3)
      have HD4 := hd (DkP.filed (H2.out.k hA) hg3 hr3 HGF.out)
      have hcf4 : Chg fp w (w3.setCell ⟨b, 1, none⟩ (.slice ao3 (hs.length + 1) c3)) := (((HCF2.out.trans hA (by simp))).grown hg3 (fun k hk _ => H2.out.fpf k hk)).setCell _ _ (fun _ => H2.out.fpb)
      have hgr : Gr fp w ((Value.slice ao3 (hs.length + 1) c3).ownBlock.toList ++ fp) := (Gr.refl fp w).trans (Gr.cons hm3 H2.out.fpf) (HCF2.out.trans hA (by simp)).size
      have HCF4 := hd hcf4
      have HGR := hd hgr
      clear hcf4 hgr hr3 hg3 hm3 hb3 f3 q3 hA hrow hbA hap q1 HCF2 HM2 H2
      generalize w3.setCell ⟨b, 1, none⟩ (.slice ao3 (hs.length + 1) c3) = w4 at *
      have q1 := HD4.out.box.cell 1
      simp [boxCells] at q1
      have hx1 : (hs.length : Int) = (d.files.length : Int) := by rw [HFL.out]
      go_wp2_with fail
      refine (change_any HD4.out [] s d.files.length (by simp) hsl (by simp [opD]) (by simp [opD]) (by show (d.names.length : Int) + 1 ≤ d.ops + 1; omega) (by show (d.sure.length + d.changes.length : Int) + 1 ≤ d.ops + 1; have := HG.out.nchanges; omega)).mono ?_
      rintro e w5 ⟨rfl, h5⟩
      have H5 := hd (h5.chain HCF4.out HGR.out)
      clear h5
      go_wp2_with fail
      go_ret
      exact ⟨rfl, by rw [← HCD.out]; exact H5.out⟩
end Go.Proofs.YtbiadpkglcdihaaGreat

/- A range over such a map. -/
namespace Go.Proofs.YtbiadpkglcdihaaGreat
open Go.RowKit

/-- The range at r over the map at b, with 'rest' still to come. -/
def MapRange (w : World) (b r : Nat) (es rest : Nm) : Prop :=
  ∃ (D : DataW Unit) (left : Lit → Bool) (cnt : Nat), w.ranges Tryz.prog 9 (plainElem Tryz.prog 3) b r es.length D left cnt ∧ ReadsN D es ∧ (rest.map (·.1)).Nodup ∧ (∀ p ∈ rest, p ∈ es) ∧ ∀ k, left (.string k) = (nget rest k).isSome
theorem MapRange.map {w : World} {b r : Nat} {es rest : Nm} (h : MapRange w b r es rest) : MapAt w b es := by
  obtain ⟨D, left, cnt, h1, h2, _⟩ := h
  exact ⟨D, h1.owns, h2⟩
theorem MapRange.lt {w : World} {b r : Nat} {es rest : Nm} (h : MapRange w b r es rest) : r < w.heap.size := by
  obtain ⟨D, left, cnt, h1, h2, _⟩ := h
  exact h1.lt
theorem MapRange.sub {w : World} {b r : Nat} {es rest : Nm} (h : MapRange w b r es rest) : ∀ p ∈ rest, p ∈ es := let ⟨_, _, _, _, _, _, h, _⟩ := h; h
theorem MapRange.nodup {w : World} {b r : Nat} {es rest : Nm} (h : MapRange w b r es rest) : (rest.map (·.1)).Nodup := let ⟨_, _, _, _, _, h, _, _⟩ := h; h
theorem sameKey_str (a b : List UInt8) : (Lit.string a).sameKey (.string b) = (a == b) := by
  by_cases h : a = b
  · subst h
    have := Maps.has_put_same (H := Unit) (D := .map []) Maps.isMap_empty (k := .string a) trivial (.lit (.bool true))
    have h2 : Maps.has ((DataW.map ([] : List (Lit × DataW Unit))).put (.string a) (.lit (.bool true))) (.string a) = (Lit.string a).sameKey (.string a) := by
      show ([(Lit.string a, DataW.lit (.bool true))] : List (Lit × DataW Unit)).any (fun p => p.1.sameKey (.string a)) = _
      simp
    rw [← h2, this]; simp
  · rw [Maps.sameKey_ne (str_ne h)]; simp; exact h
theorem nget_ndel_some (es : Nm) (s k : List UInt8) : (nget (ndel es s) k).isSome = ((nget es k).isSome && !(k == s)) := by
  by_cases h : k = s
  · subst h; rw [nget_del_same]; simp
  · rw [nget_del_other h]; simp [h]
theorem strB_ofData (x : ByteArray) : strB x.data.toList = x := by simp [strB]

theorem wpRangeM {w : World} {ops : Array Oper} {rest : List Oper} {o : Oper} {a : Act} {Q : Exit → Act → World → Prop} (hg : o.guard = none) (m : Operand) (hop : o.op = Op.range 71 m)
    (b : Nat) (es : Nm) (hm : a.eval m = .map (some b)) (h : MapAt w b es)
    (hK : ∀ w', MapRange w' b w.heap.size es es → Chg [] w w' → wpList Tryz.prog ops Q rest (a.put o.dst (.pointer (some ⟨w.heap.size, 0, none⟩))) w') : wpList Tryz.prog ops Q (o :: rest) a w := by
  obtain ⟨D, hown, hr⟩ := h
  refine wpList_range_own w hg m _ hop 9 3 strKeyed undMapN _ b _ D hm hown fun w' h1 h2 _ => ?_
  exact hK w' ⟨D, _, _, h1, hr, hr.nodup, fun _ hp => hp, fun k => hr.has k⟩ ((Chg.refl [] w).grown h2 (by simp))
theorem wpNextM {w : World} {ops : Array Oper} {rest : List Oper} {o : Oper} {a : Act} {Q : Exit → Act → World → Prop} (hg : o.guard = none) (it : Operand) (hop : o.op = Op.next it false)
    (b r : Nat) (es left : Nm) (hit : a.eval it = .pointer (some ⟨r, 0, none⟩)) (h : MapRange w b r es left)
    (hDone : left = [] → wpList Tryz.prog ops Q rest (a.put o.dst (.tuple #[.bool false])) w)
    (hMore : ∀ (k : List UInt8) (i : Nat) (w' : World), (k, i) ∈ left → MapRange w' b r es (ndel left k) → Chg [r] w w' → w'.rangeLeft b r < w.rangeLeft b r →
      (Instr.entry (.pointer (some ⟨r, 0, none⟩))).run Tryz.prog w' = .ok (.tuple #[.string (strB k), .int .i64 (i : Int)]) w' → k.length ≤ 9223372036854775807 → wpList Tryz.prog ops Q rest (a.put o.dst (.tuple #[.bool true, .string (strB k), .int .i64 (i : Int)])) w') :
    wpList Tryz.prog ops Q (o :: rest) a w := by
  obtain ⟨D, lf, cnt, hrg, hr, hnd, hsub, hleft⟩ := h
  refine wpList_next_ranges w hg it hop 9 strKeyed (plainElem Tryz.prog 3) (fun s : ByteArray => Value.string s) (fun c : Int => Value.int .i64 c)
    (fun key kl hk => by obtain ⟨s, rfl, _, _⟩ := WideMaps.string_of_keyOf undString hk; exact ⟨s, rfl⟩) (fun v y hv => by obtain ⟨c, rfl, _⟩ := plainElem_int_inv undInt hv; exact ⟨c, rfl⟩)
    b r _ D lf cnt hit hrg (fun _ hl => hDone ?_) (fun x c kl y w' cnt' hkey hlk hv hat hrg' hlt hgr hsz hen => ?_)
  · rcases left with _ | ⟨p, l⟩
    · rfl
    · exfalso
      have := hleft p.1
      rw [hl] at this
      have h2 : nget (p :: l) p.1 = some p.2 := by unfold nget; rw [List.find?_cons_of_pos (by simp)]; rfl
      rw [h2] at this
      simp at this
  · obtain ⟨s, es', rfl, hsl⟩ := WideMaps.string_of_keyOf undString hkey
    cases es'
    obtain ⟨c', ec, rfl, hwc⟩ := plainElem_int_inv undInt hv
    cases ec
    obtain ⟨k, hk⟩ : ∃ k, x = strB k := ⟨x.data.toList, (strB_ofData x).symm⟩
    subst hk
    rw [strB_list] at hlk hat hrg' 
    have hsome := hleft k
    rw [hlk] at hsome
    obtain ⟨i, hi⟩ := Option.isSome_iff_exists.1 hsome.symm
    have hmem := nget_some_mem hi
    have hes : nget es k = some i := mem_nget hr.nodup (hsub _ hmem)
    have hci : c = (i : Int) := by
      have := hat .nil
      rw [hr.at_, hes] at this
      simp at this
      exact this.symm
    subst hci
    refine hMore k i w' hmem ⟨D, _, cnt', hrg', hr, nodup_del hnd k, fun p hp => hsub p (List.mem_filter.1 hp).1, fun k' => ?_⟩ ((Chg.refl [r] w).grown hgr (by simp)) ?_ hen ?_
    · rw [hleft, nget_ndel_some, sameKey_str]
    · rw [hrg'.left_eq, hrg.left_eq]; exact hlt
    · rw [strB_size] at hsl; unfold maxLen at hsl; omega
end Go.Proofs.YtbiadpkglcdihaaGreat

/- Disk.Size. -/
namespace Go.Proofs.YtbiadpkglcdihaaGreat
open Go.RowKit

def lenF (d : Dsk) (p : List UInt8 × Nat) : Nat := (d.files.getD p.2 ([], 0)).1.length
def sumF (d : Dsk) (es : Nm) : Nat := (es.map (lenF d)).sum
theorem sizeD_eq (d : Dsk) : sizeD d = sumF d d.names := rfl
theorem sumF_ndel (d : Dsk) : ∀ {es : Nm} {k : List UInt8} {i : Nat}, (es.map (·.1)).Nodup → (k, i) ∈ es → sumF d es = sumF d (ndel es k) + lenF d (k, i)
  | [], _, _, _, h => by cases h
  | p :: es, k, i, hn, h => by
    rw [List.map_cons, List.nodup_cons] at hn
    rcases List.mem_cons.1 h with rfl | h'
    · have h1 : ndel ((k, i) :: es) k = ndel es k := by unfold ndel; rw [List.filter_cons_of_neg (by simp)]
      have h2 : ndel es k = es := by
        unfold ndel
        rw [List.filter_eq_self]
        intro q hq
        have : q.1 ≠ k := fun e => hn.1 (e ▸ List.mem_map.2 ⟨q, hq, rfl⟩)
        simpa using this
      rw [h1, h2]
      simp [sumF]; omega
    · have hne : p.1 ≠ k := fun e => hn.1 (e ▸ List.mem_map.2 ⟨(k, i), h', rfl⟩)
      have h1 : ndel (p :: es) k = p :: ndel es k := by unfold ndel; rw [List.filter_cons_of_pos (by simpa using hne)]
      have ih := sumF_ndel d (es := es) hn.2 h'
      rw [h1]
      simp only [sumF, List.map_cons, List.sum_cons] at ih ⊢
      omega
theorem lenF_le {d : Dsk} (h : GoodD d) (p : List UInt8 × Nat) : lenF d p ≤ 4294967296 := by
  unfold lenF
  by_cases hp : p.2 < d.files.length
  · rw [List.getD_eq_getElem?_getD, List.getElem?_eq_getElem hp]
    exact (h.files _ (List.getElem_mem hp)).2.2
  · rw [List.getD_eq_getElem?_getD, List.getElem?_eq_none (by omega)]; simp
theorem sumF_le {d : Dsk} (h : GoodD d) (es : Nm) : sumF d es ≤ es.length * 4294967296 := by
  induction es with
  | nil => simp [sumF]
  | cons p es ih =>
    have := lenF_le h p
    simp only [sumF, List.map_cons, List.sum_cons, List.length_cons] at ih ⊢
    omega

variable {w : World} {fp : List Nat} {b : Nat} {fv cv : Value} {nb sb : Nat} {hs : List HF} {d : Dsk}

theorem DkP.slice {w : World} (h : DkP w fp b fv cv nb sb hs d) (hp : 0 < hs.length) : ∃ g c, fv = .slice (some ⟨g, 0, none⟩) hs.length c := by
  rcases h.files.2 with ⟨rfl, hz⟩ | ⟨g, cap, cur, rfl, _⟩
  · omega
  · exact ⟨g, cap, rfl⟩
theorem OwB.form {w : World} {base : Nat} {v : Value} {l : List UInt8} (h : OwB w base v l) : ∃ ao c, v = .slice ao l.length c := by
  rcases h.2 with ⟨rfl, hz⟩ | ⟨g, cap, cur, rfl, _⟩
  · exact ⟨none, 0, by rw [hz]⟩
  · exact ⟨_, cap, rfl⟩
theorem DkP.file {w : World} {g c : Nat} (h : DkP w fp b (.slice (some ⟨g, 0, none⟩) hs.length c) cv nb sb hs d) {i : Nat} (hi : i < hs.length) :
    ∃ ao c', hs[i].1 = .slice ao hs[i].2.1.length c' ∧ w.cell? ⟨g, i * 2, none⟩ = some (.slice ao hs[i].2.1.length c') ∧ w.cell? ⟨g, i * 2 + 1, none⟩ = some (.int .i64 (hs[i].2.2 : Int)) ∧ d.files[i]? = some hs[i].2 := by
  obtain ⟨ao, c', e⟩ := (h.bytes _ (List.getElem_mem hi)).form
  have hg := fileCells_get hs i hi
  refine ⟨ao, c', e, ?_, ?_, ?_⟩
  · rw [World.ownsRow.cellAt h.files _ (by omega), hg.1, e]
  · rw [World.ownsRow.cellAt h.files _ (by omega), hg.2]
  · rw [← h.same, List.getElem?_map, List.getElem?_eq_getElem hi]; rfl

set_option maxHeartbeats 1000000 in
theorem Size_any (h : DkP w fp b fv cv nb sb hs d) : Calls Tryz.prog 52 #[.pointer (some ⟨b, 0, none⟩)] w fun e w' => e = .returned (.int .i64 (sizeD d : Int)) ∧ Chg [] w w' := by
  have hg := h.good
  have q1 := h.box.cell 1
  have q2 := h.box.cell 2
  simp [boxCells] at q1 q2
  have hm := h.names
  have Q1 := hd q1
  have HM := hd hm
  have hbig : sumF d d.names ≤ 4611686018427387904 := by
    have h1 := sumF_le hg d.names
    have h2 := hg.nnames
    have h3 := hg.ops
    omega
  obtain ⟨T, hT⟩ : ∃ T, sizeD d = T := ⟨_, rfl⟩
  rw [hT]
  rw [sizeD_eq] at hT
  rw [hT] at hbig
  have HT := hd hT
  have H := hd h
  clear hT h q1
  go_enter Tryz.func52, Tryz.ntmps52
  go_wp2_with (at_range; refine wpRangeM rfl _ rfl nb _ rfl hm ?_; intro w1 hr1 hc1)
  have hlt1 := hr1.lt
  clear hm q2
  go_frame
  go_loopw [3, 5] (fun n _ wr => ∃ (t : Nat) (rest : Nm), n = .int .i64 (t : Int) ∧ t + sumF d rest = T ∧ MapRange wr nb w.heap.size d.names rest ∧ Chg [] w wr)
    (fun _ _ wr => wr.rangeLeft nb w.heap.size)
  case atStart => exact ⟨0, d.names, rfl, by rw [HT.out]; simp, hr1, hc1⟩
  case round =>
    obtain ⟨t, rest, rfl, ht, hr, hc⟩ := hrel
    have Ht := hd ht
    have h0 := H.out.k hc
    have q1 := hc.cellS Q1.out
    clear ht
    go_wp2_with (first
      | (at_next; refine wpNextM rfl _ rfl nb w.heap.size d.names rest rfl hr ?_ ?_)
      | fail)
    · rintro rfl
      have hTt : T = t := by have := Ht.out; simp [sumF] at this; omega
      subst hTt
      go_wp2_with fail
      go_ret
      exact ⟨rfl, hc⟩
    · intro k i w2 hmem hr2 hc2 hlt hen _
      have hcw : Chg [] w w2 := hc.trans hc2 (by simp)
      have hes := hr.sub _ hmem
      have hi : i < hs.length := by rw [H.out.len]; exact H.out.good.named _ hes
      have hi' : (i : Int) < (hs.length : Int) := by omega
      obtain ⟨g, c, rfl⟩ := H.out.slice (by omega)
      obtain ⟨ao, c', -, q3, -, q5⟩ := (H.out.k hcw).file hi
      have q1 := hcw.cellS Q1.out
      have hl : lenF d (k, i) = hs[i].2.1.length := by
        unfold lenF; rw [List.getD_eq_getElem?_getD]; simp only; rw [q5]; rfl
      have hsum := sumF_ndel d hr.nodup hmem
      rw [hl] at hsum
      generalize hs[i].2.1.length = n at *
      have htn : t + n + sumF d (ndel rest k) = T := by have := Ht.out; omega
      have HTN := hd htn
      have hov : ¬ 9223372036854775807 < (t : Int) + (n : Int) := by omega
      clear q5 hl hsum htn h0 Ht
      go_wp2_with fail
      go_roundw
      case rel => exact ⟨t + n, ndel rest k, by go_num, HTN.out, hr2, hcw⟩
      case measure => exact hlt
end Go.Proofs.YtbiadpkglcdihaaGreat

/- A file of the disk turned. -/
namespace Go.Proofs.YtbiadpkglcdihaaGreat
open Go.RowKit

variable {w w' : World} {fp : List Nat} {b : Nat} {fv cv : Value} {nb sb : Nat} {hs : List HF} {d : Dsk}

theorem GoodD.putF (h : GoodD d) (i : Nat) (f : List UInt8 × Nat) (hf : f.2 ≤ f.1.length ∧ (f.1.length : Int) ≤ d.room ∧ f.1.length ≤ 4294967296) : GoodD (setF d i f) := by
  have ⟨a0, a1, a2, a3, a4, a5, a6, a7, a8, a9, a10⟩ := h
  unfold setF
  refine { h with named := ?_, sured := ?_, turned := ?_, idx := ?_, files := ?_, nfiles := ?_ } <;> simp only [List.length_set]
  · exact a1
  · exact a2
  · exact a3
  · exact a4
  · intro x hx
    rcases List.mem_or_eq_of_mem_set hx with hx | rfl
    · exact a5 x hx
    · exact hf
  · exact a7
theorem map_set2 (hs : List HF) (i : Nat) (x : HF) : (hs.set i x).map (·.2) = (hs.map (·.2)).set i x.2 := by rw [List.map_set]
theorem pw_get {α : Type} {R : α → α → Prop} {l : List α} (h : l.Pairwise R) (hsym : ∀ a b, R a b → R b a) {i j : Nat} (hi : i < l.length) (hj : j < l.length) (hne : i ≠ j) : R l[i] l[j] := by
  rw [List.pairwise_iff_getElem] at h
  by_cases hlt : i < j
  · exact h i j hi hj hlt
  · exact hsym _ _ (h j i hj hi (by omega))
theorem pw_set {α : Type} {R : α → α → Prop} {l : List α} (h : l.Pairwise R) (hsym : ∀ a b, R a b → R b a) {i : Nat} {x : α} (hx : ∀ j (hj : j < l.length), j ≠ i → R x l[j]) : (l.set i x).Pairwise R := by
  rw [List.pairwise_iff_getElem] at h ⊢
  intro p q hp hq hpq
  simp only [List.length_set] at hp hq
  simp only [List.getElem_set]
  split
  · rename_i e
    subst e
    rw [if_neg (by omega)]
    exact hx q hq (by omega)
  · rename_i e
    split
    · rename_i e2
      subst e2
      exact hsym _ _ (hx p hp (by omega))
    · exact h p q hp hq hpq
def ApartV (f g : HF) : Prop := ∀ k, f.1.ownBlock = some k → g.1.ownBlock ≠ some k
theorem apartV_symm (f g : HF) (h : ApartV f g) : ApartV g f := fun k hk hk' => h k hk' hk

/-- How much of file i is sure. -/
theorem DkP.sureSet {g c : Nat} (h : DkP w fp b (.slice (some ⟨g, 0, none⟩) hs.length c) cv nb sb hs d) {i : Nat} (hi : i < hs.length) (n : Nat) (hn : n ≤ hs[i].2.1.length) :
    DkP (w.setCell ⟨g, i * 2 + 1, none⟩ (.int .i64 (n : Int))) fp b (.slice (some ⟨g, 0, none⟩) hs.length c) cv nb sb (hs.set i (hs[i].1, hs[i].2.1, n)) (setF d i (hs[i].2.1, n)) := by
  have hst := World.ownsRow.stored h.files (i * 2 + 1) (.int .i64 (n : Int))
  have hfi : d.files[i]? = some hs[i].2 := by rw [← h.same, List.getElem?_map, List.getElem?_eq_getElem hi]; rfl
  have hmem : hs[i].2 ∈ d.files := List.mem_of_getElem? hfi
  have hc : Chg [g] w (w.setCell ⟨g, i * 2 + 1, none⟩ (.int .i64 (n : Int))) := (Chg.refl _ _).setCell _ _ (by simp)
  have hbg : g ≠ b := by have := ownsRow_apart h.files h.box (by decide); simpa [Value.ownBlock] using this
  exact
  { box := h.box.chg hc (by simpa using fun e => hbg e.symm)
    names := h.names.chg hc (by have := h.names.apartRow h.files; simpa [Value.ownBlock] using fun e : nb = g => this (by simp [Value.ownBlock, e]))
    sure := h.sure.chg hc (by have := h.sure.apartRow h.files; simpa [Value.ownBlock] using fun e : sb = g => this (by simp [Value.ownBlock, e]))
    files := by
      rw [fileCells_set_sure hi, List.length_set]
      exact hst.1
    same := by rw [map_set2, h.same]; rfl
    changes := ownsRow_chg h.changes hc fun k hk => by have := ownsRow_ne2 h.changes h.files (by decide) k hk; simpa [Value.ownBlock] using fun e : k = g => this (by simp [Value.ownBlock, e])
    bytes := fun f hf => by
      have hk : ∀ f ∈ hs, OwB (w.setCell ⟨g, i * 2 + 1, none⟩ (.int .i64 (n : Int))) 0 f.1 f.2.1 := fun f hf => OwB.chg (h.bytes f hf) hc fun k hk => by
        have := ownsRow_ne2 (h.bytes f hf) h.files (by decide) k hk; simpa [Value.ownBlock] using fun e : k = g => this (by simp [Value.ownBlock, e])
      rcases List.mem_or_eq_of_mem_set hf with hf | rfl
      · exact hk f hf
      · exact hk hs[i] (List.getElem_mem hi)
    apart := pw_set (R := ApartV) h.apart apartV_symm fun j hj hne => pw_get (R := ApartV) h.apart apartV_symm hi hj (fun e => hne e.symm)
    ne := h.ne
    fpb := h.fpb
    fpn := h.fpn
    fps := h.fps
    fpf := h.fpf
    fpc := h.fpc
    fph := fun f hf k hk => by
      rcases List.mem_or_eq_of_mem_set hf with hf | rfl
      · exact h.fph f hf k hk
      · exact h.fph _ (List.getElem_mem hi) k hk
    fpl := fun k hk => Nat.lt_of_lt_of_le (h.fpl k hk) hc.size
    good := h.good.putF i _ ⟨hn, (h.good.files _ hmem).2⟩ }
/-- The bytes of file i. -/
theorem DkP.byteSet {g c : Nat} (h : DkP w fp b (.slice (some ⟨g, 0, none⟩) hs.length c) cv nb sb hs d) {i : Nat} (hi : i < hs.length) {v' : Value} {l' : List UInt8}
    (hc : Chg hs[i].1.ownBlock.toList w w') (hv : OwB w' 0 v' l') (hm : Moved w hs[i].1 v') (hg : GoodD (setF d i (l', hs[i].2.2))) :
    DkP (w'.setCell ⟨g, i * 2, none⟩ v') (v'.ownBlock.toList ++ fp) b (.slice (some ⟨g, 0, none⟩) hs.length c) cv nb sb (hs.set i (v', l', hs[i].2.2)) (setF d i (l', hs[i].2.2)) := by
  have hwi := h.bytes _ (List.getElem_mem hi)
  have hbg : g ≠ b := by have := ownsRow_apart h.files h.box (by decide); simpa [Value.ownBlock] using this
  have hib : b ∉ hs[i].1.ownBlock.toList := by simpa using ownsRow_apart hwi h.box (by decide)
  have hig : ∀ k, (Value.slice (some ⟨g, 0, none⟩) hs.length c).ownBlock = some k → k ∉ hs[i].1.ownBlock.toList := fun k hk => by simpa using ownsRow_ne2 h.files hwi (by decide) k hk
  have hbox : Blk w' b (boxCells (.slice (some ⟨g, 0, none⟩) hs.length c) cv nb sb d) 75 := h.box.chg hc hib
  have hfiles := ownsRow_chg h.files hc hig
  have hst := World.ownsRow.stored hfiles (i * 2) v'
  have hv2 : OwB (w'.setCell ⟨g, i * 2, none⟩ v') 0 v' l' := ownsRow_setCell_other hv (a := ⟨g, i * 2, none⟩) (fun e => ownsRow_ne2 hv hfiles (by decide) g e rfl) _
  have hset : ∀ {base size n : Nat} {v : Value} {xs : List Value} {e : TypeId}, e ≠ 85 → w'.ownsRow base e size v n xs → (w'.setCell ⟨g, i * 2, none⟩ v').ownsRow base e size v n xs := fun he h1 =>
    ownsRow_setCell_other h1 (a := ⟨g, i * 2, none⟩) (fun e => ownsRow_ne2 h1 hfiles he g e rfl) _
  have hoth : ∀ f ∈ hs, f.1.ownBlock.toList ≠ hs[i].1.ownBlock.toList ∨ f.1.ownBlock = none → OwB (w'.setCell ⟨g, i * 2, none⟩ v') 0 f.1 f.2.1 := fun f hf hx => hset (by decide) (OwB.chg (h.bytes f hf) hc fun k hk => by
    rcases hx with hx | hx
    · rw [hk] at hx; intro e; rw [Option.mem_toList] at e; exact hx (by rw [e])
    · rw [hk] at hx; cases hx)
  have hap : ∀ j (hj : j < hs.length), j ≠ i → ApartV (v', l', hs[i].2.2) hs[j] := fun j hj hne k hk hk' => by
    rcases hm with e | e
    · exact pw_get (R := ApartV) h.apart apartV_symm hi hj (fun e => hne e.symm) k (e ▸ hk) hk'
    · have := e k hk
      have := (World.ownsRow.lt (h.bytes _ (List.getElem_mem hj)) k hk').2
      omega
  exact
  { box := hbox.other (fun e => hbg e.symm) _
    names := (h.names.chg hc (by simpa using h.names.apartRow hwi)).set _ _ (fun e => h.names.apartRow h.files (by simp only [Value.ownBlock]; exact congrArg some e.symm))
    sure := (h.sure.chg hc (by simpa using h.sure.apartRow hwi)).set _ _ (fun e => h.sure.apartRow h.files (by simp only [Value.ownBlock]; exact congrArg some e.symm))
    files := by
      rw [fileCells_set_eq hi, List.length_set]
      exact hst.1
    same := by rw [map_set2, h.same]; rfl
    changes := hset (by decide) (ownsRow_chg h.changes hc fun k hk => by simpa using ownsRow_ne2 h.changes hwi (by decide) k hk)
    bytes := fun f hf => by
      obtain ⟨j, hj, rfl⟩ := List.getElem_of_mem hf
      simp only [List.length_set] at hj
      rw [List.getElem_set]
      split
      · exact hv2
      · rename_i hne
        refine hoth _ (List.getElem_mem hj) ?_
        rcases hb : hs[j].1.ownBlock with _ | k
        · exact .inr rfl
        · left
          intro e
          have := pw_get (R := ApartV) h.apart apartV_symm hj hi (fun e => hne e.symm) k hb
          rcases hb2 : hs[i].1.ownBlock with _ | k2
          · rw [hb2] at e; simp at e
          · rw [hb2] at e this
            simp at e
            exact this (by rw [e])
    apart := pw_set (R := ApartV) h.apart apartV_symm hap
    ne := h.ne
    fpb := by simp [h.fpb]
    fpn := by simp [h.fpn]
    fps := by simp [h.fps]
    fpf := fun k hk => by simp [h.fpf k hk]
    fpc := fun k hk => by simp [h.fpc k hk]
    fph := fun f hf k hk => by
      rcases List.mem_or_eq_of_mem_set hf with hf | rfl
      · simp [h.fph f hf k hk]
      · have hk : v'.ownBlock = some k := hk
        simp [hk]
    fpl := fun k hk => by
      rw [size_set]
      rcases List.mem_append.1 hk with hk | hk
      · exact (World.ownsRow.lt hv k (by simpa using hk)).2
      · exact Nat.lt_of_lt_of_le (h.fpl k hk) hc.size
    good := hg }
end Go.Proofs.YtbiadpkglcdihaaGreat

/- slices.Clone of bytes, maps.Clone of names. -/
namespace Go.Proofs.YtbiadpkglcdihaaGreat
open Go.RowKit

set_option maxHeartbeats 400000 in
theorem CloneB_any (w : World) (v : Value) (l : List UInt8) (hv : Bs w v l) (hl : l.length ≤ 140737488355328) :
    Calls Tryz.prog 43 #[v] w fun e w' => ∃ ao c, e = .returned (.slice ao l.length c) ∧ OwB w' w.heap.size (.slice ao l.length c) l ∧ Chg [] w w' := by
  obtain ⟨-, ao, cap, b, off, rfl, -, -, hn, -, -⟩ := id hv
  rcases ao with _ | a
  · obtain ⟨h0, rfl⟩ := hn rfl
    obtain rfl : l = [] := List.length_eq_zero_iff.1 h0
    clear hn h0 hv hl
    have hq := fun w => Lib.run_eql_slice_nil (P := Tryz.prog) w 39 5 none 0 0 0 0 undBytes
    go_enter Tryz.func43, Tryz.ntmps43
    go_wp2_with fail
    refine bodyPost_ret (v := .slice none 0 0) ?_ rfl ⟨none, 0, rfl, OwB.nil _ _, Chg.refl _ _⟩
    simp only [results]; go_simp
  · have hB : OwB (w.alloc (.cells #[] 5)) w.heap.size (.slice (some ⟨w.heap.size, 0, none⟩) 0 0) [] := World.ownsRow_lit w #[] 0 (Nat.le_refl _) (by decide) rfl
    have hv1 := hv.alloc (.cells #[] 5)
    clear hn hv
    have hq := fun w => Lib.run_eql_slice_nil (P := Tryz.prog) w 39 5 (some a) l.length cap 0 0 undBytes
    go_enter Tryz.func43, Tryz.ntmps43
    go_wp2_with (at_builtin; refine wpAppB rfl _ _ rfl w.heap.size _ _ rfl hB _ _ rfl hv1 (by simpa using hl) (by simp) ?_; intro ao1 c1 w1 h1 h2 h3)
    have hc : Chg [] w w1 := ((Chg.refl [] w).alloc _).app hB h2 (Nat.le_refl _)
    simp only [List.nil_append, List.length_nil, Nat.zero_add] at h1 ⊢
    refine bodyPost_ret (v := .slice ao1 l.length c1) ?_ rfl ⟨ao1, c1, rfl, h1, hc⟩
    simp only [results]; go_simp

set_option maxHeartbeats 2000000 in
set_option maxRecDepth 8000 in
theorem CloneM_any (w : World) (b : Nat) (es : Nm) (h : MapAt w b es) :
    Calls Tryz.prog 53 #[.map (some b)] w fun e w' => e = .returned (.map (some w.heap.size)) ∧ MapAt w' w.heap.size es ∧ Chg [] w w' := by
  obtain ⟨D, ⟨xs, clock, hb, F, hs, hD⟩, hr⟩ := h
  have hfin : MapAt (w.alloc (.map xs clock)) w.heap.size es := ⟨D, ⟨xs, clock, (MapKept.heap_alloc w _).1, F, hs, hD⟩, hr⟩
  have hc : Chg [] w (w.alloc (.map xs clock)) := (Chg.refl [] w).alloc _
  clear F hs hD hr
  have hq := fun w => run_eql_map_nil_sl (P := Tryz.prog) w 71 _ _ (some b) undMapN
  have hcon : Tryz.prog.concrete 71 = true := by kernel_rfl
  go_enter Tryz.func53, Tryz.ntmps53
  go_wp2
  rw [run_callFunc_extern Tryz.func85 (by kernel_rfl) (by kernel_rfl) (by kernel_rfl) (e := Extern.MapsClone.clone) (by kernel_rfl), run_maps_clone_sl w 71 hb]
  simp only [Result.andThen]
  rw [Oper.upon_value]
  go_wp2
  rw [run_typeAssert_map_sl _ 71 _ _ _ _ undMapN]
  simp only [Result.andThen]
  rw [Oper.upon_value]
  go_wp2
  go_ret
  exact ⟨rfl, hfin, hc⟩
end Go.Proofs.YtbiadpkglcdihaaGreat

/- Disk.Sync, DirSync, Read. -/
namespace Go.Proofs.YtbiadpkglcdihaaGreat
open Go.RowKit

variable {w w' : World} {fp : List Nat} {b : Nat} {fv cv : Value} {nb sb : Nat} {hs : List HF} {d : Dsk}

theorem files_get {w : World} (h : DkP w fp b fv cv nb sb hs d) {i : Nat} (hi : i < hs.length) : d.files.getD i ([], 0) = hs[i].2 := by
  rw [List.getD_eq_getElem?_getD, ← h.same, List.getElem?_map, List.getElem?_eq_getElem hi]; rfl

set_option maxHeartbeats 1000000 in
theorem Sync_any (h : Dk w fp b d) (s : List UInt8) (hsl : s.length ≤ 140737488355328) (hops : d.ops < 1073741824) :
    Calls Tryz.prog 37 #[.pointer (some ⟨b, 0, none⟩), .string (strB s)] w fun e w' => e = .returned (.int .i64 (syncE d s)) ∧ DkOut w fp b (syncD d s) w' := by
  obtain ⟨fv, cv, nb, sb, hs, h⟩ := h
  obtain ⟨CE, hCE⟩ : ∃ x, syncE d s = x := ⟨_, rfl⟩
  obtain ⟨CD, hCD⟩ : ∃ x, syncD d s = x := ⟨_, rfl⟩
  rw [hCE, hCD]
  have hCE2 := hCE
  unfold syncE at hCE2
  unfold syncD at hCD
  rw [hCE] at hCD
  clear hCE
  go_enter Tryz.func37, Tryz.ntmps37
  go_wp2_with fail
  refine (op_any h hops).mono ?_
  rintro e w1 ⟨rfl, h1, hc1, hz1⟩
  have hcf : Chg fp w w1 := hc1.mono (by simp only [List.mem_singleton]; rintro x rfl _; exact h.fpb)
  clear hc1 hz1 h
  by_cases hE : opE d = 0
  case neg =>
    rw [if_pos hE] at hCE2
    rw [if_pos (by rw [← hCE2]; exact hE)] at hCD
    subst hCD
    subst hCE2
    have hE' : (opE d == 0) = false := by simpa using hE
    clear hE
    go_wp2_with fail
    go_ret
    exact ⟨rfl, DkOut.same ⟨_, _, _, _, _, h1⟩ hcf⟩
  rw [if_neg (by simpa using hE)] at hCE2
  rw [hE]
  clear hE
  have hfind := find_any h1 s hsl
  have H1 := hd h1
  have HCF := hd hcf
  clear h1 hcf
  rcases hi : nget d.names s with _ | i
  · rw [show nget (opD d).names s = none from hi] at hfind
    rw [hi, if_pos (by rfl)] at hCE2
    subst hCE2
    rw [if_pos (by decide)] at hCD
    subst hCD
    go_wp2_with fail
    refine (hfind).mono ?_
    rintro e w2 ⟨rfl, rfl⟩
    go_wp2_with fail
    go_ret
    exact ⟨rfl, DkOut.same ⟨_, _, _, _, _, H1.out⟩ HCF.out⟩
  · rw [show nget (opD d).names s = some i from hi] at hfind
    rw [hi, if_neg (by simp)] at hCE2
    subst hCE2
    rw [if_neg (by decide), hi] at hCD
    have HCD := hd hCD
    clear hCD
    go_wp2_with fail
    refine (hfind).mono ?_
    rintro e w2 ⟨rfl, g, c, rfl, hlt, rfl⟩
    obtain ⟨ao, c', hv, q0, q1, -⟩ := H1.out.file hlt
    have f1 := World.ownsRow.frozenAt H1.out.files (i * 2 + 1)
    have hfin := H1.out.sureSet hlt _ (Nat.le_refl _)
    have hcd : setF (opD d) i (hs[i].2.1, hs[i].2.1.length) = CD := by
      rw [← HCD.out]
      show _ = setF (opD d) i ((d.files.getD i ([], 0)).1, (d.files.getD i ([], 0)).1.length)
      rw [show d.files.getD i ([], 0) = hs[i].2 from files_get H1.out hlt]
    rw [hcd] at hfin
    have hch : Chg fp w2 (w2.setCell ⟨g, i * 2 + 1, none⟩ (.int .i64 (hs[i].2.1.length : Int))) := (Chg.refl _ _).setCell _ _ (fun _ => H1.out.fpf g rfl)
    have FIN := hd (DkOut.same ⟨_, _, _, _, _, hfin⟩ (HCF.out.trans hch (fun _ h _ => h)))
    clear hcd hch hfin hv
    generalize hs[i].2.1.length = n at *
    go_wp2_with fail
    go_ret
    exact ⟨rfl, FIN.out⟩

def ReadOut (w : World) (fp : List Nat) (b : Nat) (d : Dsk) (s : List UInt8) (e : Ending) (w' : World) : Prop :=
  ∃ ao n c, e = .returned (.tuple #[.slice ao n c, .int .i64 (syncE d s)]) ∧ OwB w' w.heap.size (.slice ao n c) (if syncE d s = 0 then bytesD d s else []) ∧ Dk w' fp b (opD d) ∧ Chg [b] w w'

set_option maxHeartbeats 1000000 in
theorem Read_any (h : Dk w fp b d) (s : List UInt8) (hsl : s.length ≤ 140737488355328) (hops : d.ops < 1073741824) :
    Calls Tryz.prog 14 #[.pointer (some ⟨b, 0, none⟩), .string (strB s)] w (ReadOut w fp b d s) := by
  obtain ⟨fv, cv, nb, sb, hs, h⟩ := h
  obtain ⟨CE, hCE⟩ : ∃ x, syncE d s = x := ⟨_, rfl⟩
  have hbad : ∀ (e : Ending) (w' : World), CE ≠ 0 → DkP w' fp b fv cv nb sb hs (opD d) → Chg [b] w w' → e = .returned (.tuple #[.slice none 0 0, .int .i64 CE]) → ReadOut w fp b d s e w' := by
    intro e w' hne h1 h2 he
    unfold ReadOut
    rw [hCE]
    exact ⟨none, 0, 0, he, by rw [if_neg hne]; exact OwB.nil _ _, ⟨_, _, _, _, _, h1⟩, h2⟩
  have hgood : ∀ (e : Ending) (w' : World), CE = 0 → DkP w' fp b fv cv nb sb hs (opD d) → Chg [b] w w' → ∀ ao n c, OwB w' w.heap.size (.slice ao n c) (bytesD d s) → e = .returned (.tuple #[.slice ao n c, .int .i64 CE]) → ReadOut w fp b d s e w' := by
    intro e w' hz h1 h2 ao n c h3 he
    unfold ReadOut
    rw [hCE]
    exact ⟨ao, n, c, he, by rw [if_pos hz]; exact h3, ⟨_, _, _, _, _, h1⟩, h2⟩
  have HBAD := hd hbad
  have HGOOD := hd hgood
  clear hbad hgood
  unfold syncE at hCE
  go_enter Tryz.func14, Tryz.ntmps14
  go_wp2_with fail
  refine (op_any h hops).mono ?_
  rintro e w1 ⟨rfl, h1, hc1, hz1⟩
  clear h
  by_cases hE : opE d = 0
  case neg =>
    rw [if_pos hE] at hCE
    subst hCE
    have hE' : (opE d == 0) = false := by simpa using hE
    have HE := hd hE
    clear hE
    have H1 := hd h1
    clear h1
    go_wp2_with fail
    refine bodyPost_ret (v := .tuple #[.slice none 0 0, .int .i64 (opE d)]) ?_ rfl ?_
    · simp only [results]; go_simp
    · exact HBAD.out _ _ HE.out H1.out hc1 rfl
  rw [if_neg (by simpa using hE)] at hCE
  rw [hE]
  clear hE
  have hfind := find_any h1 s hsl
  have H1 := hd h1
  clear h1
  rcases hi : nget d.names s with _ | i
  · rw [show nget (opD d).names s = none from hi] at hfind
    rw [hi, if_pos (by rfl)] at hCE
    subst hCE
    go_wp2_with fail
    refine (hfind).mono ?_
    rintro e w2 ⟨rfl, rfl⟩
    go_wp2_with fail
    refine bodyPost_ret (v := .tuple #[.slice none 0 0, .int .i64 4]) ?_ rfl ?_
    · simp only [results]; go_simp
    · exact HBAD.out _ _ (by decide) H1.out hc1 rfl
  · rw [show nget (opD d).names s = some i from hi] at hfind
    rw [hi, if_neg (by simp)] at hCE
    subst hCE
    go_wp2_with fail
    refine (hfind).mono ?_
    rintro e w2 ⟨rfl, g, c, rfl, hlt, rfl⟩
    obtain ⟨ao, c', hv, q0, q1, -⟩ := H1.out.file hlt
    have hby := H1.out.bytes _ (List.getElem_mem hlt)
    rw [hv] at hby
    have hbd : bytesD d s = hs[i].2.1 := by unfold bytesD; rw [hi]; show (d.files.getD i ([], 0)).1 = _; rw [show d.files.getD i ([], 0) = hs[i].2 from files_get H1.out hlt]
    have hll := (H1.out.good.files _ (List.mem_of_getElem? (H1.out.file hlt).choose_spec.choose_spec.2.2.2)).2.2
    have HBD := hd hbd
    have hbs := hby.bs
    have hz := hc1.size
    clear hby hv hbd q1 hi hfind
    generalize hs[i].2.1 = l at *
    clear hlt
    go_wp2_with fail
    refine (CloneB_any _ _ l hbs (by omega)).mono ?_
    rintro e w3 ⟨ao3, c3, rfl, hb3, hc3⟩
    have H3 := hd (H1.out.k hc3)
    have hcc := hc1.trans hc3 (by simp)
    go_wp2_with fail
    refine bodyPost_ret (v := .tuple #[.slice ao3 l.length c3, .int .i64 0]) ?_ rfl ?_
    · simp only [results]; go_simp
    · exact HGOOD.out _ _ (by trivial) H3.out hcc ao3 l.length c3 (by rw [HBD.out]; exact hb3.mono hz) rfl

set_option maxHeartbeats 1000000 in
theorem DirSync_any (h : Dk w fp b d) (hops : d.ops < 1073741824) :
    Calls Tryz.prog 39 #[.pointer (some ⟨b, 0, none⟩)] w fun e w' => e = .returned (.int .i64 (opE d)) ∧ DkOut w fp b (dirSyncD d) w' := by
  obtain ⟨fv, cv, nb, sb, hs, h⟩ := h
  obtain ⟨CD, hCD⟩ : ∃ x, dirSyncD d = x := ⟨_, rfl⟩
  rw [hCD]
  unfold dirSyncD at hCD
  go_enter Tryz.func39, Tryz.ntmps39
  go_wp2_with fail
  refine (op_any h hops).mono ?_
  rintro e w1 ⟨rfl, h1, hc1, hz1⟩
  have hcf : Chg fp w w1 := hc1.mono (by simp only [List.mem_singleton]; rintro x rfl _; exact h.fpb)
  clear hc1 hz1 h
  by_cases hE : opE d = 0
  case neg =>
    rw [if_pos hE] at hCD
    subst hCD
    have hE' : (opE d == 0) = false := by simpa using hE
    have HD := hd (DkOut.same ⟨_, _, _, _, _, h1⟩ hcf)
    clear hE h1 hcf
    go_wp2_with fail
    go_ret
    exact ⟨rfl, HD.out⟩
  rw [if_neg (by simpa using hE)] at hCD
  rw [hE]
  have HE := hd hE
  clear hE
  have HCD := hd hCD
  clear hCD
  have q2 := h1.box.cell 2
  simp [boxCells] at q2
  have hm : MapAt w1 nb d.names := h1.names
  have H1 := hd h1
  have HCF := hd hcf
  clear h1 hcf
  go_wp2_with fail
  refine (CloneM_any w1 nb d.names hm).mono ?_
  rintro e w2 ⟨rfl, hm2, hc2⟩
  have hz := hc2.size
  have H2 := hd (H1.out.k hc2)
  have HCF2 := hd (HCF.out.trans hc2 (by simp))
  have hbx := H2.out.box
  have q3 := hbx.cell 3
  have f3 := hbx.free 3
  have hb2 := hbx.set 3 (.map (some w1.heap.size))
  have q4 := hb2.cell 4
  have f4 := hb2.free 4
  simp [boxCells] at q3 q4
  have FIN : DkOut w fp b CD ((w2.setCell ⟨b, 3, none⟩ (.map (some w1.heap.size))).setCell ⟨b, 4, none⟩ (.slice none 0 0)) := by
    have hgood : GoodD CD := by
      rw [← HCD.out]
      have hg := H1.out.good
      refine { hg with sured := hg.named, turned := by simp, idx := by simp, nchanges := ?_, clens := by simp }
      simpa [opD] using hg.nnames
    have hch : Chg [b] w2 ((w2.setCell ⟨b, 3, none⟩ (.map (some w1.heap.size))).setCell ⟨b, 4, none⟩ (.slice none 0 0)) := ((Chg.refl _ _).setCell _ _ (by simp)).setCell _ _ (by simp)
    have D := H2.out
    refine DkOut.mk (fp' := w1.heap.size :: fp) ⟨fv, .slice none 0 0, nb, w1.heap.size, hs, ?_⟩ (HCF2.out.trans hch (by simp only [List.mem_singleton]; rintro x rfl _; exact H1.out.fpb)) ?_
    · rw [← HCD.out] at hgood ⊢
      exact
      { box := hb2.set 4 _
        names := (D.names.set _ _ (D.names.apart D.box)).set _ _ (D.names.apart D.box)
        sure := (hm2.set _ _ (hm2.apart D.box)).set _ _ (hm2.apart D.box)
        files := ownsRow_chg D.files hch fun k hk => by have := ownsRow_apart D.files D.box (by decide); rw [hk] at this; simpa using this
        same := D.same
        changes := World.ownsRow_nil _ _ _ _
        bytes := fun f hf => OwB.chg (D.bytes f hf) hch fun k hk => by have := ownsRow_apart (D.bytes f hf) D.box (by decide); rw [hk] at this; simpa using this
        apart := D.apart
        ne := fun e => by have := H1.out.names.lt; omega
        fpb := by simp [D.fpb]
        fpn := by simp [D.fpn]
        fps := by simp
        fpf := fun k hk => by simp [D.fpf k hk]
        fpc := by simp [Value.ownBlock]
        fph := fun f hf k hk => by simp [D.fph f hf k hk]
        fpl := fun k hk => by
          rw [size_set, size_set]
          rcases List.mem_cons.1 hk with rfl | hk
          · exact hm2.lt
          · exact D.fpl k hk
        good := hgood }
    · intro k hk
      rcases List.mem_cons.1 hk with rfl | hk
      · exact .inr HCF.out.size
      · exact .inl hk
  have HFIN := hd FIN
  clear FIN hm2 hc2 hbx hm
  go_wp2_with fail
  go_ret
  exact ⟨by rw [HE.out]; rfl, HFIN.out⟩
end Go.Proofs.YtbiadpkglcdihaaGreat

/- Disk.Append, Bend. -/
namespace Go.Proofs.YtbiadpkglcdihaaGreat
open Go.RowKit

variable {w w' : World} {fp : List Nat} {b : Nat} {fv cv : Value} {nb sb : Nat} {hs : List HF} {d : Dsk}

set_option maxHeartbeats 2000000 in
theorem Append_any (h : Dk w fp b d) (s : List UInt8) (hsl : s.length ≤ 140737488355328) (hops : d.ops < 1073741824) (v : Value) (l : List UInt8) (hl : Bs w v l) (hll : l.length ≤ 4294967296)
    (hvf : 0 < l.length → ∀ k, v.ownBlock = some k → k ∉ fp) (hroom : (bytesD d s).length + l.length ≤ 4294967296 ∨ d.room ≤ 4294967296) :
    Calls Tryz.prog 20 #[.pointer (some ⟨b, 0, none⟩), .string (strB s), v] w fun e w' => e = .returned (.int .i64 (appendE d s l)) ∧ DkOut w fp b (appendD d s l) w' := by
  obtain ⟨fv, cv, nb, sb, hs, h⟩ := h
  obtain ⟨aov, capv, bv, ofv, rfl, -⟩ := hl.open
  obtain ⟨CE, hCE⟩ : ∃ x, appendE d s l = x := ⟨_, rfl⟩
  obtain ⟨CD, hCD⟩ : ∃ x, appendD d s l = x := ⟨_, rfl⟩
  rw [hCE, hCD]
  have hCE2 := hCE
  unfold appendE at hCE2
  unfold appendD at hCD
  rw [hCE] at hCD
  clear hCE
  go_enter Tryz.func20, Tryz.ntmps20
  go_wp2_with fail
  refine (op_any h hops).mono ?_
  rintro e w1 ⟨rfl, h1, hc1, hz1⟩
  have hl1 := hl.keep hc1 (fun hp k hk => by simpa using fun e => hvf hp k hk (by rw [e]; exact h.fpb))
  have hcf : Chg fp w w1 := hc1.mono (by simp only [List.mem_singleton]; rintro x rfl _; exact h.fpb)
  clear hc1 hz1 h hl
  by_cases hE : opE d = 0
  case neg =>
    rw [if_pos hE] at hCE2
    rw [if_pos (by rw [← hCE2]; exact hE)] at hCD
    subst hCD
    subst hCE2
    have hE' : (opE d == 0) = false := by simpa using hE
    have HD := hd (DkOut.same ⟨_, _, _, _, _, h1⟩ hcf)
    clear hE h1 hcf hl1
    go_wp2_with fail
    go_ret
    exact ⟨rfl, HD.out⟩
  rw [if_neg (by simpa using hE)] at hCE2
  rw [hE]
  clear hE
  have hfind := find_any h1 s hsl
  have H1 := hd h1
  have HCF := hd hcf
  have HL1 := hd hl1
  clear h1 hcf hl1
  rcases hi : nget d.names s with _ | i
  · rw [show nget (opD d).names s = none from hi] at hfind
    rw [hi, if_pos (by rfl)] at hCE2
    subst hCE2
    rw [if_pos (by decide)] at hCD
    subst hCD
    go_wp2_with fail
    refine (hfind).mono ?_
    rintro e w2 ⟨rfl, rfl⟩
    go_wp2_with fail
    go_ret
    exact ⟨rfl, DkOut.same ⟨_, _, _, _, _, H1.out⟩ HCF.out⟩
  · rw [show nget (opD d).names s = some i from hi] at hfind
    rw [hi, if_neg (by simp)] at hCE2
    rw [hi] at hCD
    have hbd : bytesD d s = (d.files.getD i ([], 0)).1 := by unfold bytesD; rw [hi]
    have hLT : (bytesD d s).length ≤ sizeD d := by
      have hn : (d.names.map (·.1)).Nodup := let ⟨_, _, hr⟩ := H1.out.names; hr.nodup
      have := sumF_ndel d hn (nget_some_mem hi)
      rw [sizeD_eq, this, hbd]
      show _ ≤ _ + (d.files.getD i ([], 0)).1.length
      omega
    have HBD := hd hbd
    have HCD := hd hCD
    have HCE := hd hCE2
    clear hCD hCE2 hbd hi
    go_wp2_with fail
    refine (hfind).mono ?_
    rintro e w2 ⟨rfl, g, c, rfl, hlt, rfl⟩
    clear hfind
    have hsz : sizeD (opD d) ≤ 4611686018427387904 := by
      have hg := H1.out.good
      have h1 := sumF_le hg (opD d).names
      have h2 := hg.nnames
      have h3 := hg.ops
      rw [sizeD_eq]
      omega
    have hrm := H1.out.good.room
    have hrm' : (opD d).room = d.room := rfl
    rw [hrm'] at hrm
    have hszd : sizeD (opD d) = sizeD d := rfl
    rw [hszd] at hsz
    have HS := hd (fun wx (hx : Chg [] w2 wx) => Size_any (H1.out.k hx))
    rw [hszd] at HS
    have q0 := H1.out.box.cell 0
    simp [boxCells] at q0
    rw [hrm'] at q0
    have Q0 := hd q0
    clear q0
    clear hszd hrm'
    generalize sizeD d = T at *
    go_upto_region 7 with (fail)
    have hwr : IntKind.i64.wrap ((T : Int) + (l.length : Int)) = (T : Int) + (l.length : Int) := by rw [IntKind.wrap_i64]; omega
    refine rg (N := 11) (by kernel_rfl) (by kernel_rfl) (S := (fun wx => Chg [] w2 wx)) ((Chg.refl _ _).drew) (fun hHeld => ?_)
    refine tks [0, 2, 3, 5, 6, 7, 8] (by kernel_rfl) (fun _ _ _ _ _ h => h) (by assumption) ?_
    iterate 7 (refine tkc rfl rfl (by rfl) (fun wx hSw => by (try dsimp only at hSw); (have t0 := Chg.cellS hSw Q0.out); go_simp; (try with_reducible rfl)) ?_; simp only [List.set])
    refine tk0 ?_
    refine rn 1 rfl (by kernel_rfl) (by rfl) fun KK hKK => ?_
    go_simp; (refine (HS.out _ hHeld).mono ?_; rintro e w3 ⟨rfl, hc3⟩; have hm3 := Chg.k hHeld hc3; clear hc3; (try go_simp)); refine hKK.out _ _ (by assumption) fun hHeld => ?_; clear hKK KK; try simp only [Act.put, List.setIfInBounds_toArray, List.set]
    refine rn 4 rfl (by kernel_rfl) (by rfl) fun KK hKK => ?_
    go_simp; refine hKK.out _ _ (by assumption) fun hHeld => ?_; clear hKK KK; try simp only [Act.put, List.setIfInBounds_toArray, List.set]
    refine rn 9 rfl (by kernel_rfl) (by rfl) fun KK hKK => ?_
    go_simp; refine hKK.out _ _ (by assumption) fun hHeld => ?_; clear hKK KK; try simp only [Act.put, List.setIfInBounds_toArray, List.set]
    refine rn 10 rfl (by kernel_rfl) (by rfl) fun KK hKK => ?_
    go_simp; refine hKK.out _ _ (by assumption) fun hHeld => ?_; clear hKK KK; try simp only [Act.put, List.setIfInBounds_toArray, List.set]
    refine wpAnyH_done (by kernel_rfl) ?_ _
    clear HS Q0
    try rw [hwr]
    by_cases hbig : d.room < (T : Int) + (l.length : Int)
    · have hx := HCE.out
      rw [if_pos hbig] at hx
      subst hx
      have hy := HCD.out
      rw [if_pos (by decide)] at hy
      subst hy
      have FIN := hd (DkOut.same ⟨_, _, _, _, _, H1.out.k hm3⟩ (HCF.out.trans hm3 (by simp)))
      clear hm3
      go_wp2_with fail
      go_ret
      exact ⟨rfl, FIN.out⟩
    · have hx := HCE.out
      rw [if_neg hbig] at hx
      subst hx
      have hy := HCD.out
      rw [if_neg (by decide)] at hy
      have HY := hd hy
      clear hy HCE HCD
      go_upto_region 9 with (fail)
      have H3 := hd (H1.out.k hm3)
      have HCF3 := hd (HCF.out.trans hm3 (by simp))
      have hl3 := HL1.out.k hm3
      obtain ⟨ao, c', hv, q0, q1, hfi⟩ := H3.out.file hlt
      have hby := H3.out.bytes _ (List.getElem_mem hlt)
      rw [hv] at hby
      have hgf := H3.out.good.files _ (List.mem_of_getElem? hfi)
      have hbl : bytesD d s = hs[i].2.1 := by rw [HBD.out, show d.files.getD i ([], 0) = hs[i].2 from files_get H3.out hlt]
      have hcd : setF (opD d) i (hs[i].2.1 ++ l, hs[i].2.2) = CD := by
        rw [← HY.out, show d.files.getD i ([], 0) = hs[i].2 from files_get H3.out hlt]
      rw [hbl] at hLT hroom
      have hnew : (hs[i].2.1.length + l.length : Nat) ≤ 4294967296 ∧ ((hs[i].2.1.length + l.length : Nat) : Int) ≤ d.room := by omega
      have hgood : GoodD (setF (opD d) i (hs[i].2.1 ++ l, hs[i].2.2)) := H3.out.good.putF i _ ⟨by rw [List.length_append]; have := hgf.1; omega, by rw [List.length_append]; exact hnew.2, by rw [List.length_append]; exact hnew.1⟩
      have HBS := hd (fun (w4 : World) (v' : Value) (hc : Chg hs[i].1.ownBlock.toList w3 w4) (hv : OwB w4 0 v' (hs[i].2.1 ++ l)) (hm : Moved w3 hs[i].1 v') => H3.out.byteSet hlt hc hv hm hgood)
      rw [hcd, hv] at HBS
      have hgn := ownsRow_ne2 hby H3.out.files (by decide)
      have HRF := hd H3.out.files
      have hne : (Value.slice (some ⟨g, 0, none⟩) hs.length c).ownBlock ≠ (Value.slice ao hs[i].2.1.length c').ownBlock := fun e => hgn g (by rw [← e]; rfl) rfl
      have hcap : hs[i].2.1.length + l.length ≤ 140737488355328 := by omega
      have hjlt : i * 2 < hs.length * 2 := by omega
      have hcx := (fileCells_get hs i hlt).1
      have HCX := hd hcx
      have HFN := hd (H3.out.fpf g rfl)
      have hfy : ∀ k, (Value.slice ao hs[i].2.1.length c').ownBlock = some k → k ∈ fp := fun k hk => H3.out.fph _ (List.getElem_mem hlt) k (by rw [hv]; exact hk)
      have HFY := hd hfy
      clear hfi hgf hbl hcd hLT hroom hnew hgood q1 hgn hcx hfy H1 HCF HL1 hm3
      go_wp2_with (at_builtin; refine wpAppB rfl _ _ rfl 0 _ _ rfl hby _ l rfl hl3 hcap (Nat.zero_le _) ?_; intro ao4 c4 w4 hr4 hg4 hm4; have hrow4 := World.ownsRow.kept HRF.out hg4 (.inr hne); have q4 := World.ownsRow.cellAt hrow4 (i * 2) hjlt; rw [HCX.out] at q4; have f4 := World.ownsRow.frozenAt hrow4 (i * 2))
      have hfin := HBS.out w4 _ (Chg.ofGrown hg4) hr4 hm4
      have hch : Chg fp w3 (w4.setCell ⟨g, i * 2, none⟩ (.slice ao4 (hs[i].2.1.length + l.length) c4)) := ((Chg.refl _ _).grown hg4 (fun k hk _ => HFY.out k hk)).setCell _ _ (fun _ => HFN.out)
      have FIN := hd (DkOut.mk ⟨_, _, _, _, _, hfin⟩ (HCF3.out.trans hch (fun _ h _ => h)) ((Gr.refl fp w).trans (Gr.cons hm4 HFY.out) HCF3.out.size))
      go_ret
      exact ⟨rfl, FIN.out⟩
end Go.Proofs.YtbiadpkglcdihaaGreat

/- A disk that the call made itself. -/
namespace Go.Proofs.YtbiadpkglcdihaaGreat
open Go.RowKit

theorem DkOut.chg {w w' : World} {fp : List Nat} {b : Nat} {d : Dsk} (h : DkOut w fp b d w') : Chg fp w w' := let ⟨_, _, h, _⟩ := h; h
theorem Dk.fpl {w : World} {fp : List Nat} {b : Nat} {d : Dsk} (h : Dk w fp b d) : ∀ k ∈ fp, k < w.heap.size := let ⟨_, _, _, _, _, h⟩ := h; h.fpl
/-- In w there is a disk d at b, all of whose blocks came up behind w0; nothing of w0 has turned. -/
def DS (w0 w : World) (b : Nat) (d : Dsk) : Prop := ∃ fp, Dk w fp b d ∧ Chg [] w0 w ∧ ∀ k ∈ fp, w0.heap.size ≤ k
theorem DkOut.ds {w0 w w' : World} {fp : List Nat} {b : Nat} {d' : Dsk} (h : DkOut w fp b d' w') (hc : Chg [] w0 w) (hf : ∀ k ∈ fp, w0.heap.size ≤ k) : DS w0 w' b d' := by
  obtain ⟨fp', h1, h2, h3⟩ := h
  have hz := hc.size
  refine ⟨fp', h1, hc.trans h2 (fun x hx hl => by have := hf x hx; omega), fun k hk => ?_⟩
  rcases h3 k hk with h | h
  · exact hf k h
  · omega
theorem DS.chg {w0 w : World} {b : Nat} {d : Dsk} (h : DS w0 w b d) : Chg [] w0 w := let ⟨_, _, h, _⟩ := h; h
theorem DS.k {w0 w w' : World} {b : Nat} {d : Dsk} (h : DS w0 w b d) (hc : Chg [] w w') : DS w0 w' b d :=
  let ⟨fp, h1, h2, h3⟩ := h; ⟨fp, h1.k hc, h2.k hc, h3⟩
theorem DS.new {w w' : World} {d : Dsk} {b : Nat} {fp : List Nat} (h1 : Dk w' fp b d) (h2 : Chg [] w w') (h3 : ∀ k ∈ fp, w.heap.size ≤ k) : DS w w' b d := ⟨fp, h1, h2, h3⟩
theorem DS.same {w0 w w' : World} {fp : List Nat} {b : Nat} {d d' : Dsk} (h : Dk w' fp b d') (hw : Dk w fp b d) (hc : Chg [] w0 w) (hf : ∀ k ∈ fp, w0.heap.size ≤ k) (hb : Chg [b] w w') : DS w0 w' b d' := by
  have hz := hc.size
  refine ⟨fp, h, hc.trans hb (fun x hx hl => ?_), hf⟩
  obtain rfl : x = b := by simpa using hx
  obtain ⟨_, _, _, _, _, hp⟩ := hw
  have := hf x hp.fpb
  omega

end Go.Proofs.YtbiadpkglcdihaaGreat
