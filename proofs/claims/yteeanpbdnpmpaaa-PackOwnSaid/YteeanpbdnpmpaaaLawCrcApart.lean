/- CrcApart: for every input the law returns true. -/
import Derived.Test.YteeanpbdnpmpaaaCrcApartMath
import Derived.Test.YteeanpbdnpmpaaaCrcAdd
import Derived.Test.YteeanpbdnpmpaaaCrcFit
namespace Go.Proofs.Yteeanpbdnpmpaaa
open Go.RowKit
attribute [local go_sem] andFFFF u8_xor'

theorem Calls.quietW {P : Program} {f : FuncId} {args : Array Value} {w : World} {n : Nat} {v : Value}
    (h : Calls P f args (w.drewN n) fun e w' => e = .returned v ∧ w.drewN n = w') : Calls P f args (w.drewN n) fun e w'' => e = .returned v ∧ ∃ m, w'' = w.drewN m :=
  h.mono fun _ _ ⟨he, hm⟩ => ⟨he, n, hm.symm⟩
theorem Bs.drewN {w : World} {v : Value} {l : List UInt8} (h : Bs w v l) (n : Nat) : Bs (w.drewN n) v l := h.stays ((Chg.refl [] w).drewN n)

theorem idx4_0 (x0 x1 x2 x3 : UInt8) (W : World) : (Instr.index 28 (.agg #[.int .u8 (n8 x0), .int .u8 (n8 x1), .int .u8 (n8 x2), .int .u8 (n8 x3)]) (.int .i64 0)).run Try.prog W = .ok (.int .u8 (n8 x0)) W := by kernel_rfl
theorem idx4_1 (x0 x1 x2 x3 : UInt8) (W : World) : (Instr.index 28 (.agg #[.int .u8 (n8 x0), .int .u8 (n8 x1), .int .u8 (n8 x2), .int .u8 (n8 x3)]) (.int .i64 1)).run Try.prog W = .ok (.int .u8 (n8 x1)) W := by kernel_rfl
theorem idx4_2 (x0 x1 x2 x3 : UInt8) (W : World) : (Instr.index 28 (.agg #[.int .u8 (n8 x0), .int .u8 (n8 x1), .int .u8 (n8 x2), .int .u8 (n8 x3)]) (.int .i64 2)).run Try.prog W = .ok (.int .u8 (n8 x2)) W := by kernel_rfl
theorem idx4_3 (x0 x1 x2 x3 : UInt8) (W : World) : (Instr.index 28 (.agg #[.int .u8 (n8 x0), .int .u8 (n8 x1), .int .u8 (n8 x2), .int .u8 (n8 x3)]) (.int .i64 3)).run Try.prog W = .ok (.int .u8 (n8 x3)) W := by kernel_rfl

set_option maxRecDepth 100000 in
set_option maxHeartbeats 1000000 in
theorem CrcApart_law (v0 : Value) (l0 : List UInt8) (at_ : Int) (x0 x1 x2 x3 : UInt8) (w : World) (h0 : Bs w v0 l0) (_hl0 : l0.length ≤ 140737488351232) (_lo : -9223372036854775808 ≤ at_) (_hi : at_ ≤ 9223372036854775807) :
    Calls Try.prog 4 #[v0, .int .i64 at_, .agg #[.int .u8 (n8 x0), .int .u8 (n8 x1), .int .u8 (n8 x2), .int .u8 (n8 x3)]] w fun e w' => e = .returned (.bool true) ∧ Chg [] w w' := by
  obtain ⟨ao0, cap0, b0, off0, rfl, -⟩ := h0.open
  by_cases hbig : 1000 < (l0.length : Int)
  · go_enter Try.func4, Try.ntmps4
    go_wp2_with fail
    refine (fit13_any _).mono ?_
    rintro e w1 ⟨rfl, hc1⟩
    go_wp2_with fail
    go_ret
    exact ⟨rfl, ((Chg.refl _ _).alloc _).trans hc1 (by simp)⟩
  by_cases hnil : l0 = []
  · subst hnil
    go_enter Try.func4, Try.ntmps4
    go_wp2_with fail
    refine (fit13_any _).mono ?_
    rintro e w1 ⟨rfl, hc1⟩
    go_wp2_with fail
    go_ret
    exact ⟨rfl, ((Chg.refl _ _).alloc _).trans hc1 (by simp)⟩
  have hpos : 0 < l0.length := List.length_pos_iff.2 hnil
  have hz0 : ((l0.length : Int) == 0) = false := by simp; omega
  clear hnil
  go_enter Try.func4, Try.ntmps4
  go_wp2_with fail
  have hblk := Blk.new w #[.int .u8 (n8 x0), .int .u8 (n8 x1), .int .u8 (n8 x2), .int .u8 (n8 x3)] 28
  refine (fit13_any _).mono ?_
  rintro e w1 ⟨rfl, hc1⟩
  have hc1' : Chg [] w w1 := ((Chg.refl _ _).alloc _).trans hc1 (by simp)
  have hc1s : w.heap.size ≤ w1.heap.size := hc1'.size
  have hb1 := hblk.chg hc1 (by simp)
  have g0 := h0.stays hc1'
  obtain ⟨K, hK⟩ : ∃ K : Nat, at_ % 65536 % (l0.length : Int) = K := ⟨(at_ % 65536 % (l0.length : Int)).toNat, by rw [Int.toNat_of_nonneg]; exact Int.emod_nonneg _ (by omega)⟩
  have hKl : K < l0.length := by have := Int.emod_lt_of_pos (at_ % 65536) (show (0 : Int) < (l0.length : Int) by omega); omega
  go_wp2_with (refine wpClone rfl _ rfl _ _ rfl g0 (by omega) ?_; intro ao c w2 k1 k2; have hc2 := hc1'.trans k2 (by simp); have hb2 := hb1.chg k2 (by simp); have q0 := hb2.cell 0; have q1 := hb2.cell 1; have q2 := hb2.cell 2; have q3 := hb2.cell 3; simp at q0 q1 q2 q3)
  rw [hK]
  obtain ⟨xs, hxs⟩ : ∃ xs, xs = [x0, x1, x2, x3] := ⟨_, rfl⟩
  have hx4 : xs.length = 4 := by rw [hxs]; rfl
  have hget : ∀ (k : Nat) (h : k < xs.length) (W : World), (Instr.index 28 (.agg #[.int .u8 (n8 x0), .int .u8 (n8 x1), .int .u8 (n8 x2), .int .u8 (n8 x3)]) (.int .i64 k)).run Try.prog W = .ok (.int .u8 (n8 xs[k])) W := by
    subst hxs
    intro k h W
    have hk : k = 0 ∨ k = 1 ∨ k = 2 ∨ k = 3 := by simp at h; omega
    rcases hk with rfl | rfl | rfl | rfl
    · exact idx4_0 x0 x1 x2 x3 W
    · exact idx4_1 x0 x1 x2 x3 W
    · exact idx4_2 x0 x1 x2 x3 W
    · exact idx4_3 x0 x1 x2 x3 W
  have HX4 := hd hx4
  clear hxs hx4 q0 q1 q2 q3 hb2 hb1 hblk hK hc1 hc1' k2
  have hlb := hd (show l0.length ≤ 1000 by omega)
  go_loopw [9, 10, 29] (fun _ _ i wr => ∃ k : Nat, ∃ cur : List UInt8, k ≤ 4 ∧ i = .int .i64 k ∧ OwB wr w1.heap.size (.slice ao l0.length c) cur ∧ Chg [] w wr ∧ cur.length = l0.length ∧ bent cur (K + k) (xs.drop k) = bent l0 K xs)
    (fun _ _ i _ => 4 - (intOf i).toNat)
  case atStart => exact ⟨0, l0, by omega, rfl, k1, hc2, rfl, rfl⟩
  case round =>
    obtain ⟨k, cur, hk, rfl, hown, hch, hcl, hbent⟩ := hrel
    have Hcl := hd hcl
    have Hb := hd hbent
    by_cases hlt : k < 4
    · have hkx : k < xs.length := by rw [HX4.out]; exact hlt
      have hidx := hget k hkx
      have hS : bent cur (K + k) (xs.drop k) = bent (if K + k < cur.length then cur.set (K + k) (cur.getD (K + k) 0 ^^^ xs[k]) else cur) (K + (k + 1)) (xs.drop (k + 1)) := by
        rw [List.drop_eq_getElem_cons hkx, bent]; rfl
      rw [hcl] at hS
      have HS := hd hS
      clear hS hget hbent
      by_cases hin : K + k < l0.length
      · obtain ⟨g, rfl, -, hg1, hg2⟩ := hown.addr (by omega)
        have hkc : K + k < cur.length := by omega
        have hcell := hown.cell (K + k) hkc
        have hfree := hown.free (K + k)
        have hset := hown.set (K + k) (cur[K + k] ^^^ xs[k])
        have hgd : cur.getD (K + k) 0 = cur[K + k] := by rw [List.getD_eq_getElem?_getD, List.getElem?_eq_getElem hkc]; rfl
        have Hgd := hd hgd
        clear hgd hcl
        generalize cur[K + k] = y at *
        generalize xs[k] = x at *
        have hsz := hc2.size
        have hb1s : w.heap.size ≤ g := by have := hd hc1s; have := this.out; omega
        go_wp2
        go_roundw
        case rel =>
          refine ⟨k + 1, cur.set (K + k) (y ^^^ x), by omega, by go_num, hset, hch.setCell _ _ (by simp; omega), by rw [List.length_set]; exact Hcl.out, ?_⟩
          rw [← Hb.out, HS.out, if_pos hin, Hgd.out]
        case measure => simp [intOf]; omega
      · clear hcl
        generalize xs[k] = x at *
        go_wp2
        go_roundw
        case rel => exact ⟨k + 1, cur, by omega, by go_num, hown, hch, Hcl.out, by rw [← Hb.out, HS.out, if_neg hin]⟩
        case measure => simp [intOf]; omega
    · have hk4 : k = 4 := by omega
      subst hk4
      have hcur : cur = bent l0 K xs := by
        have := Hb.out
        rw [List.drop_eq_nil_of_le (by rw [HX4.out]; omega), bent] at this
        exact this
      have hiff := bent_apart l0 K (by omega) xs HX4.out
      rw [← hcur] at hiff
      have hb0 := fun n => (h0.stays hch).drewN n
      have hb1 := fun n => hown.bs.drewN n
      have hs0 := fun n => run_str (hb0 n)
      have hs1 := fun n => run_str (hb1 n)
      have hbeq : ((n32 (crcSum l0) == n32 (crcSum cur)) == (l0 == cur)) = true := by
        rw [n32_beq]
        by_cases he : l0 = cur
        · rw [beq_iff_eq.2 he, beq_iff_eq.2 (hiff.2 he)]; rfl
        · rw [beq_eq_false_iff_ne.2 he, beq_eq_false_iff_ne.2 (mt hiff.1 he)]; rfl
      have Hbeq := hd hbeq
      have HB0 := hd hb0
      have HB1 := hd hb1
      clear hcl hbent hget hcur hiff hbeq hb0 hb1
      go_wp2_with fail
      go_quiet (first | (go_at_call 16; exact Calls.quietW (Sum_any _ _ _ (HB0.out _))) | (go_at_call 16; exact Calls.quietW (Sum_any _ _ _ (HB1.out _))))
      go_wp2_with fail
      go_ret
      exact ⟨ret_of (congrArg Value.bool Hbeq.out), hch.drewN _⟩
end Go.Proofs.Yteeanpbdnpmpaaa
