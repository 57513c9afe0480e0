/- Words and walks that Codec rests on: LawCodecCounts. -/
import Derived.Test.YtlicefbgcoddbaaWCodec35
import Derived.Test.YtlicefbgcoddbaaWCodec33
/- CodecCounts: for every input the law returns true. -/
namespace Go.Proofs.Ytlicefbgcoddbaa
open Go.RowKit

theorem wf_i8 {z : Int} (h : (Lit.int .i8 z).wf = true) : -128 ≤ z ∧ z ≤ 127 := by
  simp [Lit.wf, IntKind.min, IntKind.max, IntKind.signed, IntKind.bits] at h
  omega
set_option maxRecDepth 100000 in
set_option maxHeartbeats 1500000 in
theorem CodecCounts_law (x : UInt8) (y : Int) (w : World) (_hlo : -128 ≤ y) (_hhi : y ≤ 127) :
    Calls Try.prog 4 #[.int .u8 (n8 x), .int .i8 y] w fun e w' => e = .returned (.bool true) ∧ Chg [] w w' := by
  have hq1 : y.tmod 20 < 20 := Int.tmod_lt_of_pos y (by omega)
  have hq0 : -20 < y.tmod 20 := by have := Int.lt_tmod_of_pos y (b := 20) (by omega); omega
  have hx0 := n8_lo x
  have hx1 := n8_hi x
  generalize n8 x = a at *
  go_enter Try.func4, Try.ntmps4
  go_wp2_with fail
  refine (fit15_any _).mono ?_
  rintro e w1 ⟨rfl, h1⟩
  go_upto_region 5 with (fail)
  obtain ⟨k, hk⟩ : ∃ k : Nat, (k : Int) = 60 + a % 10 := ⟨(60 + a % 10).toNat, by omega⟩
  have hk1 : 60 ≤ k ∧ k ≤ 69 := by omega
  rw [← hk]
  generalize a % 10 = a10 at *
  have HK := hd hk
  clear hk hx0 hx1
  have hw0 : WrT 41 (w1.alloc (.cells #[.slice none 0 0] 41)) w1.heap.size w1.heap.size [] := ⟨_, Blk.new _ _ _, OwB.nil _ _⟩
  have hc0 := (Chg.refl [] w1).alloc (.cells #[.slice none 0 0] 41)
  have hsz : (w1.alloc (.cells #[.slice none 0 0] 41)).heap.size = w1.heap.size + 1 := by simp
  obtain ⟨B, hB⟩ : ∃ B, B = w1.heap.size := ⟨_, rfl⟩
  rw [← hB] at hw0 hsz ⊢
  have HB := hd hB
  generalize w1.alloc (.cells #[.slice none 0 0] 41) = w0 at *
  have HC0 := hd hc0
  have HBB : Hd (B ≤ w0.heap.size) := hd (by omega)
  clear hB hc0 hsz
  go_wp2_with (go_at_call 10; refine (WTNum_any _ (by decide) 2 k B B _ _ hw0 (Nat.le_refl _) (by omega) (by omega) (by simp)).mono ?_; rintro e w2 ⟨rfl, hw2, hf2⟩)
  have HW := hd hw2
  have HF := hd hf2
  clear hw0 hw2 hf2
  go_loopw [21] (fun i wr => ∃ j : Nat, j ≤ k ∧ i = .int .i64 j ∧ WrT 41 wr B B (leB 2 k ++ pulls j) ∧ Fr B B w0 wr)
    (fun i _ => k - (intOf i).toNat)
  case atStart => exact ⟨0, by omega, rfl, by simpa [pulls] using HW.out, HF.out⟩
  case round =>
    clear HW HF
    obtain ⟨j, hj, rfl, hW, hF⟩ := hrel
    have hlen : (leB 2 k ++ pulls j).length = 2 + 17 * j := by rw [List.length_append, pulls_length, leB_length]
    have HLN := hd hlen
    clear hlen
    by_cases hlt : j < k
    · have HFF := hd hF
      clear hF
      go_wp2_with (first
        | (go_at_call 10; refine (WTNum_any _ (by decide) 1 6 B B _ _ hW (Nat.le_refl _) (by omega) (by omega) (by rw [HLN.out]; omega)).mono ?_; rintro e w3 ⟨rfl, hW3, hf3⟩; have hV := VsS.fr (base := B) (b := B) (l := [(5, 0)]) (n := 1) (Blk.new w3 #[.int .i64 5, .int .i64 0] 30) (by decide) (by have := hW3.lt; omega) rfl rfl (by simp); have hW4 := hW3.k ((Chg.refl [] w3).alloc (.cells #[.int .i64 5, .int .i64 0] 30)); have hf4 := hf3.trans (Fr.chg (base := B) (b := B) ((Chg.refl [] w3).alloc (.cells #[.int .i64 5, .int .i64 0] 30)) (by have := hW3.lt; omega)))
        | (go_at_call 11; refine (WTV_any _ (by decide) B B _ _ [(5, 0)] _ hW4 (Nat.le_refl _) hV (by rw [List.length_append, HLN.out]; simp; omega)).mono ?_; rintro e w5 ⟨rfl, hW5, hf5⟩))
      go_roundw
      case rel => exact ⟨j + 1, by omega, by go_num, by rw [pulls_snoc]; simpa [pullB] using hW5, (HFF.out.trans hf4).trans hf5⟩
      case measure => simp [intOf]; omega
    · have hjn : j = k := by omega
      subst hjn
      have HFF := hd hF
      clear hF hlt hj
      obtain ⟨LL, hLL⟩ : ∃ LL, LL = leB 2 j ++ pulls j := ⟨_, rfl⟩
      have hrd := readB_pulls j j (by omega) (by omega)
      rw [← hLL] at hW HLN hrd
      have HLL := hd hLL
      clear hLL
      have HRD := hd hrd
      clear hrd
      have hchg : Chg [] w1 wr := Chg.ofBelow (HB.out ▸ ((HB.out ▸ HC0.out.new : Below B w1 w0).trans HFF.out.below))
      have HCH := hd (h1.k' hchg)
      clear hchg h1
      go_upto_region 11 with (go_at_call 12; refine (WTBytes_any _ B B _ _ hW (by rw [HLN.out]; omega)).mono ?_; rintro e w6 ⟨ao, c, rfl, ho, h6⟩)
      have HC6 := hd (HCH.out.k' h6)
      obtain ⟨g, rfl, -⟩ := ho.addr (by rw [HLN.out]; omega)
      have HO := hd ho
      have hg6 := (ho.lo g rfl)
      have HG := hd hg6
      have hwsz := HCH.out.size
      clear HCH h6 ho hg6 hW
      go_wp2_with fail
      refine (ReadBatch_any _ _ LL HO.out.bs).mono ?_
      rintro e w7 ⟨hout, h7⟩
      have HC7 := hd (HC6.out.k' h7)
      have HWW : Hd (w.heap.size ≤ wr.heap.size) := hd hwsz
      have hO7 := HO.out.k h7
      have HO7 := hd hO7
      have hcell := hO7.cell 0 (by rw [HLN.out]; omega)
      have hfree := hO7.free 0
      clear h7 hO7
      have hl0 : (0 : Int) < (LL.length : Int) := by rw [HLN.out]; omega
      by_cases hk64 : j ≤ 64
      · rcases hout with ⟨hn, rfl⟩ | ⟨L, v, hb, hL64, rfl, hos, -⟩
        · rw [HRD.out, if_pos ⟨hk64, trivial⟩] at hn; cases hn
        rw [HRD.out, if_pos ⟨hk64, trivial⟩] at hb
        have hLl : L.length = j := by
          have := congrArg (Option.map List.length) hb
          simp at this
          exact this.symm
        obtain ⟨av, cv, rfl, -⟩ := hos.form
        rw [hLl]
        clear hb hos hLl hL64
        have hI : (j : Int) ≤ 64 := by omega
        go_upto_region 15 with (fail)
        obtain ⟨c', hc'⟩ : ∃ c' : Nat, (c' : Int) = j + y.tmod 20 := ⟨(j + y.tmod 20).toNat, by omega⟩
        rw [← hc']
        have ho8 := HO7.out.set 0 (UInt8.ofInt c')
        rw [n8_ofInt, show (c' : Int) % 256 = c' by omega] at ho8
        have hset : LL.set 0 (UInt8.ofInt c') = leB 2 c' ++ pulls j := by
          rw [HLL.out]
          simp only [leB, List.cons_append, List.nil_append, List.set_cons_zero]
          rw [show (c' : Int) / 256 = 0 by omega, show (j : Int) / 256 = 0 by omega]
        have hl8 : (leB 2 c' ++ pulls j).length = LL.length := by rw [← hset]; simp
        rw [hset] at ho8
        obtain ⟨L8, hL8⟩ : ∃ L8, L8 = leB 2 (c' : Int) ++ pulls j := ⟨_, rfl⟩
        rw [← hL8] at ho8 hl8
        have hb8 := ho8.bs
        have hr8 := readB_pulls c' j (by omega) (by omega)
        rw [← hL8] at hr8
        clear hL8
        have h8 : Chg [] w6 (w7.setCell ⟨g, 0, none⟩ (.int .u8 c')) ∨ True := .inr trivial
        have hC8 := HC7.out.setCell ⟨g, 0, none⟩ (.int .u8 c') (fun hx => absurd hx (by have := HG.out; have := HWW.out; simp; omega))
        generalize w7.setCell ⟨g, 0, none⟩ (.int .u8 c') = w8 at *
        have HC8 := hd hC8
        have HCC := hd hc'
        have HR8 := hd hr8
        clear ho8 hset h8 hC8 hr8 hcell hfree
        clear hl8 hc'
        go_wp2_with fail
        refine (ReadBatch_any _ _ L8 hb8).mono ?_
        rintro e w9 ⟨hout, h9⟩
        have HC9 := hd (HC8.out.k' h9)
        clear h9 hb8
        rcases hout with ⟨hn, rfl⟩ | ⟨L2, v2, hb2, -, rfl, hos2, -⟩
        · rw [HR8.out] at hn
          have hne : y.tmod 20 ≠ 0 := fun he => by
            have : c' = j := by have := HCC.out; omega
            rw [if_pos ⟨by omega, this⟩] at hn; cases hn
          clear hn
          go_wp2_with (fail)
          go_ret
          exact ⟨rfl, HC9.out⟩
        · rw [HR8.out] at hb2
          have hne : y.tmod 20 = 0 := by
            by_cases h : c' ≤ 64 ∧ c' = j
            · have := HCC.out; omega
            · rw [if_neg h] at hb2; cases hb2
          clear hb2
          go_wp2_with (fail)
          go_ret
          exact ⟨rfl, HC9.out⟩
      · rcases hout with ⟨hn, rfl⟩ | ⟨L, v, hb, hL64, rfl, hos, -⟩
        · have hI : ¬ (j : Int) ≤ 64 := by omega
          have hD : decide ((j : Int) ≤ 64) = false := decide_eq_false hI
          go_upto_region 15 with (fail)
          obtain ⟨c', hc'⟩ : ∃ c' : Nat, (c' : Int) = j + y.tmod 20 := ⟨(j + y.tmod 20).toNat, by omega⟩
          rw [← hc']
          have ho8 := HO7.out.set 0 (UInt8.ofInt c')
          rw [n8_ofInt, show (c' : Int) % 256 = c' by omega] at ho8
          have hset : LL.set 0 (UInt8.ofInt c') = leB 2 c' ++ pulls j := by
            rw [HLL.out]
            simp only [leB, List.cons_append, List.nil_append, List.set_cons_zero]
            rw [show (c' : Int) / 256 = 0 by omega, show (j : Int) / 256 = 0 by omega]
          have hl8 : (leB 2 c' ++ pulls j).length = LL.length := by rw [← hset]; simp
          rw [hset] at ho8
          obtain ⟨L8, hL8⟩ : ∃ L8, L8 = leB 2 (c' : Int) ++ pulls j := ⟨_, rfl⟩
          rw [← hL8] at ho8 hl8
          have hb8 := ho8.bs
          have hr8 := readB_pulls c' j (by omega) (by omega)
          rw [← hL8] at hr8
          clear hL8
          have h8 : Chg [] w6 (w7.setCell ⟨g, 0, none⟩ (.int .u8 c')) ∨ True := .inr trivial
          have hC8 := HC7.out.setCell ⟨g, 0, none⟩ (.int .u8 c') (fun hx => absurd hx (by have := HG.out; have := HWW.out; simp; omega))
          generalize w7.setCell ⟨g, 0, none⟩ (.int .u8 c') = w8 at *
          have HC8 := hd hC8
          have HCC := hd hc'
          have HR8 := hd hr8
          clear ho8 hset h8 hC8 hr8 hcell hfree
          clear hl8 hc'
          go_wp2_with fail
          refine (ReadBatch_any _ _ L8 hb8).mono ?_
          rintro e w9 ⟨hout, h9⟩
          have HC9 := hd (HC8.out.k' h9)
          clear h9 hb8
          rcases hout with ⟨hn, rfl⟩ | ⟨L2, v2, hb2, -, rfl, hos2, -⟩
          · clear hn
            by_cases hne : y.tmod 20 = 0
            · go_wp2_with (fail)
              go_ret
              exact ⟨rfl, HC9.out⟩
            · go_wp2_with (fail)
              go_ret
              exact ⟨rfl, HC9.out⟩
          · rw [HR8.out, if_neg (fun h => by have := h.1; have := h.2; omega)] at hb2; cases hb2
        rw [HRD.out, if_neg (fun hh => hk64 hh.1)] at hb; cases hb
end Go.Proofs.Ytlicefbgcoddbaa
