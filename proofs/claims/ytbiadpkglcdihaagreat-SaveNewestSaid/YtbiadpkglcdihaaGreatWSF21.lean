/- Words and walks that SF rests on: Fit20. -/
import Derived.Test.YtbiadpkglcdihaaGreatWSF19
import Derived.Test.YtbiadpkglcdihaaGreatWSF20
/- law20.fit: true. -/
namespace Go.Proofs.YtbiadpkglcdihaaGreat
open Go.RowKit

set_option maxRecDepth 100000 in
set_option maxHeartbeats 4000000 in
theorem fit20_any (w : World) : Calls Tryz.prog 9 #[] w fun e w' => e = .returned (.bool true) ∧ Chg [] w w' := by
  have hnew := DNew_any w 1048576 (by decide)
  have hl48 : (leW W0).length = 48 := by kernel_rfl
  have hput := put_new (d := newD 1048576) (room := 1048576) (n := 0) (b := frameB W0.tick (leW W0)) ⟨rfl, rfl, rfl⟩ rfl (.inl rfl) (by rw [frameB_length, hl48]; decide)
  obtain ⟨hp1, hp2, hp3⟩ := hput
  have hP := fun W b (h : DkN w W b (newD 1048576)) => Put_N h _ _ _ _ W0 (W0_parts w) W0_GW.fit rfl 0 rfl (by decide) (by decide) (by decide)
  rw [hp1] at hP
  have hL0i : LoadIs (putD (newD 1048576) 0 (frameB W0.tick (leW W0))).2 0 0 W0 := .inr (.inr ⟨hp2.bytes.2, by rw [hp2.bytes.1]; exact oneB_frame 0 _ (by decide) (by decide) (by rw [hl48]; decide), rfl, W0_GW, rfl, rfl⟩)
  have hL1i : LoadIs (opD (putD (newD 1048576) 0 (frameB W0.tick (leW W0))).2) 1 4 WZ := by
    have e : syncE (opD (putD (newD 1048576) 0 (frameB W0.tick (leW W0))).2) (chkB 1) = 4 := by
      obtain ⟨k, h1, -⟩ := hp2.op.names
      unfold syncE
      rw [hp2.op.q.e, h1, if_neg (by simp), if_pos]
      unfold nget
      have : chkB 0 ≠ chkB 1 := by decide
      simp [this]
    exact .inl ⟨by rw [e]; decide, e.symm, rfl⟩
  have hsz : (bytesD (putD (newD 1048576) 0 (frameB W0.tick (leW W0))).2 (chkB 0)).length ≤ 140737488354000 := by rw [hp2.bytes.1, frameB_length, hl48]; decide
  have hsz1 : (bytesD (opD (putD (newD 1048576) 0 (frameB W0.tick (leW W0))).2) (chkB 1)).length ≤ 140737488354000 := by
    obtain ⟨k, h1, -⟩ := hp2.op.names
    unfold bytesD
    rw [h1]
    have : chkB 0 ≠ chkB 1 := by decide
    simp [nget, this]
  have ho0 : (opD (putD (newD 1048576) 0 (frameB W0.tick (leW W0))).2).ops ≤ 8 := by have : (newD 1048576).ops = 0 := rfl; unfold opD; simp only; omega
  generalize putD (newD 1048576) 0 (frameB W0.tick (leW W0)) = PD at *
  obtain ⟨p1, D1⟩ := PD
  simp only at hp1 hp2 hp3 hP hL0i hL1i hsz hsz1 ho0
  have hL0 := fun W b (h : DkN w W b D1) => Load_N h 0 (by decide) (by have : (newD 1048576).ops = 0 := rfl; omega) hsz 0 W0 hL0i
  have hL1 := fun W b (h : DkN w W b (opD D1)) => Load_N h 1 (by decide) (by omega) hsz1 4 WZ hL1i
  clear hl48 hp1 hp2 hp3 hL0i hL1i hsz hsz1 ho0
  go_enter Tryz.func9, Tryz.ntmps9
  go_upto_region 2 with (go_at_call 11; refine hnew.mono ?_; rintro e w1 ⟨b, fp, rfl, hD, hc, hb⟩)
  have hN := DkN.new hD hc hb
  clear hD hc hb hnew
  go_upto_region 4 with (first
    | (go_at_call 29; refine (WNew_any _).mono ?_; rintro e w2 ⟨rfl, h2⟩)
    | (go_at_call 12; refine (hP _ _ (hN.k h2)).mono ?_; rintro e w3 ⟨rfl, hN3⟩))
  have hA0 := hL0 w3 b hN3
  clear hP hL0 hN hN3 h2
  go_upto_region 5 with (go_at_call 17; refine hA0.mono ?_; rintro e w4 ⟨bv5, jv5, kv5, L5, rfl, hx, hap, hN4, -⟩; obtain ⟨a6, c6, rfl, -, -⟩ := Rd.form (by decide) hx.b.rd; obtain ⟨a7, c7, rfl, -, -⟩ := Rd.form (by decide) hx.j; obtain ⟨a8, c8, rfl, -, -⟩ := Rd.form (by decide) hx.c; rw [show ∀ x y z, vW W0 x y z = .agg #[.int .i64 0, .int .i64 1, .int .i64 1, .int .i64 0, .int .i64 0, x, y, z] from fun _ _ _ => rfl]; go_simp)
  have hk5 := Blk.new w4 #[.int .i64 0, .int .i64 1, .int .i64 1, .int .i64 0, .int .i64 0, .slice a6 L5.length c6, .slice a7 W0.joints.length c7, .slice a8 W0.contacts.length c8] 32
  have hN5 := hN4.k ((Chg.refl [] w4).alloc (.cells #[.int .i64 0, .int .i64 1, .int .i64 1, .int .i64 0, .int .i64 0, .slice a6 L5.length c6, .slice a7 W0.joints.length c7, .slice a8 W0.contacts.length c8] 32))
  have hX5 := hx.k ((Chg.refl [] w4).alloc (.cells #[.int .i64 0, .int .i64 1, .int .i64 1, .int .i64 0, .int .i64 0, .slice a6 L5.length c6, .slice a7 W0.joints.length c7, .slice a8 W0.contacts.length c8] 32))
  have hbl : b < w4.heap.size := hN4.lt
  clear hA0 hN4 hx
  generalize w4.alloc (.cells #[.int .i64 0, .int .i64 1, .int .i64 1, .int .i64 0, .int .i64 0, .slice a6 L5.length c6, .slice a7 W0.joints.length c7, .slice a8 W0.contacts.length c8] 32) = w5 at *
  obtain ⟨kb, hkb⟩ : ∃ kb, kb = w4.heap.size := ⟨_, rfl⟩
  rw [← hkb] at hk5 hbl ⊢
  clear hkb
  have hA1 := hL1 w5 b hN5
  have HBL := hd hbl
  have HAP := hd hap
  clear hL1 hN5 hbl hap
  go_upto_region 6 with (go_at_call 17; refine hA1.mono ?_; rintro e w6 ⟨bv6, jv6, kv6, L6, rfl, hz, -, hN6, h6⟩; obtain ⟨b6, d6, rfl, -, -⟩ := Rd.form (by decide) hz.b.rd; obtain ⟨b7, d7, rfl, -, -⟩ := Rd.form (by decide) hz.j; obtain ⟨b8, d8, rfl, -, -⟩ := Rd.form (by decide) hz.c; rw [show ∀ x y z, vW WZ x y z = .agg #[.int .i64 0, .int .i64 0, .int .i64 0, .int .i64 0, .int .i64 0, x, y, z] from fun _ _ _ => rfl]; go_simp)
  have HK7 := hd ((hk5.chg h6 (by have := HBL.out; simp; omega)).alloc (.cells #[.int .i64 0, .int .i64 0, .int .i64 0, .int .i64 0, .int .i64 0, .slice b6 L6.length d6, .slice b7 WZ.joints.length d7, .slice b8 WZ.contacts.length d8] 32))
  have HX7 := hd ((hX5.chg h6 HAP.out).k ((Chg.refl [] w6).alloc (.cells #[.int .i64 0, .int .i64 0, .int .i64 0, .int .i64 0, .int .i64 0, .slice b6 L6.length d6, .slice b7 WZ.joints.length d7, .slice b8 WZ.contacts.length d8] 32)))
  have HN7 := hd (hN6.k ((Chg.refl [] w6).alloc (.cells #[.int .i64 0, .int .i64 0, .int .i64 0, .int .i64 0, .int .i64 0, .slice b6 L6.length d6, .slice b7 WZ.joints.length d7, .slice b8 WZ.contacts.length d8] 32)))
  clear hA1 hN6 hX5 hk5 hz h6
  generalize w6.alloc (.cells #[.int .i64 0, .int .i64 0, .int .i64 0, .int .i64 0, .int .i64 0, .slice b6 L6.length d6, .slice b7 WZ.joints.length d7, .slice b8 WZ.contacts.length d8] 32) = w7 at *
  have HSM := hd (fun W (hW : Chg [] w7 W) => WSame_any W _ _ W0 W0 ⟨_, _, _, _, rfl, HX7.out.k hW⟩ (W0_reads W) (by decide))
  rw [show vW W0 (.slice a6 L5.length c6) (.slice a7 W0.joints.length c7) (.slice a8 W0.contacts.length c8) = .agg #[.int .i64 0, .int .i64 1, .int .i64 1, .int .i64 0, .int .i64 0, .slice a6 L5.length c6, .slice a7 W0.joints.length c7, .slice a8 W0.contacts.length c8] from rfl] at HSM
  refine rg (N := 12) (by kernel_rfl) (by kernel_rfl) (S := (fun wx => Chg [] w7 wx)) ((Chg.refl _ _).drew) (fun hHeld => ?_)
  generalize w7.drew = w7d at *
  refine tks [0, 1, 2, 3, 4, 5, 6, 7] (by kernel_rfl) (fun _ _ _ _ _ h => h) (by assumption) ?_
  iterate 7 (refine tkc rfl rfl (by rfl) (fun wx hSw => by (try dsimp only at hSw); go_simp; (try with_reducible rfl)) ?_; simp only [List.set])
  refine tkc rfl rfl (by rfl) (fun wx hSw => by (try dsimp only at hSw); (refine exec_load_row (x := .tmp 2) (t := 32) ?_ ?_ (HK7.out.k hSw) Tryz.underlying32 rfl (by kernel_rfl) <;> rfl)) ?_; simp only [List.set]
  refine tk0 ?_
  refine rn 8 rfl (by kernel_rfl) (by rfl) fun KK hKK => ?_
  go_simp; (refine (WNew_any _).mono ?_; rintro e w8 ⟨rfl, hm0⟩; have hm := Chg.k' hHeld hm0; clear hm0; (try go_simp)); refine hKK.out _ _ (by assumption) fun hHeld => ?_; clear hKK KK; try simp only [Act.put, List.setIfInBounds_toArray, List.set]
  refine rn 9 rfl (by kernel_rfl) (by rfl) fun KK hKK => ?_
  go_simp; (refine (HSM.out _ hHeld).mono ?_; rintro e w9 ⟨⟨r, rfl, hr⟩, hm9⟩; have hm := Chg.k' hHeld hm9; obtain rfl : r = true := hr.2 rfl; (try go_simp)); refine hKK.out _ _ (by assumption) fun hHeld => ?_; clear hKK KK; try simp only [Act.put, List.setIfInBounds_toArray, List.set]
  refine rn 10 rfl (by kernel_rfl) (by rfl) fun KK hKK => ?_
  go_simp; refine hKK.out _ _ (by assumption) fun hHeld => ?_; clear hKK KK; try simp only [Act.put, List.setIfInBounds_toArray, List.set]
  refine rn 11 rfl (by kernel_rfl) (by rfl) fun KK hKK => ?_
  go_simp; refine hKK.out _ _ (by assumption) fun hHeld => ?_; clear hKK KK; try simp only [Act.put, List.setIfInBounds_toArray, List.set]
  refine wpAnyH_done (by kernel_rfl) ?_ _
  skip
  go_wp2_with fail
  go_ret
  exact ⟨rfl, HN7.out.c.k hHeld⟩
end Go.Proofs.YtbiadpkglcdihaaGreat
