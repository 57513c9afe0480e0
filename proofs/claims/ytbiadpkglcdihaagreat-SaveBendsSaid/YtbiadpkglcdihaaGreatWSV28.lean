/- Words and walks that SV rests on: LawSaveBends. -/
import Derived.Test.YtbiadpkglcdihaaGreatWSV23
import Derived.Test.YtbiadpkglcdihaaGreatWSV25
import Derived.Test.YtbiadpkglcdihaaGreatWSV27
/- SaveBends: for every input the law returns true. -/
namespace Go.Proofs.YtbiadpkglcdihaaGreat
open Go.RowKit

set_option maxRecDepth 100000 in
set_option maxHeartbeats 8000000 in
theorem SaveBends_law (v : Value) (l : List DV) (at_ : Int) (mask : UInt32) (w : World) (hl : DsS w v l) (hI : ∀ x ∈ l, ID x.1) (_lo : -9223372036854775808 ≤ at_) (_hi : at_ ≤ 9223372036854775807) :
    Calls Tryz.prog 3 #[v, .int .i64 at_, .int .u32 (n32 mask)] w fun e w' => e = .returned (.bool true) ∧ Chg [] w w' := by
  obtain ⟨P, hP⟩ : ∃ P : Ending → World → Prop, P = fun e w' => e = .returned (.bool true) ∧ Chg [] w w' := ⟨_, rfl⟩
  rw [← hP]
  have HP := hd hP
  clear hP
  obtain ⟨a, hla, ha⟩ : ∃ a : Nat, at_ % 1048576 = (a : Int) ∧ a < 1048576 := ⟨(at_ % 1048576).toNat, by omega, by omega⟩
  have u20 : bits .and .i64 at_ 1048575 = (a : Int) := by rw [← hla]; exact and_mask at_ 20 (by decide)
  clear hla _lo _hi
  obtain ⟨av, cv, rfl, -, -⟩ := Rd.form (by decide) hl.rd
  have hAt := fun W (hW : Chg [] w W) => At_any W _ l 9 ⟨by decide, by decide⟩ (hl.k hW) hI
  obtain ⟨hG, hC⟩ := atW_GW (l.map (·.1)) (fun x hx => by obtain ⟨y, hy, rfl⟩ := List.mem_map.1 hx; exact hI y hy) 9
  have hn : (atW (l.map (·.1)) 9).tick = ((9 : Nat) : Int) := rfl
  generalize atW (l.map (·.1)) 9 = X at *
  have HAT := hd hAt
  have HG := hd hG
  have HCN := hd hC
  have HTK := hd hn
  clear hAt hG hC hn hl hI
  go_enter Tryz.func3, Tryz.ntmps3
  go_upto_region 3 with (go_at_call 9; refine (fit20_any _).mono ?_; rintro e w1 ⟨rfl, h1⟩)
  go_upto_region 4 with (first
    | (go_at_call 10; refine (HAT.out _ h1).mono ?_; rintro e w2 ⟨bv, jv, kv, L, rfl, hA2, -, h2⟩; rw [show vW X bv jv kv = .agg (wC X bv jv kv) from rfl]; have kA := Blk.new w2 #[.int .i64 0, .int .i64 0, .int .i64 0, .int .i64 0, .int .i64 0, .slice none 0 0, .slice none 0 0, .slice none 0 0] 32; have hall := wC_all hA2)
    | (refine wpList_store_row rfl _ _ _ rfl w2.heap.size (wC X bv jv kv) rfl rfl 32 _ kA (by kernel_rfl) rfl hall ?_))
  have hc3 : Chg [] w2 ((w2.alloc (.cells #[.int .i64 0, .int .i64 0, .int .i64 0, .int .i64 0, .int .i64 0, .slice none 0 0, .slice none 0 0, .slice none 0 0] 32)).setRow w2.heap.size (wC X bv jv kv)) := Chg.row ((Chg.refl [] w2).alloc _) w2.heap.size _ (fun h => absurd h (Nat.lt_irrefl _))
  have k3 := kA.row (cs' := wC X bv jv kv)
  generalize (w2.alloc (.cells #[.int .i64 0, .int .i64 0, .int .i64 0, .int .i64 0, .int .i64 0, .slice none 0 0, .slice none 0 0, .slice none 0 0] 32)).setRow w2.heap.size (wC X bv jv kv) = w3 at *
  obtain ⟨ta, hta⟩ : ∃ ta, ta = w2.heap.size := ⟨_, rfl⟩
  rw [← hta] at k3 ⊢
  have HK3 := hd k3
  have HA3 := hd (hA2.k hc3)
  have HC3 := hd ((h1.k h2).k hc3)
  clear hta kA k3 hc3 hA2 h2 h1 hall HAT
  have hnew := DNew_any w3 1048576 (by decide)
  go_upto_region 5 with (go_at_call 11; refine hnew.mono ?_; rintro e w4 ⟨b, fp, rfl, hD, hc, hb⟩)
  have hN := DkN.new hD hc hb
  have HN4 := hd hN
  clear hD hc hb hN hnew
  obtain ⟨FB, hFB⟩ : ∃ FB, FB = frameB X.tick (leW X) := ⟨_, rfl⟩
  have HFB := hd hFB
  have HFL := hd (show FB.length ≤ 270020 by have := leW_small X HG.out.fit HCN.out; rw [hFB, frameB_length]; omega)
  clear hFB
  have hP := fun W d (h : DkN w3 W b d) (h1 : d.ops ≤ 100) (h2 : d.room ≤ 1048576) => Put_N h bv jv kv L X HA3.out HG.out.fit HCN.out 9 HTK.out (by decide) (by omega) (by omega)
  rw [← HFB.out, show vW X bv jv kv = .agg (wC X bv jv kv) from rfl] at hP
  have HPU := hd hP
  have hpre := put_pre (new_pre 9 FB).1 (by have := HFL.out; omega)
  have hp := HPU.out _ _ HN4.out (by decide) (by decide)
  rw [hpre.1] at hp
  have k9 := HK3.out.k HN4.out.c
  have HO1 := hd hpre.2.1
  have HOP1 : Hd ((putD (newD 1048576) 9 FB).2.ops ≤ 7) := hd (by have := hpre.2.2; have := (new_pre 9 FB).2; omega)
  clear hP hpre HN4
  generalize (putD (newD 1048576) 9 FB).2 = d1 at *
  go_upto_region 6 with (first
    | (refine wpList_load_row rfl _ _ rfl ta rfl 32 _ (0, 0) _ k9 Tryz.underlying32 rfl (by kernel_rfl) ?_)
    | (go_at_call 12; refine hp.mono ?_; rintro e w5 ⟨rfl, hn5⟩))
  have hby := HO1.out.bytes
  have HO2 := hd HO1.out.op
  have HOP2 : Hd ((opD d1).ops ≤ 8) := hd (show d1.ops + 1 ≤ 8 by have := HOP1.out; omega)
  go_upto_region 8 with (first
    | (go_at_call 13; refine (Check_any _ 9 (by decide)).mono ?_; rintro e w6 ⟨rfl, h6⟩; have hrd := (hn5.k h6).readB (chkB 9) (by rw [chk_length]; decide) (by have := HOP1.out; omega) hby.2; rw [hby.1] at hrd)
    | (go_at_call 14; refine hrd.mono ?_; rintro e w7 ⟨ao7, c7, rfl, hN7⟩))
  have HN7 := hd hN7
  have hfl : 20 ≤ FB.length := by rw [HFB.out, frameB_length]; omega
  have hfu := HFL.out
  obtain ⟨K, hK, hKu⟩ : ∃ K : Nat, K = a % (8 * FB.length) ∧ K < 8 * FB.length := ⟨_, rfl, Nat.mod_lt _ (by omega)⟩
  have hrem : (a : Int).tmod (8 * (FB.length : Int)) = (K : Int) := by rw [hK, Int.tmod_eq_emod_of_nonneg (by omega)]; push_cast; rfl
  have HKU := hd hKu
  clear hby hn5 hN7 hp k9 hrd h6 hK hKu
  have hbd := HN7.out.bend (chkB 9) (by rw [chk_length]; decide) (K : Int) mask (by omega) (by have := HKU.out; omega)
  have HBD := hd hbd
  clear hbd
  go_upto_region 11 with (fail)
  clear hrem hfl
  go_upto_region 12 with (go_at_call 15; refine HBD.out.mono ?_; rintro e w8 ⟨rfl, hn8, hb8⟩)
  obtain ⟨hO8, hq8⟩ := HO2.out.bend (K : Int) mask
  have HLW := hd (leW_small X HG.out.fit HCN.out)
  obtain ⟨sm, hsm⟩ : ∃ sm, (bendB FB K mask == FB) = sm := ⟨_, rfl⟩
  have hsm' : sm = true ↔ bendB FB K mask = FB := by rw [← hsm, beq_iff_eq]
  obtain ⟨r, X2, hli, hcs⟩ : ∃ (r : Int) (X2 : Wld), LoadIs (bendDsk (opD d1) (chkB 9) K mask) 9 r X2 ∧ ((sm = true ∧ r = 0 ∧ X2 = X) ∨ (sm = false ∧ r = 9 ∧ X2 = WZ)) := by
    have hby := hO8.bytes
    by_cases hs : bendB FB K mask = FB
    · refine ⟨0, X, .inr (.inr ⟨hby.2, ?_, rfl, HG.out, HCN.out, HTK.out⟩), .inl ⟨hsm'.2 hs, rfl, rfl⟩⟩
      rw [hby.1, hs, HFB.out, HTK.out]
      exact oneB_frame _ _ (by decide) (by decide) (by have := HLW.out; omega)
    · refine ⟨9, WZ, .inr (.inl ⟨hby.2, ?_, rfl, rfl⟩), .inr ⟨by rw [Bool.eq_false_iff]; exact fun h => hs (hsm'.1 h), rfl, rfl⟩⟩
      intro p
      rw [HFB.out, HTK.out] at hs
      rw [hby.1, HFB.out, HTK.out, oneB_bent (by decide) (by decide) (by have := HLW.out; omega) hs]
      simp
  have HOP8 : Hd ((bendDsk (opD d1) (chkB 9) K mask).ops ≤ 8) := hd (by rw [hq8]; exact HOP2.out)
  have HO8 := hd hO8
  have HN8 := hd hn8
  have HB8 := hd hb8
  have HLI := hd hli
  have HCS := hd hcs
  have HGL := hd (bendB_length FB K mask)
  clear hO8 hq8 hsm' hli hcs hn8 hb8 HN7 HBD HO1 HOP1 HO2 HOP2
  generalize bendDsk (opD d1) (chkB 9) K mask = d8 at *
  obtain ⟨GB, hGB⟩ : ∃ GB, GB = bendB FB K mask := ⟨_, rfl⟩
  have hcb := fun W (hW : Chg [] w8 W) => Bend_any _ FB (K : Int) mask W (HB8.out.stays hW) (by omega) (by have := HKU.out; have := HFL.out; omega) (by have := HFL.out; omega)
  rw [← hGB] at hcb hsm HGL HO8
  have HCB := hd hcb
  clear hcb hGB hfu
  go_cut [12] from 400 (fun t wx => t = .bool sm ∧ Chg [] w8 wx)
  case first =>
    refine rg (N := 9) (by kernel_rfl) (by kernel_rfl) (S := (fun wx => Chg [] w8 wx)) ((Chg.refl _ _).drew) (fun hHeld => ?_)
    (generalize w8.drew = w8d at *; have t53 := run_str (HB8.out.stays hHeld))
    refine tks [0, 1, 2, 5] (by kernel_rfl) (fun _ _ _ _ _ h => h) (by assumption) ?_
    iterate 4 (refine tkc rfl rfl (by rfl) (fun wx hSw => by (try dsimp only at hSw); go_simp; (try with_reducible rfl)) ?_; simp only [List.set])
    refine tk0 ?_
    refine rn2 3 6 rfl rfl (by kernel_rfl) (by rfl) (by rfl) (fun KK hKK => ?ra0) (fun KK hKK => ?rb0)
    case' ra0 =>
      go_simp; (refine (HCB.out _ hHeld).mono ?_; rintro e w9 ⟨a9, c9, rfl, ho9, h9⟩; have hm := Chg.k' hHeld h9; have t51 := run_str ho9.bs; have t53 := run_str (HB8.out.stays hm); (try go_simp)); refine hKK.out _ _ (by assumption) fun hHeld => ?_; clear hKK KK; try simp only [Act.put, List.setIfInBounds_toArray, List.set]
      refine rn2 4 6 rfl rfl (by kernel_rfl) (by rfl) (by rfl) (fun KK hKK => ?ra1) (fun KK hKK => ?rb1)
      case' ra1 =>
        go_simp; refine hKK.out _ _ (by assumption) fun hHeld => ?_; clear hKK KK; try simp only [Act.put, List.setIfInBounds_toArray, List.set]
        refine rn 6 rfl (by kernel_rfl) (by rfl) fun KK hKK => ?_
        go_simp; refine hKK.out _ _ (by assumption) fun hHeld => ?_; clear hKK KK; try simp only [Act.put, List.setIfInBounds_toArray, List.set]
        refine rn 7 rfl (by kernel_rfl) (by rfl) fun KK hKK => ?_
        go_simp; refine hKK.out _ _ (by assumption) fun hHeld => ?_; clear hKK KK; try simp only [Act.put, List.setIfInBounds_toArray, List.set]
        refine rn 8 rfl (by kernel_rfl) (by rfl) fun KK hKK => ?_
        go_simp; refine hKK.out _ _ (by assumption) fun hHeld => ?_; clear hKK KK; try simp only [Act.put, List.setIfInBounds_toArray, List.set]
        refine wpAnyH_done (by kernel_rfl) ?_ _
        (go_wp2_with fail; go_meet; exact ⟨rfl, hHeld⟩)
      case' rb1 =>
        go_simp; refine hKK.out _ _ (by assumption) fun hHeld => ?_; clear hKK KK; try simp only [Act.put, List.setIfInBounds_toArray, List.set]
        refine rn 4 rfl (by kernel_rfl) (by rfl) fun KK hKK => ?_
        go_simp; refine hKK.out _ _ (by assumption) fun hHeld => ?_; clear hKK KK; try simp only [Act.put, List.setIfInBounds_toArray, List.set]
        refine rn 7 rfl (by kernel_rfl) (by rfl) fun KK hKK => ?_
        go_simp; refine hKK.out _ _ (by assumption) fun hHeld => ?_; clear hKK KK; try simp only [Act.put, List.setIfInBounds_toArray, List.set]
        refine rn 8 rfl (by kernel_rfl) (by rfl) fun KK hKK => ?_
        go_simp; refine hKK.out _ _ (by assumption) fun hHeld => ?_; clear hKK KK; try simp only [Act.put, List.setIfInBounds_toArray, List.set]
        refine wpAnyH_done (by kernel_rfl) ?_ _
        (go_wp2_with fail; go_meet; exact ⟨rfl, hHeld⟩)
    case' rb0 =>
      go_simp; refine hKK.out _ _ (by assumption) fun hHeld => ?_; clear hKK KK; try simp only [Act.put, List.setIfInBounds_toArray, List.set]
      refine rn 3 rfl (by kernel_rfl) (by rfl) fun KK hKK => ?_
      go_simp; (refine (HCB.out _ hHeld).mono ?_; rintro e w9 ⟨a9, c9, rfl, ho9, h9⟩; have hm := Chg.k' hHeld h9; have t51 := run_str ho9.bs; have t53 := run_str (HB8.out.stays hm); (try go_simp)); refine hKK.out _ _ (by assumption) fun hHeld => ?_; clear hKK KK; try simp only [Act.put, List.setIfInBounds_toArray, List.set]
      refine rn 4 rfl (by kernel_rfl) (by rfl) fun KK hKK => ?_
      go_simp; refine hKK.out _ _ (by assumption) fun hHeld => ?_; clear hKK KK; try simp only [Act.put, List.setIfInBounds_toArray, List.set]
      refine rn 7 rfl (by kernel_rfl) (by rfl) fun KK hKK => ?_
      go_simp; refine hKK.out _ _ (by assumption) fun hHeld => ?_; clear hKK KK; try simp only [Act.put, List.setIfInBounds_toArray, List.set]
      refine rn 8 rfl (by kernel_rfl) (by rfl) fun KK hKK => ?_
      go_simp; refine hKK.out _ _ (by assumption) fun hHeld => ?_; clear hKK KK; try simp only [Act.put, List.setIfInBounds_toArray, List.set]
      refine wpAnyH_done (by kernel_rfl) ?_ _
      (go_wp2_with fail; go_meet; exact ⟨rfl, hHeld⟩)
  case rest =>
  obtain ⟨rfl, hM8⟩ := hcut
  clear hsm
  have hld := Load_N (HN8.out.k hM8) 9 (by decide) (by have := HOP8.out; omega) (by rw [HO8.out.bytes.1, HGL.out]; have := HFL.out; omega) r X2 HLI.out
  clear HCB HB8
  go_upto_region 14 with (first
    | (go_at_call 17; refine (hld).mono ?_; rintro e w13 ⟨bv13, jv13, kv13, L13, rfl, hp13, -, hn13, hc13⟩; rw [show vW X2 bv13 jv13 kv13 = .agg (wC X2 bv13 jv13 kv13) from rfl]; have kb13 := Blk.new w13 #[.int .i64 0, .int .i64 0, .int .i64 0, .int .i64 0, .int .i64 0, .slice none 0 0, .slice none 0 0, .slice none 0 0] 32; have hall13 := wC_all hp13)
    | (refine wpList_store_row rfl _ _ _ rfl w13.heap.size (wC X2 bv13 jv13 kv13) rfl rfl 32 _ kb13 (by kernel_rfl) rfl hall13 ?_)
    )
  have hcx13 : Chg [] w13 ((w13.alloc (.cells #[.int .i64 0, .int .i64 0, .int .i64 0, .int .i64 0, .int .i64 0, .slice none 0 0, .slice none 0 0, .slice none 0 0] 32)).setRow w13.heap.size (wC X2 bv13 jv13 kv13)) := Chg.row ((Chg.refl [] w13).alloc _) w13.heap.size _ (fun h => absurd h (Nat.lt_irrefl _))
  have ky13 := kb13.row (cs' := wC X2 bv13 jv13 kv13)
  generalize (w13.alloc (.cells #[.int .i64 0, .int .i64 0, .int .i64 0, .int .i64 0, .int .i64 0, .slice none 0 0, .slice none 0 0, .slice none 0 0] 32)).setRow w13.heap.size (wC X2 bv13 jv13 kv13) = w13x at *
  obtain ⟨tb13, htb13⟩ : ∃ tb, tb = w13.heap.size := ⟨_, rfl⟩
  rw [← htb13] at ky13 ⊢
  have HK13 := hd ky13
  have HP13 := hd (hp13.k hcx13)
  clear kb13 ky13 htb13 hp13 hall13
  have HN13 := hd (hn13.k hcx13)
  have HC13 := hd (hc13.k' hcx13)
  clear hn13 hc13 hcx13
  clear hld HN8 hM8
  have HKA := hd (HK3.out.k HN13.out.c)
  have HPA := hd (HA3.out.k HN13.out.c)
  have hb2 : X2.bodies.length ≤ 1099511627776 := by
    rcases HCS.out with ⟨-, -, rfl⟩ | ⟨-, -, rfl⟩
    · have := HG.out.fit.bl; omega
    · decide
  have HSA := hd (fun W (hW : Chg [] w13x W) => WSame_any W (vW X2 bv13 jv13 kv13) (vW X bv jv kv) X2 X ⟨_, _, _, _, rfl, HP13.out.k hW⟩ ⟨_, _, _, _, rfl, HPA.out.k hW⟩ hb2)
  have HSZ := hd (fun W (hW : Chg [] w13x W) => WSame_any W (vW X2 bv13 jv13 kv13) vWZ X2 WZ ⟨_, _, _, _, rfl, HP13.out.k hW⟩ (WZ_reads W) hb2)
  go_cut [86] from 60 (fun t wx => t = .bool false ∧ Chg [] w13x wx)
  case first =>
    rcases HCS.out with ⟨rfl, rfl, rfl⟩ | ⟨rfl, rfl, rfl⟩
    · go_wp2_with (first
        | (refine wpList_load_rowW rfl _ _ rfl tb13 rfl 32 _ (0, 0) _ HK13.out Tryz.underlying32 rfl (by kernel_rfl) ?_)
        | (refine wpList_load_rowW rfl _ _ rfl ta rfl 32 _ (0, 0) _ HKA.out Tryz.underlying32 rfl (by kernel_rfl) ?_)
        | (go_at_call 18; refine (HSA.out _ (Chg.refl _ _)).mono ?_; rintro e w14 ⟨⟨q, rfl, hq⟩, hm14⟩; obtain rfl : q = true := hq.2 rfl))
      go_meet
      case rel => exact ⟨rfl, hm14⟩
    · go_wp2_with (first
        | (refine wpList_load_rowW rfl _ _ rfl tb13 rfl 32 _ (0, 0) _ HK13.out Tryz.underlying32 rfl (by kernel_rfl) ?_)
        | (go_at_call 18; refine (HSZ.out _ (Chg.refl _ _)).mono ?_; rintro e w14 ⟨⟨q, rfl, hq⟩, hm14⟩; obtain rfl : q = true := hq.2 rfl))
      go_meet
      case rel => exact ⟨rfl, hm14⟩
  case rest =>
  obtain ⟨rfl, hM13⟩ := hcut
  apply_assumption -exfalso -symm
  have HOA := hd HO8.out.op
  have HOPA : Hd ((opD d8).ops ≤ 9) := hd (show d8.ops + 1 ≤ 9 by have := HOP8.out; omega)
  have hpre := put_one (b := FB) HOA.out (by rw [HGL.out]; have := HFL.out; omega)
  have hp := HPU.out _ _ (HN13.out.k hM13) (by have := HOPA.out; omega) (by rw [HOA.out.room]; decide)
  rw [hpre.1] at hp
  have HPRE := hd hpre
  have k9 := HKA.out.k hM13
  clear hpre HSA HSZ HO8 HOP8 HLI HCS
  go_upto_region 17 with (first
    | (refine wpList_load_row rfl _ _ rfl ta rfl 32 _ (0, 0) _ k9 Tryz.underlying32 rfl (by kernel_rfl) ?_)
    | (go_at_call 12; refine (hp).mono ?_; rintro e w15 ⟨rfl, hn15⟩))
  clear hp k9 hM13
  have HO15 := hd HPRE.out.2.1
  have HOP15 : Hd ((putD (opD d8) 9 FB).2.ops ≤ 16) := hd (by have := HPRE.out.2.2; have := HOPA.out; omega)
  clear HPRE
  generalize (putD (opD d8) 9 FB).2 = d15 at *
  have HRN := hd (HO15.out.rename (m := 8) (by decide +kernel))
  go_upto_region 18 with (first
    | (go_at_call 13; refine (Check_any _ 8 (by decide)).mono ?_; rintro e w16 ⟨rfl, h16⟩)
    | (go_at_call 19; refine ((hn15.k h16).rename (chkB 9) (chkB 8) (by rw [chk_length]; decide) (by rw [chk_length]; decide) (by have := HOP15.out; omega)).mono ?_; rintro e w17 ⟨rfl, hn17⟩))
  have HO17 := hd HRN.out.2.1
  have HOP17 : Hd ((renameD d15 (chkB 9) (chkB 8)).ops ≤ 17) := hd (by have := HRN.out.2.2; have := HOP15.out; omega)
  clear HRN HO15
  generalize renameD d15 (chkB 9) (chkB 8) = d17 at *
  have hli : LoadIs d17 8 9 WZ := .inr (.inl ⟨HO17.out.bytes.2, by intro p; rw [HO17.out.bytes.1, HFB.out, HTK.out, oneB_frame _ _ (by decide) (by decide) (by have := HLW.out; omega)]; simp, rfl, rfl⟩)
  have hld := Load_N hn17 8 (by decide) (by have := HOP17.out; omega) (by rw [HO17.out.bytes.1]; have := HFL.out; omega) 9 WZ hli
  go_upto_region 19 with (first
    | (go_at_call 17; refine (hld).mono ?_; rintro e w18 ⟨bv18, jv18, kv18, L18, rfl, hp18, -, hn18, hc18⟩; rw [show vW WZ bv18 jv18 kv18 = .agg (wC WZ bv18 jv18 kv18) from rfl]; have kb18 := Blk.new w18 #[.int .i64 0, .int .i64 0, .int .i64 0, .int .i64 0, .int .i64 0, .slice none 0 0, .slice none 0 0, .slice none 0 0] 32; have hall18 := wC_all hp18)
    | (refine wpList_store_row rfl _ _ _ rfl w18.heap.size (wC WZ bv18 jv18 kv18) rfl rfl 32 _ kb18 (by kernel_rfl) rfl hall18 ?_)
    )
  have hcx18 : Chg [] w18 ((w18.alloc (.cells #[.int .i64 0, .int .i64 0, .int .i64 0, .int .i64 0, .int .i64 0, .slice none 0 0, .slice none 0 0, .slice none 0 0] 32)).setRow w18.heap.size (wC WZ bv18 jv18 kv18)) := Chg.row ((Chg.refl [] w18).alloc _) w18.heap.size _ (fun h => absurd h (Nat.lt_irrefl _))
  have ky18 := kb18.row (cs' := wC WZ bv18 jv18 kv18)
  generalize (w18.alloc (.cells #[.int .i64 0, .int .i64 0, .int .i64 0, .int .i64 0, .int .i64 0, .slice none 0 0, .slice none 0 0, .slice none 0 0] 32)).setRow w18.heap.size (wC WZ bv18 jv18 kv18) = w18x at *
  obtain ⟨tb18, htb18⟩ : ∃ tb, tb = w18.heap.size := ⟨_, rfl⟩
  rw [← htb18] at ky18 ⊢
  have HK18 := hd ky18
  have HP18 := hd (hp18.k hcx18)
  clear kb18 ky18 htb18 hp18 hall18
  have HN18 := hd (hn18.k hcx18)
  have HC18 := hd (hc18.k' hcx18)
  clear hn18 hc18 hcx18
  clear hld hli hn15 hn17 h16
  have HO18 := hd HO17.out.op
  have HOP18 : Hd ((opD d17).ops ≤ 18) := hd (show d17.ops + 1 ≤ 18 by have := HOP17.out; omega)
  have hpre := HO18.out.put (n := 9) (b := FB) (by decide +kernel) (by have := HFL.out; omega)
  have hp := HPU.out _ _ HN18.out (by have := HOP18.out; omega) (by rw [HO18.out.room]; decide)
  rw [hpre.1] at hp
  have HPRE := hd hpre
  have k9 := HK3.out.k HN18.out.c
  clear hpre HO17 HOP17
  go_upto_region 20 with (first
    | (refine wpList_load_row rfl _ _ rfl ta rfl 32 _ (0, 0) _ k9 Tryz.underlying32 rfl (by kernel_rfl) ?_)
    | (go_at_call 12; refine (hp).mono ?_; rintro e w19 ⟨rfl, hn19⟩))
  clear hp k9
  have HO19 := hd HPRE.out.2.1
  have HOP19 : Hd ((putD (opD d17) 9 FB).2.ops ≤ 25) := hd (by have := HPRE.out.2.2; have := HOP18.out; omega)
  clear HPRE HO18 HOP18
  generalize (putD (opD d17) 9 FB).2 = d19 at *
  have HMO := hd (HO19.out.more (r := [0]) (by have := HFL.out; simp; omega))
  have hap := hn19.append0 (chkB 9) (by rw [chk_length]; decide) (by have := HOP19.out; omega) [0] #[.int .u8 0] rfl (by decide) (by rw [HO19.out.room]; decide)
  have HAP := hd hap
  clear hap
  go_upto_region 21 with (go_at_call 20; refine HAP.out.mono ?_; rintro e w20 ⟨rfl, hn20⟩)
  obtain ⟨-, hq20, hy20, he20, ho20⟩ := HMO.out
  have hli : LoadIs (appendD d19 (chkB 9) [0]) 9 9 WZ := .inr (.inl ⟨he20, by intro p; rw [hy20, HFB.out, HTK.out, oneB_more (by decide) (by decide) (by have := HLW.out; omega) (by simp)]; simp, rfl, rfl⟩)
  have hld := Load_N hn20 9 (by decide) (by rw [ho20]; have := HOP19.out; omega) (by rw [hy20]; have := HFL.out; simp; omega) 9 WZ hli
  clear hq20 hy20 he20 ho20 hli HMO HAP
  go_upto_region 22 with (first
    | (go_at_call 17; refine (hld).mono ?_; rintro e w21 ⟨bv21, jv21, kv21, L21, rfl, hp21, -, hn21, hc21⟩; rw [show vW WZ bv21 jv21 kv21 = .agg (wC WZ bv21 jv21 kv21) from rfl]; have kb21 := Blk.new w21 #[.int .i64 0, .int .i64 0, .int .i64 0, .int .i64 0, .int .i64 0, .slice none 0 0, .slice none 0 0, .slice none 0 0] 32; have hall21 := wC_all hp21)
    | (refine wpList_store_row rfl _ _ _ rfl w21.heap.size (wC WZ bv21 jv21 kv21) rfl rfl 32 _ kb21 (by kernel_rfl) rfl hall21 ?_)
    )
  have hcx21 : Chg [] w21 ((w21.alloc (.cells #[.int .i64 0, .int .i64 0, .int .i64 0, .int .i64 0, .int .i64 0, .slice none 0 0, .slice none 0 0, .slice none 0 0] 32)).setRow w21.heap.size (wC WZ bv21 jv21 kv21)) := Chg.row ((Chg.refl [] w21).alloc _) w21.heap.size _ (fun h => absurd h (Nat.lt_irrefl _))
  have ky21 := kb21.row (cs' := wC WZ bv21 jv21 kv21)
  generalize (w21.alloc (.cells #[.int .i64 0, .int .i64 0, .int .i64 0, .int .i64 0, .int .i64 0, .slice none 0 0, .slice none 0 0, .slice none 0 0] 32)).setRow w21.heap.size (wC WZ bv21 jv21 kv21) = w21x at *
  obtain ⟨tb21, htb21⟩ : ∃ tb, tb = w21.heap.size := ⟨_, rfl⟩
  rw [← htb21] at ky21 ⊢
  have HK21 := hd ky21
  have HP21 := hd (hp21.k hcx21)
  clear kb21 ky21 htb21 hp21 hall21
  have HN21 := hd (hn21.k hcx21)
  have HC21 := hd (hc21.k' hcx21)
  clear hn21 hc21 hcx21
  have HF := hd (HC3.out.k HN21.out.c)
  go_wp2_with (fail)
  rw [HP.out]
  exact ⟨rfl, HF.out⟩
end Go.Proofs.YtbiadpkglcdihaaGreat
