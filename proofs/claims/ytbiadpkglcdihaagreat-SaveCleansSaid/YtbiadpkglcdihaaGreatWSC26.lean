/- Words and walks that SC rests on: LawSaveCleans. -/
import Derived.Test.YtbiadpkglcdihaaGreatWSC21
import Derived.Test.YtbiadpkglcdihaaGreatWSC22
import Derived.Test.YtbiadpkglcdihaaGreatWSC23
import Derived.Test.YtbiadpkglcdihaaGreatWSC25
import Derived.Test.YtbiadpkglcdihaaGreatWSC24
/- SaveCleans: for every input the law returns true. -/
namespace Go.Proofs.YtbiadpkglcdihaaGreat
open Go.RowKit

theorem atW0 (k : Nat) (hk : k < 16) : GW (atW [] (k : Int)) ∧ (atW [] (k : Int)).contacts = [] ∧ (atW [] (k : Int)).tick = (k : Int) ∧ (frameB (k : Int) (leW (atW [] (k : Int)))).length ≤ 120 := by
  obtain ⟨h1, h2⟩ := atW_GW [] (by simp) (k : Int)
  refine ⟨h1, h2, ?_, ?_⟩
  · show (k : Int) % 65536 = k; omega
  · rw [frameB_length]
    have := leW_none _ h1.fit (show (atW [] (k : Int)).bodies = [] from rfl) (show (atW [] (k : Int)).joints = [] from rfl) h2
    omega
section
set_option maxRecDepth 100000 in
set_option maxHeartbeats 8000000 in
theorem SaveCleans_law (v0 : Value) (l0 : List UInt8) (kp : UInt8) (miss : Bool) (w : World) (h0 : Bs w v0 l0) (_hl0 : l0.length ≤ 140737488351232) :
    Calls Tryz.prog 7 #[v0, .int .u8 (n8 kp), .bool miss] w fun e w' => e = .returned (.bool true) ∧ Chg [] w w' := by
  obtain ⟨P, hP⟩ : ∃ P : Ending → World → Prop, P = fun e w' => e = .returned (.bool true) ∧ Chg [] w w' := ⟨_, rfl⟩
  rw [← hP]
  have HP := hd hP
  clear hP
  obtain ⟨ao0, cap0, b0, off0, rfl, -, -, -, hao0, hel0⟩ := h0.open
  have HE0 := hd hel0
  have hmm := @run_makeMap Tryz.prog
  have hu := u8_and15 kp
  have hk16 := tkC_lt kp
  have HKL := hd hk16
  obtain ⟨kk, hkk⟩ : ∃ kk, tkC kp = kk := ⟨_, rfl⟩
  rw [hkk] at hu HKL
  clear h0 hel0 hkk hk16
  go_enter Tryz.func7, Tryz.ntmps7
  go_upto_region 3 with (go_at_call 9; refine (fit20_any _).mono ?_; rintro e w1 ⟨rfl, h1⟩)
  by_cases hl0 : l0.length ≤ 8
  case neg =>
    have hl0' : (8 : Int) < (l0.length : Int) := by omega
    go_wp2_with fail
    rw [HP.out]
    exact ⟨rfl, h1⟩
  have hl0' : ¬ (8 : Int) < (l0.length : Int) := by omega
  have hnew := DNew_any w1 1048576 (by decide)
  go_upto_region 6 with (go_at_call 11; refine hnew.mono ?_; rintro e w2 ⟨b, fp, rfl, hk2, hc2, hf2⟩)
  have hM := MapT.new w2
  have HDM := hd (DML.new hk2 hc2 hf2 (.map #[] 0) (fun u => MapT u w2.heap.size []) (fun S u u' hc hn hm => hm.chg hc hn) hM)
  have HCK := hd (Cks.new 1048576 (by decide))
  clear hM hnew hk2 hc2 hf2 hl0'
  go_upto_region 7 with (fail)
  clear hmm
  generalize w2.heap.size = mb at *
  generalize w2.alloc (.map #[] 0) = w3 at *
  have hd0 : (newD 1048576).ops = 0 := rfl
  generalize newD 1048576 = d0 at *
  have HD0 := hd hd0
  clear hd0
  go_wp2_with fail
  go_loopw [9, 11, 12, 25] (fun t9 _ _ t25 wr => ∃ (i : Nat) (ao : Option Addr) (c : Nat) (d : Dsk) (L : List (Nat × List UInt8 × Nat)), i ≤ l0.length ∧ t25 = .int .i64 i ∧ t9 = .slice ao (allC (l0.take i)).length c ∧ Hd (Cks 1048576 L d) ∧ Hd (L.map (·.1) = allC (l0.take i)) ∧ Hd (∀ x ∈ L, x.2.1.length ≤ 120) ∧ Hd (d.ops ≤ 7 * (i : Int)) ∧ Hd ((allC (l0.take i)).length ≤ i ∧ ∀ k ∈ allC (l0.take i), k < 16) ∧
      Hd (DML w1 wr b d mb (fun u => MapT u mb (allC (l0.take i))) (.slice ao (allC (l0.take i)).length c) ((allC (l0.take i)).map Int.ofNat)))
    (fun _ _ _ t25 _ => l0.length - (intOf t25).toNat)
  case atStart => exact ⟨0, none, 0, d0, [], by omega, rfl, rfl, HCK, hd rfl, hd (by simp), hd (by rw [HD0.out]; decide), hd ⟨by simp [allC], by simp [allC]⟩, HDM⟩
  case round =>
    obtain ⟨i, ao, c, d, L, hi, rfl, rfl, hC, hT, hS, hO, hTl, hD⟩ := hrel
    by_cases hlt : i < l0.length
    · have hlti : (i : Int) < (l0.length : Int) := by omega
      obtain rfl := hao0 (by omega)
      have q0 := (h1.k hD.out.c).cellS (HE0.out i hlt)
      have hsn := allC_snoc l0 i hlt
      have hke := u8_and15 l0[i]
      have hk16 := tkC_lt l0[i]
      generalize l0[i]'hlt = x at *
      generalize hTT : allC (l0.take i) = T at *
      clear hTT
      have HSN := hd hsn
      clear hsn
      generalize tkC x = k at *
      have HK16 := hd hk16
      have hwk : wrap64 (k : Int) = (k : Int) := IntWalk.wrap64_in _ (by omega)
      by_cases hk : k ∈ T
      · have hlk := hD.out.m.look k (by omega)
        rw [if_pos hk] at hlk
        have hs := HSN.out
        unfold addC at hs
        rw [if_pos hk] at hs
        have HS := hd hs
        clear hs hk hk16
        go_wp2_with fail
        go_roundw
        case rel => exact ⟨i + 1, ao, c, d, L, by omega, by go_num, by rw [HS.out], hC, hd (by rw [HS.out]; exact hT.out), hS, hd (by have := hO.out; omega), hd (by rw [HS.out]; exact ⟨by have := hTl.out.1; omega, hTl.out.2⟩), hd (by rw [HS.out]; exact hD.out)⟩
        case measure => simp [intOf]; omega
      · have hlk := hD.out.m.look k (by omega)
        rw [if_neg hk] at hlk
        have hs := HSN.out
        unfold addC at hs
        rw [if_neg hk] at hs
        have HS := hd hs
        have hmt := hD.out.m
        have hTlen : T.length ≤ 10000000000 := by have := hTl.out.1; omega
        have HNK := hd hk
        clear hs
        go_upto_region 14 with (at_mapUpdate; refine wpPutT rfl rfl _ _ _ rfl mb T k rfl rfl rfl hmt (by omega) hk hTlen ?_; intro w5 hm5 hg5)
        have hD5 := hD.out.upd hg5 (M' := fun u => MapT u mb (T ++ [k])) (fun S u u' hc hn hm => hm.chg hc hn) hm5
        clear hlk hmt hg5 hm5 hk
        have hcA := (Chg.refl [] w5).alloc (.cells #[.int .i64 (k : Int)] 3)
        have hone := Fs.lit w5 [(k : Int)] #[.int .i64 (k : Int)] 3 1 rfl rfl (by simp)
        have hDA := hD5.k hcA
        have hlA := hDA.l
        have hbA : w1.heap.size ≤ (w5.alloc (.cells #[.int .i64 (k : Int)] 3)).heap.size := hDA.c.size
        have hlenT : (T.map Int.ofNat).length = T.length := List.length_map _
        have HDA := hd hDA
        clear hD5 hDA hcA
        go_upto_region 15 with (at_builtin; refine wpAppIM rfl _ _ rfl w1.heap.size (.slice ao T.length c) (T.map Int.ofNat) rfl hlA (.slice (some ⟨w5.heap.size, 0, none⟩) 1 1) [(k : Int)] rfl hone (by rw [hlenT]; simp; omega) hbA ?_; intro ao6 c6 w6 h6 hg6 hmv6)
        rw [hlenT] at h6 hmv6
        simp only [List.length_cons, List.length_nil, Nat.zero_add] at h6 hmv6
        try simp only [hlenT, List.length_cons, List.length_nil, Nat.zero_add]
        have hD6 := HDA.out.app hg6 (ys := (T ++ [k]).map Int.ofNat) (by rw [List.map_append]; exact h6) hmv6
        have HD6 := hd hD6
        clear HDA hlA hone hbA hlenT h6 hg6 hmv6 hD6
        have hAt := At_any w6 (.slice none 0 0) [] (k : Int) ⟨by omega, by have := HK16.out; omega⟩ (DsS.nil _) (by simp)
        rw [show ([] : List DV).map (·.1) = [] from rfl] at hAt
        obtain ⟨hG, hCN, hTK, hFL⟩ := atW0 k HK16.out
        generalize atW [] (k : Int) = X at *
        have HGG := hd hG
        have HCN := hd hCN
        have HTK := hd hTK
        have HFL := hd hFL
        clear hG hCN hTK hFL
        have hpd := hC.out.puts k (frameB (k : Int) (leW X)) (by have := HK16.out; omega) (by rw [hT.out]; exact HNK.out) hS.out HFL.out (by have := congrArg List.length hT.out; rw [List.length_map] at this; have := hTl.out.1; omega) (by decide)
        have hrm := hC.out.n.room
        have HPD := hd hpd
        have HRM := hd hrm
        clear hpd hrm
        go_wp2_with (first
          | (go_at_call 10; refine hAt.mono ?_; rintro e w7 ⟨bv, jv, kv, LL, rfl, hA7, hap7, h7⟩; have hpt := HD6.out.put h7 bv jv kv LL X hA7 hap7 HGG.out.fit HCN.out k HTK.out (by have := HK16.out; omega) (by have := hO.out; omega) (by rw [HRM.out]; decide); rw [HTK.out] at hpt; clear hA7 hap7 h7)
          | (go_at_call 12; refine hpt.mono ?_; rintro e w8 ⟨rfl, hD8⟩))
        obtain ⟨-, ⟨j, hC8⟩, hO8⟩ := HPD.out
        have HC8 := hd hC8
        have HO8 := hd hO8
        have HD8 := hd hD8
        clear hC8 hO8 hD8 hpt hAt
        go_roundw
        case rel => exact ⟨i + 1, ao6, c6, _, _, by omega, by go_num, by rw [HS.out, List.length_append]; rfl, HC8, hd (by rw [HS.out, List.map_append, hT.out]; rfl), hd (fun x hx => by rcases List.mem_append.1 hx with hx | hx; exact hS.out x hx; obtain rfl := List.mem_singleton.1 hx; exact HFL.out), hd (by have := hO.out; have := HO8.out; omega), hd (by rw [HS.out, List.length_append]; exact ⟨by have := hTl.out.1; simp; omega, fun z hz => by rcases List.mem_append.1 hz with hz | hz; exact hTl.out.2 z hz; obtain rfl := List.mem_singleton.1 hz; exact HK16.out⟩), hd (by rw [HS.out, List.length_append]; exact HD8.out)⟩
        case measure => simp [intOf]; omega
    · obtain rfl : i = l0.length := by omega
      rw [List.take_length] at hD hT hTl ⊢
      generalize allC l0 = T at *
      have hT8 : T.length ≤ 8 := by have := hTl.out.1; omega
      have HLT := hd hTl.out.2
      have HT8 := hd hT8
      have HCW := hd (h1.k hD.out.c)
      clear hTl hao0 HE0 HCK HDM hlt hT8
      have hlt16 : ∀ k ∈ T, k < 16 := HLT.out
      have hwk : wrap64 (kk : Int) = (kk : Int) := IntWalk.wrap64_in _ (by have := HKL.out; omega)
      cases miss with
      | true =>
        go_upto_region 19 with (fail)
        have hOL := OwI.lit wr wr.heap.size [99] #[.int .i64 99] rfl (Nat.le_refl _) (by decide)
        have hcA := (Chg.refl [] wr).alloc (.cells #[.int .i64 99] 3)
        have hfs := (hD.out.k hcA).l.fs
        have hlenT : (T.map Int.ofNat).length = T.length := List.length_map _
        have hDA := hD.out
        have HCL := hd (fun (W : World) (hW : Chg [] wr W) (u : Value) (hu : OwI W wr.heap.size u ((99 :: T).map Int.ofNat)) => hDA.step hW (R := fun e => e = .returned (.int .i64 (cleanD kk (99 :: T) d).1)) (d' := (cleanD kk (99 :: T) d).2) fun fp hk hl _ => Clean_any hk u kk (by have := HKL.out; omega) (99 :: T) hu.fs (fun k hk => by
          rcases List.mem_cons.1 hk with rfl | hk
          · decide
          · rw [← hT.out] at hk
            obtain ⟨x, hx, rfl⟩ := List.mem_map.1 hk
            have := hC.out.n.small x hx
            omega) (fun _ k hk hm => by have := (World.ownsRow.lt hu k hk).1; have := hl k hm; omega) (by have := HT8.out; simp; omega) (by have := hO.out; have := hi; omega))
        rw [cleanD_miss kk 99 T hC.out.n (by decide) (by have := HKL.out; omega) (by rw [hT.out]; intro hm; exact absurd (hlt16 99 hm) (by decide))] at HCL
        clear hDA
        go_wp2_with (first
          | (at_builtin; refine wpAppI rfl _ _ rfl wr.heap.size (.slice (some ⟨wr.heap.size, 0, none⟩) 1 1) [99] rfl hOL (.slice ao T.length c) (T.map Int.ofNat) rfl hfs (by rw [hlenT]; have := HT8.out; simp; omega) hcA.size ?_; intro ao5 c5 w5 h5 hg5; rw [hlenT] at h5; simp only [List.length_cons, List.length_nil, Nat.zero_add] at h5; have hc5 : Chg [] wr w5 := hcA.grown hg5 (fun j hj hl => by have := (World.ownsRow.lt hOL j hj).1; omega); have hcl := HCL.out w5 hc5 _ h5)
          | (go_at_call 28; refine hcl.mono ?_; rintro e w6 ⟨rfl, hD6⟩))
        rw [HP.out]
        exact ⟨rfl, h1.k hD6.c⟩
      | false =>
        go_upto_region 20 with (fail)
        have hcl := hD.out.step (Chg.refl [] wr) (R := fun e => e = .returned (.int .i64 (cleanD kk T d).1)) (d' := (cleanD kk T d).2) fun fp hk _ hn => Clean_any hk (.slice ao T.length c) kk (by have := HKL.out; omega) T hD.out.l.fs (fun k hk => by
          rw [← hT.out] at hk
          obtain ⟨x, hx, rfl⟩ := List.mem_map.1 hk
          have := hC.out.n.small x hx
          omega) (fun _ k hk => hn k hk) (by have := HT8.out; omega) (by have := hO.out; have := hi; omega)
        have hok := cleanD_ok kk hC.out
        rw [hT.out] at hok
        have hop := cleanD_ops kk T d
        rw [hok.1] at hcl
        have HCD := hd hok.2
        have HOP : Hd ((cleanD kk T d).2.ops ≤ 100) := hd (by have := hO.out; have := HT8.out; omega)
        have HND := hd hC.out.n.nd
        clear hok hop
        generalize (cleanD kk T d).2 = d5 at *
        go_upto_region 22 with (go_at_call 28; refine hcl.mono ?_; rintro e w5 ⟨rfl, hD5⟩)
        have hcr := hD5.step (Chg.refl [] w5) (R := fun e => e = .returned (.tuple #[])) (d' := crashD d5 0 []) fun fp hk _ _ => Crash_any hk 0 (.slice none 0 0) [] (OwI.nil w5 0).fs (by simp [Value.ownBlock])
        have HC6 := hd (HCD.out.crash 0 [])
        have HO6 : Hd ((crashD d5 0 []).ops ≤ 100) := hd (show d5.ops ≤ 100 from HOP.out)
        clear hcl hD5
        generalize crashD d5 0 [] = d6 at *
        go_upto_region 23 with (go_at_call 22; refine hcr.mono ?_; rintro e w6 ⟨rfl, hD6⟩)
        have hm6 := hD6.m
        obtain ⟨-, fp6, hk6, hc6, hf6, hmf6, -⟩ := hD6
        have hbm : b ∈ fp6 := let ⟨_, _, _, _, _, hp⟩ := hk6; hp.fpb
        have hli := List_any hk6 (by have := HO6.out; omega)
        have HLT6 := hd hf6
        have HC16 := hd hc6
        have HM6 := hd hm6
        have HBM := hd hbm
        have HMF := hd hmf6
        clear hcr hk6 hc6 hf6 hmf6 hm6 hbm
        go_upto_region 24 with (go_at_call 23; refine hli.mono ?_; rintro e w7 ⟨hk7, hc7, ho7⟩; rcases ho7 with ⟨hne, -⟩ | ⟨-, ao7, c7, rfl, hs7⟩; exact absurd HC6.out.n.q.e hne)
        have HM7 := hd (HM6.out.chg hc7 (by simp only [List.mem_singleton]; rintro rfl; exact HMF.out HBM.out))
        have HC7 := hd (h1.k (HC16.out.trans hc7 (by simp only [List.mem_singleton]; rintro x rfl hl; have := HLT6.out _ HBM.out; omega)))
        have hnm := HC6.out.n.names
        clear hk7 hli hc7
        by_cases hkT : kk ∈ T
        · have hlk := HM7.out.look kk (by have := HKL.out; omega)
          rw [if_pos hkT] at hlk
          obtain ⟨x, hx1, hx2⟩ := (filter_one kk L HND.out).1 (by rw [hT.out]; exact hkT)
          rw [hx2] at hnm
          simp only [List.map_cons, List.map_nil, hx1] at hnm
          rw [hnm] at hs7 ⊢
          have hsrt : sortN [(chkB kk, atN d5.names x.2.2)] = [chkB kk] := by unfold sortN; simp
          rw [hsrt] at hs7
          obtain ⟨g8, rfl⟩ : ∃ g, ao7 = some ⟨g, 0, none⟩ := by
            rcases hs7.2 with ⟨he, h0⟩ | ⟨g, cap, cur, he, hb, _⟩
            · simp at h0
            · simp only [Value.slice.injEq] at he
              exact ⟨g, he.1⟩
          have hsc : w7.cell? ⟨g8, 0, none⟩ = some (.string (strB (chkB kk))) := by
            have := World.ownsRow.cells hs7 (g := g8) rfl 0 (.string (strB (chkB kk))) (by simp)
            rwa [Addr.add_mid, Nat.zero_add] at this
          have HSC := hd hsc
          have HLK := hd (fun W (hW : Chg [] w7 W) => (HM7.out.k hW).look kk (by have := HKL.out; omega))
          rw [if_pos hkT] at HLK
          clear hsc hlk hs7 hnm hx1 hx2 hkT hsrt
          refine rg (N := 20) (by kernel_rfl) (by kernel_rfl) (S := (fun wx => Chg [] w7 wx)) ((Chg.refl _ _).drew) (fun hHeld => ?_)
          (generalize w7.drew = w7d at *; have tlk := HLK.out _ hHeld)
          refine tks [0, 1, 2, 3] (by kernel_rfl) (fun _ _ _ _ _ h => h) (by assumption) ?_
          iterate 4 (refine tkc rfl rfl (by rfl) (fun wx hSw => by (try dsimp only at hSw); (have t0 := hSw.cellS HSC.out); go_simp; (try with_reducible rfl)) ?_; simp only [List.set])
          refine tk0 ?_
          refine rn 4 rfl (by kernel_rfl) (by rfl) fun KK hKK => ?_
          go_simp; refine hKK.out _ _ (by assumption) fun hHeld => ?_; clear hKK KK; try simp only [Act.put, List.setIfInBounds_toArray, List.set]
          refine rn 5 rfl (by kernel_rfl) (by rfl) fun KK hKK => ?_
          go_simp; refine hKK.out _ _ (by assumption) fun hHeld => ?_; clear hKK KK; try simp only [Act.put, List.setIfInBounds_toArray, List.set]
          refine rn 6 rfl (by kernel_rfl) (by rfl) fun KK hKK => ?_
          go_simp; refine hKK.out _ _ (by assumption) fun hHeld => ?_; clear hKK KK; try simp only [Act.put, List.setIfInBounds_toArray, List.set]
          refine tks [7, 8, 9, 10, 11, 12, 13, 14] (by kernel_rfl) (fun _ _ _ _ _ h => h) (by assumption) ?_
          iterate 8 (refine tkc rfl rfl (by rfl) (fun wx hSw => by (try dsimp only at hSw); (have t0 := hSw.cellS HSC.out); go_simp; (try with_reducible rfl)) ?_; simp only [List.set])
          refine tk0 ?_
          refine rn 15 rfl (by kernel_rfl) (by rfl) fun KK hKK => ?_
          go_simp; (refine (Check_any _ kk (by have := HKL.out; omega)).mono ?_; rintro e w8 ⟨rfl, h8⟩; have hm := Chg.k' hHeld h8; (try go_simp)); refine hKK.out _ _ (by assumption) fun hHeld => ?_; clear hKK KK; try simp only [Act.put, List.setIfInBounds_toArray, List.set]
          refine rn 16 rfl (by kernel_rfl) (by rfl) fun KK hKK => ?_
          go_simp; refine hKK.out _ _ (by assumption) fun hHeld => ?_; clear hKK KK; try simp only [Act.put, List.setIfInBounds_toArray, List.set]
          refine rn 17 rfl (by kernel_rfl) (by rfl) fun KK hKK => ?_
          go_simp; refine hKK.out _ _ (by assumption) fun hHeld => ?_; clear hKK KK; try simp only [Act.put, List.setIfInBounds_toArray, List.set]
          refine rn 18 rfl (by kernel_rfl) (by rfl) fun KK hKK => ?_
          go_simp; refine hKK.out _ _ (by assumption) fun hHeld => ?_; clear hKK KK; try simp only [Act.put, List.setIfInBounds_toArray, List.set]
          refine rn 19 rfl (by kernel_rfl) (by rfl) fun KK hKK => ?_
          go_simp; refine hKK.out _ _ (by assumption) fun hHeld => ?_; clear hKK KK; try simp only [Act.put, List.setIfInBounds_toArray, List.set]
          refine wpAnyH_done (by kernel_rfl) ?_ _
          skip
          all_goals
            have HF := hd (HC7.out.k hHeld)
            clear hHeld
            try go_wp2_with (fail)
            rw [HP.out]
            exact ⟨rfl, HF.out⟩
        · have hx2 := (filter_one kk L HND.out).2 (by rw [hT.out]; exact hkT)
          rw [hx2] at hnm
          simp only [List.map_nil] at hnm
          rw [hnm]
          have HLK := hd (fun W (hW : Chg [] w7 W) => (HM7.out.k hW).look kk (by have := HKL.out; omega))
          rw [if_neg hkT] at HLK
          clear hs7 hnm hx2 hkT
          refine rg (N := 20) (by kernel_rfl) (by kernel_rfl) (S := (fun wx => Chg [] w7 wx)) ((Chg.refl _ _).drew) (fun hHeld => ?_)
          (generalize w7.drew = w7d at *; have tlk := HLK.out _ hHeld)
          refine tks [0, 1, 2, 3] (by kernel_rfl) (fun _ _ _ _ _ h => h) (by assumption) ?_
          iterate 4 (refine tkc rfl rfl (by rfl) (fun wx hSw => by (try dsimp only at hSw); go_simp; (try with_reducible rfl)) ?_; simp only [List.set])
          refine tk0 ?_
          refine rn 4 rfl (by kernel_rfl) (by rfl) fun KK hKK => ?_
          go_simp; refine hKK.out _ _ (by assumption) fun hHeld => ?_; clear hKK KK; try simp only [Act.put, List.setIfInBounds_toArray, List.set]
          refine rn 5 rfl (by kernel_rfl) (by rfl) fun KK hKK => ?_
          go_simp; refine hKK.out _ _ (by assumption) fun hHeld => ?_; clear hKK KK; try simp only [Act.put, List.setIfInBounds_toArray, List.set]
          refine rn 6 rfl (by kernel_rfl) (by rfl) fun KK hKK => ?_
          go_simp; refine hKK.out _ _ (by assumption) fun hHeld => ?_; clear hKK KK; try simp only [Act.put, List.setIfInBounds_toArray, List.set]
          refine tks [7, 8, 9, 10] (by kernel_rfl) (fun _ _ _ _ _ h => h) (by assumption) ?_
          iterate 4 (refine tkc rfl rfl (by rfl) (fun wx hSw => by (try dsimp only at hSw); go_simp; (try with_reducible rfl)) ?_; simp only [List.set])
          refine tk0 ?_
          refine sk 11 rfl rfl (by kernel_rfl) (fun _ _ _ h => h) (by rfl) (by assumption) ?_; simp only [Act.put, List.setIfInBounds_toArray, List.set]
          refine sk 12 rfl rfl (by kernel_rfl) (fun _ _ _ h => h) (by rfl) (by assumption) ?_; simp only [Act.put, List.setIfInBounds_toArray, List.set]
          refine sk 13 rfl rfl (by kernel_rfl) (fun _ _ _ h => h) (by rfl) (by assumption) ?_; simp only [Act.put, List.setIfInBounds_toArray, List.set]
          refine sk 14 rfl rfl (by kernel_rfl) (fun _ _ _ h => h) (by rfl) (by assumption) ?_; simp only [Act.put, List.setIfInBounds_toArray, List.set]
          refine sk 15 rfl rfl (by kernel_rfl) (fun _ _ _ h => h) (by rfl) (by assumption) ?_; simp only [Act.put, List.setIfInBounds_toArray, List.set]
          refine sk 16 rfl rfl (by kernel_rfl) (fun _ _ _ h => h) (by rfl) (by assumption) ?_; simp only [Act.put, List.setIfInBounds_toArray, List.set]
          refine tks [17] (by kernel_rfl) (fun _ _ _ _ _ h => h) (by assumption) ?_
          refine tkc rfl rfl (by rfl) (fun wx hSw => by (try dsimp only at hSw); go_simp; (try with_reducible rfl)) ?_; simp only [List.set]
          refine tk0 ?_
          refine rn 18 rfl (by kernel_rfl) (by rfl) fun KK hKK => ?_
          go_simp; refine hKK.out _ _ (by assumption) fun hHeld => ?_; clear hKK KK; try simp only [Act.put, List.setIfInBounds_toArray, List.set]
          refine rn 19 rfl (by kernel_rfl) (by rfl) fun KK hKK => ?_
          go_simp; refine hKK.out _ _ (by assumption) fun hHeld => ?_; clear hKK KK; try simp only [Act.put, List.setIfInBounds_toArray, List.set]
          refine wpAnyH_done (by kernel_rfl) ?_ _
          skip
          all_goals
            have HF := hd (HC7.out.k hHeld)
            clear hHeld
            try go_wp2_with (fail)
            rw [HP.out]
            exact ⟨rfl, HF.out⟩
end
end Go.Proofs.YtbiadpkglcdihaaGreat
