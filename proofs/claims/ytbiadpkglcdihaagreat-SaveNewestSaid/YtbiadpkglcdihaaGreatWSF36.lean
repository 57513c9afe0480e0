/- Words and walks that SF rests on: LawSaveNewest. -/
import Derived.Test.YtbiadpkglcdihaaGreatWSF33
import Derived.Test.YtbiadpkglcdihaaGreatWSF35
/- SaveNewest: for every input the law returns true. -/
namespace Go.Proofs.YtbiadpkglcdihaaGreat
open Go.RowKit

set_option maxRecDepth 100000 in
set_option maxHeartbeats 8000000 in
theorem SaveNewest_law (v0 : Value) (l0 : List DV) (v1 : Value) (l1 : List UInt8) (v2 : Value) (l2 : List UInt8) (w : World) (h0 : DsS w v0 l0) (hI : ∀ x ∈ l0, ID x.1) (h1 : Bs w v1 l1) (_hl1 : l1.length ≤ 140737488351232) (h2 : Bs w v2 l2) (_hl2 : l2.length ≤ 140737488351232) :
    Calls Tryz.prog 6 #[v0, v1, v2] w fun e w' => e = .returned (.bool true) ∧ Chg [] w w' := by
  obtain ⟨P, hP⟩ : ∃ P : Ending → World → Prop, P = fun e w' => e = .returned (.bool true) ∧ Chg [] w w' := ⟨_, rfl⟩
  rw [← hP]
  have HP := hd hP
  clear hP
  obtain ⟨XF, hXF⟩ : ∃ XF : Nat → Wld, XF = fun n : Nat => atW (l0.map (·.1)) (n : Int) := ⟨_, rfl⟩
  have hXO : XOk XF := by
    have hg := fun n : Nat => atW_GW (l0.map (·.1)) (fun x hx => by obtain ⟨y, hy, rfl⟩ := List.mem_map.1 hx; exact hI y hy) (n : Int)
    subst hXF
    exact ⟨fun n _ => (hg n).1, fun n _ => (hg n).2, fun n hn => by show (n : Int) % 65536 = n; omega, fun n _ => leW_small _ (hg n).1.fit (hg n).2⟩
  obtain ⟨av, cv, rfl, -, -⟩ := Rd.form (by decide) h0.rd
  have hAt : ∀ (W : World) (n : Nat), Chg [] w W → n < 16 → Calls Tryz.prog 10 #[.slice av l0.length cv, .int .i64 (n : Int)] W (MadeNew W (XF n)) := fun W n hW hn => by
    rw [hXF]; exact At_any W _ l0 (n : Int) ⟨by omega, by omega⟩ (h0.k hW) hI
  have HXO := hd hXO
  have HAT := hd hAt
  clear hXF hXO hAt h0 hI
  obtain ⟨ao1, cap1, b1, off1, rfl, -, -, -, hao1, hel1⟩ := h1.open
  obtain ⟨ao2, cap2, b2, off2, rfl, -, -, -, hao2, hel2⟩ := h2.open
  have HE1 := hd hel1
  have HE2 := hd hel2
  have hmm := @run_makeMap Tryz.prog
  clear h1 h2 hel1 hel2
  go_enter Tryz.func6, Tryz.ntmps6
  go_upto_region 3 with (go_at_call 9; refine (fit20_any _).mono ?_; rintro e w1 ⟨rfl, h1⟩)
  by_cases hl1 : l1.length ≤ 8
  case neg =>
    have hl0' : (8 : Int) < (l1.length : Int) := by omega
    go_wp2_with fail
    rw [HP.out]
    exact ⟨rfl, h1⟩
  have hl1' : ¬ (8 : Int) < (l1.length : Int) := by omega
  by_cases hl2 : l2.length ≤ 8
  case neg =>
    have hl0' : (8 : Int) < (l2.length : Int) := by omega
    go_wp2_with fail
    rw [HP.out]
    exact ⟨rfl, h1⟩
  have hl2' : ¬ (8 : Int) < (l2.length : Int) := by omega
  have hnew := DNew_any w1 4194304 (by decide)
  go_upto_region 6 with (go_at_call 11; refine hnew.mono ?_; rintro e w2 ⟨b, fp, rfl, hk2, hc2, hf2⟩)
  have hM : MapZt (w2.alloc (.map #[] 0)) w2.heap.size [] := ⟨.map [], World.ownsMap_made w2 _ _ _, ReadsZ.empty⟩
  have HDM := hd (DML.new hk2 hc2 hf2 (.map #[] 0) (fun u => MapZt u w2.heap.size []) (fun S u u' hc hn hm => hm.chg hc hn) hM)
  have hNI : NInv XF 4194304 [] [] [] (newD 4194304) 0 := ⟨Cks.new 4194304 (by decide), by simp, by simp, by simp, by simp, fun _ _ => rfl, by simp, by simp⟩
  have HNI := hd hNI
  have HL1 := hd hl1
  have HL2 := hd hl2
  clear hM hnew hk2 hc2 hf2 hl1' hl2' hNI hl1 hl2
  go_upto_region 7 with (fail)
  clear hmm
  generalize w2.heap.size = mb at *
  generalize w2.alloc (.map #[] 0) = w3 at *
  have hd0 : (newD 4194304).ops = 0 := rfl
  generalize newD 4194304 = d0 at *
  have HD0 := hd hd0
  clear hd0
  go_wp2_with fail
  go_loopw [9, 11, 12, 45] (fun t9 _ _ t45 wr => ∃ (i : Nat) (ao : Option Addr) (c : Nat) (d : Dsk) (L : List (Nat × List UInt8 × Nat)) (es : Zm), i ≤ l1.length ∧ t45 = .int .i64 i ∧ t9 = .slice ao (allC (l1.take i)).length c ∧ Hd (NInv XF 4194304 (allC (l1.take i)) es L d i) ∧ Hd (∀ m ∈ allC (l1.take i), (zget es m).getD 0 = 1) ∧ Hd (d.ops ≤ 7 * (i : Int)) ∧ Hd ((allC (l1.take i)).length ≤ i ∧ es.length ≤ i) ∧
      Hd (DML w1 wr b d mb (fun u => MapZt u mb es) (.slice ao (allC (l1.take i)).length c) ((allC (l1.take i)).map Int.ofNat)))
    (fun _ _ _ t45 _ => l1.length - (intOf t45).toNat)
  case atStart => exact ⟨0, none, 0, d0, [], [], by omega, rfl, rfl, HNI, hd (by simp [allC]), hd (by rw [HD0.out]; decide), hd ⟨by simp [allC], by simp⟩, HDM⟩
  case round =>
    obtain ⟨i, ao, c, d, L, es, hi, rfl, rfl, hN, hA1, hO, hTl, hD⟩ := hrel
    by_cases hlt : i < l1.length
    · have hlti : (i : Int) < (l1.length : Int) := by omega
      obtain rfl := hao1 (by omega)
      have q0 := (h1.k hD.out.c).cellS (HE1.out i hlt)
      have hsn := allC_snoc l1 i hlt
      have hke := u8_and15 l1[i]
      have hk16 := tkC_lt l1[i]
      generalize l1[i]'hlt = x at *
      generalize hTT : allC (l1.take i) = T at *
      clear hTT
      have HSN := hd hsn
      clear hsn
      generalize tkC x = k at *
      have HK16 := hd hk16
      have hwk : wrap64 (k : Int) = (k : Int) := IntWalk.wrap64_in _ (by omega)
      have hlk := hD.out.m.look k (by omega)
      have hput := hN.out.put hA1.out HXO.out.f rfl (by have := HL1.out; omega) hk16
      have HPT := hd hput
      clear hk16 hput
      go_upto_region 12 with (fail)
      rw [hwk]
      clear q0 hke
      obtain ⟨z, hz⟩ : ∃ z, (zget es k).getD 0 = z := ⟨_, rfl⟩
      rw [hz] at hlk
      have HZ := hd hz
      clear hz
      go_upto_if 55 with (fail)
      clear hlk
      go_cut [9, 55] from 400 (fun t9 _ wx => ∃ ao c, t9 = .slice ao (addC T k).length c ∧ DML w1 wx b d mb (fun u => MapZt u mb es) (.slice ao (addC T k).length c) ((addC T k).map Int.ofNat))
      case first =>
        by_cases hk : k ∈ T
        · have hz1 : ((z : Int) == 0) = false := by rw [beq_eq_false_iff_ne]; have := hA1.out k hk; have := HZ.out; omega
          have e : addC T k = T := by unfold addC; rw [if_pos hk]
          have HT2 := hd e
          clear e hk
          go_wp2_with fail
          go_meet
          case rel => exact ⟨ao, c, by rw [HT2.out], by rw [HT2.out]; exact hD.out⟩
        · have hno : (zget es k).getD 0 = 0 := by rw [hN.out.es0 k hk]; rfl
          have hz1 : ((z : Int) == 0) = true := by rw [beq_iff_eq]; have := HZ.out; omega
          have e : addC T k = T ++ [k] := by unfold addC; rw [if_neg hk]
          have HT2 := hd e
          clear e hk hno
          have hcA := (Chg.refl [] wr).alloc (.cells #[.int .i64 (k : Int)] 3)
          have hone := Fs.lit wr [(k : Int)] #[.int .i64 (k : Int)] 3 1 rfl rfl (by simp)
          have hDA := hD.out.k hcA
          have hlA := hDA.l
          have hbA : w1.heap.size ≤ (wr.alloc (.cells #[.int .i64 (k : Int)] 3)).heap.size := hDA.c.size
          have hlenT : (T.map Int.ofNat).length = T.length := List.length_map _
          have hTlen : T.length ≤ 10000 := by have := hTl.out.1; have := HL1.out; omega
          have HDA := hd hDA
          have HLT := hd hlenT
          clear hDA hcA
          go_wp2_with (at_builtin; refine wpAppIM rfl _ _ rfl w1.heap.size (.slice ao T.length c) (T.map Int.ofNat) rfl hlA (.slice (some ⟨wr.heap.size, 0, none⟩) 1 1) [(k : Int)] rfl hone (by rw [hlenT]; simp; omega) hbA ?_; intro ao6 c6 w6 h6 hg6 hmv6; rw [hlenT] at h6 hmv6; simp only [List.length_cons, List.length_nil, Nat.zero_add] at h6 hmv6; have hD6 := HDA.out.app hg6 (ys := (T ++ [k]).map Int.ofNat) (by rw [List.map_append]; exact h6) hmv6; try simp only [hlenT, List.length_cons, List.length_nil, Nat.zero_add])
          go_meet
          case rel => exact ⟨ao6, c6, by rw [HT2.out, List.length_append]; rfl, by rw [HT2.out, List.length_append]; exact hD6⟩
      case rest =>
      obtain ⟨ao6, c6, rfl, hD6⟩ := hcut
      apply_assumption -exfalso -symm
      have hmt := hD6.m
      have hesl : es.length ≤ 10000000000000 := by have := hTl.out.2; have := HL1.out; omega
      have hk46 : k ≤ 4611686018427387904 := by have := HK16.out; omega
      have HD6 := hd hD6
      clear hD6
      go_upto_region 15 with (at_mapUpdate; refine wpPutZ rfl rfl _ _ _ rfl mb es k 1 rfl rfl rfl hmt hk46 (by decide) hesl ?_; intro w7 hm7 hg7)
      have hD7 := HD6.out.upd hg7 (M' := fun u => MapZt u mb (zput es k 1)) (fun S u u' hc hn hm => hm.chg hc hn) hm7
      have HD7 := hd hD7
      have hat := HAT.out w7 k (h1.k hD7.c) HK16.out
      have HTK := hd (HXO.out.t k HK16.out)
      have hrm := hN.out.c.n.room
      have HRM := hd hrm
      have HAT7 := hd hat
      clear hmt hm7 hg7 hesl hk46 HD6 hD7 hat hrm
      go_wp2_with (first
        | (go_at_call 10; refine HAT7.out.mono ?_; rintro e w8 ⟨bv, jv, kv, LL, rfl, hA8, hap8, h8⟩; have hpt := HD7.out.put h8 bv jv kv LL (XF k) hA8 hap8 (HXO.out.g k HK16.out).fit (HXO.out.c k HK16.out) k HTK.out (by have := HK16.out; omega) (by have := hO.out; have := HL1.out; omega) (by rw [HRM.out]; decide); rw [show frameB (XF k).tick (leW (XF k)) = FBn XF k from rfl, HPT.out.1] at hpt; clear hA8 hap8 h8)
        | (go_at_call 12; refine hpt.mono ?_; rintro e w9 ⟨rfl, hD9⟩))
      obtain ⟨-, ⟨L9, hN9⟩, hA9, hO9⟩ := HPT.out
      have HN9 := hd hN9
      have HA9 := hd hA9
      have HO9 := hd hO9
      have HD9 := hd hD9
      have hzl : (zput es k 1).length ≤ es.length + 1 := by unfold zput zdel; rw [List.length_append]; have := List.length_filter_le (fun p : Nat × Nat => !(p.1 == k)) es; simp only [List.length_cons, List.length_nil]; omega
      have HZL := hd hzl
      clear hN9 hA9 hO9 hD9 hpt hzl
      go_roundw
      case rel => exact ⟨i + 1, ao6, c6, _, L9, _, by omega, by go_num, by rw [HSN.out], hd (by rw [HSN.out]; exact HN9.out), hd (by rw [HSN.out]; exact HA9.out), hd (by have := hO.out; have := HO9.out; omega), hd (by rw [HSN.out]; have := hTl.out; have := HZL.out; have := addC_len T k; omega), hd (by rw [HSN.out]; exact HD9.out)⟩
      case measure => simp [intOf]; omega
    · obtain rfl : i = l1.length := by omega
      rw [List.take_length] at hN hA1 hTl hD ⊢
      generalize allC l1 = T at *
      clear hA1 hao1 HE1 HNI HDM hlt
      have HT8 := hd (show T.length ≤ 8 by have := hTl.out.1; have := HL1.out; omega)
      have HN0 := hd hN.out
      have HO0 := hd (show d.ops ≤ 56 + ((0 : Nat) : Int) by have := hO.out; have := HL1.out; omega)
      have HE0 := hd (show es.length ≤ 8 + 0 by have := hTl.out.2; have := HL1.out; omega)
      have HDW := hd hD.out
      clear hN hO hTl hD
      generalize d = dA at *
      generalize L = LA at *
      generalize es = eA at *
      go_wp2_with fail
      go_loopw [13, 14, 15, 16, 17, 71] (fun _ _ _ _ _ t71 wr => ∃ (j : Nat) (d : Dsk) (L : List (Nat × List UInt8 × Nat)) (es : Zm), j ≤ l2.length ∧ t71 = .int .i64 j ∧ Hd (NInv XF 4194304 T es L d l1.length) ∧ Hd (d.ops ≤ 56 + (j : Int)) ∧ Hd (es.length ≤ 8 + j) ∧ Hd (DML w1 wr b d mb (fun u => MapZt u mb es) (.slice ao T.length c) (T.map Int.ofNat)))
        (fun _ _ _ _ _ t71 _ => l2.length - (intOf t71).toNat)
      case atStart => exact ⟨0, dA, LA, eA, by omega, rfl, HN0, HO0, HE0, HDW⟩
      case round =>
        obtain ⟨j, d, L, es, hj, rfl, hN, hO, hEl, hD⟩ := hrel
        by_cases hlt : j < l2.length
        · have hltj : (j : Int) < (l2.length : Int) := by omega
          obtain rfl := hao2 (by omega)
          have q0 := (h1.k hD.out.c).cellS (HE2.out j hlt)
          have hke := u8_and15 l2[j]
          have hk16 := tkC_lt l2[j]
          have hy0 := n8_lo l2[j]
          have hy1 := n8_hi l2[j]
          obtain ⟨Mk, hMk, hMk0⟩ : ∃ Mk : UInt32, n32 Mk = 1 + n8 l2[j] ∧ Mk ≠ 0 := by
            refine ⟨UInt32.ofNat (1 + (l2[j]).toNat), ?_, ?_⟩
            · have := (l2[j]).toNat_lt; unfold n32 n8; rw [UInt32.toNat_ofNat', Nat.mod_eq_of_lt (by omega)]; omega
            · intro e; have h := congrArg UInt32.toNat e; rw [UInt32.toNat_ofNat', Nat.mod_eq_of_lt (by have := (l2[j]).toNat_lt; omega)] at h; simp at h
          generalize l2[j]'hlt = x at *
          generalize tkC x = k at *
          generalize n8 x = y at *
          have HK16 := hd hk16
          have HMK := hd hMk
          have HMK0 := hd hMk0
          have HY := hd (And.intro hy0 hy1)
          have hwk : wrap64 (k : Int) = (k : Int) := IntWalk.wrap64_in _ (by omega)
          have hlk := hD.out.m.look k (by omega)
          clear hk16 hMk hMk0 hy0 hy1
          go_upto_region 22 with (fail)
          rw [hwk]
          clear q0 hke
          obtain ⟨z, hz⟩ : ∃ z, (zget es k).getD 0 = z := ⟨_, rfl⟩
          rw [hz] at hlk
          have HZ := hd hz
          clear hz
          go_upto_if 82 with (fail)
          clear hlk
          by_cases hz1 : z = 1
          · have hzz : ((z : Int) == 1) = true := by rw [beq_iff_eq]; omega
            have hst : (zget es k).getD 0 = 1 := by rw [HZ.out, hz1]
            obtain ⟨hkT, hby, hsy⟩ := hN.out.read hst
            have hmt := hD.out.m
            have hesl : es.length ≤ 10000000000000 := by have := hEl.out; have := HL2.out; omega
            have hk46 : k ≤ 4611686018427387904 := by have := HK16.out; omega
            have HST := hd hst
            have HKT := hd hkT
            have HBY := hd hby
            have HSY := hd hsy
            clear hst hkT hby hsy hz1
            go_upto_region 24 with (at_mapUpdate; refine wpPutZ rfl rfl _ _ _ rfl mb es k 2 rfl rfl rfl hmt hk46 (by decide) hesl ?_; intro w7 hm7 hg7)
            have HD7 := hd (hD.out.upd hg7 (M' := fun u => MapZt u mb (zput es k 2)) (fun S u u' hc hn hm => hm.chg hc hn) hm7)
            clear hmt hm7 hg7 hesl hk46 hzz
            obtain ⟨LEN, hLEN⟩ : ∃ n, n = (FBn XF k).length := ⟨_, rfl⟩
            have hLb : 20 ≤ LEN ∧ LEN ≤ 270020 := by have := HXO.out.f k HK16.out; rw [hLEN]; refine ⟨?_, this⟩; unfold FBn; rw [frameB_length]; omega
            have HLEN := hd hLEN
            clear hLEN
            go_upto_region 25 with (first
              | (go_at_call 13; refine (Check_any _ k (by have := HK16.out; omega)).mono ?_; rintro e w8 ⟨rfl, h8⟩; have hrd := (HD7.out.k h8).read (chkB k) (by rw [chk_length]; decide) (by have := hO.out; have := HL2.out; omega) HSY.out; rw [HBY.out, ← HLEN.out] at hrd)
              | (go_at_call 14; refine hrd.mono ?_; rintro e w9 ⟨⟨ao9, c9, rfl⟩, hD9⟩))
            have HD9 := hd hD9
            clear hrd h8 hD9
            obtain ⟨r, hr, hr2⟩ : ∃ r : Nat, (37 * (j : Int) + y).tmod (8 * (LEN : Int) - 32) = (r : Int) ∧ r + 32 < 8 * LEN := by
              have h0 := HY.out
              have hpos : 0 < 8 * (LEN : Int) - 32 := by omega
              refine ⟨((37 * (j : Int) + y) % (8 * (LEN : Int) - 32)).toNat, ?_, ?_⟩
              · rw [Int.tmod_eq_emod_of_nonneg (by omega), Int.toNat_of_nonneg (Int.emod_nonneg _ (by omega))]
              · have h1 := Int.emod_lt_of_pos (37 * (j : Int) + y) hpos
                have h2 := Int.emod_nonneg (37 * (j : Int) + y) (show 8 * (LEN : Int) - 32 ≠ 0 by omega)
                omega
            have hj8 : j < 8 := by have := HL2.out; omega
            have e1 : IntKind.i64.wrap (37 * (j : Int)) = 37 * (j : Int) := IntWalk.i64_in _ (by omega)
            have e2 : IntKind.i64.wrap y = y := IntWalk.i64_in _ (by have := HY.out; omega)
            have e3 : IntKind.i64.wrap (37 * (j : Int) + y) = 37 * (j : Int) + y := IntWalk.i64_in _ (by have := HY.out; omega)
            have e4 : IntKind.i64.wrap (8 * (LEN : Int)) = 8 * (LEN : Int) := IntWalk.i64_in _ (by omega)
            have e5 : IntKind.i64.wrap (8 * (LEN : Int) - 32) = 8 * (LEN : Int) - 32 := IntWalk.i64_in _ (by omega)
            have e6 : ¬ 8 * (LEN : Int) - 32 = 0 := by omega
            have HR := hd hr2
            have hLb1 := hLb.1
            clear hLb hr2
            have e7 : IntKind.u32.wrap y = y := by have := HY.out; simp [IntKind.wrap, IntKind.signed, IntKind.bits]; omega
            have e8 : IntKind.u32.wrap (1 + y) = 1 + y := by have := HY.out; simp [IntKind.wrap, IntKind.signed, IntKind.bits]; omega
            obtain ⟨⟨L', hN'⟩, hO'⟩ := hN.out.op.bend HKT.out HST.out r Mk HMK0.out (by have := HR.out; rw [← HLEN.out]; omega)
            have HN' := hd hN'
            have HO' := hd hO'
            clear hN' hO'
            have hDx := HD9.out.k ((Chg.refl [] w9).drew)
            refine rg (N := 17) (by kernel_rfl) (by kernel_rfl) (S := (fun wx => Chg [] w1 wx)) hDx.c (fun hHeld => ?_)
            generalize w9.drew = w9d at *
            refine tks [0, 1, 3, 4, 5, 6, 7, 8, 9, 10, 11, 12, 13, 14, 15] (by kernel_rfl) (fun _ _ _ _ _ h => h) (by assumption) ?_
            iterate 15 (refine tkc rfl rfl (by rfl) (fun wx hSw => by (try dsimp only at hSw); go_simp; (try with_reducible rfl)) ?_; simp only [List.set])
            refine tk0 ?_
            refine rn 2 rfl (by kernel_rfl) (by rfl) fun KK hKK => ?_
            go_simp; (refine (Check_any _ k (by have := HK16.out; omega)).mono ?_; rintro e w10 ⟨rfl, h10⟩; replace hDx := hDx.k h10; have hm := hDx.c; (try go_simp)); refine hKK.out _ _ (by assumption) fun hHeld => ?_; clear hKK KK; try simp only [Act.put, List.setIfInBounds_toArray, List.set]
            refine rn 16 rfl (by kernel_rfl) (by rfl) fun KK hKK => ?_
            go_simp; (have hbd := hDx.bend (chkB k) (by rw [chk_length]; decide) (r : Int) Mk (by omega) (by have := HR.out; have := HXO.out.f k HK16.out; rw [← HLEN.out] at this; omega); rw [HMK.out] at hbd; refine hbd.mono ?_; rintro e w11 ⟨rfl, hD11⟩; have hm := hD11.c; (try go_simp)); refine hKK.out _ _ (by assumption) fun hHeld => ?_; clear hKK KK; try simp only [Act.put, List.setIfInBounds_toArray, List.set]
            refine wpAnyH_done (by kernel_rfl) ?_ _
            have HD11 := hd hD11
            have hzl := zput_len es k 2
            have HZL := hd hzl
            clear hD11 hm hDx hHeld hzl e1 e2 e3 e4 e5 e6 e7 e8 hr hj8
            go_wp2_with fail
            go_roundw
            case rel => exact ⟨j + 1, _, L', _, by omega, by go_num, HN', hd (by rw [HO'.out]; have := hO.out; show d.ops + 1 ≤ _; omega), hd (by have := hEl.out; have := HZL.out; omega), HD11⟩
            case measure => simp [intOf]; omega
          · have hzz : ((z : Int) == 1) = false := by rw [beq_eq_false_iff_ne]; omega
            go_wp2_with fail
            go_roundw
            case rel => exact ⟨j + 1, d, L, es, by omega, by go_num, hN, hd (by have := hO.out; omega), hd (by have := hEl.out; omega), hD⟩
            case measure => simp [intOf]; omega
        · obtain rfl : j = l2.length := by omega
          have hmp := hD.out.m
          have HND := hd hmp.nodup
          have HOB := hd (show d.ops ≤ 64 by have := hO.out; have := HL2.out; omega)
          have HEB := hd (show es.length ≤ 16 by have := hEl.out; have := HL2.out; omega)
          clear HD0 HO0 HE0 HDW HN0 hao2 HE2 hlt hO hEl
          obtain ⟨wL, hwL⟩ : ∃ wL, wL = wr := ⟨_, rfl⟩
          subst hwL
          go_wp2_with (at_range; refine wpRangeZ rfl _ rfl mb es rfl hmp ?_; intro w4 hr4 hc4)
          clear hmp
          go_frame
          go_loopw [18, 19, 20] (fun t18 _ _ wx => ∃ (v : Int) (rest : Zm), t18 = .int .i64 v ∧ Hd (Best es rest v) ∧ MapZRange wx mb wL.heap.size es rest ∧ Chg [] wL wx) (fun _ _ _ wx => wx.rangeLeft mb wL.heap.size)
          case atStart => exact ⟨-1, es, rfl, hd (Best.start es), hr4, hc4⟩
          case round =>
            obtain ⟨v, rest, rfl, hB, hr, hc⟩ := hrel
            go_wp2_with (first
              | (at_next; refine wpNextZ rfl _ rfl mb wL.heap.size es rest rfl hr ?_ ?_)
              | fail)
            · rintro rfl
              obtain ⟨d5, ok, X5, hN5, hI5, hO5, hcs⟩ := hN.out.newest HXO.out HND.out hB.out (by have := HOB.out; have := HT8.out; omega)
              have hD5 := hD.out.k hc
              have hnw := hD5.newest ao c T (by have := HT8.out; omega) hD5.l.fs 0 ok X5 d5 hN5
              have HNW := hd hnw
              have HI5 := hd hI5
              have HCS := hd hcs
              have HO5 := hd (show d5.ops ≤ 72 by have := HOB.out; have := HT8.out; omega)
              clear hnw hN5 hI5 hO5 hcs hD5 hr hc
              go_upto_region 34 with (first
                | (go_at_call 27; refine HNW.out.mono ?_; rintro e w9 ⟨⟨⟨bv9, jv9, kv9, L9, rfl, hp9, ha9⟩, hc9⟩, hD9⟩; rw [show vW X5 bv9 jv9 kv9 = .agg (wC X5 bv9 jv9 kv9) from rfl]; have kb9 := Blk.new w9 #[.int .i64 0, .int .i64 0, .int .i64 0, .int .i64 0, .int .i64 0, .slice none 0 0, .slice none 0 0, .slice none 0 0] 32; have hall9 := wC_all hp9)
                | (refine wpList_store_row rfl _ _ _ rfl w9.heap.size (wC X5 bv9 jv9 kv9) rfl rfl 32 _ kb9 (by kernel_rfl) rfl hall9 ?_))
              have HB9 := hd hD9.blt
              have HA9 := hd ha9
              have hcx9 : Chg [] w9 ((w9.alloc (.cells #[.int .i64 0, .int .i64 0, .int .i64 0, .int .i64 0, .int .i64 0, .slice none 0 0, .slice none 0 0, .slice none 0 0] 32)).setRow w9.heap.size (wC X5 bv9 jv9 kv9)) := Chg.row ((Chg.refl [] w9).alloc _) w9.heap.size _ (fun h => absurd h (Nat.lt_irrefl _))
              have ky9 := kb9.row (cs' := wC X5 bv9 jv9 kv9)
              generalize (w9.alloc (.cells #[.int .i64 0, .int .i64 0, .int .i64 0, .int .i64 0, .int .i64 0, .slice none 0 0, .slice none 0 0, .slice none 0 0] 32)).setRow w9.heap.size (wC X5 bv9 jv9 kv9) = w9x at *
              obtain ⟨tb9, htb9⟩ : ∃ tb, tb = w9.heap.size := ⟨_, rfl⟩
              rw [← htb9] at ky9 ⊢
              have HK9 := hd ky9
              have HP9 := hd (hp9.k hcx9)
              have HT9 := hd htb9
              clear kb9 ky9 htb9 hp9 hall9
              have HD9 := hd (hD9.k hcx9)
              clear hc9 hD9 hcx9 ha9 HNW
              rcases HCS.out with ⟨rfl, rfl, rfl⟩ | ⟨m, hm16, rfl, rfl, rfl⟩
              · have HSZ := hd (fun W (hW : Chg [] w9x W) => WSame_any W (vW WZ bv9 jv9 kv9) vWZ WZ WZ ⟨_, _, _, _, rfl, HP9.out.k hW⟩ (WZ_reads W) (by decide))
                go_wp2_with (first
                  | (refine wpList_load_row rfl _ _ rfl tb9 rfl 32 _ (0, 0) _ HK9.out Tryz.underlying32 rfl (by kernel_rfl) ?_)
                  | (go_at_call 18; refine (HSZ.out _ (Chg.refl _ _)).mono ?_; rintro e w10 ⟨⟨q, rfl, hq⟩, hm10⟩; obtain rfl : q = true := hq.2 (by first | rfl | trivial)))
                rw [HP.out]
                exact ⟨rfl, (h1.k HD9.out.c).k hm10⟩
              · have hm0 : (0 : Int) ≤ (m : Int) := by omega
                have HM16 := hd hm16
                clear hm16
                go_upto_region 38 with (fail)
                clear hm0
                have hmp := HD9.out.m
                obtain ⟨-, fp9, hk9, hcw9, hf9, hmf9, hmlo9, hmz9, -, hl9, hol9⟩ := HD9.out
                have hbf9 : b ∈ fp9 := by obtain ⟨_, _, _, _, _, hh⟩ := hk9; exact hh.fpb
                have HFL9 := hd hk9.fpl
                have HK9D := hd hk9
                have HL9 := hd hl9
                have HCW9 := hd (h1.k hcw9)
                have HOL9 := hd (fun k hk => (hol9 k hk).1)
                have HBF := hd hbf9
                have HBW := hd (show w.heap.size ≤ b by have := HB9.out.2.1; have := h1.size; omega)
                have HTB := hd (show tb9 ≠ b by have := HB9.out.1; have := HT9.out; omega)
                clear hk9 hcw9 hf9 hmf9 hmlo9 hmz9 hl9 hol9 hbf9
                go_wp2_with (at_range; refine wpRangeZ rfl _ rfl mb es rfl hmp ?_; intro w6 hr6 hc6)
                clear hmp
                try go_frame
                go_loopw [24, 25, 26, 27] (fun _ _ _ _ wy => ∃ (dk : Dsk) (rest : Zm), Hd (NInv XF 4194304 T es L dk l1.length) ∧ Hd (dk.ops + rest.length ≤ 100) ∧ MapZRange wy mb w9x.heap.size es rest ∧ Hd (Dk wy fp9 b dk) ∧ Hd (Chg [b] w9x wy)) (fun _ _ _ _ wy => wy.rangeLeft mb w9x.heap.size)
                case atStart => exact ⟨d5, es, HI5, hd (by have := HO5.out; have := HEB.out; omega), hr6, hd (HK9D.out.k hc6), hd (hc6.mono (by simp))⟩
                case round =>
                  obtain ⟨dk, rest, hNk, hOk, hrk, hDk, hck⟩ := hrel
                  go_wp2_with (first
                    | (at_next; refine wpNextZ rfl _ rfl mb w9x.heap.size es rest rfl hrk ?_ ?_)
                    | fail)
                  · rintro rfl
                    have hly := ownsRow_chg HL9.out hck.out (fun k hk hm => by simp at hm; subst hm; exact HOL9.out _ hk HBF.out)
                    have hOL := OwI.lit wr wr.heap.size [77] #[.int .i64 77] rfl (Nat.le_refl _) (by decide)
                    have hcA := (Chg.refl [] wr).alloc (.cells #[.int .i64 77] 3)
                    have hfs := (OwI.k hly hcA).fs
                    have hlenT : (T.map Int.ofNat).length = T.length := List.length_map _
                    have hTl : T.length ≤ 100 := by have := HT8.out; omega
                    have HNW := hd (fun (W : World) (hW : Chg [] wr W) (ao5 : Option Addr) (c5 : Nat) (hu : OwI W wr.heap.size (.slice ao5 (1 + T.length) c5) ((77 :: T).map Int.ofNat)) => by
                      have e : 1 + T.length = (77 :: T).length := by simp; omega
                      rw [e] at hu
                      exact Newest_any (hDk.out.k hW) ao5 c5 (77 :: T) (by simp; omega) hu.fs 4 false WZ (opD dk) (hNk.out.newest77 (by have := hOk.out; simp at this; omega)))
                    have e77 : (77 :: T).length = 1 + T.length := by simp; omega
                    rw [e77] at HNW
                    have HC9X := hd hck.out
                    clear hly e77
                    go_upto_region 45 with (first
                      | (at_builtin; refine wpAppI rfl _ _ rfl wr.heap.size (.slice (some ⟨wr.heap.size, 0, none⟩) 1 1) [77] rfl hOL (.slice ao T.length c) (T.map Int.ofNat) rfl hfs (by rw [hlenT]; simp; omega) hcA.size ?_; intro ao5 c5 w5 h5 hg5; rw [hlenT] at h5; simp only [List.length_cons, List.length_nil, Nat.zero_add] at h5; have hc5 : Chg [] wr w5 := hcA.grown hg5 (fun j hj hl => by have := (World.ownsRow.lt hOL j hj).1; omega); have hcl := HNW.out w5 hc5 ao5 c5 h5)
                      | (go_at_call 27; refine hcl.mono ?_; rintro e w10 ⟨bv10, jv10, kv10, L10, rfl, hp10, -, -, hc10⟩; rw [show vW WZ bv10 jv10 kv10 = .agg (wC WZ bv10 jv10 kv10) from rfl]; have kb10 := Blk.new w10 #[.int .i64 0, .int .i64 0, .int .i64 0, .int .i64 0, .int .i64 0, .slice none 0 0, .slice none 0 0, .slice none 0 0] 32; have hall10 := wC_all hp10)
                      | (refine wpList_store_row rfl _ _ _ rfl w10.heap.size (wC WZ bv10 jv10 kv10) rfl rfl 32 _ kb10 (by kernel_rfl) rfl hall10 ?_))
                    have hcx10 : Chg [] w10 ((w10.alloc (.cells #[.int .i64 0, .int .i64 0, .int .i64 0, .int .i64 0, .int .i64 0, .slice none 0 0, .slice none 0 0, .slice none 0 0] 32)).setRow w10.heap.size (wC WZ bv10 jv10 kv10)) := Chg.row ((Chg.refl [] w10).alloc _) w10.heap.size _ (fun h => absurd h (Nat.lt_irrefl _))
                    have ky10 := kb10.row (cs' := wC WZ bv10 jv10 kv10)
                    generalize (w10.alloc (.cells #[.int .i64 0, .int .i64 0, .int .i64 0, .int .i64 0, .int .i64 0, .slice none 0 0, .slice none 0 0, .slice none 0 0] 32)).setRow w10.heap.size (wC WZ bv10 jv10 kv10) = w10x at *
                    obtain ⟨tb10, htb10⟩ : ∃ tb, tb = w10.heap.size := ⟨_, rfl⟩
                    rw [← htb10] at ky10 ⊢
                    have HK10 := hd ky10
                    have HP10 := hd (hp10.k hcx10)
                    clear kb10 ky10 htb10 hp10 hall10
                    have HKV := hd ((((HK9.out.chg HC9X.out (by have := HTB.out; simp; exact this)).k hc5).chg hc10 (by have := HTB.out; simp; exact this)).k hcx10)
                    have HPV := hd ((((HP9.out.chg HC9X.out HA9.out).k hc5).chg hc10 HA9.out).k hcx10)
                    have HCV := hd ((((HCW9.out.trans HC9X.out (by simp only [List.mem_singleton]; rintro x rfl hx; have := HBW.out; omega)).k hc5).trans hc10 (by simp only [List.mem_singleton]; rintro x rfl hx; have := HBW.out; omega)).k hcx10)
                    have hbm : (XF m).bodies.length ≤ 1099511627776 := by have := (HXO.out.g m HM16.out).fit.bl; omega
                    have HBM := hd hbm
                    clear hcl hc5 hc10 hcx10 hg5 h5 hOL hcA hfs hbm
                    refine rg (N := 10) (by kernel_rfl) (by kernel_rfl) (S := (fun wx => Chg [] w10x wx)) ((Chg.refl _ _).drew) (fun hHeld => ?_)
                    generalize w10x.drew = wd at *
                    refine tks [0, 1, 2] (by kernel_rfl) (fun _ _ _ _ _ h => h) (by assumption) ?_
                    refine tkc rfl rfl (by rfl) (fun wx hSw => by (try dsimp only at hSw); (refine exec_load_row (x := .tmp 21) (t := 32) ?_ ?_ (HKV.out.k hSw) Tryz.underlying32 rfl (by kernel_rfl) <;> rfl)) ?_; simp only [List.set]
                    iterate 2 (refine tkc rfl rfl (by rfl) (fun wx hSw => by (try dsimp only at hSw); go_simp; (try with_reducible rfl)) ?_; simp only [List.set])
                    refine tk0 ?_
                    refine rn 3 rfl (by kernel_rfl) (by rfl) fun KK hKK => ?_
                    go_simp; (refine (HAT.out _ m (HCV.out.k hHeld) HM16.out).mono ?_; rintro e w11 ⟨bv11, jv11, kv11, L11, rfl, hp11, -, h11⟩; have hm := Chg.k' hHeld h11; (try go_simp)); refine hKK.out _ _ (by assumption) fun hHeld => ?_; clear hKK KK; try simp only [Act.put, List.setIfInBounds_toArray, List.set]
                    refine rn 4 rfl (by kernel_rfl) (by rfl) fun KK hKK => ?_
                    go_simp; (refine (WSame_any _ (vW (XF m) bv9 jv9 kv9) (vW (XF m) bv11 jv11 kv11) (XF m) (XF m) ⟨_, _, _, _, rfl, HPV.out.k hHeld⟩ ⟨_, _, _, _, rfl, hp11⟩ HBM.out).mono ?_; rintro e w12 ⟨⟨q, rfl, hq⟩, hm12⟩; have hm := Chg.k' hHeld hm12; obtain rfl : q = true := hq.2 (by first | rfl | trivial); (try go_simp)); refine hKK.out _ _ (by assumption) fun hHeld => ?_; clear hKK KK; try simp only [Act.put, List.setIfInBounds_toArray, List.set]
                    refine rn 5 rfl (by kernel_rfl) (by rfl) fun KK hKK => ?_
                    go_simp; refine hKK.out _ _ (by assumption) fun hHeld => ?_; clear hKK KK; try simp only [Act.put, List.setIfInBounds_toArray, List.set]
                    refine tks [6, 7] (by kernel_rfl) (fun _ _ _ _ _ h => h) (by assumption) ?_
                    iterate 2 (refine tkc rfl rfl (by rfl) (fun wx hSw => by (try dsimp only at hSw); go_simp; (try with_reducible rfl)) ?_; simp only [List.set])
                    refine tk0 ?_
                    refine rn 8 rfl (by kernel_rfl) (by rfl) fun KK hKK => ?_
                    go_simp; refine hKK.out _ _ (by assumption) fun hHeld => ?_; clear hKK KK; try simp only [Act.put, List.setIfInBounds_toArray, List.set]
                    refine rn 9 rfl (by kernel_rfl) (by rfl) fun KK hKK => ?_
                    go_simp; refine hKK.out _ _ (by assumption) fun hHeld => ?_; clear hKK KK; try simp only [Act.put, List.setIfInBounds_toArray, List.set]
                    refine wpAnyH_done (by kernel_rfl) ?_ _
                    skip
                    all_goals
                      have HF := hd (HCV.out.k hHeld)
                      clear hHeld
                      try go_wp2_with (fail)
                      rw [HP.out]
                      exact ⟨rfl, HF.out⟩
                  · intro n i w7 hmem hr7 hc7 hlt7 hen7
                    have hzg := mem_zget HND.out (hrk.sub _ hmem)
                    have hnT : n ∈ T := Classical.byContradiction fun hn => by rw [hNk.out.es0 n hn] at hzg; cases hzg
                    have hi12 := hNk.out.es1 n hnT
                    obtain ⟨q1, q2, q3⟩ := hNk.out.load HXO.out hnT
                    rw [hzg] at hi12 q1 q2
                    simp only [Option.getD_some] at hi12 q1 q2
                    have h16 := hNk.out.t16 n hnT
                    obtain ⟨r7, X7, hli, hri⟩ : ∃ r X, LoadIs dk n r X ∧ ((i = 1 ∧ r = 0) ∨ (i = 2 ∧ r = 9)) := by
                      rcases hi12 with h | h
                      · exact ⟨0, _, q1 h, .inl ⟨h, rfl⟩⟩
                      · exact ⟨9, _, q2 (by omega), .inr ⟨h, rfl⟩⟩
                    have hk7 := hDk.out.chg hc7 (fun x hx hm => by have := HFL9.out x hx; simp at hm; omega)
                    have hbox := hk7.box0
                    have hlz := length_zdel hrk.nodup n
                    rw [mem_zget hrk.nodup hmem] at hlz
                    simp only [Option.isSome_some, if_true] at hlz
                    have HLD := hd (Load_any hk7 n (by omega) (by have := hOk.out; omega) (by omega) r7 X7 hli)
                    have HRI := hd hri
                    have HBX := hd hbox
                    have HR7 := hd hr7
                    have HLT := hd hlt7
                    have HLZ := hd hlz
                    have HC7 := hd (hck.out.trans hc7 (by simp))
                    clear hzg hnT hi12 q1 q2 q3 h16 hli hri hk7 hbox hr7 hlt7 hlz hc7 hmem
                    go_upto_region 42 with (first
                      | (go_at_call 17; refine HLD.out.mono ?_; rintro e w8 ⟨bv8, jv8, kv8, L8, rfl, hp8, -, hd8, hc8⟩; rw [show vW X7 bv8 jv8 kv8 = .agg (wC X7 bv8 jv8 kv8) from rfl]; have kb8 := Blk.new w8 #[.int .i64 0, .int .i64 0, .int .i64 0, .int .i64 0, .int .i64 0, .slice none 0 0, .slice none 0 0, .slice none 0 0] 32; have hall8 := wC_all hp8)
                      | (refine wpList_store_row rfl _ _ _ rfl w8.heap.size (wC X7 bv8 jv8 kv8) rfl rfl 32 _ kb8 (by kernel_rfl) rfl hall8 ?_))
                    have hcx8 : Chg [] w8 ((w8.alloc (.cells #[.int .i64 0, .int .i64 0, .int .i64 0, .int .i64 0, .int .i64 0, .slice none 0 0, .slice none 0 0, .slice none 0 0] 32)).setRow w8.heap.size (wC X7 bv8 jv8 kv8)) := Chg.row ((Chg.refl [] w8).alloc _) w8.heap.size _ (fun h => absurd h (Nat.lt_irrefl _))
                    have ky8 := kb8.row (cs' := wC X7 bv8 jv8 kv8)
                    generalize (w8.alloc (.cells #[.int .i64 0, .int .i64 0, .int .i64 0, .int .i64 0, .int .i64 0, .slice none 0 0, .slice none 0 0, .slice none 0 0] 32)).setRow w8.heap.size (wC X7 bv8 jv8 kv8) = w8x at *
                    obtain ⟨tb8, htb8⟩ : ∃ tb, tb = w8.heap.size := ⟨_, rfl⟩
                    rw [← htb8] at ky8 ⊢
                    have HK8 := hd ky8
                    have HP8 := hd (hp8.k hcx8)
                    clear kb8 ky8 htb8 hp8 hall8
                    obtain ⟨bcs, bt, hbb⟩ := HBX.out
                    obtain ⟨m1, m2⟩ := HR7.out.walks (hc8.walks hbb)
                    obtain ⟨m3, m4⟩ := m1.walks hcx8.walks0
                    have HM3 := hd m3
                    have HM4 := hd (show w8x.rangeLeft mb w9x.heap.size < wr.rangeLeft mb w9x.heap.size by rw [m4, m2]; exact HLT.out)
                    have HD8 := hd (hd8.k hcx8)
                    have HC8 := hd ((HC7.out.trans hc8 (fun x hx _ => hx)).k' hcx8)
                    clear hbb m1 m2 m3 m4 hd8 hc8 hcx8
                    rcases HRI.out with ⟨rfl, rfl⟩ | ⟨rfl, rfl⟩
                    · go_wp2_with fail
                      go_roundw
                      case rel => exact ⟨opD dk, zdel rest n, hd hNk.out.op, hd (by have := hOk.out; have := HLZ.out; show dk.ops + 1 + _ ≤ _; omega), HM3.out, HD8, HC8⟩
                      case measure => exact HM4.out
                    · go_wp2_with fail
                      go_roundw
                      case rel => exact ⟨opD dk, zdel rest n, hd hNk.out.op, hd (by have := hOk.out; have := HLZ.out; show dk.ops + 1 + _ ≤ _; omega), HM3.out, HD8, HC8⟩
                      case measure => exact HM4.out
            · intro n i w5 hmem hr5 hc5 hlt5 hen5
              have hst := hB.out.step HND.out hr.sub hmem
              have HLT5 := hd hlt5
              have hcw := hc.trans hc5 (by simp)
              have HCW := hd hcw
              have HR5 := hd hr5
              clear hlt5 hcw hr5
              by_cases hi1 : i = 1
              · rw [if_pos hi1] at hst
                obtain ⟨q, hq⟩ : ∃ q, max v (n : Int) = q := ⟨_, rfl⟩
                rw [hq] at hst
                have HST := hd hst
                subst hi1
                clear hst
                go_wp2_with fail
                go_roundw
                case rel => exact ⟨q, zdel rest n, rfl, HST, HR5.out, HCW.out⟩
                case measure => exact HLT5.out
              · rw [if_neg hi1] at hst
                have hz : ((i : Int) == 1) = false := by rw [beq_eq_false_iff_ne]; omega
                have HST := hd hst
                clear hst hi1
                go_wp2_with fail
                go_roundw
                case rel => exact ⟨v, zdel rest n, rfl, HST, HR5.out, HCW.out⟩
                case measure => exact HLT5.out
end Go.Proofs.YtbiadpkglcdihaaGreat
