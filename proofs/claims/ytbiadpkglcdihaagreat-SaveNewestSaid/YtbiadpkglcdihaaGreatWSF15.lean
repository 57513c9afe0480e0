/- Words and walks that SF rests on: WorldF, WorldG, WorldRB, WorldRT, WorldRJ, WorldRC, WorldRS. -/
import Derived.Test.YtbiadpkglcdihaaGreatWSF10
import Derived.Test.YtbiadpkglcdihaaGreatWSF8
import Derived.Test.YtbiadpkglcdihaaGreatWSF6
import Derived.Test.YtbiadpkglcdihaaGreatWSF5
/- The bytes of the empty world are read. -/
namespace Go.Proofs.YtbiadpkglcdihaaGreat
open Go.RowKit

def z0 : St := (leW W0, false)
def z1 : St := (numR 8 z0).2
def z2 : St := (numR 8 z1).2
def z3 : St := (numR 8 z2).2
def z4 : St := (plR z3).2
def z5 : St := (countR 1024 z4).2
def z6 : St := (countR 1024 z5).2
def z7 : St := (numR 4 z6).2
theorem RdB.lit {base b : Nat} {cur : World} {s : St} (h : RdB base cur b s) (cs : Array Value) (t : TypeId) : RdB base (cur.alloc (.cells cs t)) b s ∧ Blk (cur.alloc (.cells cs t)) cur.heap.size cs t ∧ b < cur.heap.size := by
  obtain ⟨v, h1, h2, h3, h4⟩ := h
  exact ⟨RdB.k ⟨v, h1, h2, h3, h4⟩ ((Chg.refl [] _).alloc _), Blk.new _ _ _, h1.lt⟩
end Go.Proofs.YtbiadpkglcdihaaGreat

/- The bytes of the empty world are read: codec.ReadWorld. -/
namespace Go.Proofs.YtbiadpkglcdihaaGreat
open Go.RowKit

theorem RdB.rowed {S : List Nat} {base b g : Nat} {w0 W : World} {s : St} {cs : Array Value} {t : TypeId} (hR : RdB base W b s) (hT : Blk W g cs t) (hH : Chg S w0 W) (hg : w0.heap.size ≤ g) (hb : base ≤ w0.heap.size) (cs' : Array Value) :
    Chg S w0 (W.setRow g cs') ∧ RdB base (W.setRow g cs') b s ∧ Blk (W.setRow g cs') g cs' t :=
  ⟨Chg.row hH g cs' (fun hx => absurd hx (by omega)), hR.keep (Chg.row (Chg.refl [g] W) g cs' (by simp)) (by simp; omega), hT.row⟩
end Go.Proofs.YtbiadpkglcdihaaGreat

/- codec.reader.body. -/
namespace Go.Proofs.YtbiadpkglcdihaaGreat
open Go.RowKit

set_option maxRecDepth 100000 in
set_option maxHeartbeats 8000000 in
theorem RBody_any (base b : Nat) (s : St) (w : World) (hr : RdB base w b s) (hbase : base ≤ w.heap.size) :
    Calls Tryz.prog 77 #[.agg #[.pointer (some ⟨b, 0, none⟩)]] w fun e w' => ∃ pv, e = .returned (vB (bdyR s).1 pv) ∧ VsS w' pv (bdyR s).1.shape.p ∧ (∀ k, pv.ownBlock = some k → w.heap.size ≤ k) ∧ RdB base w' b (bdyR s).2 ∧ Chg [b] w w' := by
  unfold bdyR
  simp only
  have N1 := fun W (h : RdB base W b s) => NumB_any 8 base b s W h (by omega)
  obtain ⟨z1, e1⟩ : ∃ z, z = numR 8 s := ⟨_, rfl⟩
  rw [← e1] at N1 ⊢
  have N2 := fun W (h : RdB base W b z1.2) (hb : base ≤ W.heap.size) => VB_any base b z1.2 W h hb
  obtain ⟨z2, e2⟩ : ∃ z, z = plR z1.2 := ⟨_, rfl⟩
  rw [← e2] at N2 ⊢
  have N3 := fun W (h : RdB base W b z2.2) (hb : base ≤ W.heap.size) => VB_any base b z2.2 W h hb
  obtain ⟨z3, e3⟩ : ∃ z, z = plR z2.2 := ⟨_, rfl⟩
  rw [← e3] at N3 ⊢
  have N4 := fun W (h : RdB base W b z3.2) => FB_any base b z3.2 W h
  obtain ⟨z4, e4⟩ : ∃ z, z = numR 8 z3.2 := ⟨_, rfl⟩
  rw [← e4] at N4 ⊢
  have N5 := fun W (h : RdB base W b z4.2) => FB_any base b z4.2 W h
  obtain ⟨z5, e5⟩ : ∃ z, z = numR 8 z4.2 := ⟨_, rfl⟩
  rw [← e5] at N5 ⊢
  have N6 := fun W (h : RdB base W b z5.2) => FB_any base b z5.2 W h
  obtain ⟨z6, e6⟩ : ∃ z, z = numR 8 z5.2 := ⟨_, rfl⟩
  rw [← e6] at N6 ⊢
  have N7 := fun W (h : RdB base W b z6.2) (hb : base ≤ W.heap.size) => RShape_any base b z6.2 W h hb
  obtain ⟨z7, e7⟩ : ∃ z, z = shapeR z6.2 := ⟨_, rfl⟩
  rw [← e7] at N7 ⊢
  clear e1 e2 e3 e4 e5 e6 e7
  obtain ⟨id, s1⟩ := z1
  obtain ⟨⟨px, py⟩, s2⟩ := z2
  obtain ⟨⟨vx, vy⟩, s3⟩ := z3
  obtain ⟨an, s4⟩ := z4
  obtain ⟨si, s5⟩ := z5
  obtain ⟨de, s6⟩ := z6
  obtain ⟨⟨sk, sr, sp⟩, s7⟩ := z7
  unfold vV at N2 N3
  unfold vS at N7
  unfold vB
  simp only at N1 N2 N3 N4 N5 N6 N7 ⊢
  have hlt := hr.lt
  have hc := ((Chg.refl [] w).alloc (.cells #[.pointer (some ⟨b, 0, none⟩)] 152)).alloc (.cells #[.int .i64 0, .int .i64 0, .int .i64 0, .int .i64 0, .int .i64 0, .int .i64 0, .int .i64 0, .int .i64 0, .int .i64 0, .int .i64 0, .slice none 0 0] 97)
  have hX := (Blk.new w #[.pointer (some ⟨b, 0, none⟩)] 152).alloc (.cells #[.int .i64 0, .int .i64 0, .int .i64 0, .int .i64 0, .int .i64 0, .int .i64 0, .int .i64 0, .int .i64 0, .int .i64 0, .int .i64 0, .slice none 0 0] 97)
  have hK := Blk.new (w.alloc (.cells #[.pointer (some ⟨b, 0, none⟩)] 152)) #[.int .i64 0, .int .i64 0, .int .i64 0, .int .i64 0, .int .i64 0, .int .i64 0, .int .i64 0, .int .i64 0, .int .i64 0, .int .i64 0, .slice none 0 0] 97
  rw [World.size_alloc] at hK
  have hR := hr.k hc
  go_enter Tryz.func77, Tryz.ntmps77
  go_upto_region 1 with (fail)
  generalize (w.alloc (.cells #[.pointer (some ⟨b, 0, none⟩)] 152)).alloc (.cells #[.int .i64 0, .int .i64 0, .int .i64 0, .int .i64 0, .int .i64 0, .int .i64 0, .int .i64 0, .int .i64 0, .int .i64 0, .int .i64 0, .slice none 0 0] 97) = w0 at *
  obtain ⟨rb, hrb⟩ : ∃ rb, rb = w.heap.size := ⟨_, rfl⟩
  obtain ⟨kb, hkb⟩ : ∃ kb, kb = w.heap.size + 1 := ⟨_, rfl⟩
  rw [← hkb] at hK ⊢
  rw [← hrb] at hX ⊢
  have hks := hK.lt
  have HT0 : Hd (b < base ∧ base ≤ rb ∧ kb = rb + 1 ∧ kb < w0.heap.size ∧ rb = w.heap.size) := hd ⟨hlt, by omega, by omega, hks, hrb⟩
  have HM := hd hc
  have HK := hd hK
  have HX := hd hX
  have c0 := hX.cell 0
  simp at c0
  clear hrb hkb hks hc hK hr hlt hbase hX
  go_upto_region 2 with (go_at_call 73; refine (N1 _ hR).mono ?_; rintro e w1 ⟨rfl, hr1, hm1⟩)
  have hT := Blk.new w1 #[.int .i64 id, .int .i64 0, .int .i64 0, .int .i64 0, .int .i64 0, .int .i64 0, .int .i64 0, .int .i64 0, .int .i64 0, .int .i64 0, .slice none 0 0] 97
  have hcA := (Chg.refl [] w1).alloc (.cells #[.int .i64 id, .int .i64 0, .int .i64 0, .int .i64 0, .int .i64 0, .int .i64 0, .int .i64 0, .int .i64 0, .int .i64 0, .int .i64 0, .slice none 0 0] 97)
  have hR1 := hr1.k hcA
  have HX1 := hd ((HX.out.chg hm1 (by have := HT0.out; simp; omega)).k hcA)
  have HK1 := hd ((HK.out.chg hm1 (by have := HT0.out; simp; omega)).k hcA)
  have HM1 := hd (((HM.out.mono (S' := [b]) (by simp)).trans hm1 (fun x hx _ => hx)).k' hcA)
  have hs1 := hm1.size
  obtain ⟨tb, htb⟩ : ∃ tb, tb = w1.heap.size := ⟨_, rfl⟩
  rw [← htb] at hT hs1 ⊢
  generalize w1.alloc (.cells #[.int .i64 id, .int .i64 0, .int .i64 0, .int .i64 0, .int .i64 0, .int .i64 0, .int .i64 0, .int .i64 0, .int .i64 0, .int .i64 0, .slice none 0 0] 97) = wc at *
  have HT : Hd (b < base ∧ base ≤ rb ∧ kb = rb + 1 ∧ kb < tb ∧ rb = w.heap.size) := hd (by have := HT0.out; omega)
  have NX : Hd (rb ∉ [b, tb]) := hd (by have := HT.out; simp; omega)
  have HBW : Hd (base ≤ wc.heap.size) := hd (by have := HT.out; have := hT.lt; omega)
  have hT0 := hT
  clear hT hR hr1 hm1 hcA hs1 htb HM HK HT0 HX c0
  have hT := hT0.k (Chg.refl [] wc).drew
  have hR := hR1.k (Chg.refl [] wc).drew
  clear hT0 hR1
  refine rg (N := 10) (by kernel_rfl) (by kernel_rfl) (S := (fun wx => Chg [b, tb] wc wx)) ((Chg.refl _ _).drew) (fun hHeld => ?_)
  generalize wc.drew = wcd at *
  refine tks [0, 1, 3, 4] (by kernel_rfl) (fun _ _ _ _ _ h => h) (by assumption) ?_
  iterate 4 (refine tkc rfl rfl (by rfl) (fun wx hSw => by (try dsimp only at hSw); (have t0 := (HX1.out.chg hSw NX.out).cell 0; simp at t0); go_simp; (try with_reducible rfl)) ?_; simp only [List.set])
  refine tk0 ?_
  refine rn 2 rfl (by kernel_rfl) (by rfl) fun KK hKK => ?_
  go_simp; (refine (N2 _ hR (by have := HBW.out; have := hHeld.size; omega)).mono ?_; rintro e w5 ⟨rfl, hr, hm0⟩; have hm := Chg.trans hHeld hm0 (by simp); replace hT := hT.chg hm0 (by have := HT.out; simp; omega); replace hR := hr; clear hr hm0; (try go_simp)); refine hKK.out _ _ (by assumption) fun hHeld => ?_; clear hKK KK; try simp only [Act.put, List.setIfInBounds_toArray, List.set]
  refine tks [6] (by kernel_rfl) (fun _ _ _ _ _ h => h) (by assumption) ?_
  refine tkc rfl rfl (by rfl) (fun wx hSw => by (try dsimp only at hSw); (have t0 := (HX1.out.chg hSw NX.out).cell 0; simp at t0); go_simp; (try with_reducible rfl)) ?_; simp only [List.set]
  refine tk0 ?_
  refine rn 5 rfl (by kernel_rfl) (by rfl) fun KK hKK => ?_
  go_simp; (refine (N3 _ hR (by have := HBW.out; have := hHeld.size; omega)).mono ?_; rintro e w6 ⟨rfl, hr, hm0⟩; have hm := Chg.trans hHeld hm0 (by simp); replace hT := hT.chg hm0 (by have := HT.out; simp; omega); replace hR := hr; clear hr hm0; have c1 := hT.cell 1; have c2 := hT.cell 2; have f1 := hT.free 1; have f2 := hT.free 2; simp at c1 c2; (try go_simp)); refine hKK.out _ _ (by assumption) fun hHeld => ?_; clear hKK KK; try simp only [Act.put, List.setIfInBounds_toArray, List.set]
  refine rn 7 rfl (by kernel_rfl) (by rfl) fun KK hKK => ?_
  go_simp; (have hs7 := (Chg.setCell (Chg.setCell hHeld ⟨tb, 1, none⟩ (.int .i64 px) (by simp)) ⟨tb, 2, none⟩ (.int .i64 py) (by simp)); have hT7 := (hT.set 1 (.int .i64 px)).set 2 (.int .i64 py); simp at hT7; have c3 := hT7.cell 3; have c4 := hT7.cell 4; have f3 := hT7.free 3; have f4 := hT7.free 4; simp at c3 c4); refine hKK.out _ _ (by assumption) fun hHeld => ?_; clear hKK KK; try simp only [Act.put, List.setIfInBounds_toArray, List.set]
  refine tks [8] (by kernel_rfl) (fun _ _ _ _ _ h => h) (by assumption) ?_
  refine tkc rfl rfl (by rfl) (fun wx hSw => by (try dsimp only at hSw); (have t0 := (HX1.out.chg hSw NX.out).cell 0; simp at t0); go_simp; (try with_reducible rfl)) ?_; simp only [List.set]
  refine tk0 ?_
  refine rn 9 rfl (by kernel_rfl) (by rfl) fun KK hKK => ?_
  go_simp; (have hs9 := (Chg.setCell (Chg.setCell hHeld ⟨tb, 3, none⟩ (.int .i64 vx) (by simp)) ⟨tb, 4, none⟩ (.int .i64 vy) (by simp)); have hT9 := (hT7.set 3 (.int .i64 vx)).set 4 (.int .i64 vy); simp at hT9); refine hKK.out _ _ (by assumption) fun hHeld => ?_; clear hKK KK; try simp only [Act.put, List.setIfInBounds_toArray, List.set]
  refine wpAnyH_done (by kernel_rfl) ?_ _
  skip
  have hsS := ((((Chg.refl [tb] w6).setCell ⟨tb, 1, none⟩ (.int .i64 px) (by simp)).setCell ⟨tb, 2, none⟩ (.int .i64 py) (by simp)).setCell ⟨tb, 3, none⟩ (.int .i64 vx) (by simp)).setCell ⟨tb, 4, none⟩ (.int .i64 vy) (by simp)
  have hR9 := hR.keep hsS (by have := HT.out; simp; omega)
  have HH := hd hHeld
  clear hs7 hT7 c1 c2 c3 c4 f1 f2 f3 f4 hT hR hsS hm hs9 hHeld
  generalize (((w6.setCell ⟨tb, 1, none⟩ (.int .i64 px)).setCell ⟨tb, 2, none⟩ (.int .i64 py)).setCell ⟨tb, 3, none⟩ (.int .i64 vx)).setCell ⟨tb, 4, none⟩ (.int .i64 vy) = wq at *
  have HX2 := hd (HX1.out.chg HH.out NX.out)
  have HK2 := hd (HK1.out.chg HH.out (by have := HT.out; simp; omega))
  have HM2 := hd (HM1.out.trans HH.out (S := [b]) (fun x hx hl => by have := HT.out; simp at hx ⊢; omega))
  have hT := hT9.k (Chg.refl [] wq).drew
  have hR := hR9.k (Chg.refl [] wq).drew
  clear hT9 hR9
  go_upto_region 3 with (fail)
  refine rg (N := 15) (by kernel_rfl) (by kernel_rfl) (S := (fun wx => Chg [b, tb] wq wx)) ((Chg.refl _ _).drew) (fun hHeld => ?_)
  generalize wq.drew = wqd at *
  refine tks [0, 1, 3, 4, 6, 7] (by kernel_rfl) (fun _ _ _ _ _ h => h) (by assumption) ?_
  iterate 6 (refine tkc rfl rfl (by rfl) (fun wx hSw => by (try dsimp only at hSw); (have t0 := (HX2.out.chg hSw NX.out).cell 0; simp at t0); go_simp; (try with_reducible rfl)) ?_; simp only [List.set])
  refine tk0 ?_
  refine rn 2 rfl (by kernel_rfl) (by rfl) fun KK hKK => ?_
  go_simp; (refine (N4 _ hR).mono ?_; rintro e w5 ⟨rfl, hr, hm0⟩; have hm := Chg.trans hHeld hm0 (by simp); replace hT := hT.chg hm0 (by have := HT.out; simp; omega); replace hR := hr; clear hr hm0; (try go_simp)); refine hKK.out _ _ (by assumption) fun hHeld => ?_; clear hKK KK; try simp only [Act.put, List.setIfInBounds_toArray, List.set]
  refine tks [9] (by kernel_rfl) (fun _ _ _ _ _ h => h) (by assumption) ?_
  refine tkc rfl rfl (by rfl) (fun wx hSw => by (try dsimp only at hSw); (have t0 := (HX2.out.chg hSw NX.out).cell 0; simp at t0); go_simp; (try with_reducible rfl)) ?_; simp only [List.set]
  refine tk0 ?_
  refine rn 5 rfl (by kernel_rfl) (by rfl) fun KK hKK => ?_
  go_simp; (refine (N5 _ hR).mono ?_; rintro e w6' ⟨rfl, hr, hm0⟩; have hm := Chg.trans hHeld hm0 (by simp); replace hT := hT.chg hm0 (by have := HT.out; simp; omega); replace hR := hr; clear hr hm0; (try go_simp)); refine hKK.out _ _ (by assumption) fun hHeld => ?_; clear hKK KK; try simp only [Act.put, List.setIfInBounds_toArray, List.set]
  refine rn 8 rfl (by kernel_rfl) (by rfl) fun KK hKK => ?_
  go_simp; (refine (N6 _ hR).mono ?_; rintro e w8 ⟨rfl, hr, hm0⟩; have hm := Chg.trans hHeld hm0 (by simp); replace hT := hT.chg hm0 (by have := HT.out; simp; omega); replace hR := hr; clear hr hm0; have c5 := hT.cell 5; have f5 := hT.free 5; simp at c5; (try go_simp)); refine hKK.out _ _ (by assumption) fun hHeld => ?_; clear hKK KK; try simp only [Act.put, List.setIfInBounds_toArray, List.set]
  refine rn 10 rfl (by kernel_rfl) (by rfl) fun KK hKK => ?_
  go_simp; (have hs7 := (Chg.setCell hHeld ⟨tb, 5, none⟩ (.int .i64 an) (by simp)); have hT7 := hT.set 5 (.int .i64 an); simp at hT7; have c6 := hT7.cell 6; have f6 := hT7.free 6; simp at c6); refine hKK.out _ _ (by assumption) fun hHeld => ?_; clear hKK KK; try simp only [Act.put, List.setIfInBounds_toArray, List.set]
  refine tks [11] (by kernel_rfl) (fun _ _ _ _ _ h => h) (by assumption) ?_
  refine tkc rfl rfl (by rfl) (fun wx hSw => by (try dsimp only at hSw); (have t0 := (HX2.out.chg hSw NX.out).cell 0; simp at t0); go_simp; (try with_reducible rfl)) ?_; simp only [List.set]
  refine tk0 ?_
  refine rn 12 rfl (by kernel_rfl) (by rfl) fun KK hKK => ?_
  go_simp; (have hs9 := (Chg.setCell hHeld ⟨tb, 6, none⟩ (.int .i64 si) (by simp)); have hT8 := hT7.set 6 (.int .i64 si); simp at hT8; have c7 := hT8.cell 7; have f7 := hT8.free 7; simp at c7); refine hKK.out _ _ (by assumption) fun hHeld => ?_; clear hKK KK; try simp only [Act.put, List.setIfInBounds_toArray, List.set]
  refine tks [13] (by kernel_rfl) (fun _ _ _ _ _ h => h) (by assumption) ?_
  refine tkc rfl rfl (by rfl) (fun wx hSw => by (try dsimp only at hSw); (have t0 := (HX2.out.chg hSw NX.out).cell 0; simp at t0); go_simp; (try with_reducible rfl)) ?_; simp only [List.set]
  refine tk0 ?_
  refine rn 14 rfl (by kernel_rfl) (by rfl) fun KK hKK => ?_
  go_simp; (have hs10 := (Chg.setCell hHeld ⟨tb, 7, none⟩ (.int .i64 de) (by simp)); have hT9 := hT8.set 7 (.int .i64 de); simp at hT9); refine hKK.out _ _ (by assumption) fun hHeld => ?_; clear hKK KK; try simp only [Act.put, List.setIfInBounds_toArray, List.set]
  refine wpAnyH_done (by kernel_rfl) ?_ _
  skip
  have hsS := (((Chg.refl [tb] w8).setCell ⟨tb, 5, none⟩ (.int .i64 an) (by simp)).setCell ⟨tb, 6, none⟩ (.int .i64 si) (by simp)).setCell ⟨tb, 7, none⟩ (.int .i64 de) (by simp)
  have hR9 := hR.keep hsS (by have := HT.out; simp; omega)
  have HH3 := hd hHeld
  clear hs7 hT7 hT8 c5 c6 c7 f5 f6 f7 hT hR hsS hm hs9 hs10 hHeld
  generalize ((w8.setCell ⟨tb, 5, none⟩ (.int .i64 an)).setCell ⟨tb, 6, none⟩ (.int .i64 si)).setCell ⟨tb, 7, none⟩ (.int .i64 de) = wz at *
  have HX3 := hd (HX2.out.chg HH3.out NX.out)
  have HK3 := hd (HK2.out.chg HH3.out (by have := HT.out; simp; omega))
  have HM3 := hd (HM2.out.trans HH3.out (S := [b]) (fun x hx hl => by have := HT.out; simp at hx ⊢; omega))
  have c0 := HX3.out.cell 0
  simp at c0
  have hzs : base ≤ wz.heap.size := by have := HT.out; have := hT9.lt; omega
  have htz := hT9.lt
  go_upto_region 5 with (go_at_call 104; refine (N7 _ hR9 hzs).mono ?_; rintro e w10 ⟨pv, rfl, hv, hpo, hr, hm0⟩; obtain ⟨ap, cp, rfl, -⟩ := hv.form; have hTa := hT9.chg hm0 (by have := HT.out; simp; omega); have c8 := hTa.cell 8; have f8 := hTa.free 8; have c9 := hTa.cell 9; have f9 := hTa.free 9; have c10 := hTa.cell 10; have f10 := hTa.free 10; simp at c8 c9 c10)
  have hTb := ((hTa.set 8 (.int .i64 sk)).set 9 (.int .i64 sr)).set 10 (.slice ap sp.length cp)
  simp at hTb
  have hs := (((Chg.refl [tb] w10).setCell ⟨tb, 8, none⟩ (.int .i64 sk) (by simp)).setCell ⟨tb, 9, none⟩ (.int .i64 sr) (by simp)).setCell ⟨tb, 10, none⟩ (.slice ap sp.length cp) (by simp)
  have hRb := hr.keep hs (by have := HT.out; simp; omega)
  have hVb := Rd.keep hv hs (fun _ k hk hx => by have := hpo k hk; simp at hx; omega)
  have kB4 := (HK3.out.chg hm0 (by have := HT.out; simp; omega)).chg hs (by have := HT.out; simp; omega)
  have HMb := hd ((HM3.out.trans hm0 (fun x hx _ => hx)).trans hs (fun x hx hl => by have := HT.out; simp at hx; omega))
  have HPO := hd hpo
  clear hTa c8 f8 c9 f9 c10 f10 hs hr hm0 hT9 hR9 c0 hv hpo
  generalize ((w10.setCell ⟨tb, 8, none⟩ (.int .i64 sk)).setCell ⟨tb, 9, none⟩ (.int .i64 sr)).setCell ⟨tb, 10, none⟩ (.slice ap sp.length cp) = w11 at *
  go_wp2_with (first | (refine wpList_load_row rfl _ _ rfl tb rfl 97 _ (0, 0) _ hTb Tryz.underlying97 rfl (by kernel_rfl) ?_) | (refine wpList_store_row rfl _ _ _ rfl kb #[.int .i64 id, .int .i64 px, .int .i64 py, .int .i64 vx, .int .i64 vy, .int .i64 an, .int .i64 si, .int .i64 de, .int .i64 sk, .int .i64 sr, .slice ap sp.length cp] rfl rfl 97 _ kB4 (by kernel_rfl) (by simp) (by simp [Value.oneCell']) ?_))
  have k5 : Blk (w11.setRow kb #[.int .i64 id, .int .i64 px, .int .i64 py, .int .i64 vx, .int .i64 vy, .int .i64 an, .int .i64 si, .int .i64 de, .int .i64 sk, .int .i64 sr, .slice ap sp.length cp]) kb #[.int .i64 id, .int .i64 px, .int .i64 py, .int .i64 vx, .int .i64 vy, .int .i64 an, .int .i64 si, .int .i64 de, .int .i64 sk, .int .i64 sr, .slice ap sp.length cp] 97 := kB4.row
  have hs5 := Chg.row (Chg.refl [kb] w11) kb #[.int .i64 id, .int .i64 px, .int .i64 py, .int .i64 vx, .int .i64 vy, .int .i64 an, .int .i64 si, .int .i64 de, .int .i64 sk, .int .i64 sr, .slice ap sp.length cp] (by simp)
  refine bodyPost_ret (results_cell_row rfl _ _ kb 97 _ (0, 0) _ rfl k5 Tryz.underlying97 rfl (by kernel_rfl)) rfl ⟨_, rfl, ?_, ?_, ?_, ?_⟩
  · exact Rd.keep hVb hs5 (fun _ k hk hx => by have := HPO.out k hk; have := HT.out; simp at hx; omega)
  · intro k hk
    have := HPO.out k hk; have := HT.out; omega
  · exact hRb.keep hs5 (by have := HT.out; simp; omega)
  · exact HMb.out.trans hs5 (fun x hx hl => by have := HT.out; simp at hx; omega)
end Go.Proofs.YtbiadpkglcdihaaGreat

/- codec.several over bodies. -/
namespace Go.Proofs.YtbiadpkglcdihaaGreat
open Go.RowKit

theorem rowB : RowT Tryz.prog 28 97 11 104 := RowT.mk (z := .agg #[.int .i64 0, .int .i64 0, .int .i64 0, .int .i64 0, .int .i64 0, .int .i64 0, .int .i64 0, .int .i64 0, .int .i64 0, .int .i64 0, .slice none 0 0]) (by kernel_rfl) (by kernel_rfl) rfl (by decide)
/-- What stands while bodies are read. -/
structure SevB (w0 : World) (base b xb tb : Nat) (v : Value) (L : List BV) (cur : World) (st : St) : Prop where
  o : cur.ownsRow xb 97 11 v L.length (L.flatMap cBV)
  p : ∀ x ∈ L, VsS cur x.2 x.1.shape.p
  q : ∀ x ∈ L, 0 < x.1.shape.p.length → ∀ k, x.2.ownBlock = some k → v.ownBlock ≠ some k ∧ xb ≤ k
  r : RdB base cur b st
  x : Blk cur tb #[.pointer (some ⟨b, 0, none⟩)] 152
  c : Chg [b] w0 cur
theorem SevB.step {w0 : World} {base b xb tb : Nat} {v : Value} {L : List BV} {cur cur' : World} {st st' : St} (h : SevB w0 base b xb tb v L cur st) (hm : Chg [b] cur cur') (hr : RdB base cur' b st') (hlo : w0.heap.size ≤ tb ∧ b < tb ∧ tb < xb ∧ base ≤ tb) : SevB w0 base b xb tb v L cur' st' :=
  ⟨ownsRow_chg h.o hm (fun k hk => by have := (World.ownsRow.lt h.o k hk).1; simp; omega), fun x hx => Rd.keep (h.p x hx) hm (fun hn k hk => by have := (h.q x hx hn k hk).2; simp; omega), h.q, hr, h.x.chg hm (by simp; omega), h.c.trans hm (fun x hx _ => hx)⟩
theorem SevB.k {w0 : World} {base b xb tb : Nat} {v : Value} {L : List BV} {cur cur' : World} {st : St} (h : SevB w0 base b xb tb v L cur st) (hm : Chg [] cur cur') : SevB w0 base b xb tb v L cur' st :=
  ⟨ownsRow_k h.o hm, fun x hx => (h.p x hx).k hm, h.q, h.r.k hm, h.x.k hm, h.c.k' hm⟩
theorem SevB.app {w0 : World} {base b xb tb : Nat} {v u : Value} {L : List BV} {cur w6 : World} {st : St} {y : BV} (h : SevB w0 base b xb tb v L cur st) (hy : VsS cur y.2 y.1.shape.p) (hyq : ∀ k, y.2.ownBlock = some k → v.ownBlock ≠ some k ∧ xb ≤ k)
    (hg : cur.grownBy w6 v.ownBlock) (hmv : Moved cur v u) (hr : w6.ownsRow xb 97 11 u (L.length + 1) (L.flatMap cBV ++ cBV y)) (hlo : w0.heap.size ≤ tb ∧ b < tb ∧ tb < xb ∧ base ≤ tb) :
    SevB w0 base b xb tb u (L ++ [y]) w6 st := by
  have hc : Chg v.ownBlock.toList cur w6 := (Chg.refl v.ownBlock.toList cur).grown hg (fun k hk _ => by simp [hk])
  have keep : ∀ x : BV, VsS cur x.2 x.1.shape.p → (0 < x.1.shape.p.length → ∀ k, x.2.ownBlock = some k → v.ownBlock ≠ some k) → VsS w6 x.2 x.1.shape.p := fun x hx hq => Rd.keep hx hc (fun hn k hk hmem => hq hn k hk (by simpa using hmem))
  have apart : ∀ x : BV, VsS cur x.2 x.1.shape.p → (0 < x.1.shape.p.length → ∀ k, x.2.ownBlock = some k → v.ownBlock ≠ some k) → (0 < x.1.shape.p.length → ∀ k, x.2.ownBlock = some k → u.ownBlock ≠ some k) := fun x hx hq hn k hk he => by
    rcases hmv with e | e
    · exact hq hn k hk (e ▸ he)
    · have := e k he; have := hx.own hn k hk; omega
  refine ⟨?_, ?_, ?_, ?_, ?_, ?_⟩
  · rw [List.length_append, List.flatMap_append]
    simpa using hr
  · intro x hx
    rcases List.mem_append.mp hx with hx | hx
    · exact keep x (h.p x hx) (fun hn k hk => (h.q x hx hn k hk).1)
    · rw [List.mem_singleton] at hx; subst hx
      exact keep x hy (fun _ k hk => (hyq k hk).1)
  · intro x hx hn k hk
    rcases List.mem_append.mp hx with hx | hx
    · exact ⟨apart x (h.p x hx) (fun hn k hk => (h.q x hx hn k hk).1) hn k hk, (h.q x hx hn k hk).2⟩
    · rw [List.mem_singleton] at hx; subst hx
      exact ⟨apart x hy (fun _ k hk => (hyq k hk).1) hn k hk, (hyq k hk).2⟩
  · exact h.r.keep hc (fun k hk => by have := (World.ownsRow.lt h.o k (by simpa using hk)).1; omega)
  · exact h.x.grown hg (fun e => by have := (World.ownsRow.lt h.o tb e).1; omega)
  · exact h.c.grown hg (fun k hk hl => by have := (World.ownsRow.lt h.o k hk).1; omega)

set_option maxRecDepth 100000 in
set_option maxHeartbeats 8000000 in
theorem SeveralB_any (base b n : Nat) (s : St) (w : World) (hr : RdB base w b s) (hbase : base ≤ w.heap.size) (hn : n ≤ 4294967296) :
    Calls Tryz.prog 75 #[.agg #[.pointer (some ⟨b, 0, none⟩)], .int .i64 n, .func (.func 77) #[] #[]] w fun e w' => ∃ v L, e = .returned v ∧ L.map (·.1) = (sevR bdyR n s).1 ∧ BsS w' v L ∧ (∀ k, v.ownBlock = some k → w.heap.size ≤ k) ∧ (∀ x ∈ L, 0 < x.1.shape.p.length → ∀ k, x.2.ownBlock = some k → w.heap.size ≤ k) ∧ RdB base w' b (sevR bdyR n s).2 ∧ Chg [b] w w' := by
  obtain ⟨P, hP⟩ : ∃ P : Ending → World → Prop, P = fun e w' => ∃ v L, e = .returned v ∧ L.map (·.1) = (sevR bdyR n s).1 ∧ BsS w' v L ∧ (∀ k, v.ownBlock = some k → w.heap.size ≤ k) ∧ (∀ x ∈ L, 0 < x.1.shape.p.length → ∀ k, x.2.ownBlock = some k → w.heap.size ≤ k) ∧ RdB base w' b (sevR bdyR n s).2 ∧ Chg [b] w w' := ⟨_, rfl⟩
  rw [← hP]
  have HP := hd hP
  clear hP
  have hlt := hr.lt
  have hc := (Chg.refl [] w).alloc (.cells #[.pointer (some ⟨b, 0, none⟩)] 152)
  have hX := Blk.new w #[.pointer (some ⟨b, 0, none⟩)] 152
  have hR := hr.k hc
  go_enter Tryz.func75, Tryz.ntmps75
  go_upto_region 1 with (fail)
  generalize w.alloc (.cells #[.pointer (some ⟨b, 0, none⟩)] 152) = w0 at *
  obtain ⟨tb, htb⟩ : ∃ tb, tb = w.heap.size := ⟨_, rfl⟩
  rw [← htb] at hX ⊢
  have HT : Hd (tb = w.heap.size ∧ b < base ∧ base ≤ tb) := hd ⟨htb, hlt, by omega⟩
  have hS : SevB w base b (tb + 1) tb (.slice none 0 0) [] w0 s := ⟨World.ownsRow_nil _ _ _ _, by simp, by simp, hR, hX, hc.mono (by simp)⟩
  clear hlt hc hX hR hr hbase htb
  go_wp2_with (fail)
  go_loopw [7, 8] (fun u i wr => ∃ (j : Nat) (v : Value) (L : List BV) (st : St), v = u ∧ j ≤ n ∧ L.length ≤ j ∧ i = .int .i64 j ∧ L.map (·.1) ++ (sevR bdyR (n - j) st).1 = (sevR bdyR n s).1 ∧ (sevR bdyR (n - j) st).2 = (sevR bdyR n s).2 ∧ SevB w base b (tb + 1) tb v L wr st)
    (fun _ i _ => n - (intOf i).toNat)
  case atStart => exact ⟨0, _, [], s, rfl, by omega, by simp, rfl, rfl, rfl, hS⟩
  case round =>
    clear hS
    obtain ⟨j, v, L, st, rfl, hj, hLj, rfl, hp1, hp2, hS⟩ := hrel
    have a0 := hS.x.cell 0
    simp at a0
    have HS := hd hS
    have HP1 := hd hp1
    have HP2 := hd hp2
    obtain ⟨ao, c, rfl⟩ : ∃ ao c, v = .slice ao L.length c := by
      rcases hS.o.2 with ⟨rfl, hz⟩ | ⟨g, cap, cur, rfl, _⟩
      · exact ⟨none, 0, by rw [hz]⟩
      · exact ⟨_, cap, rfl⟩
    have FIN : Hd ((sevR bdyR (n - j) st).1 = [] → (sevR bdyR (n - j) st).2 = st → P (.returned (.slice ao L.length c)) wr) := hd fun e1 e2 => by
      rw [HP.out, ← HP1.out, ← HP2.out, e1, e2, List.append_nil]
      exact ⟨_, L, rfl, rfl, ⟨Rd.ofOwn HS.out.o, HS.out.p⟩, fun k hk => by have := (World.ownsRow.lt HS.out.o k hk).1; have := HT.out; omega, fun x hx hn k hk => by have := (HS.out.q x hx hn k hk).2; have := HT.out; omega, HS.out.r, HS.out.c⟩
    have HLO : Hd (w.heap.size ≤ tb ∧ b < tb ∧ tb < tb + 1 ∧ base ≤ tb) := hd (by have := HT.out; omega)
    clear hp1 hp2 hS
    by_cases hlt : j < n
    · cases hb : st.2 with
      | true =>
        have HB := hd hb
        have hF := FIN.out (by rw [sevR_no _ _ _ hb]) (by rw [sevR_no _ _ _ hb])
        clear hb
        go_wp2_with (go_at_call 103; refine (BadB_any base b st _ HS.out.r).mono ?_; rintro e w5 ⟨rfl, rfl⟩; rw [HB.out])
        exact hF
      | false =>
        obtain ⟨m, hm⟩ : ∃ m, n - j = m + 1 := ⟨n - j - 1, by omega⟩
        have hq1 := HP1.out
        have hq2 := HP2.out
        rw [hm, sevR_go _ _ _ hb] at hq1 hq2
        have HB := hd hb
        have HM := hd hm
        clear hb hm
        have hcon := RBody_any base b st wr HS.out.r (by have := HT.out; have := HS.out.x.lt; omega)
        obtain ⟨o, st1, ho⟩ : ∃ o st1, bdyR st = (o, st1) := ⟨_, _, rfl⟩
        rw [ho] at hcon hq1 hq2
        clear ho
        have HQ1 := hd hq1
        have HQ2 := hd hq2
        clear hq1 hq2 FIN
        simp only at hcon
        obtain ⟨i, ⟨px, py⟩, ⟨vx, vy⟩, an, si, de, ⟨sk, sr, sp⟩⟩ := o
        unfold vB at hcon
        simp only at hcon
        go_wp2_with (first
          | (go_at_call 103; refine (BadB_any base b st _ HS.out.r).mono ?_; rintro e w5 ⟨rfl, rfl⟩; rw [HB.out])
          | (go_at_call 77; refine hcon.mono ?_; rintro e w4 ⟨pv, rfl, hpv, hpo, hr4, hm4⟩; obtain ⟨ap, cp, rfl, -⟩ := hpv.form; have hB := (HS.out.step hm4 hr4 HLO.out).k ((Chg.refl [] w4).alloc (.cells #[.int .i64 i, .int .i64 px, .int .i64 py, .int .i64 vx, .int .i64 vy, .int .i64 an, .int .i64 si, .int .i64 de, .int .i64 sk, .int .i64 sr, .slice ap sp.length cp] 97)); have hLit := Rd.lit w4 11 1 (cBV ((⟨i, ⟨px, py⟩, ⟨vx, vy⟩, an, si, de, ⟨sk, sr, sp⟩⟩ : Bdy), Value.slice ap sp.length cp)) #[.int .i64 i, .int .i64 px, .int .i64 py, .int .i64 vx, .int .i64 vy, .int .i64 an, .int .i64 si, .int .i64 de, .int .i64 sk, .int .i64 sr, .slice ap sp.length cp] 97 rfl rfl (by decide))
          | (at_builtin; refine wpApp rowB rfl _ _ rfl (tb + 1) (.slice ao L.length c) L.length (L.flatMap cBV) rfl hB.o _ 1 (cBV ((⟨i, ⟨px, py⟩, ⟨vx, vy⟩, an, si, de, ⟨sk, sr, sp⟩⟩ : Bdy), Value.slice ap sp.length cp)) rfl hLit (cBV_one _ rfl) (by omega) (by omega) (by have := hB.x.lt; omega) ?_; intro ao6 c6 w6 hr6 hg6 hmv6 hno6))
        have hR := hB.app (y := ((⟨i, ⟨px, py⟩, ⟨vx, vy⟩, an, si, de, ⟨sk, sr, sp⟩⟩ : Bdy), Value.slice ap sp.length cp)) (hpv.k ((Chg.refl [] w4).alloc _)) (fun k' hk => ⟨fun he => by have := hpo k' hk; have := (World.ownsRow.lt HS.out.o k' he).2; omega, by have := hpo k' hk; have := HS.out.x.lt; omega⟩) hg6 hmv6 hr6 HLO.out
        go_roundw
        case rel => exact ⟨j + 1, _, L ++ [((⟨i, ⟨px, py⟩, ⟨vx, vy⟩, an, si, de, ⟨sk, sr, sp⟩⟩ : Bdy), Value.slice ap sp.length cp)], st1, rfl, by omega, by simp; omega, by go_num, by rw [show n - (j + 1) = m by have := HM.out; omega, List.map_append, List.append_assoc]; exact HQ1.out, by rw [show n - (j + 1) = m by have := HM.out; omega]; exact HQ2.out, hR⟩
        case measure => simp [intOf]; omega
    · have hjn : n - j = 0 := by omega
      have hF := FIN.out (by rw [hjn]; rfl) (by rw [hjn]; rfl)
      clear hjn
      go_wp2_with (fail)
      exact hF
end Go.Proofs.YtbiadpkglcdihaaGreat

/- codec.reader.joint. -/
namespace Go.Proofs.YtbiadpkglcdihaaGreat
open Go.RowKit

set_option maxRecDepth 100000 in
set_option maxHeartbeats 8000000 in
theorem RJoint_any (base b : Nat) (s : St) (w : World) (hr : RdB base w b s) (hbase : base ≤ w.heap.size) :
    Calls Tryz.prog 79 #[.agg #[.pointer (some ⟨b, 0, none⟩)]] w fun e w' => e = .returned (vJ (jntR s).1) ∧ RdB base w' b (jntR s).2 ∧ Chg [b] w w' := by
  unfold jntR
  simp only
  have N1 := fun W (h : RdB base W b s) => NumB_any 8 base b s W h (by omega)
  have N2 := fun W (h : RdB base W b (numR 8 s).2) => NumB_any 8 base b _ W h (by omega)
  have N3 := fun W (h : RdB base W b (numR 8 (numR 8 s).2).2) => NumB_any 8 base b _ W h (by omega)
  have N4 := fun W (h : RdB base W b (numR 8 (numR 8 (numR 8 s).2).2).2) (hb : base ≤ W.heap.size) => VB_any base b _ W h hb
  have N5 := fun W (h : RdB base W b (plR (numR 8 (numR 8 (numR 8 s).2).2).2).2) (hb : base ≤ W.heap.size) => VB_any base b _ W h hb
  have N6 := fun W (h : RdB base W b (plR (plR (numR 8 (numR 8 (numR 8 s).2).2).2).2).2) => FB_any base b _ W h
  generalize numR 8 (plR (plR (numR 8 (numR 8 (numR 8 s).2).2).2).2).2 = z6 at *
  generalize plR (plR (numR 8 (numR 8 (numR 8 s).2).2).2).2 = z5 at *
  generalize plR (numR 8 (numR 8 (numR 8 s).2).2).2 = z4 at *
  generalize numR 8 (numR 8 (numR 8 s).2).2 = z3 at *
  generalize numR 8 (numR 8 s).2 = z2 at *
  generalize numR 8 s = z1 at *
  obtain ⟨v1, s1⟩ := z1
  obtain ⟨v2, s2⟩ := z2
  obtain ⟨v3, s3⟩ := z3
  obtain ⟨⟨px, py⟩, s4⟩ := z4
  obtain ⟨⟨vx, vy⟩, s5⟩ := z5
  obtain ⟨le, s6⟩ := z6
  unfold vV at N4 N5
  unfold vJ
  simp only at N1 N2 N3 N4 N5 N6 ⊢
  have hlt := hr.lt
  have hc := ((Chg.refl [] w).alloc (.cells #[.pointer (some ⟨b, 0, none⟩)] 152)).alloc (.cells #[.int .i64 0, .int .i64 0, .int .i64 0, .int .i64 0, .int .i64 0, .int .i64 0, .int .i64 0, .int .i64 0] 101)
  have hX := (Blk.new w #[.pointer (some ⟨b, 0, none⟩)] 152).alloc (.cells #[.int .i64 0, .int .i64 0, .int .i64 0, .int .i64 0, .int .i64 0, .int .i64 0, .int .i64 0, .int .i64 0] 101)
  have hK := Blk.new (w.alloc (.cells #[.pointer (some ⟨b, 0, none⟩)] 152)) #[.int .i64 0, .int .i64 0, .int .i64 0, .int .i64 0, .int .i64 0, .int .i64 0, .int .i64 0, .int .i64 0] 101
  rw [World.size_alloc] at hK
  have hR := hr.k hc
  go_enter Tryz.func79, Tryz.ntmps79
  go_upto_region 1 with (fail)
  generalize (w.alloc (.cells #[.pointer (some ⟨b, 0, none⟩)] 152)).alloc (.cells #[.int .i64 0, .int .i64 0, .int .i64 0, .int .i64 0, .int .i64 0, .int .i64 0, .int .i64 0, .int .i64 0] 101) = w2 at *
  obtain ⟨rb, hrb⟩ : ∃ rb, rb = w.heap.size := ⟨_, rfl⟩
  obtain ⟨kb, hkb⟩ : ∃ kb, kb = w.heap.size + 1 := ⟨_, rfl⟩
  rw [← hkb] at hK ⊢
  rw [← hrb] at hX ⊢
  have hks := hK.lt
  have HT0 : Hd (b < base ∧ base ≤ rb ∧ kb = rb + 1 ∧ kb < w2.heap.size ∧ rb = w.heap.size) := hd ⟨hlt, by omega, by omega, hks, hrb⟩
  have HM := hd hc
  have HK := hd hK
  clear hrb hkb hks hc hK hr hlt hbase
  go_cut [3] from 400 (fun t wx => ∃ tb, t = .pointer (some ⟨tb, 0, none⟩) ∧ Blk wx tb #[.int .i64 v1, .int .i64 v2, .int .i64 v3, .int .i64 0, .int .i64 0, .int .i64 0, .int .i64 0, .int .i64 0] 101 ∧ w2.heap.size ≤ tb ∧ RdB base wx b s3 ∧ Chg [b] w2 wx)
  case first =>
    have Q0 := hd (show w2.cell? ⟨rb, 0, none⟩ = some (.pointer (some ⟨b, 0, none⟩)) from hX.cell 0)
    have NX : Hd (rb ∉ [b]) := hd (by have := HT0.out; simp; omega)
    have HW2 : Hd (base ≤ w2.heap.size) := hd (by have := HT0.out; omega)
    have hR0 := hR
    clear hR hX
    have hR := hR0.k (Chg.refl [] w2).drew
    clear hR0
    refine rg (N := 12) (by kernel_rfl) (by kernel_rfl) (S := (fun wx => Chg [b] w2 wx)) ((Chg.refl _ _).drew) (fun hHeld => ?_)
    generalize w2.drew = w2d at *
    refine tks [0, 1, 3, 4, 6, 7] (by kernel_rfl) (fun _ _ _ _ _ h => h) (by assumption) ?_
    iterate 6 (refine tkc rfl rfl (by rfl) (fun wx hSw => by (try dsimp only at hSw); (have t0 := Chg.cellT hSw Q0.out NX.out); go_simp; (try with_reducible rfl)) ?_; simp only [List.set])
    refine tk0 ?_
    refine rn2 2 10 rfl rfl (by kernel_rfl) (by rfl) (by rfl) (fun KK hKK => ?ra0) (fun KK hKK => ?rb0)
    case' ra0 =>
      go_simp; (refine (N1 _ hR).mono ?_; rintro e wn2 ⟨rfl, hr, hm0⟩; have hm := Chg.trans hHeld hm0 (by simp); (try replace hT := hT.chg hm0 (by have := hTb; simp; omega)); replace hR := hr; clear hr hm0; (try go_simp)); refine hKK.out _ _ (by assumption) fun hHeld => ?_; clear hKK KK; try simp only [Act.put, List.setIfInBounds_toArray, List.set]
      refine rn2 5 10 rfl rfl (by kernel_rfl) (by rfl) (by rfl) (fun KK hKK => ?ra1) (fun KK hKK => ?rb1)
      case' ra1 =>
        go_simp; (refine (N2 _ hR).mono ?_; rintro e wn5 ⟨rfl, hr, hm0⟩; have hm := Chg.trans hHeld hm0 (by simp); (try replace hT := hT.chg hm0 (by have := hTb; simp; omega)); replace hR := hr; clear hr hm0; (try go_simp)); refine hKK.out _ _ (by assumption) fun hHeld => ?_; clear hKK KK; try simp only [Act.put, List.setIfInBounds_toArray, List.set]
        refine rn2 8 10 rfl rfl (by kernel_rfl) (by rfl) (by rfl) (fun KK hKK => ?ra2) (fun KK hKK => ?rb2)
        case' ra2 =>
          go_simp; (refine (N3 _ hR).mono ?_; rintro e wn8 ⟨rfl, hr, hm0⟩; have hm := Chg.trans hHeld hm0 (by simp); (try replace hT := hT.chg hm0 (by have := hTb; simp; omega)); replace hR := hr; clear hr hm0; (try go_simp)); refine hKK.out _ _ (by assumption) fun hHeld => ?_; clear hKK KK; try simp only [Act.put, List.setIfInBounds_toArray, List.set]
          refine tks [9] (by kernel_rfl) (fun _ _ _ _ _ h => h) (by assumption) ?_
          refine tkc rfl rfl (by rfl) (fun wx hSw => by (try dsimp only at hSw); (have t0 := Chg.cellT hSw Q0.out NX.out); go_simp; (try with_reducible rfl)) ?_; simp only [List.set]
          refine tk0 ?_
          refine rn 10 rfl (by kernel_rfl) (by rfl) fun KK hKK => ?_
          (obtain ⟨m1, hT, hTb⟩ := hR.lit #[.int .i64 0, .int .i64 0, .int .i64 0, .int .i64 0, .int .i64 0, .int .i64 0, .int .i64 0, .int .i64 0] 101; have hT2 := hHeld.size; have hm := Chg.alloc hHeld (.cells #[.int .i64 0, .int .i64 0, .int .i64 0, .int .i64 0, .int .i64 0, .int .i64 0, .int .i64 0, .int .i64 0] 101); replace hR := m1; clear m1; go_simp); refine hKK.out _ _ (by assumption) fun hHeld => ?_; clear hKK KK; try simp only [Act.put, List.setIfInBounds_toArray, List.set]
          refine rn 11 rfl (by kernel_rfl) (by rfl) fun KK hKK => ?_
          (refine wp_store_row 101 _ _ rfl _ #[.int .i64 v1, .int .i64 v2, .int .i64 v3, .int .i64 0, .int .i64 0, .int .i64 0, .int .i64 0, .int .i64 0] rfl rfl 101 _ hT (by kernel_rfl) rfl (by simp [Value.oneCell']) ?_; obtain ⟨hS, hR9, hT9⟩ := RdB.rowed hR hT hHeld hT2 HW2.out #[.int .i64 v1, .int .i64 v2, .int .i64 v3, .int .i64 0, .int .i64 0, .int .i64 0, .int .i64 0, .int .i64 0]; go_simp); refine hKK.out _ _ (by assumption) fun hHeld => ?_; clear hKK KK; try simp only [Act.put, List.setIfInBounds_toArray, List.set]
          refine wpAnyH_done (by kernel_rfl) ?_ _
          (go_wp2_with fail; go_meet; exact ⟨_, rfl, hT9, hT2, hR9, hHeld⟩)
        case' rb2 =>
          (obtain ⟨m1, hT, hTb⟩ := hR.lit #[.int .i64 0, .int .i64 0, .int .i64 0, .int .i64 0, .int .i64 0, .int .i64 0, .int .i64 0, .int .i64 0] 101; have hT2 := hHeld.size; have hm := Chg.alloc hHeld (.cells #[.int .i64 0, .int .i64 0, .int .i64 0, .int .i64 0, .int .i64 0, .int .i64 0, .int .i64 0, .int .i64 0] 101); replace hR := m1; clear m1; go_simp); refine hKK.out _ _ (by assumption) fun hHeld => ?_; clear hKK KK; try simp only [Act.put, List.setIfInBounds_toArray, List.set]
          refine rn 8 rfl (by kernel_rfl) (by rfl) fun KK hKK => ?_
          go_simp; (refine (N3 _ hR).mono ?_; rintro e wn8 ⟨rfl, hr, hm0⟩; have hm := Chg.trans hHeld hm0 (by simp); (try replace hT := hT.chg hm0 (by have := hTb; simp; omega)); replace hR := hr; clear hr hm0; (try go_simp)); refine hKK.out _ _ (by assumption) fun hHeld => ?_; clear hKK KK; try simp only [Act.put, List.setIfInBounds_toArray, List.set]
          refine rn 9 rfl (by kernel_rfl) (by rfl) fun KK hKK => ?_
          go_simp; refine hKK.out _ _ (by assumption) fun hHeld => ?_; clear hKK KK; try simp only [Act.put, List.setIfInBounds_toArray, List.set]
          refine rn 11 rfl (by kernel_rfl) (by rfl) fun KK hKK => ?_
          (refine wp_store_row 101 _ _ rfl _ #[.int .i64 v1, .int .i64 v2, .int .i64 v3, .int .i64 0, .int .i64 0, .int .i64 0, .int .i64 0, .int .i64 0] rfl rfl 101 _ hT (by kernel_rfl) rfl (by simp [Value.oneCell']) ?_; obtain ⟨hS, hR9, hT9⟩ := RdB.rowed hR hT hHeld hT2 HW2.out #[.int .i64 v1, .int .i64 v2, .int .i64 v3, .int .i64 0, .int .i64 0, .int .i64 0, .int .i64 0, .int .i64 0]; go_simp); refine hKK.out _ _ (by assumption) fun hHeld => ?_; clear hKK KK; try simp only [Act.put, List.setIfInBounds_toArray, List.set]
          refine wpAnyH_done (by kernel_rfl) ?_ _
          (go_wp2_with fail; go_meet; exact ⟨_, rfl, hT9, hT2, hR9, hHeld⟩)
      case' rb1 =>
        (obtain ⟨m1, hT, hTb⟩ := hR.lit #[.int .i64 0, .int .i64 0, .int .i64 0, .int .i64 0, .int .i64 0, .int .i64 0, .int .i64 0, .int .i64 0] 101; have hT2 := hHeld.size; have hm := Chg.alloc hHeld (.cells #[.int .i64 0, .int .i64 0, .int .i64 0, .int .i64 0, .int .i64 0, .int .i64 0, .int .i64 0, .int .i64 0] 101); replace hR := m1; clear m1; go_simp); refine hKK.out _ _ (by assumption) fun hHeld => ?_; clear hKK KK; try simp only [Act.put, List.setIfInBounds_toArray, List.set]
        refine rn 5 rfl (by kernel_rfl) (by rfl) fun KK hKK => ?_
        go_simp; (refine (N2 _ hR).mono ?_; rintro e wn5 ⟨rfl, hr, hm0⟩; have hm := Chg.trans hHeld hm0 (by simp); (try replace hT := hT.chg hm0 (by have := hTb; simp; omega)); replace hR := hr; clear hr hm0; (try go_simp)); refine hKK.out _ _ (by assumption) fun hHeld => ?_; clear hKK KK; try simp only [Act.put, List.setIfInBounds_toArray, List.set]
        refine rn 8 rfl (by kernel_rfl) (by rfl) fun KK hKK => ?_
        go_simp; (refine (N3 _ hR).mono ?_; rintro e wn8 ⟨rfl, hr, hm0⟩; have hm := Chg.trans hHeld hm0 (by simp); (try replace hT := hT.chg hm0 (by have := hTb; simp; omega)); replace hR := hr; clear hr hm0; (try go_simp)); refine hKK.out _ _ (by assumption) fun hHeld => ?_; clear hKK KK; try simp only [Act.put, List.setIfInBounds_toArray, List.set]
        refine rn 9 rfl (by kernel_rfl) (by rfl) fun KK hKK => ?_
        go_simp; refine hKK.out _ _ (by assumption) fun hHeld => ?_; clear hKK KK; try simp only [Act.put, List.setIfInBounds_toArray, List.set]
        refine rn 11 rfl (by kernel_rfl) (by rfl) fun KK hKK => ?_
        (refine wp_store_row 101 _ _ rfl _ #[.int .i64 v1, .int .i64 v2, .int .i64 v3, .int .i64 0, .int .i64 0, .int .i64 0, .int .i64 0, .int .i64 0] rfl rfl 101 _ hT (by kernel_rfl) rfl (by simp [Value.oneCell']) ?_; obtain ⟨hS, hR9, hT9⟩ := RdB.rowed hR hT hHeld hT2 HW2.out #[.int .i64 v1, .int .i64 v2, .int .i64 v3, .int .i64 0, .int .i64 0, .int .i64 0, .int .i64 0, .int .i64 0]; go_simp); refine hKK.out _ _ (by assumption) fun hHeld => ?_; clear hKK KK; try simp only [Act.put, List.setIfInBounds_toArray, List.set]
        refine wpAnyH_done (by kernel_rfl) ?_ _
        (go_wp2_with fail; go_meet; exact ⟨_, rfl, hT9, hT2, hR9, hHeld⟩)
    case' rb0 =>
      (obtain ⟨m1, hT, hTb⟩ := hR.lit #[.int .i64 0, .int .i64 0, .int .i64 0, .int .i64 0, .int .i64 0, .int .i64 0, .int .i64 0, .int .i64 0] 101; have hT2 := hHeld.size; have hm := Chg.alloc hHeld (.cells #[.int .i64 0, .int .i64 0, .int .i64 0, .int .i64 0, .int .i64 0, .int .i64 0, .int .i64 0, .int .i64 0] 101); replace hR := m1; clear m1; go_simp); refine hKK.out _ _ (by assumption) fun hHeld => ?_; clear hKK KK; try simp only [Act.put, List.setIfInBounds_toArray, List.set]
      refine rn 2 rfl (by kernel_rfl) (by rfl) fun KK hKK => ?_
      go_simp; (refine (N1 _ hR).mono ?_; rintro e wn2 ⟨rfl, hr, hm0⟩; have hm := Chg.trans hHeld hm0 (by simp); (try replace hT := hT.chg hm0 (by have := hTb; simp; omega)); replace hR := hr; clear hr hm0; (try go_simp)); refine hKK.out _ _ (by assumption) fun hHeld => ?_; clear hKK KK; try simp only [Act.put, List.setIfInBounds_toArray, List.set]
      refine rn 5 rfl (by kernel_rfl) (by rfl) fun KK hKK => ?_
      go_simp; (refine (N2 _ hR).mono ?_; rintro e wn5 ⟨rfl, hr, hm0⟩; have hm := Chg.trans hHeld hm0 (by simp); (try replace hT := hT.chg hm0 (by have := hTb; simp; omega)); replace hR := hr; clear hr hm0; (try go_simp)); refine hKK.out _ _ (by assumption) fun hHeld => ?_; clear hKK KK; try simp only [Act.put, List.setIfInBounds_toArray, List.set]
      refine rn 8 rfl (by kernel_rfl) (by rfl) fun KK hKK => ?_
      go_simp; (refine (N3 _ hR).mono ?_; rintro e wn8 ⟨rfl, hr, hm0⟩; have hm := Chg.trans hHeld hm0 (by simp); (try replace hT := hT.chg hm0 (by have := hTb; simp; omega)); replace hR := hr; clear hr hm0; (try go_simp)); refine hKK.out _ _ (by assumption) fun hHeld => ?_; clear hKK KK; try simp only [Act.put, List.setIfInBounds_toArray, List.set]
      refine rn 9 rfl (by kernel_rfl) (by rfl) fun KK hKK => ?_
      go_simp; refine hKK.out _ _ (by assumption) fun hHeld => ?_; clear hKK KK; try simp only [Act.put, List.setIfInBounds_toArray, List.set]
      refine rn 11 rfl (by kernel_rfl) (by rfl) fun KK hKK => ?_
      (refine wp_store_row 101 _ _ rfl _ #[.int .i64 v1, .int .i64 v2, .int .i64 v3, .int .i64 0, .int .i64 0, .int .i64 0, .int .i64 0, .int .i64 0] rfl rfl 101 _ hT (by kernel_rfl) rfl (by simp [Value.oneCell']) ?_; obtain ⟨hS, hR9, hT9⟩ := RdB.rowed hR hT hHeld hT2 HW2.out #[.int .i64 v1, .int .i64 v2, .int .i64 v3, .int .i64 0, .int .i64 0, .int .i64 0, .int .i64 0, .int .i64 0]; go_simp); refine hKK.out _ _ (by assumption) fun hHeld => ?_; clear hKK KK; try simp only [Act.put, List.setIfInBounds_toArray, List.set]
      refine wpAnyH_done (by kernel_rfl) ?_ _
      (go_wp2_with fail; go_meet; exact ⟨_, rfl, hT9, hT2, hR9, hHeld⟩)
  case rest =>
  obtain ⟨tb, rfl, hT, htb, hR2, hM2⟩ := hcut
  clear hR
  have HT : Hd (b < base ∧ base ≤ rb ∧ kb = rb + 1 ∧ kb < tb ∧ rb = w.heap.size) := hd (by have := HT0.out; omega)
  have HX := hd (hX.chg hM2 (by have := HT0.out; simp; omega))
  have HK2 := hd (HK.out.chg hM2 (by have := HT0.out; simp; omega))
  have HM2 := hd ((HM.out.mono (S' := [b]) (by simp)).trans hM2 (fun x hx _ => hx))
  have NX : Hd (rb ∉ [b, tb]) := hd (by have := HT.out; simp; omega)
  have HBW : Hd (base ≤ wc.heap.size) := hd (by have := HT.out; have := hT.lt; omega)
  have hT0 := hT
  clear hT hX hM2 htb HM HK HT0
  have hT := hT0.k (Chg.refl [] wc).drew
  have hR := hR2.k (Chg.refl [] wc).drew
  clear hT0 hR2
  go_wp2_with (fail)
  refine rg (N := 10) (by kernel_rfl) (by kernel_rfl) (S := (fun wx => Chg [b, tb] wc wx)) ((Chg.refl _ _).drew) (fun hHeld => ?_)
  generalize wc.drew = wcd at *
  refine tks [0, 1, 3, 4] (by kernel_rfl) (fun _ _ _ _ _ h => h) (by assumption) ?_
  iterate 4 (refine tkc rfl rfl (by rfl) (fun wx hSw => by (try dsimp only at hSw); (have t0 := (HX.out.chg hSw NX.out).cell 0; simp at t0); go_simp; (try with_reducible rfl)) ?_; simp only [List.set])
  refine tk0 ?_
  refine rn 2 rfl (by kernel_rfl) (by rfl) fun KK hKK => ?_
  go_simp; (refine (N4 _ hR (by have := HBW.out; have := hHeld.size; omega)).mono ?_; rintro e w5 ⟨rfl, hr, hm0⟩; have hm := Chg.trans hHeld hm0 (by simp); replace hT := hT.chg hm0 (by have := HT.out; simp; omega); replace hR := hr; clear hr hm0; (try go_simp)); refine hKK.out _ _ (by assumption) fun hHeld => ?_; clear hKK KK; try simp only [Act.put, List.setIfInBounds_toArray, List.set]
  refine tks [6] (by kernel_rfl) (fun _ _ _ _ _ h => h) (by assumption) ?_
  refine tkc rfl rfl (by rfl) (fun wx hSw => by (try dsimp only at hSw); (have t0 := (HX.out.chg hSw NX.out).cell 0; simp at t0); go_simp; (try with_reducible rfl)) ?_; simp only [List.set]
  refine tk0 ?_
  refine rn 5 rfl (by kernel_rfl) (by rfl) fun KK hKK => ?_
  go_simp; (refine (N5 _ hR (by have := HBW.out; have := hHeld.size; omega)).mono ?_; rintro e w6 ⟨rfl, hr, hm0⟩; have hm := Chg.trans hHeld hm0 (by simp); replace hT := hT.chg hm0 (by have := HT.out; simp; omega); replace hR := hr; clear hr hm0; have c3 := hT.cell 3; have c4 := hT.cell 4; have f3 := hT.free 3; have f4 := hT.free 4; simp at c3 c4; (try go_simp)); refine hKK.out _ _ (by assumption) fun hHeld => ?_; clear hKK KK; try simp only [Act.put, List.setIfInBounds_toArray, List.set]
  refine rn 7 rfl (by kernel_rfl) (by rfl) fun KK hKK => ?_
  go_simp; (have hs7 := (Chg.setCell (Chg.setCell hHeld ⟨tb, 3, none⟩ (.int .i64 px) (by simp)) ⟨tb, 4, none⟩ (.int .i64 py) (by simp)); have hT7 := (hT.set 3 (.int .i64 px)).set 4 (.int .i64 py); simp at hT7; have c5 := hT7.cell 5; have c6 := hT7.cell 6; have f5 := hT7.free 5; have f6 := hT7.free 6; simp at c5 c6); refine hKK.out _ _ (by assumption) fun hHeld => ?_; clear hKK KK; try simp only [Act.put, List.setIfInBounds_toArray, List.set]
  refine tks [8] (by kernel_rfl) (fun _ _ _ _ _ h => h) (by assumption) ?_
  refine tkc rfl rfl (by rfl) (fun wx hSw => by (try dsimp only at hSw); (have t0 := (HX.out.chg hSw NX.out).cell 0; simp at t0); go_simp; (try with_reducible rfl)) ?_; simp only [List.set]
  refine tk0 ?_
  refine rn 9 rfl (by kernel_rfl) (by rfl) fun KK hKK => ?_
  go_simp; (have hs9 := (Chg.setCell (Chg.setCell hHeld ⟨tb, 5, none⟩ (.int .i64 vx) (by simp)) ⟨tb, 6, none⟩ (.int .i64 vy) (by simp)); have hT9 := (hT7.set 5 (.int .i64 vx)).set 6 (.int .i64 vy); simp at hT9); refine hKK.out _ _ (by assumption) fun hHeld => ?_; clear hKK KK; try simp only [Act.put, List.setIfInBounds_toArray, List.set]
  refine wpAnyH_done (by kernel_rfl) ?_ _
  skip
  have hsS := ((((Chg.refl [tb] w6).setCell ⟨tb, 3, none⟩ (.int .i64 px) (by simp)).setCell ⟨tb, 4, none⟩ (.int .i64 py) (by simp)).setCell ⟨tb, 5, none⟩ (.int .i64 vx) (by simp)).setCell ⟨tb, 6, none⟩ (.int .i64 vy) (by simp)
  have hR9 := hR.keep hsS (by have := HT.out; simp; omega)
  have HH := hd hHeld
  clear hs7 hT7 c3 c4 c5 c6 f3 f4 f5 f6 hT hR hsS hm hs9 hHeld
  generalize (((w6.setCell ⟨tb, 3, none⟩ (.int .i64 px)).setCell ⟨tb, 4, none⟩ (.int .i64 py)).setCell ⟨tb, 5, none⟩ (.int .i64 vx)).setCell ⟨tb, 6, none⟩ (.int .i64 vy) = w9 at *
  have HX9 := hd (HX.out.chg HH.out NX.out)
  have HK9 := hd (HK2.out.chg HH.out (by have := HT.out; simp; omega))
  have HM9 := hd (HM2.out.trans HH.out (S := [b]) (fun x hx hl => by have := HT.out; simp at hx ⊢; omega))
  have c0 := HX9.out.cell 0
  simp at c0
  go_upto_region 4 with (go_at_call 102; refine (N6 _ hR9).mono ?_; rintro e w10 ⟨rfl, hr, hm0⟩; have hTa := hT9.chg hm0 (by have := HT.out; simp; omega); have c7 := hTa.cell 7; have f7 := hTa.free 7; simp at c7)
  have hTb := hTa.set 7 (.int .i64 le)
  simp at hTb
  have hs := (Chg.refl [tb] w10).setCell ⟨tb, 7, none⟩ (.int .i64 le) (by simp)
  have hRb := hr.keep hs (by have := HT.out; simp; omega)
  have kB4 := (HK9.out.chg hm0 (by have := HT.out; simp; omega)).chg hs (by have := HT.out; simp; omega)
  have HMb := hd ((HM9.out.trans hm0 (fun x hx _ => hx)).trans hs (fun x hx hl => by have := HT.out; simp at hx; omega))
  clear hTa c7 f7 hs hr hm0 hT9 hR9 c0
  generalize w10.setCell ⟨tb, 7, none⟩ (.int .i64 le) = w11 at *
  go_wp2_with (first | (refine wpList_load_row rfl _ _ rfl tb rfl 101 _ (0, 0) _ hTb Tryz.underlying101 rfl (by kernel_rfl) ?_) | (refine wpList_store_row rfl _ _ _ rfl kb #[.int .i64 v1, .int .i64 v2, .int .i64 v3, .int .i64 px, .int .i64 py, .int .i64 vx, .int .i64 vy, .int .i64 le] rfl rfl 101 _ kB4 (by kernel_rfl) (by simp) (by simp [Value.oneCell']) ?_))
  have k5 : Blk (w11.setRow kb #[.int .i64 v1, .int .i64 v2, .int .i64 v3, .int .i64 px, .int .i64 py, .int .i64 vx, .int .i64 vy, .int .i64 le]) kb #[.int .i64 v1, .int .i64 v2, .int .i64 v3, .int .i64 px, .int .i64 py, .int .i64 vx, .int .i64 vy, .int .i64 le] 101 := kB4.row
  have hs5 := Chg.row (Chg.refl [kb] w11) kb #[.int .i64 v1, .int .i64 v2, .int .i64 v3, .int .i64 px, .int .i64 py, .int .i64 vx, .int .i64 vy, .int .i64 le] (by simp)
  refine bodyPost_ret (results_cell_row rfl _ _ kb 101 _ (0, 0) _ rfl k5 Tryz.underlying101 rfl (by kernel_rfl)) rfl ⟨rfl, ?_, ?_⟩
  · exact hRb.keep hs5 (by have := HT.out; simp; omega)
  · exact HMb.out.trans hs5 (fun x hx hl => by have := HT.out; simp at hx; omega)
end Go.Proofs.YtbiadpkglcdihaaGreat

/- codec.reader.contact. -/
namespace Go.Proofs.YtbiadpkglcdihaaGreat
open Go.RowKit

set_option maxRecDepth 100000 in
set_option maxHeartbeats 8000000 in
theorem RContact_any (base b : Nat) (s : St) (w : World) (hr : RdB base w b s) (hbase : base ≤ w.heap.size) :
    Calls Tryz.prog 81 #[.agg #[.pointer (some ⟨b, 0, none⟩)]] w fun e w' => e = .returned (vC (cntR s).1) ∧ RdB base w' b (cntR s).2 ∧ Chg [b] w w' := by
  unfold cntR
  simp only
  have N1 := fun W (h : RdB base W b s) => NumB_any 8 base b s W h (by omega)
  have N2 := fun W (h : RdB base W b (numR 8 s).2) => NumB_any 8 base b _ W h (by omega)
  have N3 := fun W (h : RdB base W b (numR 8 (numR 8 s).2).2) => NumB_any 8 base b _ W h (by omega)
  have N4 := fun W (h : RdB base W b (numR 8 (numR 8 (numR 8 s).2).2).2) => FB_any base b _ W h
  have N5 := fun W (h : RdB base W b (numR 8 (numR 8 (numR 8 (numR 8 s).2).2).2).2) => FB_any base b _ W h
  generalize numR 8 (numR 8 (numR 8 (numR 8 (numR 8 s).2).2).2).2 = z5 at *
  generalize numR 8 (numR 8 (numR 8 (numR 8 s).2).2).2 = z4 at *
  generalize numR 8 (numR 8 (numR 8 s).2).2 = z3 at *
  generalize numR 8 (numR 8 s).2 = z2 at *
  generalize numR 8 s = z1 at *
  obtain ⟨v1, s1⟩ := z1
  obtain ⟨v2, s2⟩ := z2
  obtain ⟨v3, s3⟩ := z3
  obtain ⟨px, s4⟩ := z4
  obtain ⟨vx, s5⟩ := z5
  unfold vC
  simp only at N1 N2 N3 N4 N5 ⊢
  have hlt := hr.lt
  have hc := ((Chg.refl [] w).alloc (.cells #[.pointer (some ⟨b, 0, none⟩)] 152)).alloc (.cells #[.int .i64 0, .int .i64 0, .int .i64 0, .int .i64 0, .int .i64 0] 104)
  have hX := (Blk.new w #[.pointer (some ⟨b, 0, none⟩)] 152).alloc (.cells #[.int .i64 0, .int .i64 0, .int .i64 0, .int .i64 0, .int .i64 0] 104)
  have hK := Blk.new (w.alloc (.cells #[.pointer (some ⟨b, 0, none⟩)] 152)) #[.int .i64 0, .int .i64 0, .int .i64 0, .int .i64 0, .int .i64 0] 104
  rw [World.size_alloc] at hK
  have hR := hr.k hc
  go_enter Tryz.func81, Tryz.ntmps81
  go_upto_region 1 with (fail)
  generalize (w.alloc (.cells #[.pointer (some ⟨b, 0, none⟩)] 152)).alloc (.cells #[.int .i64 0, .int .i64 0, .int .i64 0, .int .i64 0, .int .i64 0] 104) = w2 at *
  obtain ⟨rb, hrb⟩ : ∃ rb, rb = w.heap.size := ⟨_, rfl⟩
  obtain ⟨kb, hkb⟩ : ∃ kb, kb = w.heap.size + 1 := ⟨_, rfl⟩
  rw [← hkb] at hK ⊢
  rw [← hrb] at hX ⊢
  have hks := hK.lt
  have HT0 : Hd (b < base ∧ base ≤ rb ∧ kb = rb + 1 ∧ kb < w2.heap.size ∧ rb = w.heap.size) := hd ⟨hlt, by omega, by omega, hks, hrb⟩
  have HM := hd hc
  have HK := hd hK
  clear hrb hkb hks hc hK hr hlt hbase
  go_cut [3] from 400 (fun t wx => ∃ tb, t = .pointer (some ⟨tb, 0, none⟩) ∧ Blk wx tb #[.int .i64 v1, .int .i64 v2, .int .i64 v3, .int .i64 0, .int .i64 0] 104 ∧ w2.heap.size ≤ tb ∧ RdB base wx b s3 ∧ Chg [b] w2 wx)
  case first =>
    have Q0 := hd (show w2.cell? ⟨rb, 0, none⟩ = some (.pointer (some ⟨b, 0, none⟩)) from hX.cell 0)
    have NX : Hd (rb ∉ [b]) := hd (by have := HT0.out; simp; omega)
    have HW2 : Hd (base ≤ w2.heap.size) := hd (by have := HT0.out; omega)
    have hR0 := hR
    clear hR hX
    have hR := hR0.k (Chg.refl [] w2).drew
    clear hR0
    refine rg (N := 12) (by kernel_rfl) (by kernel_rfl) (S := (fun wx => Chg [b] w2 wx)) ((Chg.refl _ _).drew) (fun hHeld => ?_)
    generalize w2.drew = w2d at *
    refine tks [0, 1, 3, 4, 6, 7] (by kernel_rfl) (fun _ _ _ _ _ h => h) (by assumption) ?_
    iterate 6 (refine tkc rfl rfl (by rfl) (fun wx hSw => by (try dsimp only at hSw); (have t0 := Chg.cellT hSw Q0.out NX.out); go_simp; (try with_reducible rfl)) ?_; simp only [List.set])
    refine tk0 ?_
    refine rn2 2 10 rfl rfl (by kernel_rfl) (by rfl) (by rfl) (fun KK hKK => ?ra0) (fun KK hKK => ?rb0)
    case' ra0 =>
      go_simp; (refine (N1 _ hR).mono ?_; rintro e wn2 ⟨rfl, hr, hm0⟩; have hm := Chg.trans hHeld hm0 (by simp); (try replace hT := hT.chg hm0 (by have := hTb; simp; omega)); replace hR := hr; clear hr hm0; (try go_simp)); refine hKK.out _ _ (by assumption) fun hHeld => ?_; clear hKK KK; try simp only [Act.put, List.setIfInBounds_toArray, List.set]
      refine rn2 5 10 rfl rfl (by kernel_rfl) (by rfl) (by rfl) (fun KK hKK => ?ra1) (fun KK hKK => ?rb1)
      case' ra1 =>
        go_simp; (refine (N2 _ hR).mono ?_; rintro e wn5 ⟨rfl, hr, hm0⟩; have hm := Chg.trans hHeld hm0 (by simp); (try replace hT := hT.chg hm0 (by have := hTb; simp; omega)); replace hR := hr; clear hr hm0; (try go_simp)); refine hKK.out _ _ (by assumption) fun hHeld => ?_; clear hKK KK; try simp only [Act.put, List.setIfInBounds_toArray, List.set]
        refine rn2 8 10 rfl rfl (by kernel_rfl) (by rfl) (by rfl) (fun KK hKK => ?ra2) (fun KK hKK => ?rb2)
        case' ra2 =>
          go_simp; (refine (N3 _ hR).mono ?_; rintro e wn8 ⟨rfl, hr, hm0⟩; have hm := Chg.trans hHeld hm0 (by simp); (try replace hT := hT.chg hm0 (by have := hTb; simp; omega)); replace hR := hr; clear hr hm0; (try go_simp)); refine hKK.out _ _ (by assumption) fun hHeld => ?_; clear hKK KK; try simp only [Act.put, List.setIfInBounds_toArray, List.set]
          refine tks [9] (by kernel_rfl) (fun _ _ _ _ _ h => h) (by assumption) ?_
          refine tkc rfl rfl (by rfl) (fun wx hSw => by (try dsimp only at hSw); (have t0 := Chg.cellT hSw Q0.out NX.out); go_simp; (try with_reducible rfl)) ?_; simp only [List.set]
          refine tk0 ?_
          refine rn 10 rfl (by kernel_rfl) (by rfl) fun KK hKK => ?_
          (obtain ⟨m1, hT, hTb⟩ := hR.lit #[.int .i64 0, .int .i64 0, .int .i64 0, .int .i64 0, .int .i64 0] 104; have hT2 := hHeld.size; have hm := Chg.alloc hHeld (.cells #[.int .i64 0, .int .i64 0, .int .i64 0, .int .i64 0, .int .i64 0] 104); replace hR := m1; clear m1; go_simp); refine hKK.out _ _ (by assumption) fun hHeld => ?_; clear hKK KK; try simp only [Act.put, List.setIfInBounds_toArray, List.set]
          refine rn 11 rfl (by kernel_rfl) (by rfl) fun KK hKK => ?_
          (refine wp_store_row 104 _ _ rfl _ #[.int .i64 v1, .int .i64 v2, .int .i64 v3, .int .i64 0, .int .i64 0] rfl rfl 104 _ hT (by kernel_rfl) rfl (by simp [Value.oneCell']) ?_; obtain ⟨hS, hR9, hT9⟩ := RdB.rowed hR hT hHeld hT2 HW2.out #[.int .i64 v1, .int .i64 v2, .int .i64 v3, .int .i64 0, .int .i64 0]; go_simp); refine hKK.out _ _ (by assumption) fun hHeld => ?_; clear hKK KK; try simp only [Act.put, List.setIfInBounds_toArray, List.set]
          refine wpAnyH_done (by kernel_rfl) ?_ _
          (go_wp2_with fail; go_meet; exact ⟨_, rfl, hT9, hT2, hR9, hHeld⟩)
        case' rb2 =>
          (obtain ⟨m1, hT, hTb⟩ := hR.lit #[.int .i64 0, .int .i64 0, .int .i64 0, .int .i64 0, .int .i64 0] 104; have hT2 := hHeld.size; have hm := Chg.alloc hHeld (.cells #[.int .i64 0, .int .i64 0, .int .i64 0, .int .i64 0, .int .i64 0] 104); replace hR := m1; clear m1; go_simp); refine hKK.out _ _ (by assumption) fun hHeld => ?_; clear hKK KK; try simp only [Act.put, List.setIfInBounds_toArray, List.set]
          refine rn 8 rfl (by kernel_rfl) (by rfl) fun KK hKK => ?_
          go_simp; (refine (N3 _ hR).mono ?_; rintro e wn8 ⟨rfl, hr, hm0⟩; have hm := Chg.trans hHeld hm0 (by simp); (try replace hT := hT.chg hm0 (by have := hTb; simp; omega)); replace hR := hr; clear hr hm0; (try go_simp)); refine hKK.out _ _ (by assumption) fun hHeld => ?_; clear hKK KK; try simp only [Act.put, List.setIfInBounds_toArray, List.set]
          refine rn 9 rfl (by kernel_rfl) (by rfl) fun KK hKK => ?_
          go_simp; refine hKK.out _ _ (by assumption) fun hHeld => ?_; clear hKK KK; try simp only [Act.put, List.setIfInBounds_toArray, List.set]
          refine rn 11 rfl (by kernel_rfl) (by rfl) fun KK hKK => ?_
          (refine wp_store_row 104 _ _ rfl _ #[.int .i64 v1, .int .i64 v2, .int .i64 v3, .int .i64 0, .int .i64 0] rfl rfl 104 _ hT (by kernel_rfl) rfl (by simp [Value.oneCell']) ?_; obtain ⟨hS, hR9, hT9⟩ := RdB.rowed hR hT hHeld hT2 HW2.out #[.int .i64 v1, .int .i64 v2, .int .i64 v3, .int .i64 0, .int .i64 0]; go_simp); refine hKK.out _ _ (by assumption) fun hHeld => ?_; clear hKK KK; try simp only [Act.put, List.setIfInBounds_toArray, List.set]
          refine wpAnyH_done (by kernel_rfl) ?_ _
          (go_wp2_with fail; go_meet; exact ⟨_, rfl, hT9, hT2, hR9, hHeld⟩)
      case' rb1 =>
        (obtain ⟨m1, hT, hTb⟩ := hR.lit #[.int .i64 0, .int .i64 0, .int .i64 0, .int .i64 0, .int .i64 0] 104; have hT2 := hHeld.size; have hm := Chg.alloc hHeld (.cells #[.int .i64 0, .int .i64 0, .int .i64 0, .int .i64 0, .int .i64 0] 104); replace hR := m1; clear m1; go_simp); refine hKK.out _ _ (by assumption) fun hHeld => ?_; clear hKK KK; try simp only [Act.put, List.setIfInBounds_toArray, List.set]
        refine rn 5 rfl (by kernel_rfl) (by rfl) fun KK hKK => ?_
        go_simp; (refine (N2 _ hR).mono ?_; rintro e wn5 ⟨rfl, hr, hm0⟩; have hm := Chg.trans hHeld hm0 (by simp); (try replace hT := hT.chg hm0 (by have := hTb; simp; omega)); replace hR := hr; clear hr hm0; (try go_simp)); refine hKK.out _ _ (by assumption) fun hHeld => ?_; clear hKK KK; try simp only [Act.put, List.setIfInBounds_toArray, List.set]
        refine rn 8 rfl (by kernel_rfl) (by rfl) fun KK hKK => ?_
        go_simp; (refine (N3 _ hR).mono ?_; rintro e wn8 ⟨rfl, hr, hm0⟩; have hm := Chg.trans hHeld hm0 (by simp); (try replace hT := hT.chg hm0 (by have := hTb; simp; omega)); replace hR := hr; clear hr hm0; (try go_simp)); refine hKK.out _ _ (by assumption) fun hHeld => ?_; clear hKK KK; try simp only [Act.put, List.setIfInBounds_toArray, List.set]
        refine rn 9 rfl (by kernel_rfl) (by rfl) fun KK hKK => ?_
        go_simp; refine hKK.out _ _ (by assumption) fun hHeld => ?_; clear hKK KK; try simp only [Act.put, List.setIfInBounds_toArray, List.set]
        refine rn 11 rfl (by kernel_rfl) (by rfl) fun KK hKK => ?_
        (refine wp_store_row 104 _ _ rfl _ #[.int .i64 v1, .int .i64 v2, .int .i64 v3, .int .i64 0, .int .i64 0] rfl rfl 104 _ hT (by kernel_rfl) rfl (by simp [Value.oneCell']) ?_; obtain ⟨hS, hR9, hT9⟩ := RdB.rowed hR hT hHeld hT2 HW2.out #[.int .i64 v1, .int .i64 v2, .int .i64 v3, .int .i64 0, .int .i64 0]; go_simp); refine hKK.out _ _ (by assumption) fun hHeld => ?_; clear hKK KK; try simp only [Act.put, List.setIfInBounds_toArray, List.set]
        refine wpAnyH_done (by kernel_rfl) ?_ _
        (go_wp2_with fail; go_meet; exact ⟨_, rfl, hT9, hT2, hR9, hHeld⟩)
    case' rb0 =>
      (obtain ⟨m1, hT, hTb⟩ := hR.lit #[.int .i64 0, .int .i64 0, .int .i64 0, .int .i64 0, .int .i64 0] 104; have hT2 := hHeld.size; have hm := Chg.alloc hHeld (.cells #[.int .i64 0, .int .i64 0, .int .i64 0, .int .i64 0, .int .i64 0] 104); replace hR := m1; clear m1; go_simp); refine hKK.out _ _ (by assumption) fun hHeld => ?_; clear hKK KK; try simp only [Act.put, List.setIfInBounds_toArray, List.set]
      refine rn 2 rfl (by kernel_rfl) (by rfl) fun KK hKK => ?_
      go_simp; (refine (N1 _ hR).mono ?_; rintro e wn2 ⟨rfl, hr, hm0⟩; have hm := Chg.trans hHeld hm0 (by simp); (try replace hT := hT.chg hm0 (by have := hTb; simp; omega)); replace hR := hr; clear hr hm0; (try go_simp)); refine hKK.out _ _ (by assumption) fun hHeld => ?_; clear hKK KK; try simp only [Act.put, List.setIfInBounds_toArray, List.set]
      refine rn 5 rfl (by kernel_rfl) (by rfl) fun KK hKK => ?_
      go_simp; (refine (N2 _ hR).mono ?_; rintro e wn5 ⟨rfl, hr, hm0⟩; have hm := Chg.trans hHeld hm0 (by simp); (try replace hT := hT.chg hm0 (by have := hTb; simp; omega)); replace hR := hr; clear hr hm0; (try go_simp)); refine hKK.out _ _ (by assumption) fun hHeld => ?_; clear hKK KK; try simp only [Act.put, List.setIfInBounds_toArray, List.set]
      refine rn 8 rfl (by kernel_rfl) (by rfl) fun KK hKK => ?_
      go_simp; (refine (N3 _ hR).mono ?_; rintro e wn8 ⟨rfl, hr, hm0⟩; have hm := Chg.trans hHeld hm0 (by simp); (try replace hT := hT.chg hm0 (by have := hTb; simp; omega)); replace hR := hr; clear hr hm0; (try go_simp)); refine hKK.out _ _ (by assumption) fun hHeld => ?_; clear hKK KK; try simp only [Act.put, List.setIfInBounds_toArray, List.set]
      refine rn 9 rfl (by kernel_rfl) (by rfl) fun KK hKK => ?_
      go_simp; refine hKK.out _ _ (by assumption) fun hHeld => ?_; clear hKK KK; try simp only [Act.put, List.setIfInBounds_toArray, List.set]
      refine rn 11 rfl (by kernel_rfl) (by rfl) fun KK hKK => ?_
      (refine wp_store_row 104 _ _ rfl _ #[.int .i64 v1, .int .i64 v2, .int .i64 v3, .int .i64 0, .int .i64 0] rfl rfl 104 _ hT (by kernel_rfl) rfl (by simp [Value.oneCell']) ?_; obtain ⟨hS, hR9, hT9⟩ := RdB.rowed hR hT hHeld hT2 HW2.out #[.int .i64 v1, .int .i64 v2, .int .i64 v3, .int .i64 0, .int .i64 0]; go_simp); refine hKK.out _ _ (by assumption) fun hHeld => ?_; clear hKK KK; try simp only [Act.put, List.setIfInBounds_toArray, List.set]
      refine wpAnyH_done (by kernel_rfl) ?_ _
      (go_wp2_with fail; go_meet; exact ⟨_, rfl, hT9, hT2, hR9, hHeld⟩)
  case rest =>
  obtain ⟨tb, rfl, hT, htb, hR2, hM2⟩ := hcut
  clear hR
  have HT : Hd (b < base ∧ base ≤ rb ∧ kb = rb + 1 ∧ kb < tb ∧ rb = w.heap.size) := hd (by have := HT0.out; omega)
  have HX := hd (hX.chg hM2 (by have := HT0.out; simp; omega))
  have HK2 := hd (HK.out.chg hM2 (by have := HT0.out; simp; omega))
  have HM2 := hd ((HM.out.mono (S' := [b]) (by simp)).trans hM2 (fun x hx _ => hx))
  have NX : Hd (rb ∉ [b, tb]) := hd (by have := HT.out; simp; omega)
  have HBW : Hd (base ≤ wc.heap.size) := hd (by have := HT.out; have := hT.lt; omega)
  have hT0 := hT
  clear hT hX hM2 htb HM HK HT0
  have hT := hT0.k (Chg.refl [] wc).drew
  have hR := hR2.k (Chg.refl [] wc).drew
  clear hT0 hR2
  go_wp2_with (fail)
  refine rg (N := 10) (by kernel_rfl) (by kernel_rfl) (S := (fun wx => Chg [b, tb] wc wx)) ((Chg.refl _ _).drew) (fun hHeld => ?_)
  generalize wc.drew = wcd at *
  refine tks [0, 1, 3, 4] (by kernel_rfl) (fun _ _ _ _ _ h => h) (by assumption) ?_
  iterate 4 (refine tkc rfl rfl (by rfl) (fun wx hSw => by (try dsimp only at hSw); (have t0 := (HX.out.chg hSw NX.out).cell 0; simp at t0); go_simp; (try with_reducible rfl)) ?_; simp only [List.set])
  refine tk0 ?_
  refine rn 2 rfl (by kernel_rfl) (by rfl) fun KK hKK => ?_
  go_simp; (refine (N4 _ hR).mono ?_; rintro e w5 ⟨rfl, hr, hm0⟩; have hm := Chg.trans hHeld hm0 (by simp); replace hT := hT.chg hm0 (by have := HT.out; simp; omega); replace hR := hr; clear hr hm0; (try go_simp)); refine hKK.out _ _ (by assumption) fun hHeld => ?_; clear hKK KK; try simp only [Act.put, List.setIfInBounds_toArray, List.set]
  refine tks [6] (by kernel_rfl) (fun _ _ _ _ _ h => h) (by assumption) ?_
  refine tkc rfl rfl (by rfl) (fun wx hSw => by (try dsimp only at hSw); (have t0 := (HX.out.chg hSw NX.out).cell 0; simp at t0); go_simp; (try with_reducible rfl)) ?_; simp only [List.set]
  refine tk0 ?_
  refine rn 5 rfl (by kernel_rfl) (by rfl) fun KK hKK => ?_
  go_simp; (refine (N5 _ hR).mono ?_; rintro e w6 ⟨rfl, hr, hm0⟩; have hm := Chg.trans hHeld hm0 (by simp); replace hT := hT.chg hm0 (by have := HT.out; simp; omega); replace hR := hr; clear hr hm0; have c3 := hT.cell 3; have f3 := hT.free 3; simp at c3; (try go_simp)); refine hKK.out _ _ (by assumption) fun hHeld => ?_; clear hKK KK; try simp only [Act.put, List.setIfInBounds_toArray, List.set]
  refine rn 7 rfl (by kernel_rfl) (by rfl) fun KK hKK => ?_
  go_simp; (have hs7 := (Chg.setCell hHeld ⟨tb, 3, none⟩ (.int .i64 px) (by simp)); have hT7 := hT.set 3 (.int .i64 px); simp at hT7; have c4 := hT7.cell 4; have f4 := hT7.free 4; simp at c4); refine hKK.out _ _ (by assumption) fun hHeld => ?_; clear hKK KK; try simp only [Act.put, List.setIfInBounds_toArray, List.set]
  refine tks [8] (by kernel_rfl) (fun _ _ _ _ _ h => h) (by assumption) ?_
  refine tkc rfl rfl (by rfl) (fun wx hSw => by (try dsimp only at hSw); (have t0 := (HX.out.chg hSw NX.out).cell 0; simp at t0); go_simp; (try with_reducible rfl)) ?_; simp only [List.set]
  refine tk0 ?_
  refine rn 9 rfl (by kernel_rfl) (by rfl) fun KK hKK => ?_
  go_simp; (have hs9 := (Chg.setCell hHeld ⟨tb, 4, none⟩ (.int .i64 vx) (by simp)); have hT9 := hT7.set 4 (.int .i64 vx); simp at hT9); refine hKK.out _ _ (by assumption) fun hHeld => ?_; clear hKK KK; try simp only [Act.put, List.setIfInBounds_toArray, List.set]
  refine wpAnyH_done (by kernel_rfl) ?_ _
  skip
  have hsS := ((Chg.refl [tb] w6).setCell ⟨tb, 3, none⟩ (.int .i64 px) (by simp)).setCell ⟨tb, 4, none⟩ (.int .i64 vx) (by simp)
  have hRb := hR.keep hsS (by have := HT.out; simp; omega)
  have HH := hd hHeld
  clear hs7 hT7 c3 c4 f3 f4 hT hR hsS hm hs9 hHeld
  generalize (w6.setCell ⟨tb, 3, none⟩ (.int .i64 px)).setCell ⟨tb, 4, none⟩ (.int .i64 vx) = w11 at *
  have kB4 := HK2.out.chg HH.out (by have := HT.out; simp; omega)
  have HMb := hd (HM2.out.trans HH.out (S := [b]) (fun x hx hl => by have := HT.out; simp at hx ⊢; omega))
  have hTb := hT9
  go_wp2_with (first | (refine wpList_load_row rfl _ _ rfl tb rfl 104 _ (0, 0) _ hTb Tryz.underlying104 rfl (by kernel_rfl) ?_) | (refine wpList_store_row rfl _ _ _ rfl kb #[.int .i64 v1, .int .i64 v2, .int .i64 v3, .int .i64 px, .int .i64 vx] rfl rfl 104 _ kB4 (by kernel_rfl) (by simp) (by simp [Value.oneCell']) ?_))
  have k5 : Blk (w11.setRow kb #[.int .i64 v1, .int .i64 v2, .int .i64 v3, .int .i64 px, .int .i64 vx]) kb #[.int .i64 v1, .int .i64 v2, .int .i64 v3, .int .i64 px, .int .i64 vx] 104 := kB4.row
  have hs5 := Chg.row (Chg.refl [kb] w11) kb #[.int .i64 v1, .int .i64 v2, .int .i64 v3, .int .i64 px, .int .i64 vx] (by simp)
  refine bodyPost_ret (results_cell_row rfl _ _ kb 104 _ (0, 0) _ rfl k5 Tryz.underlying104 rfl (by kernel_rfl)) rfl ⟨rfl, ?_, ?_⟩
  · exact hRb.keep hs5 (by have := HT.out; simp; omega)
  · exact HMb.out.trans hs5 (fun x hx hl => by have := HT.out; simp at hx; omega)
end Go.Proofs.YtbiadpkglcdihaaGreat

/- codec.several over joints and contacts. -/
namespace Go.Proofs.YtbiadpkglcdihaaGreat
open Go.RowKit

theorem rowJ : RowT Tryz.prog 29 101 8 64 := RowT.mk (z := .agg #[.int .i64 0, .int .i64 0, .int .i64 0, .int .i64 0, .int .i64 0, .int .i64 0, .int .i64 0, .int .i64 0]) (by kernel_rfl) (by kernel_rfl) rfl (by decide)
structure SevJ (w0 : World) (base b xb tb : Nat) (v : Value) (L : List Jnt) (cur : World) (st : St) : Prop where
  o : cur.ownsRow xb 101 8 v L.length (L.flatMap cJt)
  r : RdB base cur b st
  x : Blk cur tb #[.pointer (some ⟨b, 0, none⟩)] 152
  c : Chg [b] w0 cur
set_option maxRecDepth 100000 in
set_option maxHeartbeats 8000000 in
theorem SeveralJ_any (base b n : Nat) (s : St) (w : World) (hr : RdB base w b s) (hbase : base ≤ w.heap.size) (hn : n ≤ 4294967296) :
    Calls Tryz.prog 78 #[.agg #[.pointer (some ⟨b, 0, none⟩)], .int .i64 n, .func (.func 79) #[] #[]] w fun e w' => ∃ v, e = .returned v ∧ w'.ownsRow w.heap.size 101 8 v (sevR jntR n s).1.length ((sevR jntR n s).1.flatMap cJt) ∧ RdB base w' b (sevR jntR n s).2 ∧ Chg [b] w w' := by
  obtain ⟨P, hP⟩ : ∃ P : Ending → World → Prop, P = fun e w' => ∃ v, e = .returned v ∧ w'.ownsRow w.heap.size 101 8 v (sevR jntR n s).1.length ((sevR jntR n s).1.flatMap cJt) ∧ RdB base w' b (sevR jntR n s).2 ∧ Chg [b] w w' := ⟨_, rfl⟩
  rw [← hP]
  have HP := hd hP
  clear hP
  have hlt := hr.lt
  have hc := (Chg.refl [] w).alloc (.cells #[.pointer (some ⟨b, 0, none⟩)] 152)
  have hX := Blk.new w #[.pointer (some ⟨b, 0, none⟩)] 152
  have hR := hr.k hc
  go_enter Tryz.func78, Tryz.ntmps78
  go_upto_region 1 with (fail)
  generalize w.alloc (.cells #[.pointer (some ⟨b, 0, none⟩)] 152) = w0 at *
  obtain ⟨tb, htb⟩ : ∃ tb, tb = w.heap.size := ⟨_, rfl⟩
  rw [← htb] at hX ⊢
  have HT : Hd (tb = w.heap.size ∧ b < base ∧ base ≤ tb) := hd ⟨htb, hlt, by omega⟩
  have hS : SevJ w base b (tb + 1) tb (.slice none 0 0) [] w0 s := ⟨World.ownsRow_nil _ _ _ _, hR, hX, hc.mono (by simp)⟩
  clear hlt hc hX hR hr hbase htb
  go_wp2_with (fail)
  go_loopw [7, 8] (fun u i wr => ∃ (j : Nat) (v : Value) (L : List Jnt) (st : St), v = u ∧ j ≤ n ∧ L.length ≤ j ∧ i = .int .i64 j ∧ L ++ (sevR jntR (n - j) st).1 = (sevR jntR n s).1 ∧ (sevR jntR (n - j) st).2 = (sevR jntR n s).2 ∧ SevJ w base b (tb + 1) tb v L wr st)
    (fun _ i _ => n - (intOf i).toNat)
  case atStart => exact ⟨0, _, [], s, rfl, by omega, by simp, rfl, rfl, rfl, hS⟩
  case round =>
    clear hS
    obtain ⟨j, v, L, st, rfl, hj, hLj, rfl, hp1, hp2, hS⟩ := hrel
    have a0 := hS.x.cell 0
    simp at a0
    have HS := hd hS
    have HP1 := hd hp1
    have HP2 := hd hp2
    obtain ⟨ao, c, rfl⟩ : ∃ ao c, v = .slice ao L.length c := by
      rcases hS.o.2 with ⟨rfl, hz⟩ | ⟨g, cap, cur, rfl, _⟩
      · exact ⟨none, 0, by rw [hz]⟩
      · exact ⟨_, cap, rfl⟩
    have FIN : Hd ((sevR jntR (n - j) st).1 = [] → (sevR jntR (n - j) st).2 = st → P (.returned (.slice ao L.length c)) wr) := hd fun e1 e2 => by
      rw [HP.out, ← HP1.out, ← HP2.out, e1, e2, List.append_nil]
      refine ⟨_, rfl, ?_, HS.out.r, HS.out.c⟩
      have h := HS.out.o
      rcases h with ⟨h0, h1 | ⟨g, cap, cur, h2, h3, h4⟩⟩
      · exact ⟨h0, .inl h1⟩
      · exact ⟨h0, .inr ⟨g, cap, cur, h2, by have := HT.out; omega, h4⟩⟩
    clear hp1 hp2 hS
    by_cases hlt : j < n
    · cases hb : st.2 with
      | true =>
        have HB := hd hb
        have hF := FIN.out (by rw [sevR_no _ _ _ hb]) (by rw [sevR_no _ _ _ hb])
        clear hb
        go_wp2_with (go_at_call 103; refine (BadB_any base b st _ HS.out.r).mono ?_; rintro e w5 ⟨rfl, rfl⟩; rw [HB.out])
        exact hF
      | false =>
        obtain ⟨m, hm⟩ : ∃ m, n - j = m + 1 := ⟨n - j - 1, by omega⟩
        have hq1 := HP1.out
        have hq2 := HP2.out
        rw [hm, sevR_go _ _ _ hb] at hq1 hq2
        have HB := hd hb
        have HM := hd hm
        clear hb hm
        have hcon := RJoint_any base b st wr HS.out.r (by have := HT.out; have := HS.out.x.lt; omega)
        obtain ⟨o, st1, ho⟩ : ∃ o st1, jntR st = (o, st1) := ⟨_, _, rfl⟩
        rw [ho] at hcon hq1 hq2
        clear ho
        have HQ1 := hd hq1
        have HQ2 := hd hq2
        clear hq1 hq2 FIN
        simp only at hcon
        obtain ⟨ji, ja, jb, ⟨jx, jy⟩, ⟨jv, jw⟩, jl⟩ := o
        unfold vJ at hcon
        simp only at hcon
        go_wp2_with (first
          | (go_at_call 103; refine (BadB_any base b st _ HS.out.r).mono ?_; rintro e w5 ⟨rfl, rfl⟩; rw [HB.out])
          | (go_at_call 79; refine hcon.mono ?_; rintro e w4 ⟨rfl, hr4, hm4⟩; have hcl := (Chg.refl [] w4).alloc (.cells #[.int .i64 ji, .int .i64 ja, .int .i64 jb, .int .i64 jx, .int .i64 jy, .int .i64 jv, .int .i64 jw, .int .i64 jl] 101); have hO4 := ownsRow_k (ownsRow_chg HS.out.o hm4 (fun k hk => by have := (World.ownsRow.lt HS.out.o k hk).1; have := HT.out; simp; omega)) hcl; have hX4 := (HS.out.x.chg hm4 (by have := HT.out; simp; omega)).k hcl; have hR4 := hr4.k hcl; have hC4 := (HS.out.c.trans hm4 (fun x hx _ => hx)).k' hcl; have hLit := Rd.lit w4 8 1 (cJt ⟨ji, ja, jb, ⟨jx, jy⟩, ⟨jv, jw⟩, jl⟩) #[.int .i64 ji, .int .i64 ja, .int .i64 jb, .int .i64 jx, .int .i64 jy, .int .i64 jv, .int .i64 jw, .int .i64 jl] 101 rfl rfl (by decide))
          | (at_builtin; refine wpApp rowJ rfl _ _ rfl (tb + 1) (.slice ao L.length c) L.length (L.flatMap cJt) rfl hO4 _ 1 (cJt ⟨ji, ja, jb, ⟨jx, jy⟩, ⟨jv, jw⟩, jl⟩) rfl hLit (cJt_one _) (by omega) (by omega) (by have := hX4.lt; omega) ?_; intro ao6 c6 w6 hr6 hg6 hmv6 hno6))
        go_roundw
        case rel => exact ⟨j + 1, _, L ++ [⟨ji, ja, jb, ⟨jx, jy⟩, ⟨jv, jw⟩, jl⟩], st1, rfl, by omega, by simp; omega, by go_num, by rw [show n - (j + 1) = m by have := HM.out; omega, List.append_assoc]; exact HQ1.out, by rw [show n - (j + 1) = m by have := HM.out; omega]; exact HQ2.out, ⟨by rw [List.length_append, List.flatMap_append]; simpa using hr6, hR4.keep ((Chg.refl (Value.slice ao L.length c).ownBlock.toList _).grown hg6 (fun k hk _ => by simp [hk])) (fun k hk => by have := (World.ownsRow.lt hO4 k (by simpa using hk)).1; have := HT.out; omega), hX4.grown hg6 (fun e => by have := (World.ownsRow.lt hO4 tb e).1; omega), hC4.grown hg6 (fun k hk hl => by have := (World.ownsRow.lt hO4 k hk).1; have := HT.out; omega)⟩⟩
        case measure => simp [intOf]; omega
    · have hjn : n - j = 0 := by omega
      have hF := FIN.out (by rw [hjn]; rfl) (by rw [hjn]; rfl)
      clear hjn
      go_wp2_with (fail)
      exact hF
theorem rowC : RowT Tryz.prog 30 104 5 40 := RowT.mk (z := .agg #[.int .i64 0, .int .i64 0, .int .i64 0, .int .i64 0, .int .i64 0]) (by kernel_rfl) (by kernel_rfl) rfl (by decide)
structure SevC (w0 : World) (base b xb tb : Nat) (v : Value) (L : List Cnt) (cur : World) (st : St) : Prop where
  o : cur.ownsRow xb 104 5 v L.length (L.flatMap cCt)
  r : RdB base cur b st
  x : Blk cur tb #[.pointer (some ⟨b, 0, none⟩)] 152
  c : Chg [b] w0 cur
set_option maxRecDepth 100000 in
set_option maxHeartbeats 8000000 in
theorem SeveralC_any (base b n : Nat) (s : St) (w : World) (hr : RdB base w b s) (hbase : base ≤ w.heap.size) (hn : n ≤ 4294967296) :
    Calls Tryz.prog 80 #[.agg #[.pointer (some ⟨b, 0, none⟩)], .int .i64 n, .func (.func 81) #[] #[]] w fun e w' => ∃ v, e = .returned v ∧ w'.ownsRow w.heap.size 104 5 v (sevR cntR n s).1.length ((sevR cntR n s).1.flatMap cCt) ∧ RdB base w' b (sevR cntR n s).2 ∧ Chg [b] w w' := by
  obtain ⟨P, hP⟩ : ∃ P : Ending → World → Prop, P = fun e w' => ∃ v, e = .returned v ∧ w'.ownsRow w.heap.size 104 5 v (sevR cntR n s).1.length ((sevR cntR n s).1.flatMap cCt) ∧ RdB base w' b (sevR cntR n s).2 ∧ Chg [b] w w' := ⟨_, rfl⟩
  rw [← hP]
  have HP := hd hP
  clear hP
  have hlt := hr.lt
  have hc := (Chg.refl [] w).alloc (.cells #[.pointer (some ⟨b, 0, none⟩)] 152)
  have hX := Blk.new w #[.pointer (some ⟨b, 0, none⟩)] 152
  have hR := hr.k hc
  go_enter Tryz.func80, Tryz.ntmps80
  go_upto_region 1 with (fail)
  generalize w.alloc (.cells #[.pointer (some ⟨b, 0, none⟩)] 152) = w0 at *
  obtain ⟨tb, htb⟩ : ∃ tb, tb = w.heap.size := ⟨_, rfl⟩
  rw [← htb] at hX ⊢
  have HT : Hd (tb = w.heap.size ∧ b < base ∧ base ≤ tb) := hd ⟨htb, hlt, by omega⟩
  have hS : SevC w base b (tb + 1) tb (.slice none 0 0) [] w0 s := ⟨World.ownsRow_nil _ _ _ _, hR, hX, hc.mono (by simp)⟩
  clear hlt hc hX hR hr hbase htb
  go_wp2_with (fail)
  go_loopw [7, 8] (fun u i wr => ∃ (j : Nat) (v : Value) (L : List Cnt) (st : St), v = u ∧ j ≤ n ∧ L.length ≤ j ∧ i = .int .i64 j ∧ L ++ (sevR cntR (n - j) st).1 = (sevR cntR n s).1 ∧ (sevR cntR (n - j) st).2 = (sevR cntR n s).2 ∧ SevC w base b (tb + 1) tb v L wr st)
    (fun _ i _ => n - (intOf i).toNat)
  case atStart => exact ⟨0, _, [], s, rfl, by omega, by simp, rfl, rfl, rfl, hS⟩
  case round =>
    clear hS
    obtain ⟨j, v, L, st, rfl, hj, hLj, rfl, hp1, hp2, hS⟩ := hrel
    have a0 := hS.x.cell 0
    simp at a0
    have HS := hd hS
    have HP1 := hd hp1
    have HP2 := hd hp2
    obtain ⟨ao, c, rfl⟩ : ∃ ao c, v = .slice ao L.length c := by
      rcases hS.o.2 with ⟨rfl, hz⟩ | ⟨g, cap, cur, rfl, _⟩
      · exact ⟨none, 0, by rw [hz]⟩
      · exact ⟨_, cap, rfl⟩
    have FIN : Hd ((sevR cntR (n - j) st).1 = [] → (sevR cntR (n - j) st).2 = st → P (.returned (.slice ao L.length c)) wr) := hd fun e1 e2 => by
      rw [HP.out, ← HP1.out, ← HP2.out, e1, e2, List.append_nil]
      refine ⟨_, rfl, ?_, HS.out.r, HS.out.c⟩
      have h := HS.out.o
      rcases h with ⟨h0, h1 | ⟨g, cap, cur, h2, h3, h4⟩⟩
      · exact ⟨h0, .inl h1⟩
      · exact ⟨h0, .inr ⟨g, cap, cur, h2, by have := HT.out; omega, h4⟩⟩
    clear hp1 hp2 hS
    by_cases hlt : j < n
    · cases hb : st.2 with
      | true =>
        have HB := hd hb
        have hF := FIN.out (by rw [sevR_no _ _ _ hb]) (by rw [sevR_no _ _ _ hb])
        clear hb
        go_wp2_with (go_at_call 103; refine (BadB_any base b st _ HS.out.r).mono ?_; rintro e w5 ⟨rfl, rfl⟩; rw [HB.out])
        exact hF
      | false =>
        obtain ⟨m, hm⟩ : ∃ m, n - j = m + 1 := ⟨n - j - 1, by omega⟩
        have hq1 := HP1.out
        have hq2 := HP2.out
        rw [hm, sevR_go _ _ _ hb] at hq1 hq2
        have HB := hd hb
        have HM := hd hm
        clear hb hm
        have hcon := RContact_any base b st wr HS.out.r (by have := HT.out; have := HS.out.x.lt; omega)
        obtain ⟨o, st1, ho⟩ : ∃ o st1, cntR st = (o, st1) := ⟨_, _, rfl⟩
        rw [ho] at hcon hq1 hq2
        clear ho
        have HQ1 := hd hq1
        have HQ2 := hd hq2
        clear hq1 hq2 FIN
        simp only at hcon
        obtain ⟨ca, cb, ck, cn, ct⟩ := o
        unfold vC at hcon
        simp only at hcon
        go_wp2_with (first
          | (go_at_call 103; refine (BadB_any base b st _ HS.out.r).mono ?_; rintro e w5 ⟨rfl, rfl⟩; rw [HB.out])
          | (go_at_call 81; refine hcon.mono ?_; rintro e w4 ⟨rfl, hr4, hm4⟩; have hcl := (Chg.refl [] w4).alloc (.cells #[.int .i64 ca, .int .i64 cb, .int .i64 ck, .int .i64 cn, .int .i64 ct] 104); have hO4 := ownsRow_k (ownsRow_chg HS.out.o hm4 (fun k hk => by have := (World.ownsRow.lt HS.out.o k hk).1; have := HT.out; simp; omega)) hcl; have hX4 := (HS.out.x.chg hm4 (by have := HT.out; simp; omega)).k hcl; have hR4 := hr4.k hcl; have hC4 := (HS.out.c.trans hm4 (fun x hx _ => hx)).k' hcl; have hLit := Rd.lit w4 5 1 (cCt ⟨ca, cb, ck, cn, ct⟩) #[.int .i64 ca, .int .i64 cb, .int .i64 ck, .int .i64 cn, .int .i64 ct] 104 rfl rfl (by decide))
          | (at_builtin; refine wpApp rowC rfl _ _ rfl (tb + 1) (.slice ao L.length c) L.length (L.flatMap cCt) rfl hO4 _ 1 (cCt ⟨ca, cb, ck, cn, ct⟩) rfl hLit (cCt_one _) (by omega) (by omega) (by have := hX4.lt; omega) ?_; intro ao6 c6 w6 hr6 hg6 hmv6 hno6))
        go_roundw
        case rel => exact ⟨j + 1, _, L ++ [⟨ca, cb, ck, cn, ct⟩], st1, rfl, by omega, by simp; omega, by go_num, by rw [show n - (j + 1) = m by have := HM.out; omega, List.append_assoc]; exact HQ1.out, by rw [show n - (j + 1) = m by have := HM.out; omega]; exact HQ2.out, ⟨by rw [List.length_append, List.flatMap_append]; simpa using hr6, hR4.keep ((Chg.refl (Value.slice ao L.length c).ownBlock.toList _).grown hg6 (fun k hk _ => by simp [hk])) (fun k hk => by have := (World.ownsRow.lt hO4 k (by simpa using hk)).1; have := HT.out; omega), hX4.grown hg6 (fun e => by have := (World.ownsRow.lt hO4 tb e).1; omega), hC4.grown hg6 (fun k hk hl => by have := (World.ownsRow.lt hO4 k hk).1; have := HT.out; omega)⟩⟩
        case measure => simp [intOf]; omega
    · have hjn : n - j = 0 := by omega
      have hF := FIN.out (by rw [hjn]; rfl) (by rw [hjn]; rfl)
      clear hjn
      go_wp2_with (fail)
      exact hF
end Go.Proofs.YtbiadpkglcdihaaGreat
