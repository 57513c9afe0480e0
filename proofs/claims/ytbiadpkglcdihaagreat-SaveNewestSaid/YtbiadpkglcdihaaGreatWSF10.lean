/- Words and walks that SF rests on: WorldRm, DeedI, WorldE, GoodW. -/
import Derived.Test.YtbiadpkglcdihaaGreatWSF8
import Derived.Test.YtbiadpkglcdihaaGreatWSF7
import Derived.Test.YtbiadpkglcdihaaGreatWSF9
import Derived.Test.YtbiadpkglcdihaaGreatWSF6
/- world.RemoveBody, world.RemoveJoint. -/
namespace Go.Proofs.YtbiadpkglcdihaaGreat
open Go.RowKit

theorem says_mk {α : Type} {enc : α → List Value} {p : α → Bool} {g : Nat} {l : List α} {w : World} {ib : Nat} {id : Int} (hc : w.cell? ⟨ib, 0, none⟩ = some (.int .i64 id))
    (hcl : ∀ W x, x ∈ l → W.cell? ⟨ib, 0, none⟩ = some (.int .i64 id) → Calls Tryz.prog g #[.agg (enc x).toArray, .pointer (some ⟨ib, 0, none⟩)] W fun e w' => e = .returned (.bool (p x)) ∧ Chg [] W w') :
    ∀ W W', Chg [] w W → (∀ S, (∀ x ∈ S, w.heap.size ≤ x) → Chg S W W' → Says S W' enc p g #[.pointer (some ⟨ib, 0, none⟩)] l) := fun W W' h1 S hS h2 W2 x h3 hx => by
  have hib := World.block_lt_of_cell? w _ hc
  have hn : ib ∉ S := fun hm => by have := hS _ hm; simp at hib; omega
  exact hcl W2 x hx (h3.cellT (p := ⟨ib, 0, none⟩) (h2.cellT (p := ⟨ib, 0, none⟩) (h1.cellS hc) hn) hn)
set_option maxHeartbeats 1000000 in
theorem GoneB_any (W : World) (x : BV) (ib : Nat) (id : Int) (ho : x.2.oneCell' = true) (hc : W.cell? ⟨ib, 0, none⟩ = some (.int .i64 id)) :
    Calls Tryz.prog 125 #[.agg (cBV x).toArray, .pointer (some ⟨ib, 0, none⟩)] W fun e w' => e = .returned (.bool (x.1.id == id)) ∧ Chg [] W w' := by
  obtain ⟨⟨i, ⟨px, py⟩, ⟨vx, vy⟩, an, sp, de, ⟨k, r, p⟩⟩, pv⟩ := x
  unfold cBV
  simp only at ho ⊢
  have h1 := (Chg.refl [] W).alloc (.cells #[.int .i64 i, .int .i64 px, .int .i64 py, .int .i64 vx, .int .i64 vy, .int .i64 an, .int .i64 sp, .int .i64 de, .int .i64 k, .int .i64 r, pv] 97)
  have c1 := h1.cellS hc
  go_enter Tryz.func125, Tryz.ntmps125
  go_wp2_with fail
  go_ret
  exact ⟨rfl, h1⟩
set_option maxHeartbeats 1000000 in
theorem GoneJ_any (W : World) (x : Jnt) (ib : Nat) (id : Int) (hc : W.cell? ⟨ib, 0, none⟩ = some (.int .i64 id)) :
    Calls Tryz.prog 127 #[.agg (cJt x).toArray, .pointer (some ⟨ib, 0, none⟩)] W fun e w' => e = .returned (.bool (x.a == id || x.b == id)) ∧ Chg [] W w' := by
  obtain ⟨i, a, b, ⟨px, py⟩, ⟨qx, qy⟩, ln⟩ := x
  unfold cJt
  simp only
  have h1 := (Chg.refl [] W).alloc (.cells #[.int .i64 i, .int .i64 a, .int .i64 b, .int .i64 px, .int .i64 py, .int .i64 qx, .int .i64 qy, .int .i64 ln] 101)
  have c1 := h1.cellS hc
  by_cases e : a = id
  · subst e
    go_enter Tryz.func127, Tryz.ntmps127
    go_wp2_with fail
    go_ret
    exact ⟨by simp, h1⟩
  · have e2 : (a == id) = false := by rw [beq_eq_false_iff_ne]; exact e
    go_enter Tryz.func127, Tryz.ntmps127
    go_wp2_with fail
    go_ret
    exact ⟨by simp [e2], h1⟩
set_option maxHeartbeats 1000000 in
theorem GoneC_any (W : World) (x : Cnt) (ib : Nat) (id : Int) (hc : W.cell? ⟨ib, 0, none⟩ = some (.int .i64 id)) :
    Calls Tryz.prog 129 #[.agg (cCt x).toArray, .pointer (some ⟨ib, 0, none⟩)] W fun e w' => e = .returned (.bool (x.a == id || x.b == id)) ∧ Chg [] W w' := by
  obtain ⟨a, b, k, n, t⟩ := x
  unfold cCt
  simp only
  have h1 := (Chg.refl [] W).alloc (.cells #[.int .i64 a, .int .i64 b, .int .i64 k, .int .i64 n, .int .i64 t] 104)
  have c1 := h1.cellS hc
  by_cases e : a = id
  · subst e
    go_enter Tryz.func129, Tryz.ntmps129
    go_wp2_with fail
    go_ret
    exact ⟨by simp, h1⟩
  · have e2 : (a == id) = false := by rw [beq_eq_false_iff_ne]; exact e
    go_enter Tryz.func129, Tryz.ntmps129
    go_wp2_with fail
    go_ret
    exact ⟨by simp [e2], h1⟩
set_option maxHeartbeats 1000000 in
theorem GoneJ1_any (W : World) (x : Jnt) (ib : Nat) (id : Int) (hc : W.cell? ⟨ib, 0, none⟩ = some (.int .i64 id)) :
    Calls Tryz.prog 131 #[.agg (cJt x).toArray, .pointer (some ⟨ib, 0, none⟩)] W fun e w' => e = .returned (.bool (x.id == id)) ∧ Chg [] W w' := by
  obtain ⟨i, a, b, ⟨px, py⟩, ⟨qx, qy⟩, ln⟩ := x
  unfold cJt
  simp only
  have h1 := (Chg.refl [] W).alloc (.cells #[.int .i64 i, .int .i64 a, .int .i64 b, .int .i64 px, .int .i64 py, .int .i64 qx, .int .i64 qy, .int .i64 ln] 101)
  have c1 := h1.cellS hc
  go_enter Tryz.func131, Tryz.ntmps131
  go_wp2_with fail
  go_ret
  exact ⟨rfl, h1⟩
theorem bsS_stay {w : World} {v : Value} {l : List BV} {p : BV → Bool} {base : Nat} (h : OwR cBV 11 97 w base v (stay p l)) (hp : ∀ y ∈ l, VsS w y.2 y.1.shape.p) : BsS w v (stay p l) :=
  ⟨h.rd, fun x hx => hp x ((List.mem_filter.1 hx).1)⟩
theorem stay_map (l : List BV) (id : Int) : (stay (fun x => x.1.id == id) l).map (·.1) = stay (fun b => b.id == id) (l.map (·.1)) := by
  unfold stay
  rw [List.filter_map]
  rfl
set_option maxRecDepth 100000 in
set_option maxHeartbeats 8000000 in
theorem RemBody_any (w : World) (wb : Nat) (S : List Nat) (bv jv kv : Value) (L : List BV) (X : Wld) (id : Int) (h : WB w wb S bv jv kv L X)
    (hlb : X.bodies.length ≤ 100000000000) (hr : risI (X.bodies.map (·.id))) (hlj : X.joints.length ≤ 100000000000) (hlc : X.contacts.length ≤ 100000000000) :
    Calls Tryz.prog 96 #[.pointer (some ⟨wb, 0, none⟩), .int .i64 id] w fun e w' => e = .returned (.bool (remB X id).2) ∧ Chg [wb] w w' ∧ ∃ bv' jv' kv' L', WB w' wb S bv' jv' kv' L' (remB X id).1 := by
  have hfa := fun W (hW : WlP W bv jv kv L X) => BodyAt_any W bv jv kv L X id hW hlb hr
  have hwB := fun W (hW : WlP W bv jv kv L X) ib (hc : W.cell? ⟨ib, 0, none⟩ = some (.int .i64 id)) => WithoutRB_any W bv L hW.b.rd (fun x hx => cBV_one x (one_cBV x (BsS.one hW.b x hx))) (by rw [← List.length_map (f := (·.1)), hW.l]; exact hlb) (fun x => x.1.id == id) 125 _ (enters_of Tryz.func125 (by kernel_rfl) rfl) (says_mk hc (fun V x hx hV => GoneB_any V x ib id (one_cBV x (BsS.one hW.b x hx)) hV))
  have hwJ := fun W (hW : JsS W jv X.joints) ib (hc : W.cell? ⟨ib, 0, none⟩ = some (.int .i64 id)) => WithoutRJ_any W jv X.joints hW (fun x _ => cJt_one x) hlj (fun j => j.a == id || j.b == id) 127 _ (enters_of Tryz.func127 (by kernel_rfl) rfl) (says_mk hc (fun V x _ hV => GoneJ_any V x ib id hV))
  have hwC := fun W (hW : CsS W kv X.contacts) ib (hc : W.cell? ⟨ib, 0, none⟩ = some (.int .i64 id)) => WithoutRC_any W kv X.contacts hW (fun x _ => cCt_one x) hlc (fun j => j.a == id || j.b == id) 129 _ (enters_of Tryz.func129 (by kernel_rfl) rfl) (says_mk hc (fun V x _ hV => GoneC_any V x ib id hV))
  obtain ⟨tk, nb, nj, ⟨gx, gy⟩, bs, js, ks⟩ := X
  have hl := h.p.l
  simp only at hfa hwB hwJ hwC hl
  subst hl
  obtain ⟨P, hP⟩ : ∃ P : Ending → World → Prop, P = fun e w' => e = .returned (.bool (remB ⟨tk, nb, nj, (gx, gy), L.map (·.1), js, ks⟩ id).2) ∧ Chg [wb] w w' ∧ ∃ bv' jv' kv' L', WB w' wb S bv' jv' kv' L' (remB ⟨tk, nb, nj, (gx, gy), L.map (·.1), js, ks⟩ id).1 := ⟨_, rfl⟩
  rw [← hP]
  have HP := hd hP
  unfold remB at HP
  simp only at HP
  clear hP hr hlb hlj hlc
  unfold vW at *
  generalize fndI ((L.map (·.1)).map (·.id)) id = fa at *
  obtain ⟨na, oa⟩ := fa
  simp only at hfa HP
  have hc0 := (Chg.refl [] w).alloc (.cells #[.int .i64 id] 3)
  have hk0 := Blk.new w #[.int .i64 id] 3
  have hwl := h.blk.lt
  go_enter Tryz.func96, Tryz.ntmps96
  go_upto_region 1 with (fail)
  generalize w.alloc (.cells #[.int .i64 id] 3) = w0 at *
  obtain ⟨xb, hxb⟩ : ∃ xb, xb = w.heap.size := ⟨_, rfl⟩
  rw [← hxb] at hk0 ⊢
  have HXB : Hd (wb < xb ∧ xb = w.heap.size) := hd ⟨by omega, hxb⟩
  have HX0 := hd hk0
  have HW0 := hd (h.k hc0)
  have HC0 := hd hc0
  have HH := hd h
  clear hxb hwl hk0 hc0 h
  unfold wC at *
  refine rg (N := 10) (by kernel_rfl) (by kernel_rfl) (S := (fun wx => Chg [] w0 wx)) ((Chg.refl _ _).drew) (fun hHeld => ?_)
  generalize w0.drew = w0d at *
  refine tks [0, 1, 2, 3] (by kernel_rfl) (fun _ _ _ _ _ h => h) (by assumption) ?_
  iterate 2 (refine tkc rfl rfl (by rfl) (fun wx hSw => by (try dsimp only at hSw); (have t0 := (HX0.out.k hSw).cell 0; simp at t0); go_simp; (try with_reducible rfl)) ?_; simp only [List.set])
  refine tkc rfl rfl (by rfl) (fun wx hSw => by (try dsimp only at hSw); (refine exec_load_row (x := .tmp 9) (t := 32) ?_ ?_ (HW0.out.k hSw).blk Tryz.underlying32 rfl (by kernel_rfl) <;> rfl)) ?_; simp only [List.set]
  refine tkc rfl rfl (by rfl) (fun wx hSw => by (try dsimp only at hSw); (have t0 := (HX0.out.k hSw).cell 0; simp at t0); go_simp; (try with_reducible rfl)) ?_; simp only [List.set]
  refine tk0 ?_
  refine rn 4 rfl (by kernel_rfl) (by rfl) fun KK hKK => ?_
  go_simp; (refine (hfa _ (HW0.out.k hHeld).p).mono ?_; rintro e w1 ⟨rfl, hm0⟩; have hm := Chg.k' hHeld hm0; (try go_simp)); refine hKK.out _ _ (by assumption) fun hHeld => ?_; clear hKK KK; try simp only [Act.put, List.setIfInBounds_toArray, List.set]
  refine rn 5 rfl (by kernel_rfl) (by rfl) fun KK hKK => ?_
  go_simp; refine hKK.out _ _ (by assumption) fun hHeld => ?_; clear hKK KK; try simp only [Act.put, List.setIfInBounds_toArray, List.set]
  refine tks [6, 7] (by kernel_rfl) (fun _ _ _ _ _ h => h) (by assumption) ?_
  iterate 2 (refine tkc rfl rfl (by rfl) (fun wx hSw => by (try dsimp only at hSw); (have t0 := (HX0.out.k hSw).cell 0; simp at t0); go_simp; (try with_reducible rfl)) ?_; simp only [List.set])
  refine tk0 ?_
  refine rn 8 rfl (by kernel_rfl) (by rfl) fun KK hKK => ?_
  go_simp; refine hKK.out _ _ (by assumption) fun hHeld => ?_; clear hKK KK; try simp only [Act.put, List.setIfInBounds_toArray, List.set]
  refine rn 9 rfl (by kernel_rfl) (by rfl) fun KK hKK => ?_
  go_simp; refine hKK.out _ _ (by assumption) fun hHeld => ?_; clear hKK KK; try simp only [Act.put, List.setIfInBounds_toArray, List.set]
  refine wpAnyH_done (by kernel_rfl) ?_ _
  skip
  have HC1 := hd (HC0.out.k hm)
  have HX1 := hd (HX0.out.k hm)
  have hW1 := HH.out.k HC1.out
  clear hm hm0 hHeld hfa HX0 HW0 HC0
  cases oa
  · have HW1 := hd hW1
    go_wp2_with fail
    rw [HP.out]
    exact ⟨rfl, HC1.out.mono (by simp), _, _, _, _, HW1.out⟩
  · rw [if_neg (by simp)] at HP
    have hb := hwB w1 hW1.p xb (by have := HX1.out.cell 0; simpa using this)
    have c5 := hW1.blk.cell 5
    have f5 := hW1.blk.free 5
    simp [wC] at c5
    have HW1 := hd hW1
    have hwlt : Hd (∀ x ∈ S, x < w1.heap.size) := hd hW1.lt
    obtain ⟨ab, cb, rfl, -, -⟩ := Rd.form (by decide) hW1.p.b.rd
    obtain ⟨aj, cj, rfl, -, -⟩ := Rd.form (by decide) hW1.p.j
    obtain ⟨ak, ck, rfl, -, -⟩ := Rd.form (by decide) hW1.p.c
    clear hW1 hwB
    go_upto_region 5 with (go_at_call 124; refine hb.mono ?_; rintro e w2 ⟨ao, c, rfl, ho, hc2⟩; replace f5 := (hc2.frozenS c5).trans f5; replace c5 := hc2.cellS c5)
    have hB2 := bsS_stay ho (fun y hy => (HW1.out.p.b.ps y hy).k hc2)
    have hBo : ∀ k, (Value.slice ao (stay (fun x : BV => x.1.id == id) L).length c).ownBlock = some k → k ∉ S := fun k hk hm => by have := (ho.lo k hk).1; have := hwlt.out k hm; omega
    have HB2 := hd hB2
    have HBo := hd hBo
    have hw2 := (HW1.out.k hc2)
    have hs3 := Chg.setCell (Chg.refl [wb] w2) ⟨wb, 5, none⟩ (.slice ao (stay (fun x : BV => x.1.id == id) L).length c) (by simp)
    have hk3 := hw2.blk.set 5 (.slice ao (stay (fun x : BV => x.1.id == id) L).length c)
    have hj3 := hw2.p.j.chg hs3 hw2.a1.j
    have hc3 := hw2.p.c.chg hs3 hw2.a1.k
    have hx3 := (HX1.out.k hc2).chg hs3 (by have := HXB.out; simp; omega)
    have HS3 := hd ((HC1.out.k hc2).mono (S' := [wb]) (by simp) |>.trans hs3 (fun x hx _ => hx))
    have HS23 := hd hs3
    clear hB2 hBo hw2 hs3 hb c5 f5 ho hc2 HW1 HC1
    generalize w2.setCell ⟨wb, 5, none⟩ (.slice ao (stay (fun x : BV => x.1.id == id) L).length c) = w3 at *
    simp [wC] at hk3
    have hjw := hwJ w3 hj3 xb (by have := hx3.cell 0; simpa using this)
    have c6 := hk3.cell 6
    have f6 := hk3.free 6
    simp at c6
    have HK3 := hd hk3
    have HC3 := hd hc3
    have HX3 := hd hx3
    clear hk3 hc3 hx3 hj3 hwJ HX1
    have hwlt3 : Hd (∀ x ∈ S, x < w3.heap.size) := hd (fun x hx => Nat.lt_of_lt_of_le (HH.out.lt x hx) HS3.out.size)
    go_upto_region 6 with (go_at_call 126; refine hjw.mono ?_; rintro e w4 ⟨ao4, c4, rfl, ho4, hc4⟩; replace f6 := (hc4.frozenS c6).trans f6; replace c6 := hc4.cellS c6)
    have hJo : ∀ k, (Value.slice ao4 (stay (fun j : Jnt => j.a == id || j.b == id) js).length c4).ownBlock = some k → k ∉ S := fun k hk hm => by have := (ho4.lo k hk).1; have := hwlt3.out k hm; omega
    have HJ4 := hd (show JsS w4 _ _ from ho4.rd)
    have HJo := hd hJo
    have hs5 := Chg.setCell (Chg.refl [wb] w4) ⟨wb, 6, none⟩ (.slice ao4 (stay (fun j : Jnt => j.a == id || j.b == id) js).length c4) (by simp)
    have hk5 := (HK3.out.k hc4).set 6 (.slice ao4 (stay (fun j : Jnt => j.a == id || j.b == id) js).length c4)
    have hc5 := (HC3.out.k hc4).chg hs5 (fun hn => HH.out.a1.k hn)
    have hx5 := (HX3.out.k hc4).chg hs5 (by have := HXB.out; simp; omega)
    have HS5 := hd ((HS3.out.k' hc4).trans hs5 (fun x hx _ => hx))
    have HS25 := hd ((HS23.out.k' hc4).trans hs5 (fun x hx _ => hx))
    have HS45 := hd hs5
    clear hJo hs5 hjw c6 f6 ho4 hc4 HC3 HX3 HS3 HS23 HK3
    generalize w4.setCell ⟨wb, 6, none⟩ (.slice ao4 (stay (fun j : Jnt => j.a == id || j.b == id) js).length c4) = w5 at *
    simp at hk5
    have hcw := hwC w5 hc5 xb (by have := hx5.cell 0; simpa using this)
    have c7 := hk5.cell 7
    have f7 := hk5.free 7
    simp at c7
    have HK5 := hd hk5
    clear hk5 hx5 hc5 hwC
    have hwlt5 : Hd (∀ x ∈ S, x < w5.heap.size) := hd (fun x hx => Nat.lt_of_lt_of_le (HH.out.lt x hx) HS5.out.size)
    go_upto_region 7 with (go_at_call 128; refine hcw.mono ?_; rintro e w6 ⟨ao6, c6, rfl, ho6, hc6⟩; replace f7 := (hc6.frozenS c7).trans f7; replace c7 := hc6.cellS c7)
    have hCo : ∀ k, (Value.slice ao6 (stay (fun j : Cnt => j.a == id || j.b == id) ks).length c6).ownBlock = some k → k ∉ S := fun k hk hm => by have := (ho6.lo k hk).1; have := hwlt5.out k hm; omega
    have HC6 := hd (show CsS w6 _ _ from ho6.rd)
    have hs7 := Chg.setCell (Chg.refl [wb] w6) ⟨wb, 7, none⟩ (.slice ao6 (stay (fun j : Cnt => j.a == id || j.b == id) ks).length c6) (by simp)
    have HK7 := hd ((HK5.out.k hc6).set 7 (.slice ao6 (stay (fun j : Cnt => j.a == id || j.b == id) ks).length c6))
    have HS7 := hd ((HS5.out.k' hc6).trans hs7 (fun x hx _ => hx))
    have HS27 := hd ((HS25.out.k' hc6).trans hs7 (fun x hx _ => hx))
    have HS47 := hd ((HS45.out.k' hc6).trans hs7 (fun x hx _ => hx))
    have HS67 := hd hs7
    have HCo := hd hCo
    clear hCo hs7 hcw c7 f7 ho6 hc6 HS5 HS25 HS45 HK5
    generalize w6.setCell ⟨wb, 7, none⟩ (.slice ao6 (stay (fun j : Cnt => j.a == id || j.b == id) ks).length c6) = w7 at *
    go_wp2_with fail
    rw [HP.out]
    have HA := hd (show Apart S (.slice ao (stay (fun x : BV => x.1.id == id) L).length c) (.slice ao4 (stay (fun j : Jnt => j.a == id || j.b == id) js).length c4) (.slice ao6 (stay (fun j : Cnt => j.a == id || j.b == id) ks).length c6) (stay (fun x : BV => x.1.id == id) L) ⟨tk, nb, nj, (gx, gy), stay (fun b => b.id == id) (L.map (·.1)), stay (fun j => j.a == id || j.b == id) js, stay (fun j => j.a == id || j.b == id) ks⟩ from ⟨fun _ => HBo.out, fun _ => HJo.out, fun _ => HCo.out, fun x hx hn => HH.out.a.s x (List.mem_filter.1 hx).1 hn⟩)
    refine ⟨rfl, HS7.out, _, _, _, _, ?_, ⟨HB2.out.chg HS27.out (HA.out.one HH.out.ws).b (HA.out.one HH.out.ws).s, stay_map L id, HJ4.out.chg HS47.out (HA.out.one HH.out.ws).j, HC6.out.chg HS67.out (HA.out.one HH.out.ws).k⟩, HA.out, HH.out.ws, fun x hx => Nat.lt_of_lt_of_le (HH.out.lt x hx) HS7.out.size⟩
    have := HK7.out
    simpa [wC] using this
set_option maxRecDepth 100000 in
set_option maxHeartbeats 8000000 in
theorem RemJoint_any (w : World) (wb : Nat) (S : List Nat) (bv jv kv : Value) (L : List BV) (X : Wld) (id : Int) (h : WB w wb S bv jv kv L X)
    (hlj : X.joints.length ≤ 100000000000) (hr : risI (X.joints.map (·.id))) :
    Calls Tryz.prog 97 #[.pointer (some ⟨wb, 0, none⟩), .int .i64 id] w fun e w' => e = .returned (.bool (remJ X id).2) ∧ Chg [wb] w w' ∧ ∃ jv', WB w' wb S bv jv' kv L (remJ X id).1 := by
  have hfa := fun W (hW : WlP W bv jv kv L X) => JointAt_any W bv jv kv L X id hW hlj hr
  have hwJ := fun W (hW : JsS W jv X.joints) ib (hc : W.cell? ⟨ib, 0, none⟩ = some (.int .i64 id)) => WithoutRJ_any W jv X.joints hW (fun x _ => cJt_one x) hlj (fun j => j.id == id) 131 _ (enters_of Tryz.func131 (by kernel_rfl) rfl) (says_mk hc (fun V x _ hV => GoneJ1_any V x ib id hV))
  obtain ⟨tk, nb, nj, ⟨gx, gy⟩, bs, js, ks⟩ := X
  simp only at hfa hwJ
  obtain ⟨P, hP⟩ : ∃ P : Ending → World → Prop, P = fun e w' => e = .returned (.bool (remJ ⟨tk, nb, nj, (gx, gy), bs, js, ks⟩ id).2) ∧ Chg [wb] w w' ∧ ∃ jv', WB w' wb S bv jv' kv L (remJ ⟨tk, nb, nj, (gx, gy), bs, js, ks⟩ id).1 := ⟨_, rfl⟩
  rw [← hP]
  have HP := hd hP
  unfold remJ at HP
  simp only at HP
  clear hP hr hlj
  unfold vW at *
  generalize fndI (js.map (·.id)) id = fa at *
  obtain ⟨na, oa⟩ := fa
  simp only at hfa HP
  have hc0 := (Chg.refl [] w).alloc (.cells #[.int .i64 id] 3)
  have hk0 := Blk.new w #[.int .i64 id] 3
  have hwl := h.blk.lt
  go_enter Tryz.func97, Tryz.ntmps97
  go_upto_region 1 with (fail)
  generalize w.alloc (.cells #[.int .i64 id] 3) = w0 at *
  obtain ⟨xb, hxb⟩ : ∃ xb, xb = w.heap.size := ⟨_, rfl⟩
  rw [← hxb] at hk0 ⊢
  have HXB : Hd (wb < xb ∧ xb = w.heap.size) := hd ⟨by omega, hxb⟩
  have HX0 := hd hk0
  have HW0 := hd (h.k hc0)
  have HC0 := hd hc0
  have HH := hd h
  clear hxb hwl hk0 hc0 h
  unfold wC at *
  refine rg (N := 10) (by kernel_rfl) (by kernel_rfl) (S := (fun wx => Chg [] w0 wx)) ((Chg.refl _ _).drew) (fun hHeld => ?_)
  generalize w0.drew = w0d at *
  refine tks [0, 1, 2, 3] (by kernel_rfl) (fun _ _ _ _ _ h => h) (by assumption) ?_
  iterate 2 (refine tkc rfl rfl (by rfl) (fun wx hSw => by (try dsimp only at hSw); (have t0 := (HX0.out.k hSw).cell 0; simp at t0); go_simp; (try with_reducible rfl)) ?_; simp only [List.set])
  refine tkc rfl rfl (by rfl) (fun wx hSw => by (try dsimp only at hSw); (refine exec_load_row (x := .tmp 9) (t := 32) ?_ ?_ (HW0.out.k hSw).blk Tryz.underlying32 rfl (by kernel_rfl) <;> rfl)) ?_; simp only [List.set]
  refine tkc rfl rfl (by rfl) (fun wx hSw => by (try dsimp only at hSw); (have t0 := (HX0.out.k hSw).cell 0; simp at t0); go_simp; (try with_reducible rfl)) ?_; simp only [List.set]
  refine tk0 ?_
  refine rn 4 rfl (by kernel_rfl) (by rfl) fun KK hKK => ?_
  go_simp; (refine (hfa _ (HW0.out.k hHeld).p).mono ?_; rintro e w1 ⟨rfl, hm0⟩; have hm := Chg.k' hHeld hm0; (try go_simp)); refine hKK.out _ _ (by assumption) fun hHeld => ?_; clear hKK KK; try simp only [Act.put, List.setIfInBounds_toArray, List.set]
  refine rn 5 rfl (by kernel_rfl) (by rfl) fun KK hKK => ?_
  go_simp; refine hKK.out _ _ (by assumption) fun hHeld => ?_; clear hKK KK; try simp only [Act.put, List.setIfInBounds_toArray, List.set]
  refine tks [6, 7] (by kernel_rfl) (fun _ _ _ _ _ h => h) (by assumption) ?_
  iterate 2 (refine tkc rfl rfl (by rfl) (fun wx hSw => by (try dsimp only at hSw); (have t0 := (HX0.out.k hSw).cell 0; simp at t0); go_simp; (try with_reducible rfl)) ?_; simp only [List.set])
  refine tk0 ?_
  refine rn 8 rfl (by kernel_rfl) (by rfl) fun KK hKK => ?_
  go_simp; refine hKK.out _ _ (by assumption) fun hHeld => ?_; clear hKK KK; try simp only [Act.put, List.setIfInBounds_toArray, List.set]
  refine rn 9 rfl (by kernel_rfl) (by rfl) fun KK hKK => ?_
  go_simp; refine hKK.out _ _ (by assumption) fun hHeld => ?_; clear hKK KK; try simp only [Act.put, List.setIfInBounds_toArray, List.set]
  refine wpAnyH_done (by kernel_rfl) ?_ _
  skip
  have HC1 := hd (HC0.out.k hm)
  have HX1 := hd (HX0.out.k hm)
  have hW1 := HH.out.k HC1.out
  clear hm hm0 hHeld hfa HX0 HW0 HC0
  cases oa
  · have HW1 := hd hW1
    go_wp2_with fail
    rw [HP.out]
    exact ⟨rfl, HC1.out.mono (by simp), _, HW1.out⟩
  · rw [if_neg (by simp)] at HP
    have hb := hwJ w1 hW1.p.j xb (by have := HX1.out.cell 0; simpa using this)
    have c6 := hW1.blk.cell 6
    have f6 := hW1.blk.free 6
    simp [wC] at c6
    have HW1 := hd hW1
    have hwlt : Hd (∀ x ∈ S, x < w1.heap.size) := hd hW1.lt
    obtain ⟨aj, cj, rfl, -, -⟩ := Rd.form (by decide) hW1.p.j
    clear hW1 hwJ
    go_upto_region 5 with (go_at_call 126; refine hb.mono ?_; rintro e w2 ⟨ao, c, rfl, ho, hc2⟩; replace f6 := (hc2.frozenS c6).trans f6; replace c6 := hc2.cellS c6)
    have hJo : ∀ k, (Value.slice ao (stay (fun j : Jnt => j.id == id) js).length c).ownBlock = some k → k ∉ S := fun k hk hm => by have := (ho.lo k hk).1; have := hwlt.out k hm; omega
    have hs3 := Chg.setCell (Chg.refl [wb] w2) ⟨wb, 6, none⟩ (.slice ao (stay (fun j : Jnt => j.id == id) js).length c) (by simp)
    have HJ2 := hd (show JsS w2 _ _ from ho.rd)
    have HK3 := hd ((HW1.out.k hc2).blk.set 6 (.slice ao (stay (fun j : Jnt => j.id == id) js).length c))
    have HS3 := hd ((HC1.out.k hc2).mono (S' := [wb]) (by simp) |>.trans hs3 (fun x hx _ => hx))
    have HS23 := hd hs3
    have HJo := hd hJo
    clear hs3 hJo ho hc2 c6 f6 hb HW1
    generalize w2.setCell ⟨wb, 6, none⟩ (.slice ao (stay (fun j : Jnt => j.id == id) js).length c) = w3 at *
    go_wp2_with fail
    rw [HP.out]
    have hw3 := HH.out.p.chg HS3.out HH.out.a1
    have HA := hd (show Apart S bv (.slice ao (stay (fun j : Jnt => j.id == id) js).length c) kv L ⟨tk, nb, nj, (gx, gy), bs, stay (fun j => j.id == id) js, ks⟩ from ⟨HH.out.a.b, fun _ => HJo.out, HH.out.a.k, HH.out.a.s⟩)
    refine ⟨rfl, HS3.out, _, ?_, ⟨hw3.b, hw3.l, HJ2.out.chg HS23.out (HA.out.one HH.out.ws).j, hw3.c⟩, HA.out, HH.out.ws, fun x hx => Nat.lt_of_lt_of_le (HH.out.lt x hx) HS3.out.size⟩
    have := HK3.out
    simpa [wC] using this
end Go.Proofs.YtbiadpkglcdihaaGreat

/- Orders of deeds: all numbers fit. -/
namespace Go.Proofs.YtbiadpkglcdihaaGreat
open Go.RowKit

structure ID (d : Deed) : Prop where
  len : I64 d.len
  pos : IV d.raw.pos
  vel : IV d.raw.vel
  angle : I64 d.raw.angle
  spin : I64 d.raw.spin
  density : I64 d.raw.density
  skind : I64 d.raw.shape.kind
  sr : I64 d.raw.shape.r
  sp : ∀ x ∈ d.raw.shape.p, IV x
theorem bringF_I (x m : Int) (h0 : 0 ≤ m) (h1 : m ≤ 9223372036854775807) : I64 (bringF x (-m) m) := by
  unfold I64 bringF; omega
theorem bringV_I (v : V2) (m : Int) (h0 : 0 ≤ m) (h1 : m ≤ 9223372036854775807) : IV (bringV v m) := ⟨bringF_I _ m h0 h1, bringF_I _ m h0 h1⟩
theorem sizeSd_lo (x : Int) (h0 : 0 ≤ x) (h1 : x < 64) : 268435456 ≤ sizeSd x ∧ sizeSd x ≤ 17179869184 := by unfold sizeSd; omega
theorem shapeSd_I (s : Sd) : I64 (shapeSd s).kind ∧ I64 (shapeSd s).r ∧ ∀ x ∈ (shapeSd s).p, IV x := by
  have e1 := sizeSd_lo (s.size % 64) (by omega) (by omega)
  have e2 := sizeSd_lo (s.turn % 32) (by omega) (by omega)
  unfold shapeSd
  simp only
  generalize sizeSd (s.size % 64) = a at *
  generalize sizeSd (s.turn % 32) = b at *
  split
  · exact ⟨by unfold I64; simp, by unfold I64; simp only; omega, by simp⟩
  · split
    · refine ⟨by unfold I64; simp, by unfold I64; simp, ?_⟩
      intro x hx
      simp only [List.mem_cons, List.not_mem_nil, or_false] at hx
      rcases hx with rfl | rfl | rfl | rfl <;> (constructor <;> (unfold I64; simp only; omega))
    · refine ⟨by unfold I64; simp, by unfold I64; simp, ?_⟩
      intro x hx
      obtain ⟨i, _, rfl⟩ := List.mem_map.mp hx
      have h := cornSd_lo a (3 + (s.n % 256).toNat % 6) (s.turn % 256).toNat i e1
      have h1 := tdiv64_lo _ ⟨h.1, h.2.1⟩
      have h2 := tdiv64_lo _ ⟨h.2.2.1, h.2.2.2⟩
      unfold cornSd
      generalize ((ringAt (3 + (s.n % 256).toNat % 6) (s.turn % 256).toNat i).1 * a).tdiv 64 = u at *
      generalize ((ringAt (3 + (s.n % 256).toNat % 6) (s.turn % 256).toNat i).2 * a).tdiv 64 = v at *
      exact ⟨by unfold I64; simp only; omega, by unfold I64; simp only; omega⟩
end Go.Proofs.YtbiadpkglcdihaaGreat

/- The empty world: made, compared, read. -/
namespace Go.Proofs.YtbiadpkglcdihaaGreat
open Go.RowKit

def W0 : Wld := ⟨0, 1, 1, (0, 0), [], [], []⟩
def vW0 : Value := .agg #[.int .i64 0, .int .i64 1, .int .i64 1, .int .i64 0, .int .i64 0, .slice none 0 0, .slice none 0 0, .slice none 0 0]
theorem W0_reads (w : World) : WlS w vW0 W0 := ⟨_, _, _, [], rfl, ⟨Rd.ofOwn (e := 97) (base := 0) (World.ownsRow_nil _ _ _ _), by simp⟩, rfl, Rd.ofOwn (e := 101) (base := 0) (World.ownsRow_nil _ _ _ _), Rd.ofOwn (e := 104) (base := 0) (World.ownsRow_nil _ _ _ _)⟩
theorem WNew_any (w : World) : Calls Tryz.prog 29 #[] w fun e w' => e = .returned vW0 ∧ Chg [] w w' := by
  go_enter Tryz.func29, Tryz.ntmps29
  go_wp2
  refine bodyPost_ret (v := vW0) (by unfold vW0; simp only [results]; go_simp) rfl ⟨rfl, ?_⟩
  exact (Chg.refl [] w).alloc _
end Go.Proofs.YtbiadpkglcdihaaGreat

/- Worlds that may be; what comes and goes leaves such worlds (plain). -/
namespace Go.Proofs.YtbiadpkglcdihaaGreat
open Go.RowKit

def ltC (x y : Cnt) : Prop := x.a < y.a ∨ (x.a = y.a ∧ (x.b < y.b ∨ (x.b = y.b ∧ x.key < y.key)))
structure GW (X : Wld) : Prop where
  fit : FitW X
  t : 0 ≤ X.tick ∧ X.tick ≤ 4611686018427387904
  nb : 1 ≤ X.nb ∧ X.nb ≤ 4611686018427387904
  nj : 1 ≤ X.nj ∧ X.nj ≤ 4611686018427387904
  grav : nearV X.grav 17592186044416 = true
  rb : risI (X.bodies.map (·.id))
  rb0 : ∀ x ∈ X.bodies, 1 ≤ x.id ∧ x.id < X.nb
  rj : risI (X.joints.map (·.id))
  rj0 : ∀ x ∈ X.joints, 1 ≤ x.id ∧ x.id < X.nj
  b : ∀ x ∈ X.bodies, rightB x = true
  j : ∀ x ∈ X.joints, rightJ x = true ∧ x.a ∈ X.bodies.map (·.id) ∧ x.b ∈ X.bodies.map (·.id)
  c : ∀ x ∈ X.contacts, x.a < x.b ∧ 0 ≤ x.key ∧ 0 ≤ x.n ∧ x.a ∈ X.bodies.map (·.id) ∧ x.b ∈ X.bodies.map (·.id)
  cs : X.contacts.Pairwise ltC
structure IB (b : Bdy) : Prop where
  pos : IV b.pos
  vel : IV b.vel
  angle : I64 b.angle
  spin : I64 b.spin
  density : I64 b.density
  sr : I64 b.shape.r
  sp : ∀ x ∈ b.shape.p, IV x
structure IJ (j : Jnt) : Prop where
  a : I64 j.a
  b : I64 j.b
  at_ : IV j.at_
  to_ : IV j.to_
  len : I64 j.len
theorem fnd_mem {l : List Int} {x : Int} : (fndI l x).2 = true ↔ x ∈ l := by unfold fndI; split <;> simp_all
theorem ris_snoc {l : List Int} {x : Int} (h : risI l) (hx : ∀ y ∈ l, y < x) : risI (l ++ [x]) := by
  unfold risI at *
  rw [List.pairwise_append]
  exact ⟨h, by simp, fun a ha b hb => by obtain rfl := List.mem_singleton.1 hb; exact hx a ha⟩
theorem stay_sub {α : Type} (p : α → Bool) (l : List α) : (stay p l).Sublist l := List.filter_sublist
theorem mem_stay {α : Type} {p : α → Bool} {l : List α} {x : α} : x ∈ stay p l ↔ x ∈ l ∧ p x = false := by unfold stay; rw [List.mem_filter]; simp
theorem addB_GW {X : Wld} (h : GW X) (b : Bdy) (hb : IB b) : GW (addB X b).1 := by
  unfold addB
  split
  · exact h
  rename_i hr
  split
  · exact h
  rename_i hf
  have hr : rightB b = true := by simpa using hr
  have hn := h.nb
  have hI : I64 X.nb := h.fit.nb
  have hmono : ∀ x ∈ X.bodies.map (·.id), x ∈ (X.bodies ++ [({ b with id := X.nb } : Bdy)]).map Bdy.id := fun x hx => by rw [List.map_append]; exact List.mem_append_left _ hx
  refine ⟨⟨h.fit.tick, ?_, h.fit.nj, h.fit.grav, ?_, h.fit.j, h.fit.c, ?_, h.fit.jl, h.fit.cl⟩, h.t, ⟨by dsimp only; omega, by dsimp only; omega⟩, h.nj, h.grav, ?_, ?_, h.rj, h.rj0, ?_, fun x hx => ⟨(h.j x hx).1, hmono _ (h.j x hx).2.1, hmono _ (h.j x hx).2.2⟩, fun x hx => ⟨(h.c x hx).1, (h.c x hx).2.1, (h.c x hx).2.2.1, hmono _ (h.c x hx).2.2.2.1, hmono _ (h.c x hx).2.2.2.2⟩, h.cs⟩
  · unfold I64 at *; dsimp only; omega
  · intro x hx
    rcases List.mem_append.1 hx with h' | h'
    · exact h.fit.b x h'
    · obtain rfl := List.mem_singleton.1 h'
      exact ⟨hI, hb.pos, hb.vel, hb.angle, hb.spin, hb.density, rightB_s hr, hb.sr, hb.sp⟩
  · dsimp only; rw [List.length_append, List.length_singleton]; omega
  · dsimp only
    rw [List.map_append]
    exact ris_snoc h.rb (fun y hy => by obtain ⟨x, hx, rfl⟩ := List.mem_map.1 hy; exact (h.rb0 x hx).2)
  · intro x hx
    dsimp only at hx ⊢
    rcases List.mem_append.1 hx with h' | h'
    · have := h.rb0 x h'; omega
    · obtain rfl := List.mem_singleton.1 h'
      dsimp only; omega
  · intro x hx
    rcases List.mem_append.1 hx with h' | h'
    · exact h.b x h'
    · obtain rfl := List.mem_singleton.1 h'
      exact hr
theorem addJ_GW {X : Wld} (h : GW X) (j : Jnt) (hj : IJ j) : GW (addJ X j).1 := by
  unfold addJ
  split
  · exact h
  rename_i hr
  split
  · exact h
  rename_i hm
  split
  · exact h
  rename_i hf
  have hr : rightJ j = true := by simpa using hr
  have hma : j.a ∈ X.bodies.map (·.id) := fnd_mem.1 (by cases hq : (fndI (X.bodies.map (·.id)) j.a).2 <;> simp_all)
  have hmb : j.b ∈ X.bodies.map (·.id) := fnd_mem.1 (by cases hq : (fndI (X.bodies.map (·.id)) j.b).2 <;> simp_all)
  have hn := h.nj
  have hI : I64 X.nj := h.fit.nj
  refine ⟨⟨h.fit.tick, h.fit.nb, ?_, h.fit.grav, h.fit.b, ?_, h.fit.c, h.fit.bl, ?_, h.fit.cl⟩, h.t, h.nb, ⟨by dsimp only; omega, by dsimp only; omega⟩, h.grav, h.rb, h.rb0, ?_, ?_, h.b, ?_, h.c, h.cs⟩
  · unfold I64 at *; dsimp only; omega
  · intro x hx
    rcases List.mem_append.1 hx with h' | h'
    · exact h.fit.j x h'
    · obtain rfl := List.mem_singleton.1 h'
      exact ⟨hI, hj.a, hj.b, hj.at_, hj.to_, hj.len⟩
  · dsimp only; rw [List.length_append, List.length_singleton]; omega
  · dsimp only
    rw [List.map_append]
    exact ris_snoc h.rj (fun y hy => by obtain ⟨x, hx, rfl⟩ := List.mem_map.1 hy; exact (h.rj0 x hx).2)
  · intro x hx
    dsimp only at hx ⊢
    rcases List.mem_append.1 hx with h' | h'
    · have := h.rj0 x h'; omega
    · obtain rfl := List.mem_singleton.1 h'
      dsimp only; omega
  · intro x hx
    rcases List.mem_append.1 hx with h' | h'
    · exact h.j x h'
    · obtain rfl := List.mem_singleton.1 h'
      exact ⟨hr, hma, hmb⟩
theorem ids_stay {l : List Bdy} {id x : Int} (h : x ∈ l.map (·.id)) (hne : x ≠ id) : x ∈ (stay (fun b => b.id == id) l).map (·.id) := by
  obtain ⟨b, hb, rfl⟩ := List.mem_map.1 h
  exact List.mem_map.2 ⟨b, mem_stay.2 ⟨hb, by rw [beq_eq_false_iff_ne]; exact hne⟩, rfl⟩
theorem ab_no {a b id : Int} (h : (a == id || b == id) = false) : a ≠ id ∧ b ≠ id := by
  rw [Bool.or_eq_false_iff, beq_eq_false_iff_ne, beq_eq_false_iff_ne] at h
  exact h
theorem remB_GW {X : Wld} (h : GW X) (id : Int) : GW (remB X id).1 := by
  unfold remB
  split
  · exact h
  have hB := stay_sub (fun b : Bdy => b.id == id) X.bodies
  have hJ := stay_sub (fun b : Jnt => b.a == id || b.b == id) X.joints
  have hC := stay_sub (fun b : Cnt => b.a == id || b.b == id) X.contacts
  exact ⟨⟨h.fit.tick, h.fit.nb, h.fit.nj, h.fit.grav, fun x hx => h.fit.b x (hB.subset hx), fun x hx => h.fit.j x (hJ.subset hx), fun x hx => h.fit.c x (hC.subset hx),
    Nat.le_trans hB.length_le h.fit.bl, Nat.le_trans hJ.length_le h.fit.jl, Nat.lt_of_le_of_lt hC.length_le h.fit.cl⟩, h.t, h.nb, h.nj, h.grav,
    h.rb.sublist (hB.map _), fun x hx => h.rb0 x (hB.subset hx), h.rj.sublist (hJ.map _), fun x hx => h.rj0 x (hJ.subset hx), fun x hx => h.b x (hB.subset hx),
    fun x hx => by
      obtain ⟨h1, h2⟩ := mem_stay.1 hx
      obtain ⟨ha, hb⟩ := ab_no h2
      exact ⟨(h.j x h1).1, ids_stay (h.j x h1).2.1 ha, ids_stay (h.j x h1).2.2 hb⟩,
    fun x hx => by
      obtain ⟨h1, h2⟩ := mem_stay.1 hx
      obtain ⟨ha, hb⟩ := ab_no h2
      obtain ⟨c1, c2, c3, c4, c5⟩ := h.c x h1
      exact ⟨c1, c2, c3, ids_stay c4 ha, ids_stay c5 hb⟩,
    h.cs.sublist hC⟩
theorem remJ_GW {X : Wld} (h : GW X) (id : Int) : GW (remJ X id).1 := by
  unfold remJ
  split
  · exact h
  have hJ := stay_sub (fun b : Jnt => b.id == id) X.joints
  exact ⟨⟨h.fit.tick, h.fit.nb, h.fit.nj, h.fit.grav, h.fit.b, fun x hx => h.fit.j x (hJ.subset hx), h.fit.c, h.fit.bl, Nat.le_trans hJ.length_le h.fit.jl, h.fit.cl⟩, h.t, h.nb, h.nj, h.grav,
    h.rb, h.rb0, h.rj.sublist (hJ.map _), fun x hx => h.rj0 x (hJ.subset hx), h.b, fun x hx => h.j x (hJ.subset hx), h.c, h.cs⟩
theorem bodyD_IB (d : Deed) (h : ID d) : IB (bodyD d) := by
  obtain ⟨s1, s2, s3⟩ := shapeSd_I d.place.seed
  have z : I64 0 := by unfold I64; simp
  have zv : IV (0, 0) := ⟨z, z⟩
  have p1 := bringV_I d.place.pos 4294967296000 (by omega) (by omega)
  have p2 := bringV_I d.vel 85899345920 (by omega) (by omega)
  have p3 := bringF_I d.spin 85899345920 (by omega) (by omega)
  have p4 : I64 (d.place.angle % 4294967296) := by unfold I64; omega
  have p5 : I64 (1 + d.density % 34359738368) := by unfold I64; omega
  unfold bodyD bodyPl
  split
  · exact ⟨h.pos, h.vel, h.angle, h.spin, h.density, h.sr, h.sp⟩
  · split
    · exact ⟨p1, zv, p4, z, z, s2, s3⟩
    · exact ⟨p1, p2, p4, p3, p5, s2, s3⟩
theorem jointD_IJ (d : Deed) (h : ID d) : IJ (jointD d) :=
  ⟨by unfold jointD I64; dsimp only; omega, by unfold jointD I64; dsimp only; omega, bringV_I d.at_ 17179869184 (by omega) (by omega), bringV_I d.to_ 17179869184 (by omega) (by omega), h.len⟩
/-- A deed, done; worlds made of deeds. -/
def doW (X : Wld) (d : Deed) : Wld × Int × Int × Bool :=
  if d.kind % 8 = 4 ∨ d.kind % 8 = 5 then ((addJ X (jointD d)).1, (addJ X (jointD d)).2.1, (addJ X (jointD d)).2.2, false)
  else if d.kind % 8 = 6 then ((remB X (d.a % 16)).1, 0, 0, (remB X (d.a % 16)).2)
  else if d.kind % 8 = 3 then ((remJ X (d.a % 16)).1, 0, 0, (remJ X (d.a % 16)).2)
  else ((addB X (bodyD d)).1, (addB X (bodyD d)).2.1, (addB X (bodyD d)).2.2, false)
theorem doW_GW {X : Wld} (h : GW X) (d : Deed) (hd : ID d) : GW (doW X d).1 := by
  unfold doW
  split
  · exact addJ_GW h _ (jointD_IJ d hd)
  · split
    · exact remB_GW h _
    · split
      · exact remJ_GW h _
      · exact addB_GW h _ (bodyD_IB d hd)
theorem doW_c {X : Wld} (h : X.contacts = []) (d : Deed) : (doW X d).1.contacts = [] := by
  unfold doW addJ remB remJ addB
  repeat' split
  all_goals first | exact h | (simp only; rw [h]; rfl)
def madeW (l : List Deed) : Wld := l.foldl (fun X d => (doW X d).1) W0
theorem W0_GW : GW W0 := by
  have z : I64 0 := by unfold I64; simp
  have o : I64 1 := by unfold I64; simp
  exact ⟨⟨z, o, o, ⟨z, z⟩, by simp [W0], by simp [W0], by simp [W0], by simp [W0], by simp [W0], by simp [W0]⟩, by simp [W0], by simp [W0], by simp [W0], by simp [W0, nearV, absF], by simp [W0, risI], by simp [W0], by simp [W0, risI], by simp [W0], by simp [W0], by simp [W0], by simp [W0], by simp [W0]⟩
theorem fold_GW : ∀ (l : List Deed) (X : Wld), GW X → (∀ d ∈ l, ID d) → GW (l.foldl (fun X d => (doW X d).1) X)
  | [], _, h, _ => h
  | d :: l, X, h, hl => fold_GW l _ (doW_GW h d (hl d (by simp))) (fun x hx => hl x (by simp [hx]))
theorem fold_c : ∀ (l : List Deed) (X : Wld), X.contacts = [] → (l.foldl (fun X d => (doW X d).1) X).contacts = []
  | [], _, h => h
  | d :: l, _X, h => fold_c l _ (doW_c h d)
theorem made_GW (l : List Deed) (h : ∀ d ∈ l, ID d) : GW (madeW l) := fold_GW l W0 W0_GW h
theorem made_c (l : List Deed) : (madeW l).contacts = [] := fold_c l W0 rfl
theorem made_snoc (l : List Deed) (d : Deed) : madeW (l ++ [d]) = (doW (madeW l) d).1 := by unfold madeW; rw [List.foldl_append]; rfl
end Go.Proofs.YtbiadpkglcdihaaGreat
