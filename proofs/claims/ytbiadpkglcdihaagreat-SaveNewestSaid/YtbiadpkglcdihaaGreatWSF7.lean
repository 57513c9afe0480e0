/- Words and walks that SF rests on: Orders, Like, WorldEq, Rec, RecB, RecJ, RecC, Find, WorldI. -/
import Derived.Test.YtbiadpkglcdihaaGreatWSF6
import Derived.Test.YtbiadpkglcdihaaGreatWSF1
import Derived.Test.YtbiadpkglcdihaaGreatWSF5
import Derived.Deep.MidRow
import Derived.Shelf.Abstract
/- law10.Orders. -/
namespace Go.Proofs.YtbiadpkglcdihaaGreat
open Go.RowKit

abbrev DV := Deed × Value
def cDV (x : DV) : List Value := cD x.1 x.2
theorem cDV_len (x : DV) : (cDV x).length = 30 := rfl
theorem cDV_all (d : Deed) (a : Option Addr) (n c : Nat) : ((cDV (d, .slice a n c)).toArray).all (·.oneCell') = true := by simp [cDV, cD, Value.oneCell']
structure DsS (w : World) (v : Value) (l : List DV) : Prop where
  rd : Rd w 30 v l.length (l.flatMap cDV)
  ps : ∀ x ∈ l, VsS w x.2 x.1.raw.shape.p
theorem DsS.k {w w' : World} {v : Value} {l : List DV} (h : DsS w v l) (hc : Chg [] w w') : DsS w' v l := ⟨Rd.keep h.rd hc (by simp), fun x hx => (h.ps x hx).k hc⟩
theorem Rd.takeN {w : World} {size n c : Nat} {ao : Option Addr} {xs : List Value} (h : Rd w size (.slice ao n c) n xs) (q : Nat) (hq : q ≤ n) : Rd w size (.slice ao q c) q (xs.take (q * size)) := by
  obtain ⟨h0, ao', cap, b, off, he, h2, h3, h4, h5, h6⟩ := h
  simp only [Value.slice.injEq] at he
  obtain ⟨rfl, -, rfl⟩ := he
  refine ⟨?_, ao, c, b, off, rfl, by omega, h3, fun hn => ⟨by have := (h4 hn).1; omega, (h4 hn).2⟩, fun hp => h5 (by omega), fun j u hu => ?_⟩
  · rw [List.length_take, h0]; exact Nat.min_eq_left (Nat.mul_le_mul_right _ hq)
  · rw [List.getElem?_take] at hu
    split at hu
    · exact h6 j u hu
    · cases hu
theorem run_loadVar_at {P : Program} (w : World) (a : Addr) (ty : TypeId) (cs : List Value) (d : TypeDesc) (hc : ∀ j v, cs[j]? = some v → w.cell? (a.add j) = some v)
    (hu : P.underlying ty = some d) (hd : (match d with | .struct _ | .array _ _ => true | _ => false) = true) (hi : (P.info? ty).map (·.size) = some cs.length) :
    (loadVar ty a).run P w = .ok (.agg cs.toArray) w := by
  have hl : (loadCells a cs.length).run P w = .ok cs.toArray w := run_loadCells_list (P := P) w a cs hc
  cases hq : P.info? ty with
  | none => simp [hq] at hi
  | some i =>
    have hs : i.size = cs.length := by simpa [hq] using hi
    have hagg : (isAgg ty).run P w = .ok true w := by
      unfold isAgg
      rw [Sem.run_bind, run_underlying hu w]
      cases d <;> simp_all
    simp [loadVar, Sem.run_bind, hagg, sizeOf, typeInfo, hq, hs, hl]
theorem wpList_load_at {P : Program} {ops : Array Oper} {rest : List Oper} {o : Oper} {a : Act} {w : World} {Q : Exit → Act → World → Prop} (hgd : o.guard = none) (ty : TypeId) (x : Operand) (ho : o.op = .load ty x)
    (ad : Addr) (hx : a.eval x = .pointer (some ad)) (cs : List Value) (d : TypeDesc) (hc : ∀ j v, cs[j]? = some v → w.cell? (ad.add j) = some v)
    (hu : P.underlying ty = some d) (hd : (match d with | .struct _ | .array _ _ => true | _ => false) = true) (hi : (P.info? ty).map (·.size) = some cs.length)
    (h : wpList P ops Q rest (a.put o.dst (.agg cs.toArray)) w) : wpList P ops Q (o :: rest) a w :=
  wpList_plain hgd fun _ hK => by
    unfold Oper.wp execOp
    simp only [ho, hx, Instr.loadAt, Instr.sureAddr, Sem.run_bind, Sem.run_pure, Result.andThen_ok, run_loadVar_at w ad ty cs d hc hu hd hi]
    exact hK _ _ h
theorem Rd.cellsAt {α : Type} {enc : α → List Value} {size : Nat} (henc : ∀ x, (enc x).length = size) {w : World} {b off n c : Nat} {l : List α} (h : Rd w size (.slice (some ⟨b, off, none⟩) n c) l.length (l.flatMap enc)) (i : Nat) (hi : i < l.length) :
    ∀ j v, (enc l[i])[j]? = some v → w.cell? ((⟨b, off + i * size, none⟩ : Addr).add j) = some v := fun j v hv => by
  have hj : j < size := by rw [← henc l[i]]; exact (List.getElem?_eq_some_iff.mp hv).1
  have hadd : (⟨b, off + i * size, none⟩ : Addr).add j = ⟨b, off + i * size + j, none⟩ := by unfold Addr.add; split <;> simp_all
  rw [hadd, Rd.cellAt henc h i hi j hj]
  rw [List.getElem?_eq_getElem (by rw [henc]; exact hj)] at hv
  exact hv
/- LOOP -/
end Go.Proofs.YtbiadpkglcdihaaGreat

/- law15.Like: the same orders. -/
namespace Go.Proofs.YtbiadpkglcdihaaGreat
open Go.RowKit

theorem exec_load_at {P : Program} {o : Oper} {a : Act} {ty : TypeId} {x : Operand} {w : World} {ad : Addr} {cs : List Value} {d : TypeDesc} (ho : o.op = .load ty x) (hx : a.eval x = .pointer (some ad)) (hc : ∀ j v, cs[j]? = some v → w.cell? (ad.add j) = some v)
    (hu : P.underlying ty = some d) (hd : (match d with | .struct _ | .array _ _ => true | _ => false) = true) (hi : (P.info? ty).map (·.size) = some cs.length) : (execOp a.eval o).run P w = .ok (.value (.agg cs.toArray)) w := by
  unfold execOp
  simp only [ho, hx, Instr.loadAt, Instr.sureAddr, Sem.run_bind, Sem.run_pure, Result.andThen_ok, run_loadVar_at w ad ty cs d hc hu hd hi]
theorem cellsChg {w wx : World} {b k : Nat} {cs : List Value} (h : ∀ j v, cs[j]? = some v → w.cell? ((⟨b, k, none⟩ : Addr).add j) = some v) (hc : Chg [] w wx) (hb : b < w.heap.size) : ∀ j v, cs[j]? = some v → wx.cell? ((⟨b, k, none⟩ : Addr).add j) = some v := fun j v hv => by
  rw [hc.cell (p := (⟨b, k, none⟩ : Addr).add j) (by unfold Addr.add; split <;> simpa using hb) (by simp)]
  exact h j v hv
end Go.Proofs.YtbiadpkglcdihaaGreat

/- slices.EqualFunc over bodies. -/
namespace Go.Proofs.YtbiadpkglcdihaaGreat
open Go.RowKit

theorem sameB_iff (x y : Bdy) : sameB x y = true ↔ x = y := by
  obtain ⟨i, ⟨px, py⟩, ⟨vx, vy⟩, an, sp, de, ⟨sk, sr, p⟩⟩ := x
  obtain ⟨i2, ⟨px2, py2⟩, ⟨vx2, vy2⟩, an2, sp2, de2, ⟨sk2, sr2, p2⟩⟩ := y
  unfold sameB sameS
  simp only [Bool.and_eq_true, decide_eq_true_eq, Bdy.mk.injEq, Prod.mk.injEq, Shp.mk.injEq, and_assoc]
theorem cBV_all (x : Bdy) (a : Option Addr) (n c : Nat) : ((cBV (x, .slice a n c)).toArray).all (·.oneCell') = true := by simp [cBV, Value.oneCell']
def EqOut (p : Prop) (e : Ending) : Prop := ∃ r, e = .returned (.bool r) ∧ (r = true ↔ p)
set_option maxRecDepth 100000 in
set_option maxHeartbeats 8000000 in
theorem EqualB_any (w : World) (va vb : Value) (A B : List BV) (ha : BsS w va A) (hb : BsS w vb B) (hn : A.length ≤ 1099511627776) :
    Calls Tryz.prog 46 #[va, vb, .func (.func 47) #[] #[]] w fun e w' => EqOut (A.map (·.1) = B.map (·.1)) e ∧ Chg [] w w' := by
  obtain ⟨aa, ca, rfl, hma, haa⟩ := Rd.form (by decide) ha.rd
  obtain ⟨ab, cb, rfl, hmb, hab⟩ := Rd.form (by decide) hb.rd
  have HA := hd ha
  have HB := hd hb
  have HAA := hd haa
  have HAB := hd hab
  clear ha hb haa hab
  by_cases hlen : A.length = B.length
  case neg =>
    have h1 : ¬ ((A.length : Int) = (B.length : Int)) := by omega
    have h2 : ((A.length : Int) == (B.length : Int)) = false := by rw [beq_eq_false_iff_ne]; exact h1
    obtain ⟨P, hP⟩ : ∃ P : Ending → World → Prop, P = fun e w' => EqOut (A.map (·.1) = B.map (·.1)) e ∧ Chg [] w w' := ⟨_, rfl⟩
    rw [← hP]
    have HP := hd hP
    clear hP
    go_enter Tryz.func46, Tryz.ntmps46
    go_wp2
    rw [HP.out]
    exact ⟨⟨false, rfl, by simp; intro h; have := congrArg List.length h; simp at this; exact hlen this⟩, Chg.refl _ _⟩
  case pos =>
  have HLE := hd hlen
  rw [← hlen]
  clear hlen
  obtain ⟨P, hP⟩ : ∃ P : Ending → World → Prop, P = fun e w' => EqOut (A.map (·.1) = B.map (·.1)) e ∧ Chg [] w w' := ⟨_, rfl⟩
  rw [← hP]
  have HP := hd hP
  clear hP
  go_enter Tryz.func46, Tryz.ntmps46
  go_wp2_with (fail)
  go_loopw [7, 8, 9, 17] (fun _ _ _ i wr => ∃ k : Nat, k ≤ A.length ∧ i = .int .i64 k ∧ Chg [] w wr ∧ (A.take k).map (·.1) = (B.take k).map (·.1))
    (fun _ _ _ i _ => A.length - (intOf i).toNat)
  case atStart => exact ⟨0, by omega, rfl, Chg.refl _ _, by simp⟩
  case round =>
    obtain ⟨j, hj, rfl, hc, hmap⟩ := hrel
    have HC := hd hc
    have HM := hd hmap
    clear hmap
    by_cases hlt : j < A.length
    · have hltB : j < B.length := by have := HLE.out; omega
      obtain ⟨ga, offa, e1, hga⟩ := HAA.out (by omega)
      obtain ⟨gb, offb, e2, hgb⟩ := HAB.out (by omega)
      subst e1
      subst e2
      have hca := cellsChg (Rd.cellsAt cBV_len HA.out.rd j hlt) hc hga
      have hcb := cellsChg (Rd.cellsAt cBV_len HB.out.rd j hltB) hc hgb
      have hgb2 : gb < wr.heap.size := Nat.lt_of_lt_of_le hgb hc.size
      have hpa := (HA.out.ps _ (List.getElem_mem hlt)).k hc
      have hpb := (HB.out.ps _ (List.getElem_mem hltB)).k hc
      have hsA : (A.take (j + 1)).map (·.1) = (A.take j).map (·.1) ++ [A[j].1] := by rw [List.take_succ_eq_append_getElem hlt, List.map_append]; rfl
      have hsB : (B.take (j + 1)).map (·.1) = (B.take j).map (·.1) ++ [B[j].1] := by rw [List.take_succ_eq_append_getElem hltB, List.map_append]; rfl
      have hne : A[j].1 ≠ B[j].1 → A.map (·.1) ≠ B.map (·.1) := fun h he => h (by
        have h1 : (A.map (·.1))[j]? = (B.map (·.1))[j]? := by rw [he]
        simpa [hlt, hltB] using h1)
      have HSA := hd hsA
      have HSB := hd hsB
      have HNE := hd hne
      clear hsA hsB hne hc
      generalize A[j] = x at *
      generalize B[j] = y at *
      obtain ⟨x, pv⟩ := x
      obtain ⟨y, qv⟩ := y
      simp only at hpa hpb
      obtain ⟨ap, cp, rfl, -⟩ := hpa.form
      obtain ⟨aq, cq, rfl, -⟩ := hpb.form
      have HCA := hd hca
      clear hca
      have kA := Blk.new wr #[.int .i64 0, .int .i64 0, .int .i64 0, .int .i64 0, .int .i64 0, .int .i64 0, .int .i64 0, .int .i64 0, .int .i64 0, .int .i64 0, .slice none 0 0] 97
      have k1 := kA.row (cs' := (cBV (x, .slice ap x.shape.p.length cp)).toArray)
      have hc1 : Chg [] wr ((wr.alloc (.cells #[.int .i64 0, .int .i64 0, .int .i64 0, .int .i64 0, .int .i64 0, .int .i64 0, .int .i64 0, .int .i64 0, .int .i64 0, .int .i64 0, .slice none 0 0] 97)).setRow wr.heap.size (cBV (x, .slice ap x.shape.p.length cp)).toArray) := Chg.row ((Chg.refl [] wr).alloc _) wr.heap.size _ (fun h => absurd h (Nat.lt_irrefl _))
      go_upto_region 6 with (first
        | (refine wpList_load_at rfl _ _ rfl _ rfl (cBV (x, .slice ap x.shape.p.length cp)) _ HCA.out Tryz.underlying97 rfl (by kernel_rfl) ?_)
        | (refine wpList_store_row rfl _ _ _ rfl wr.heap.size (cBV (x, .slice ap x.shape.p.length cp)).toArray rfl rfl 97 _ kA (by kernel_rfl) rfl (cBV_all _ _ _ _) ?_))
      clear kA
      generalize (wr.alloc (.cells #[.int .i64 0, .int .i64 0, .int .i64 0, .int .i64 0, .int .i64 0, .int .i64 0, .int .i64 0, .int .i64 0, .int .i64 0, .int .i64 0, .slice none 0 0] 97)).setRow wr.heap.size (cBV (x, .slice ap x.shape.p.length cp)).toArray = w1 at *
      have HCB := hd (cellsChg hcb hc1 hgb2)
      have kA2 := Blk.new w1 #[.int .i64 0, .int .i64 0, .int .i64 0, .int .i64 0, .int .i64 0, .int .i64 0, .int .i64 0, .int .i64 0, .int .i64 0, .int .i64 0, .slice none 0 0] 97
      have k2 := kA2.row (cs' := (cBV (y, .slice aq y.shape.p.length cq)).toArray)
      have hc2 : Chg [] w1 ((w1.alloc (.cells #[.int .i64 0, .int .i64 0, .int .i64 0, .int .i64 0, .int .i64 0, .int .i64 0, .int .i64 0, .int .i64 0, .int .i64 0, .int .i64 0, .slice none 0 0] 97)).setRow w1.heap.size (cBV (y, .slice aq y.shape.p.length cq)).toArray) := Chg.row ((Chg.refl [] w1).alloc _) w1.heap.size _ (fun h => absurd h (Nat.lt_irrefl _))
      clear hcb
      go_upto_region 7 with (first
        | (refine wpList_load_at rfl _ _ rfl _ rfl (cBV (y, .slice aq y.shape.p.length cq)) _ HCB.out Tryz.underlying97 rfl (by kernel_rfl) ?_)
        | (refine wpList_store_row rfl _ _ _ rfl w1.heap.size (cBV (y, .slice aq y.shape.p.length cq)).toArray rfl rfl 97 _ kA2 (by kernel_rfl) rfl (cBV_all _ _ _ _) ?_))
      clear kA2
      generalize (w1.alloc (.cells #[.int .i64 0, .int .i64 0, .int .i64 0, .int .i64 0, .int .i64 0, .int .i64 0, .int .i64 0, .int .i64 0, .int .i64 0, .int .i64 0, .slice none 0 0] 97)).setRow w1.heap.size (cBV (y, .slice aq y.shape.p.length cq)).toArray = w2 at *
      have hcon := BSame_any w2 x y _ _ (hpa.k (hc1.k' hc2)) (hpb.k (hc1.k' hc2))
      have K1 := hd (k1.k hc2)
      have K2 := hd k2
      have HM2 := hd ((HC.out.k' hc1).k' hc2)
      clear k1 k2 hc1 hc2 hpa hpb
      cases hs : sameB x y with
      | true =>
        have hxy := (sameB_iff x y).mp hs
        rw [hs] at hcon
        have HXY := hd hxy
        clear hs hxy
        go_wp2_with (first
          | (refine wpList_load_row rfl _ _ rfl wr.heap.size rfl 97 _ (0, 0) _ K1.out Tryz.underlying97 rfl (by kernel_rfl) ?_)
          | (refine wpList_load_row rfl _ _ rfl w1.heap.size rfl 97 _ (0, 0) _ K2.out Tryz.underlying97 rfl (by kernel_rfl) ?_)
          | (go_at_call 47; refine hcon.mono ?_; rintro e w5 ⟨rfl, h5⟩))
        go_roundw
        case rel => exact ⟨j + 1, by omega, by go_num, HM2.out.k' h5, by rw [HSA.out, HSB.out, HM.out]; exact congrArg (fun z => _ ++ [z]) HXY.out⟩
        case measure => simp [intOf]; omega
      | false =>
        have hxy : x ≠ y := fun h => by rw [(sameB_iff x y).mpr h] at hs; cases hs
        rw [hs] at hcon
        have HXY := hd hxy
        clear hs hxy
        go_wp2_with (first
          | (refine wpList_load_row rfl _ _ rfl wr.heap.size rfl 97 _ (0, 0) _ K1.out Tryz.underlying97 rfl (by kernel_rfl) ?_)
          | (refine wpList_load_row rfl _ _ rfl w1.heap.size rfl 97 _ (0, 0) _ K2.out Tryz.underlying97 rfl (by kernel_rfl) ?_)
          | (go_at_call 47; refine hcon.mono ?_; rintro e w5 ⟨rfl, h5⟩))
        rw [HP.out]
        exact ⟨⟨false, rfl, by simp; exact HNE.out HXY.out⟩, HM2.out.k' h5⟩
    · have hA : A.take j = A := List.take_of_length_le (by omega)
      have hB : B.take j = B := List.take_of_length_le (by have := HLE.out; omega)
      have hm := HM.out
      rw [hA, hB] at hm
      have HM3 := hd hm
      clear hA hB hm hc
      go_wp2_with (fail)
      rw [HP.out]
      exact ⟨⟨true, rfl, by simp; exact HM3.out⟩, HC.out⟩
end Go.Proofs.YtbiadpkglcdihaaGreat

/- Rows of records of whatever size: what is read, what is written; the ones that go. -/
namespace Go.Proofs.YtbiadpkglcdihaaGreat
open Go.RowKit

/-- A row of records of the call's own. -/
def OwR {α : Type} (enc : α → List Value) (sz : Nat) (et : TypeId) (w : World) (base : Nat) (v : Value) (l : List α) : Prop := w.ownsRow base et sz v l.length (l.flatMap enc)
section
variable {α : Type} {enc : α → List Value} {sz : Nat} {et : TypeId} {w w' : World} {base : Nat} {v : Value} {l : List α}
theorem OwR.rd (h : OwR enc sz et w base v l) : Rd w sz v l.length (l.flatMap enc) := Rd.ofOwn h
theorem OwR.k (h : OwR enc sz et w base v l) (hc : Chg [] w w') : OwR enc sz et w' base v l := ownsRow_k h hc
theorem OwR.chg {S : List Nat} (h : OwR enc sz et w base v l) (hc : Chg S w w') (hn : ∀ sz, v.ownBlock = some sz → sz ∉ S) : OwR enc sz et w' base v l := ownsRow_chg h hc hn
theorem OwR.mono {b' : Nat} (h : OwR enc sz et w base v l) (hb : b' ≤ base) : OwR enc sz et w b' v l := ownsRow_mono h hb
theorem OwR.form (h : OwR enc sz et w base v l) : ∃ ao c, v = .slice ao l.length c ∧ l.length ≤ c ∧ c ≤ 9223372036854775807 ∧ ((ao = none ∧ l = []) ∨ ∃ g, ao = some ⟨g, 0, none⟩ ∧ base ≤ g ∧ g < w.heap.size) := by
  rcases h.2 with ⟨rfl, hz⟩ | ⟨g, cap, cur, rfl, hb, hg, hnc, hcm, _⟩
  · exact ⟨none, 0, by rw [hz], by omega, by decide, .inl ⟨rfl, List.eq_nil_of_length_eq_zero hz⟩⟩
  · exact ⟨_, cap, rfl, hnc, hcm, .inr ⟨g, rfl, hb, lt_of_block hg⟩⟩
theorem OwR.lo (h : OwR enc sz et w base v l) : ∀ b, v.ownBlock = some b → base ≤ b ∧ b < w.heap.size := World.ownsRow.lt h
theorem Rd.rangeAt (henc : ∀ x, (enc x).length = sz) {b off n c : Nat} (h : Rd w sz (.slice (some ⟨b, off, none⟩) n c) l.length (l.flatMap enc)) (i : Nat) (hi : i < l.length) : w.rangeAt b (off + i * sz) (enc l[i]) := by
  intro j v hv
  have := Rd.cellsAt henc h i hi j v hv
  rwa [Addr.add_mid] at this
theorem rangeAt_k {b o : Nat} {cs : List Value} (h : w.rangeAt b o cs) (hc : Chg [] w w') : w'.rangeAt b o cs := fun j v hv => hc.cellS (h j v hv)
theorem OwR.there {g n c : Nat} (h : OwR enc sz et w base (.slice (some ⟨g, 0, none⟩) n c) l) (i : Nat) (hi : i < c) : w.there g (i * sz) sz := by
  rcases h.2 with ⟨he, _⟩ | ⟨g', cap, cur, he, hb, hg, hnc, hcm, hcs, ht⟩
  · simp at he
  · simp only [Value.slice.injEq, Option.some.injEq, Addr.mk.injEq, and_true] at he
    obtain ⟨rfl, -, rfl⟩ := he
    intro j hj
    have hB : Blk w g cur et := hg
    refine ⟨?_, hB.free _⟩
    rw [hB.cell]
    have : (i + 1) * sz ≤ c * sz := Nat.mul_le_mul_right sz hi
    rw [Nat.succ_mul] at this
    have hlt : i * sz + j < cur.size := by omega
    simp [hlt]
def setArr (cur : Array Value) : Nat → List Value → Array Value
  | _, [] => cur
  | o, v :: vs => setArr (cur.setIfInBounds o v) (o + 1) vs
theorem setArr_size : ∀ (vs : List Value) (cur : Array Value) (o : Nat), (setArr cur o vs).size = cur.size
  | [], _, _ => rfl
  | v :: vs, cur, o => by rw [setArr, setArr_size vs]; simp
theorem setArr_get : ∀ (vs : List Value) (cur : Array Value) (o j : Nat), o + vs.length ≤ cur.size → (setArr cur o vs)[j]? = if o ≤ j ∧ j < o + vs.length then vs[j - o]? else cur[j]?
  | [], cur, o, j, _ => by rw [setArr, if_neg (by simp)]
  | v :: vs, cur, o, j, h => by
    rw [List.length_cons] at h
    have hlc : (v :: vs).length = vs.length + 1 := rfl
    rw [setArr, setArr_get vs _ (o + 1) j (by simp; omega)]
    by_cases h1 : o + 1 ≤ j ∧ j < o + 1 + vs.length
    · rw [if_pos h1, if_pos (by simp; omega), show j - o = (j - (o + 1)) + 1 by omega, List.getElem?_cons_succ]
    · rw [if_neg h1]
      by_cases h2 : j = o
      · subst h2
        rw [if_pos (by simp)]
        have : j < cur.size := by omega
        simp [this]
      · rw [if_neg (by simp; omega), Array.getElem?_setIfInBounds_ne (by omega)]
theorem Blk.setCells' {g : Nat} {t : TypeId} : ∀ (vs : List Value) (o : Nat) {w : World} {cur : Array Value}, Blk w g cur t → Blk (w.setCells g o vs) g (setArr cur o vs) t
  | [], _, _, _, h => h
  | v :: vs, o, _, _, h => Blk.setCells' vs (o + 1) (h.set o v)
theorem Chg.setCells' {S : List Nat} {g : Nat} : ∀ (vs : List Value) (o : Nat) {w0 w : World}, Chg S w0 w → (g < w0.heap.size → g ∈ S) → Chg S w0 (w.setCells g o vs)
  | [], _, _, _, h, _ => h
  | _v :: vs, o, _, _, h, hg => Chg.setCells' vs (o + 1) (h.setCell _ _ hg) hg
/-- A record of a row is written anew. -/
theorem OwR.set (henc : ∀ x, (enc x).length = sz) {g n c : Nat} (h : OwR enc sz et w base (.slice (some ⟨g, 0, none⟩) n c) l) (i : Nat) (hi : i < l.length) (x : α) :
    OwR enc sz et (w.setCells g (i * sz) (enc x)) base (.slice (some ⟨g, 0, none⟩) n c) (l.set i x) := by
  refine ⟨by rw [List.length_set]; exact flat_len enc sz henc _ |>.trans (by rw [List.length_set]), ?_⟩
  rcases h.2 with ⟨he, _⟩ | ⟨g', cap, cur, he, hb, hg, hnc, hcm, hcs, ht⟩
  · simp at he
  · simp only [Value.slice.injEq, Option.some.injEq, Addr.mk.injEq, and_true] at he
    obtain ⟨rfl, rfl, rfl⟩ := he
    have hB : Blk w g cur et := hg
    have hle : l.length * sz ≤ c * sz := Nat.mul_le_mul_right sz hnc
    have hik : i * sz + sz ≤ l.length * sz := by rw [← Nat.succ_mul]; exact Nat.mul_le_mul_right sz hi
    refine .inr ⟨g, c, _, by simp, hb, hB.setCells' (enc x) (i * sz), by simpa using hnc, hcm, by rw [setArr_size]; exact hcs, ?_⟩
    rw [List.length_set]
    apply List.ext_getElem?
    intro j
    have e1 : (setArr cur (i * sz) (enc x)).toList[j]? = (setArr cur (i * sz) (enc x))[j]? := Array.getElem?_toList
    have e2 : cur.toList[j]? = cur[j]? := Array.getElem?_toList
    rw [flat_set enc sz henc l i hi x j, ← ht, List.getElem?_take, List.getElem?_take, e1, e2, setArr_get _ _ _ _ (by rw [henc]; omega), henc]
    by_cases hj : j < l.length * sz
    · simp only [if_pos hj]
    · rw [if_neg hj, if_neg (by omega), if_neg hj]
/-- 'clear(s[a:])' of a row of the call's own, cut to [:a] behind it. -/
theorem OwR.clear (henc : ∀ x, (enc x).length = sz) {st : TypeId} {z : Value} (hst : Tryz.prog.underlying st = some (.slice et)) (hz : ∀ w, (zeroValue et).run Tryz.prog w = .ok z w) (hzs : z.cells.size = sz) (hz1 : ∀ v ∈ z.cells.toList, v.oneCell' = true) (hk : 0 < sz)
    {g n c : Nat} (h : OwR enc sz et w base (.slice (some ⟨g, 0, none⟩) n c) l) (a : Nat) (ha : a < n) (hn : n = l.length) :
    ∃ w', (∀ ty, (Builtin.clear_ #[st] ty #[.slice (some ⟨g, a * sz, none⟩) (n - a) (c - a)]).run Tryz.prog w = .ok (.tuple #[]) w') ∧ OwR enc sz et w' base (.slice (some ⟨g, 0, none⟩) (l.take a).length c) (l.take a) ∧ Chg [g] w w' := by
  subst hn
  have hlen : (l.take a).length = a := by rw [List.length_take]; omega
  rcases h.2 with ⟨he, _⟩ | ⟨g', cap, cur, he, hb, hg, hnc, hcm, hcs, ht⟩
  · simp at he
  · simp only [Value.slice.injEq, Option.some.injEq, Addr.mk.injEq, and_true] at he
    obtain ⟨rfl, -, rfl⟩ := he
    have hB : Blk w g cur et := hg
    obtain ⟨Z, hZ⟩ : ∃ Z, Z = Builtin.zeroCells z.cells (l.length - a) := ⟨_, rfl⟩
    have hZs : Z.size = (l.length - a) * sz := by rw [hZ, size_zeroCells, hzs]
    have hZ1 : ∀ v ∈ Z.toList, v.oneCell' = true := by
      intro v hv
      rw [hZ, Builtin.zeroCells] at hv
      simp only [Array.toList_map, List.mem_map] at hv
      obtain ⟨i, -, rfl⟩ := hv
      have hlt : i % z.cells.size < z.cells.size := Nat.mod_lt _ (by omega)
      refine hz1 _ ?_
      rw [getElem!_pos z.cells _ hlt]
      simp
    have hle : l.length * sz ≤ c * sz := Nat.mul_le_mul_right sz hnc
    have hsplit : a * sz + (l.length - a) * sz = l.length * sz := by rw [← Nat.add_mul, Nat.add_sub_cancel' (Nat.le_of_lt ha)]
    have hst' := run_storeCells_cells (P := Tryz.prog) g (a * sz) Z.toList 0 w
      (fun j hj => by rw [Nat.add_zero, hB.cell]; rw [Array.length_toList, hZs] at hj; have : a * sz + j < cur.size := by omega
                      simp [this])
      (fun j hj => hB.free _) hZ1
    refine ⟨w.setCells g (a * sz) Z.toList, fun ty => ?_, ⟨by rw [flat_len enc sz henc, List.length_take], .inr ⟨g, c, _, rfl, hb, hB.setCells' Z.toList (a * sz), by rw [hlen]; omega, hcm, by rw [setArr_size]; exact hcs, ?_⟩⟩, Chg.setCells' _ _ (Chg.refl _ _) (by simp)⟩
    · obtain ⟨m, hm⟩ : ∃ m, l.length - a = m + 1 := ⟨l.length - a - 1, by omega⟩
      rw [hm] at hZ ⊢
      simp only [Nat.add_zero, hZ] at hst'
      simp [Builtin.clear_, run_underlying hst, hz, hZ, hst']
    · rw [hlen]
      apply List.ext_getElem?
      intro j
      have ht' := congrArg (fun L => L[j]?) ht
      simp only [List.getElem?_take] at ht' ⊢
      by_cases hj : j < a * sz
      · rw [if_pos hj, Array.getElem?_toList, setArr_get _ _ _ _ (by rw [Array.length_toList, hZs]; omega), if_neg (by omega)]
        rw [if_pos (by omega), Array.getElem?_toList] at ht'
        rw [ht']
        have e : (l.take a ++ l.drop a).flatMap enc = l.flatMap enc := by rw [List.take_append_drop]
        rw [← e, List.flatMap_append, List.getElem?_append_left (by rw [flat_len enc sz henc, hlen]; exact hj)]
      · rw [if_neg hj, List.getElem?_eq_none (by rw [flat_len enc sz henc, hlen]; omega)]
theorem OwR.nil (w : World) (base : Nat) : OwR enc sz et w base (.slice none 0 0) [] := World.ownsRow_nil _ _ _ _
/-- A record is stored; the frame stays as it is. -/
theorem wpList_store_midTo {P : Program} {ops : Array Oper} {rest : List Oper} {op : Oper} {a : Act} {w : World} {Q : Exit → Act → World → Prop} (hgd : op.guard = none) (ty : TypeId) (x y : Operand) (ho : op.op = .store ty x y) (hd : op.dst = none)
    (b o : Nat) (cells : Array Value) (hx : a.eval x = .pointer (some ⟨b, o, none⟩)) (hy : a.eval y = .agg cells) (ht : w.there b o cells.size) (hi : (P.info? ty).map (·.size) = some cells.size) (h1 : cells.all (·.oneCell') = true)
    (h : wpList P ops Q rest a (w.setCells b o cells.toList)) : wpList P ops Q (op :: rest) a w :=
  wpList_store_mid hgd ty x y ho b o cells hx hy ht hi h1 (by rw [hd]; exact h)
/-- .. behind a guard. -/
theorem wpList_load_midW {P : Program} {ops : Array Oper} {rest : List Oper} {op : Oper} {a : Act} {w : World} {Q : Exit → Act → World → Prop} (hgd : Region.wanted op (yielded ops a.tmps) = true) (ty : TypeId) (x : Operand) (ho : op.op = .load ty x)
    (b o : Nat) (hx : a.eval x = .pointer (some ⟨b, o, none⟩)) (cs : List Value) (d : TypeDesc) (hc : w.rangeAt b o cs) (hu : P.underlying ty = some d) (hd : d.isRow = true) (hi : (P.info? ty).map (·.size) = some cs.length)
    (h : wpList P ops Q rest (a.put op.dst (.agg cs.toArray)) w) : wpList P ops Q (op :: rest) a w :=
  BigFrame.wpList_want hgd fun _ hK => wp_load_mid ty x ho b o hx cs d hc hu hd hi (hK _ _ h)
theorem wpList_load_rowW {P : Program} {ops : Array Oper} {rest : List Oper} {o : Oper} {a : Act} {w : World} {Q : Exit → Act → World → Prop} (hgd : Region.wanted o (yielded ops a.tmps) = true) (ty : TypeId) (x : Operand) (ho : o.op = .load ty x)
    (g : Nat) (hx : a.eval x = .pointer (some ⟨g, 0, none⟩)) (t : TypeId) (cs : Array Value) (fr : Nat × Nat) (d : TypeDesc) (hg : w.heap[g]? = some (.cells cs t fr))
    (hu : P.underlying ty = some d) (hd : (match d with | .struct _ | .array _ _ => true | _ => false) = true) (hi : (P.info? ty).map (·.size) = some cs.size)
    (h : wpList P ops Q rest (a.put o.dst (.agg cs)) w) : wpList P ops Q (o :: rest) a w :=
  BigFrame.wpList_want hgd fun _ hK => wp_load_row ty x ho g hx t cs fr d hg hu hd hi (hK _ _ h)
/-- Those that stay. -/
def stay (p : α → Bool) (l : List α) : List α := l.filter fun x => !p x
theorem stay_snoc (p : α → Bool) (l : List α) (b : Nat) (h : b < l.length) : stay p (l.take (b + 1)) = stay p (l.take b) ++ (if p l[b] then [] else [l[b]]) := by
  unfold stay
  rw [List.take_succ_eq_append_getElem h, List.filter_append]
  congr 1
  cases h : p l[b] <;> simp [h]
theorem stay_no {p : α → Bool} {l l2 : List α} {a b : Nat} (h : b < l.length) (hl : l2.length = l.length) (hd : p (l2[b]'(by omega)) = true) (ht : l2.take a = stay p (l.take b)) (hdr : l2.drop b = l.drop b) (ha : a = (stay p (l.take b)).length) :
    l2.take a = stay p (l.take (b + 1)) ∧ l2.drop (b + 1) = l.drop (b + 1) ∧ a = (stay p (l.take (b + 1))).length := by
  rw [List.drop_eq_getElem_cons (by omega), List.drop_eq_getElem_cons h] at hdr
  injection hdr with h1 h2
  have e : stay p (l.take (b + 1)) = stay p (l.take b) := by rw [stay_snoc p l b h, ← h1, hd]; simp
  rw [e]
  exact ⟨ht, h2, ha⟩
theorem stay_yes {p : α → Bool} {l l2 : List α} {a b : Nat} {o : α} (hl : l2.length = l.length) (h : b < l.length) (ho : l2[b]'(by omega) = o) (hd : p o = false) (ht : l2.take a = stay p (l.take b)) (hdr : l2.drop b = l.drop b) (ha : a = (stay p (l.take b)).length) (hab : a < b) :
    (l2.set a o).take (a + 1) = stay p (l.take (b + 1)) ∧ (l2.set a o).drop (b + 1) = l.drop (b + 1) ∧ a + 1 = (stay p (l.take (b + 1))).length := by
  rw [List.drop_eq_getElem_cons (by omega), List.drop_eq_getElem_cons h] at hdr
  injection hdr with h1 h2
  have e : stay p (l.take (b + 1)) = stay p (l.take b) ++ [o] := by rw [stay_snoc p l b h, ← h1, ho, hd]; rfl
  rw [e]
  refine ⟨?_, ?_, by rw [List.length_append, ← ha]; rfl⟩
  · rw [List.take_succ_eq_append_getElem (by rw [List.length_set]; omega), List.getElem_set_self, List.take_set_of_le (Nat.le_refl _), ht]
  · rw [List.drop_set_of_lt (by omega), h2]
theorem stay_start {p : α → Bool} {l : List α} {sz : Nat} (hk : sz < l.length) (hy : p l[sz] = true) (hno : ∀ o ∈ l.take sz, p o = false) : l.take sz = stay p (l.take (sz + 1)) ∧ sz = (stay p (l.take (sz + 1))).length := by
  have e : stay p (l.take (sz + 1)) = l.take sz := by
    rw [stay_snoc p l sz hk, hy, if_pos rfl, List.append_nil, stay, List.filter_eq_self]
    intro o ho; rw [hno o ho]; rfl
  rw [e]
  exact ⟨rfl, by rw [List.length_take]; omega⟩
theorem stay_all {p : α → Bool} {l : List α} (h : ∀ o ∈ l, p o = false) : stay p l = l := by
  rw [stay, List.filter_eq_self]
  intro o ho; rw [h o ho]; rfl
/-- What IndexFunc finds. -/
def FoundR (p : α → Bool) (l : List α) (e : Ending) : Prop :=
  (e = .returned (.int .i64 (-1)) ∧ ∀ o ∈ l, p o = false) ∨ ∃ sz : Nat, e = .returned (.int .i64 (sz : Int)) ∧ ∃ h : sz < l.length, p l[sz] = true ∧ ∀ o ∈ l.take sz, p o = false
/-- What a closure says of a record, wherever nothing elder than w has turned but S. -/
def Says (S : List Nat) (w : World) (enc : α → List Value) (p : α → Bool) (g : Nat) (lb : Array Value) (l : List α) : Prop :=
  ∀ W x, Chg S w W → x ∈ l → Calls Tryz.prog g (#[.agg (enc x).toArray] ++ lb) W fun e w' => e = .returned (.bool (p x)) ∧ Chg [] W w'
end
end Go.Proofs.YtbiadpkglcdihaaGreat

/- The library's functions on rows of records: Body. -/
namespace Go.Proofs.YtbiadpkglcdihaaGreat
open Go.RowKit

theorem undRB : Tryz.prog.underlying 28 = some (.slice 97) := by kernel_rfl
theorem rowRB : RowT Tryz.prog 28 97 11 104 := RowT.mk (z := .agg #[.int .i64 0, .int .i64 0, .int .i64 0, .int .i64 0, .int .i64 0, .int .i64 0, .int .i64 0, .int .i64 0, .int .i64 0, .int .i64 0, .slice none 0 0]) (by kernel_rfl) (by kernel_rfl) rfl (by decide)
theorem zeroRB (w : World) : (zeroValue 97).run Tryz.prog w = .ok (.agg #[.int .i64 0, .int .i64 0, .int .i64 0, .int .i64 0, .int .i64 0, .int .i64 0, .int .i64 0, .int .i64 0, .int .i64 0, .int .i64 0, .slice none 0 0]) w := by kernel_rfl
set_option maxHeartbeats 400000 in
theorem CloneRB_any (w : World) (v : Value) (l : List BV) (hv : Rd w 11 v l.length (l.flatMap cBV)) (h1 : ∀ v ∈ l.flatMap cBV, v.oneCell' = true) (hl : l.length ≤ 100000000000) :
    Calls Tryz.prog 163 #[v] w fun e w' => ∃ ao c, e = .returned (.slice ao l.length c) ∧ OwR cBV 11 97 w' w.heap.size (.slice ao l.length c) l ∧ Chg [] w w' := by
  unfold OwR
  generalize l.flatMap cBV = xs at *
  generalize l.length = n at *
  obtain ⟨hx, ao, cap, b, off, rfl, -, -, hn, -, -⟩ := id hv
  rcases ao with _ | a
  · obtain ⟨rfl, rfl⟩ := hn rfl
    obtain rfl : xs = [] := List.length_eq_zero_iff.1 (by simpa using hx)
    clear hn hv hl h1 hx
    have hq := fun w => Lib.run_eql_slice_nil (P := Tryz.prog) w 28 97 none 0 0 0 0 undRB
    go_enter Tryz.func163, Tryz.ntmps163
    go_wp2_with fail
    refine bodyPost_ret (v := .slice none 0 0) ?_ rfl ⟨none, 0, rfl, World.ownsRow_nil _ _ _ _, Chg.refl _ _⟩
    simp only [results]; go_simp
  · have hB : (w.alloc (.cells #[] 97)).ownsRow w.heap.size 97 11 (.slice (some ⟨w.heap.size, 0, none⟩) 0 0) 0 [] := World.ownsRow_lit w #[] 0 (Nat.le_refl _) (by decide) rfl
    have hv1 := Rd.keep hv ((Chg.refl [] w).alloc (.cells #[] 97)) (by simp)
    clear hn hv hx
    have hq := fun w => Lib.run_eql_slice_nil (P := Tryz.prog) w 28 97 (some a) n cap 0 0 undRB
    go_enter Tryz.func163, Tryz.ntmps163
    go_wp2_with (at_builtin; refine wpApp rowRB rfl _ _ rfl w.heap.size _ 0 [] rfl hB _ n xs rfl hv1 h1 (by omega) (by omega) (by simp) ?_; intro ao1 c1 w1 k1 k2 k3 _)
    have hc : Chg [] w w1 := ((Chg.refl [] w).alloc _).ownGrow hB k2 (Nat.le_refl _)
    simp only [List.nil_append, Nat.zero_add] at k1 ⊢
    refine bodyPost_ret (v := .slice ao1 n c1) ?_ rfl ⟨ao1, c1, rfl, k1, hc⟩
    simp only [results]; go_simp
set_option maxHeartbeats 2000000 in
theorem IndexRB_any (w : World) (v : Value) (l : List BV) (hv : Rd w 11 v l.length (l.flatMap cBV)) (hl : l.length ≤ 100000000000) (p : BV → Bool) (g : Nat) (lb : Array Value)
    (eg : ∀ args w, (callFunc g args).run Tryz.prog w = .ok (.enter g args) w) (hp : Says [] w cBV p g lb l) :
    Calls Tryz.prog 188 #[v, .func (.func g) #[] lb] w fun e w' => FoundR p l e ∧ Chg [] w w' := by
  obtain ⟨ao, c, rfl, hm, hao⟩ := Rd.form (by decide) hv
  have HV := hd hv
  have HP := hd hp
  have HAO := hd hao
  clear hv hp hao
  obtain ⟨P, hP⟩ : ∃ P : Ending → World → Prop, P = fun e w' => FoundR p l e ∧ Chg [] w w' := ⟨_, rfl⟩
  rw [← hP]
  have HPP := hd hP
  clear hP
  go_enter Tryz.func188, Tryz.ntmps188
  go_wp2_with fail
  go_loopw [8] (fun i wr => ∃ k : Nat, i = .int .i64 (k : Int) ∧ k ≤ l.length ∧ Hd (∀ o ∈ l.take k, p o = false) ∧ Chg [] w wr) (fun i _ => (l.length - (intOf i).toNat))
  case atStart => exact ⟨0, rfl, Nat.zero_le _, hd (by simp), Chg.refl _ _⟩
  case round =>
    obtain ⟨k, rfl, hk, hno, hc⟩ := hrel
    by_cases hlt : k < l.length
    · obtain ⟨b, off, e1, hb⟩ := HAO.out (by omega)
      subst e1
      have hr := hd (rangeAt_k (Rd.rangeAt cBV_len HV.out k hlt) hc)
      have hcon := HP.out wr l[k] hc (List.getElem_mem hlt)
      have HS := hd (List.take_succ_eq_append_getElem hlt)
      generalize hx : l[k] = x at *
      have HX := hd hx
      clear hx
      obtain ⟨d, hd'⟩ : ∃ d, p x = d := ⟨_, rfl⟩
      rw [hd'] at hcon
      have HD := hd hd'
      have HC := hd hc
      clear hd' hc
      cases d
      · go_wp2_with (first
          | (refine wpList_load_mid rfl _ _ rfl _ _ rfl (cBV x) _ hr.out Tryz.underlying97 rfl (by kernel_rfl) ?_)
          | (go_at_fn g; refine hcon.mono ?_; rintro e w2 ⟨rfl, hc2⟩))
        go_roundw
        case rel => exact ⟨k + 1, by go_num, by omega, hd (by rw [HS.out]; intro o ho; rcases List.mem_append.1 ho with h | h; exact hno.out o h; obtain rfl := List.mem_singleton.1 h; exact HD.out), HC.out.k hc2⟩
        case measure => simp [intOf]; omega
      · go_wp2_with (first
          | (refine wpList_load_mid rfl _ _ rfl _ _ rfl (cBV x) _ hr.out Tryz.underlying97 rfl (by kernel_rfl) ?_)
          | (go_at_fn g; refine hcon.mono ?_; rintro e w2 ⟨rfl, hc2⟩))
        rw [HPP.out]
        exact ⟨.inr ⟨k, rfl, hlt, by rw [HX.out]; exact HD.out, hno.out⟩, HC.out.k hc2⟩
    · go_wp2_with fail
      rw [HPP.out]
      exact ⟨.inl ⟨rfl, by have := hno.out; rwa [List.take_of_length_le (by omega)] at this⟩, hc⟩
set_option maxRecDepth 100000 in
set_option maxHeartbeats 4000000 in
theorem DeleteRB_any (w : World) (base : Nat) (v : Value) (l : List BV) (hv : OwR cBV 11 97 w base v l) (h1 : ∀ x ∈ l, (cBV x).toArray.all (·.oneCell') = true) (hl : l.length ≤ 100000000000) (p : BV → Bool) (g : Nat) (lb : Array Value)
    (eg : ∀ args w, (callFunc g args).run Tryz.prog w = .ok (.enter g args) w) (hp : Says v.ownBlock.toList w cBV p g lb l) :
    Calls Tryz.prog 162 #[v, .func (.func g) #[] lb] w fun e w' => ∃ ao c, e = .returned (.slice ao (stay p l).length c) ∧ OwR cBV 11 97 w' base (.slice ao (stay p l).length c) (stay p l) ∧ Chg v.ownBlock.toList w w' := by
  have hfind := IndexRB_any w v l hv.rd hl p g lb eg (fun W x h hx => hp W x (h.mono (by simp)) hx)
  obtain ⟨ao, c, rfl, hnc, hcm, hform⟩ := hv.form
  have HV := hd hv
  have HF := hd hform
  have HPP := hd hp
  have H1 := hd h1
  clear hv hform hp h1
  obtain ⟨P, hP⟩ : ∃ P : Ending → World → Prop, P = fun e w' => ∃ ao2 c2, e = .returned (.slice ao2 (stay p l).length c2) ∧ OwR cBV 11 97 w' base (.slice ao2 (stay p l).length c2) (stay p l) ∧ Chg (Value.slice ao l.length c).ownBlock.toList w w' := ⟨_, rfl⟩
  rw [← hP]
  have HP := hd hP
  clear hP
  go_enter Tryz.func162, Tryz.ntmps162
  go_upto_region 2 with (go_at_call 188; refine hfind.mono ?_; rintro e w2 ⟨hfnd, hc2⟩; rcases hfnd with ⟨rfl, hno⟩ | ⟨k, rfl, hk, hyes, hno⟩)
  · have HNO := hd hno
    clear hno
    go_wp2_with fail
    rw [HP.out]
    rw [stay_all HNO.out]
    exact ⟨ao, c, rfl, HV.out.k hc2, hc2.mono (by simp)⟩
  · obtain ⟨b, hb, hbl⟩ : ∃ b, ao = some ⟨b, 0, none⟩ ∧ b < w.heap.size := by
      rcases HF.out with ⟨-, rfl⟩ | ⟨b, h, -, h2⟩
      · simp at hk
      · exact ⟨b, h, h2⟩
    subst hb
    have HNO := hd hno
    have HYES := hd hyes
    clear hno hyes
    have HC2 := hd hc2
    clear hc2 hfind
    have hne : ((k : Int) == -1) = false := by simp
    go_wp2_with fail
    go_loopw [5, 6] (fun i j wr => ∃ (a b2 : Nat) (l2 : List BV), i = .int .i64 (a : Int) ∧ j = .int .i64 (b2 : Int) ∧ a < b2 ∧ b2 ≤ l.length ∧ Hd (l2.length = l.length) ∧ Hd (l2.take a = stay p (l.take b2)) ∧ Hd (l2.drop b2 = l.drop b2) ∧ Hd (a = (stay p (l.take b2)).length) ∧
        OwR cBV 11 97 wr base (.slice (some ⟨b, 0, none⟩) l2.length c) l2 ∧ Chg [b] w wr) (fun _ j _ => (l.length - (intOf j).toNat))
    case atStart =>
      have HK := stay_start hk HYES.out HNO.out
      exact ⟨k, k + 1, l, rfl, by go_num, by omega, by omega, hd rfl, hd HK.1, hd rfl, hd HK.2, HV.out.k HC2.out, HC2.out.mono (by simp)⟩
    case round =>
      obtain ⟨a, b2, l2, rfl, rfl, hab, hbl2, hl2, ht, hdr, ha, hw, hc⟩ := hrel
      by_cases hlt : b2 < l.length
      · have hb2 : b2 < l2.length := by rw [hl2.out]; exact hlt
        have hr := Rd.rangeAt cBV_len hw.rd b2 hb2
        have hmem : l2[b2] ∈ l := by
          have h2 := hdr.out
          rw [List.drop_eq_getElem_cons hb2, List.drop_eq_getElem_cons hlt] at h2
          injection h2 with h3 h4
          rw [h3]
          exact List.getElem_mem hlt
        have hone := H1.out _ hmem
        have HNOk : p l2[b2] = true → _ := fun h => stay_no hlt hl2.out h ht.out hdr.out ha.out
        have hcon := fun W (h : Chg [] wr W) => HPP.out W l2[b2] (by simpa [Value.ownBlock] using hc.k' h) hmem
        generalize hx : l2[b2] = x at *
        have HX := hd hx
        clear hx
        obtain ⟨d, hd'⟩ : ∃ d, p x = d := ⟨_, rfl⟩
        simp only [hd'] at hcon
        have HD := hd hd'
        have HNK := hd HNOk
        have HCON := hd hcon
        have HR := hd hr
        have HW := hd hw
        have HC := hd hc
        clear hd' HNOk hcon hr hw hc hmem
        simp only [Nat.zero_add] at HR
        have kA := Blk.new wr #[.int .i64 0, .int .i64 0, .int .i64 0, .int .i64 0, .int .i64 0, .int .i64 0, .int .i64 0, .int .i64 0, .int .i64 0, .int .i64 0, .slice none 0 0] 97
        have k1 := kA.row (cs' := (cBV x).toArray)
        have hc1 : Chg [] wr ((wr.alloc (.cells #[.int .i64 0, .int .i64 0, .int .i64 0, .int .i64 0, .int .i64 0, .int .i64 0, .int .i64 0, .int .i64 0, .int .i64 0, .int .i64 0, .slice none 0 0] 97)).setRow wr.heap.size (cBV x).toArray) := Chg.row ((Chg.refl [] wr).alloc _) wr.heap.size _ (fun h => absurd h (Nat.lt_irrefl _))
        have hca : a < c := by have := hl2.out; omega
        go_upto_region 8 with (first
          | (refine wpList_load_mid rfl _ _ rfl _ _ rfl (cBV x) _ HR.out Tryz.underlying97 rfl (by kernel_rfl) ?_)
          | (refine wpList_store_row rfl _ _ _ rfl wr.heap.size (cBV x).toArray rfl rfl 97 _ kA (by kernel_rfl) rfl hone ?_))
        clear kA
        generalize (wr.alloc (.cells #[.int .i64 0, .int .i64 0, .int .i64 0, .int .i64 0, .int .i64 0, .int .i64 0, .int .i64 0, .int .i64 0, .int .i64 0, .int .i64 0, .slice none 0 0] 97)).setRow wr.heap.size (cBV x).toArray = w1 at *
        have K1 := hd k1
        have HC1 := hd hc1
        generalize wr.heap.size = tb at *
        clear k1 hc1
        cases d
        · go_upto_region 9 with (first | (refine wpList_load_row rfl _ _ rfl tb rfl 97 _ (0, 0) _ K1.out Tryz.underlying97 rfl (by kernel_rfl) ?_) | (go_at_fn g; refine (HCON.out _ HC1.out).mono ?_; rintro e w5 ⟨rfl, h5⟩))
          have hth := (HW.out.k (HC1.out.k h5)).there a hca
          have hka := K1.out.k h5
          have hsz : (cBV x).toArray.size = 11 := by rw [List.size_toArray]; exact cBV_len x
          have HTH : Hd (w5.there b (a * 11) (cBV x).toArray.size) := hd (by rw [hsz]; exact hth)
          have HKA := hd hka
          clear hth hsz hka
          have hals : a < l2.length := by have := hl2.out; omega
          have ST := hd ((HW.out.k (HC1.out.k h5)).set cBV_len a hals x)
          have HM := hd ((HC.out.k' (HC1.out.k h5)).trans (Chg.setCells' (g := b) (cBV x) (a * 11) (Chg.refl [b] w5) (fun _ => List.mem_singleton_self b)) (fun x hx _ => hx))
          clear h5
          go_upto_region 10 with (first | (refine wpList_load_row rfl _ _ rfl tb rfl 97 _ (0, 0) _ HKA.out Tryz.underlying97 rfl (by kernel_rfl) ?_) | (refine wpList_store_midTo rfl _ _ _ rfl rfl _ _ (cBV x).toArray rfl rfl HTH.out (by kernel_rfl) hone ?_))
          generalize w5.setCells b (a * 11) (cBV x) = w6 at *
          go_wp2_with (fail)
          go_roundw
          case rel =>
            have HK := stay_yes hl2.out hlt HX.out HD.out ht.out hdr.out ha.out hab
            first
              | exact ⟨a + 1, b2 + 1, l2.set a x, by go_num, by go_num, by omega, by omega, hd (by rw [List.length_set]; exact hl2.out), hd HK.1, hd HK.2.1, hd HK.2.2, (by rw [List.length_set]; exact ST.out), HM.out⟩
              | ((repeat apply Exists.intro); exact ⟨⟨a + 1, b2 + 1, l2.set a x, by go_num, by go_num, by omega, by omega, hd (by rw [List.length_set]; exact hl2.out), hd HK.1, hd HK.2.1, hd HK.2.2, (by rw [List.length_set]; exact ST.out), HM.out⟩, rfl⟩)
          case measure => simp [intOf]; omega
        · go_wp2_with (first | (refine wpList_load_row rfl _ _ rfl tb rfl 97 _ (0, 0) _ K1.out Tryz.underlying97 rfl (by kernel_rfl) ?_) | (go_at_fn g; refine (HCON.out _ HC1.out).mono ?_; rintro e w5 ⟨rfl, h5⟩))
          go_roundw
          case rel =>
            have HK := HNK.out HD.out
            first
              | exact ⟨a, b2 + 1, l2, rfl, by go_num, by omega, by omega, hl2, hd HK.1, hd HK.2.1, hd HK.2.2, HW.out.k (HC1.out.k h5), HC.out.k' (HC1.out.k h5)⟩
              | ((repeat apply Exists.intro); exact ⟨⟨a, b2 + 1, l2, rfl, by go_num, by omega, by omega, hl2, hd HK.1, hd HK.2.1, hd HK.2.2, HW.out.k (HC1.out.k h5), HC.out.k' (HC1.out.k h5)⟩, rfl⟩)
          case measure => simp [intOf]; omega
      · have hb : b2 = l.length := by omega
        subst hb
        have hlr : l.length = l2.length := hl2.out.symm
        have hca : ¬ c = a := by omega
        have hcb : a ≤ c := by omega
        obtain ⟨w5, hrun, hr5, hc5⟩ := OwR.clear cBV_len undRB zeroRB rfl (by decide) (by decide) hw a (by omega) rfl
        rw [hl2.out] at hrun
        have e1 : l2.take a = stay p l := by rw [ht.out, List.take_of_length_le (Nat.le_refl _)]
        rw [e1] at hr5
        have hle : (stay p l).length ≤ l.length := List.length_filter_le _ _
        have e2 : a = (stay p l).length := by rw [ha.out, List.take_of_length_le (Nat.le_refl _)]
        subst e2
        have HR := hd hr5
        have HCC := hd (hc.trans hc5 (by simp))
        clear hc5 hr5 e1 hlr hw hc ht ha
        go_wp2_with fail
        rw [HP.out]
        exact ⟨_, c, rfl, HR.out, by simpa [Value.ownBlock] using HCC.out⟩
set_option maxHeartbeats 1000000 in
theorem WithoutRB_any (w : World) (v : Value) (l : List BV) (hv : Rd w 11 v l.length (l.flatMap cBV)) (h1 : ∀ x ∈ l, ∀ v ∈ cBV x, v.oneCell' = true) (hl : l.length ≤ 100000000000) (p : BV → Bool) (g : Nat) (lb : Array Value)
    (eg : ∀ args w, (callFunc g args).run Tryz.prog w = .ok (.enter g args) w) (hp : ∀ W W', Chg [] w W → (∀ S, (∀ x ∈ S, w.heap.size ≤ x) → Chg S W W' → Says S W' cBV p g lb l)) :
    Calls Tryz.prog 124 #[v, .func (.func g) #[] lb] w fun e w' => ∃ ao c, e = .returned (.slice ao (stay p l).length c) ∧ OwR cBV 11 97 w' w.heap.size (.slice ao (stay p l).length c) (stay p l) ∧ Chg [] w w' := by
  have hcl := CloneRB_any w v l hv (by intro v hv; obtain ⟨x, hx, h⟩ := List.mem_flatMap.1 hv; exact h1 x hx v h) hl
  have hdel := fun W ao c (h : OwR cBV 11 97 W w.heap.size (.slice ao l.length c) l) (hc : Chg [] w W) => DeleteRB_any W w.heap.size _ l h (fun x hx => all_oneCell_toArray (h1 x hx)) hl p g lb eg (hp W W hc _ (fun x hx => (h.lo x (by simpa using hx)).1) (Chg.refl _ _))
  obtain ⟨P, hP⟩ : ∃ P : Ending → World → Prop, P = fun e w' => ∃ ao c, e = .returned (.slice ao (stay p l).length c) ∧ OwR cBV 11 97 w' w.heap.size (.slice ao (stay p l).length c) (stay p l) ∧ Chg [] w w' := ⟨_, rfl⟩
  rw [← hP]
  have HP := hd hP
  clear hP hp h1
  obtain ⟨av, cv, rfl, -, -⟩ := Rd.form (by decide) hv
  go_enter Tryz.func124, Tryz.ntmps124
  go_wp2_with (first
    | (go_at_call 163; refine hcl.mono ?_; rintro e w1 ⟨ao, c, rfl, ho, hc1⟩)
    | (go_at_call 162; refine (hdel _ _ _ ho hc1).mono ?_; rintro e w2 ⟨ao2, c2, rfl, ho2, hc2⟩))
  rw [HP.out]
  exact ⟨ao2, c2, rfl, ho2, hc1.trans hc2 (fun x hx hl => absurd (ho.lo x (by simpa using hx)).1 (by omega))⟩
theorem ClipRB_any (w : World) (ao : Option Addr) (n c : Nat) (h : n ≤ c) (_hc : c ≤ 9223372036854775807) :
    Calls Tryz.prog 133 #[.slice ao n c] w fun e w' => e = .returned (.slice ao n n) ∧ w' = w := by
  go_enter Tryz.func133, Tryz.ntmps133
  go_wp2_with fail
  go_ret
  exact ⟨rfl, rfl⟩
end Go.Proofs.YtbiadpkglcdihaaGreat

/- The library's functions on rows of records: Joint. -/
namespace Go.Proofs.YtbiadpkglcdihaaGreat
open Go.RowKit

theorem undRJ : Tryz.prog.underlying 29 = some (.slice 101) := by kernel_rfl
theorem rowRJ : RowT Tryz.prog 29 101 8 64 := RowT.mk (z := .agg #[.int .i64 0, .int .i64 0, .int .i64 0, .int .i64 0, .int .i64 0, .int .i64 0, .int .i64 0, .int .i64 0]) (by kernel_rfl) (by kernel_rfl) rfl (by decide)
theorem zeroRJ (w : World) : (zeroValue 101).run Tryz.prog w = .ok (.agg #[.int .i64 0, .int .i64 0, .int .i64 0, .int .i64 0, .int .i64 0, .int .i64 0, .int .i64 0, .int .i64 0]) w := by kernel_rfl
set_option maxHeartbeats 400000 in
theorem CloneRJ_any (w : World) (v : Value) (l : List Jnt) (hv : Rd w 8 v l.length (l.flatMap cJt)) (h1 : ∀ v ∈ l.flatMap cJt, v.oneCell' = true) (hl : l.length ≤ 100000000000) :
    Calls Tryz.prog 165 #[v] w fun e w' => ∃ ao c, e = .returned (.slice ao l.length c) ∧ OwR cJt 8 101 w' w.heap.size (.slice ao l.length c) l ∧ Chg [] w w' := by
  unfold OwR
  generalize l.flatMap cJt = xs at *
  generalize l.length = n at *
  obtain ⟨hx, ao, cap, b, off, rfl, -, -, hn, -, -⟩ := id hv
  rcases ao with _ | a
  · obtain ⟨rfl, rfl⟩ := hn rfl
    obtain rfl : xs = [] := List.length_eq_zero_iff.1 (by simpa using hx)
    clear hn hv hl h1 hx
    have hq := fun w => Lib.run_eql_slice_nil (P := Tryz.prog) w 29 101 none 0 0 0 0 undRJ
    go_enter Tryz.func165, Tryz.ntmps165
    go_wp2_with fail
    refine bodyPost_ret (v := .slice none 0 0) ?_ rfl ⟨none, 0, rfl, World.ownsRow_nil _ _ _ _, Chg.refl _ _⟩
    simp only [results]; go_simp
  · have hB : (w.alloc (.cells #[] 101)).ownsRow w.heap.size 101 8 (.slice (some ⟨w.heap.size, 0, none⟩) 0 0) 0 [] := World.ownsRow_lit w #[] 0 (Nat.le_refl _) (by decide) rfl
    have hv1 := Rd.keep hv ((Chg.refl [] w).alloc (.cells #[] 101)) (by simp)
    clear hn hv hx
    have hq := fun w => Lib.run_eql_slice_nil (P := Tryz.prog) w 29 101 (some a) n cap 0 0 undRJ
    go_enter Tryz.func165, Tryz.ntmps165
    go_wp2_with (at_builtin; refine wpApp rowRJ rfl _ _ rfl w.heap.size _ 0 [] rfl hB _ n xs rfl hv1 h1 (by omega) (by omega) (by simp) ?_; intro ao1 c1 w1 k1 k2 k3 _)
    have hc : Chg [] w w1 := ((Chg.refl [] w).alloc _).ownGrow hB k2 (Nat.le_refl _)
    simp only [List.nil_append, Nat.zero_add] at k1 ⊢
    refine bodyPost_ret (v := .slice ao1 n c1) ?_ rfl ⟨ao1, c1, rfl, k1, hc⟩
    simp only [results]; go_simp
set_option maxHeartbeats 2000000 in
theorem IndexRJ_any (w : World) (v : Value) (l : List Jnt) (hv : Rd w 8 v l.length (l.flatMap cJt)) (hl : l.length ≤ 100000000000) (p : Jnt → Bool) (g : Nat) (lb : Array Value)
    (eg : ∀ args w, (callFunc g args).run Tryz.prog w = .ok (.enter g args) w) (hp : Says [] w cJt p g lb l) :
    Calls Tryz.prog 189 #[v, .func (.func g) #[] lb] w fun e w' => FoundR p l e ∧ Chg [] w w' := by
  obtain ⟨ao, c, rfl, hm, hao⟩ := Rd.form (by decide) hv
  have HV := hd hv
  have HP := hd hp
  have HAO := hd hao
  clear hv hp hao
  obtain ⟨P, hP⟩ : ∃ P : Ending → World → Prop, P = fun e w' => FoundR p l e ∧ Chg [] w w' := ⟨_, rfl⟩
  rw [← hP]
  have HPP := hd hP
  clear hP
  go_enter Tryz.func189, Tryz.ntmps189
  go_wp2_with fail
  go_loopw [8] (fun i wr => ∃ k : Nat, i = .int .i64 (k : Int) ∧ k ≤ l.length ∧ Hd (∀ o ∈ l.take k, p o = false) ∧ Chg [] w wr) (fun i _ => (l.length - (intOf i).toNat))
  case atStart => exact ⟨0, rfl, Nat.zero_le _, hd (by simp), Chg.refl _ _⟩
  case round =>
    obtain ⟨k, rfl, hk, hno, hc⟩ := hrel
    by_cases hlt : k < l.length
    · obtain ⟨b, off, e1, hb⟩ := HAO.out (by omega)
      subst e1
      have hr := hd (rangeAt_k (Rd.rangeAt cJt_len HV.out k hlt) hc)
      have hcon := HP.out wr l[k] hc (List.getElem_mem hlt)
      have HS := hd (List.take_succ_eq_append_getElem hlt)
      generalize hx : l[k] = x at *
      have HX := hd hx
      clear hx
      obtain ⟨d, hd'⟩ : ∃ d, p x = d := ⟨_, rfl⟩
      rw [hd'] at hcon
      have HD := hd hd'
      have HC := hd hc
      clear hd' hc
      cases d
      · go_wp2_with (first
          | (refine wpList_load_mid rfl _ _ rfl _ _ rfl (cJt x) _ hr.out Tryz.underlying101 rfl (by kernel_rfl) ?_)
          | (go_at_fn g; refine hcon.mono ?_; rintro e w2 ⟨rfl, hc2⟩))
        go_roundw
        case rel => exact ⟨k + 1, by go_num, by omega, hd (by rw [HS.out]; intro o ho; rcases List.mem_append.1 ho with h | h; exact hno.out o h; obtain rfl := List.mem_singleton.1 h; exact HD.out), HC.out.k hc2⟩
        case measure => simp [intOf]; omega
      · go_wp2_with (first
          | (refine wpList_load_mid rfl _ _ rfl _ _ rfl (cJt x) _ hr.out Tryz.underlying101 rfl (by kernel_rfl) ?_)
          | (go_at_fn g; refine hcon.mono ?_; rintro e w2 ⟨rfl, hc2⟩))
        rw [HPP.out]
        exact ⟨.inr ⟨k, rfl, hlt, by rw [HX.out]; exact HD.out, hno.out⟩, HC.out.k hc2⟩
    · go_wp2_with fail
      rw [HPP.out]
      exact ⟨.inl ⟨rfl, by have := hno.out; rwa [List.take_of_length_le (by omega)] at this⟩, hc⟩
set_option maxRecDepth 100000 in
set_option maxHeartbeats 4000000 in
theorem DeleteRJ_any (w : World) (base : Nat) (v : Value) (l : List Jnt) (hv : OwR cJt 8 101 w base v l) (h1 : ∀ x ∈ l, (cJt x).toArray.all (·.oneCell') = true) (hl : l.length ≤ 100000000000) (p : Jnt → Bool) (g : Nat) (lb : Array Value)
    (eg : ∀ args w, (callFunc g args).run Tryz.prog w = .ok (.enter g args) w) (hp : Says v.ownBlock.toList w cJt p g lb l) :
    Calls Tryz.prog 164 #[v, .func (.func g) #[] lb] w fun e w' => ∃ ao c, e = .returned (.slice ao (stay p l).length c) ∧ OwR cJt 8 101 w' base (.slice ao (stay p l).length c) (stay p l) ∧ Chg v.ownBlock.toList w w' := by
  have hfind := IndexRJ_any w v l hv.rd hl p g lb eg (fun W x h hx => hp W x (h.mono (by simp)) hx)
  obtain ⟨ao, c, rfl, hnc, hcm, hform⟩ := hv.form
  have HV := hd hv
  have HF := hd hform
  have HPP := hd hp
  have H1 := hd h1
  clear hv hform hp h1
  obtain ⟨P, hP⟩ : ∃ P : Ending → World → Prop, P = fun e w' => ∃ ao2 c2, e = .returned (.slice ao2 (stay p l).length c2) ∧ OwR cJt 8 101 w' base (.slice ao2 (stay p l).length c2) (stay p l) ∧ Chg (Value.slice ao l.length c).ownBlock.toList w w' := ⟨_, rfl⟩
  rw [← hP]
  have HP := hd hP
  clear hP
  go_enter Tryz.func164, Tryz.ntmps164
  go_upto_region 2 with (go_at_call 189; refine hfind.mono ?_; rintro e w2 ⟨hfnd, hc2⟩; rcases hfnd with ⟨rfl, hno⟩ | ⟨k, rfl, hk, hyes, hno⟩)
  · have HNO := hd hno
    clear hno
    go_wp2_with fail
    rw [HP.out]
    rw [stay_all HNO.out]
    exact ⟨ao, c, rfl, HV.out.k hc2, hc2.mono (by simp)⟩
  · obtain ⟨b, hb, hbl⟩ : ∃ b, ao = some ⟨b, 0, none⟩ ∧ b < w.heap.size := by
      rcases HF.out with ⟨-, rfl⟩ | ⟨b, h, -, h2⟩
      · simp at hk
      · exact ⟨b, h, h2⟩
    subst hb
    have HNO := hd hno
    have HYES := hd hyes
    clear hno hyes
    have HC2 := hd hc2
    clear hc2 hfind
    have hne : ((k : Int) == -1) = false := by simp
    go_wp2_with fail
    go_loopw [5, 6] (fun i j wr => ∃ (a b2 : Nat) (l2 : List Jnt), i = .int .i64 (a : Int) ∧ j = .int .i64 (b2 : Int) ∧ a < b2 ∧ b2 ≤ l.length ∧ Hd (l2.length = l.length) ∧ Hd (l2.take a = stay p (l.take b2)) ∧ Hd (l2.drop b2 = l.drop b2) ∧ Hd (a = (stay p (l.take b2)).length) ∧
        OwR cJt 8 101 wr base (.slice (some ⟨b, 0, none⟩) l2.length c) l2 ∧ Chg [b] w wr) (fun _ j _ => (l.length - (intOf j).toNat))
    case atStart =>
      have HK := stay_start hk HYES.out HNO.out
      exact ⟨k, k + 1, l, rfl, by go_num, by omega, by omega, hd rfl, hd HK.1, hd rfl, hd HK.2, HV.out.k HC2.out, HC2.out.mono (by simp)⟩
    case round =>
      obtain ⟨a, b2, l2, rfl, rfl, hab, hbl2, hl2, ht, hdr, ha, hw, hc⟩ := hrel
      by_cases hlt : b2 < l.length
      · have hb2 : b2 < l2.length := by rw [hl2.out]; exact hlt
        have hr := Rd.rangeAt cJt_len hw.rd b2 hb2
        have hmem : l2[b2] ∈ l := by
          have h2 := hdr.out
          rw [List.drop_eq_getElem_cons hb2, List.drop_eq_getElem_cons hlt] at h2
          injection h2 with h3 h4
          rw [h3]
          exact List.getElem_mem hlt
        have hone := H1.out _ hmem
        have HNOk : p l2[b2] = true → _ := fun h => stay_no hlt hl2.out h ht.out hdr.out ha.out
        have hcon := fun W (h : Chg [] wr W) => HPP.out W l2[b2] (by simpa [Value.ownBlock] using hc.k' h) hmem
        generalize hx : l2[b2] = x at *
        have HX := hd hx
        clear hx
        obtain ⟨d, hd'⟩ : ∃ d, p x = d := ⟨_, rfl⟩
        simp only [hd'] at hcon
        have HD := hd hd'
        have HNK := hd HNOk
        have HCON := hd hcon
        have HR := hd hr
        have HW := hd hw
        have HC := hd hc
        clear hd' HNOk hcon hr hw hc hmem
        simp only [Nat.zero_add] at HR
        have kA := Blk.new wr #[.int .i64 0, .int .i64 0, .int .i64 0, .int .i64 0, .int .i64 0, .int .i64 0, .int .i64 0, .int .i64 0] 101
        have k1 := kA.row (cs' := (cJt x).toArray)
        have hc1 : Chg [] wr ((wr.alloc (.cells #[.int .i64 0, .int .i64 0, .int .i64 0, .int .i64 0, .int .i64 0, .int .i64 0, .int .i64 0, .int .i64 0] 101)).setRow wr.heap.size (cJt x).toArray) := Chg.row ((Chg.refl [] wr).alloc _) wr.heap.size _ (fun h => absurd h (Nat.lt_irrefl _))
        have hca : a < c := by have := hl2.out; omega
        go_upto_region 8 with (first
          | (refine wpList_load_mid rfl _ _ rfl _ _ rfl (cJt x) _ HR.out Tryz.underlying101 rfl (by kernel_rfl) ?_)
          | (refine wpList_store_row rfl _ _ _ rfl wr.heap.size (cJt x).toArray rfl rfl 101 _ kA (by kernel_rfl) rfl hone ?_))
        clear kA
        generalize (wr.alloc (.cells #[.int .i64 0, .int .i64 0, .int .i64 0, .int .i64 0, .int .i64 0, .int .i64 0, .int .i64 0, .int .i64 0] 101)).setRow wr.heap.size (cJt x).toArray = w1 at *
        have K1 := hd k1
        have HC1 := hd hc1
        generalize wr.heap.size = tb at *
        clear k1 hc1
        cases d
        · go_upto_region 9 with (first | (refine wpList_load_row rfl _ _ rfl tb rfl 101 _ (0, 0) _ K1.out Tryz.underlying101 rfl (by kernel_rfl) ?_) | (go_at_fn g; refine (HCON.out _ HC1.out).mono ?_; rintro e w5 ⟨rfl, h5⟩))
          have hth := (HW.out.k (HC1.out.k h5)).there a hca
          have hka := K1.out.k h5
          have hsz : (cJt x).toArray.size = 8 := by rw [List.size_toArray]; exact cJt_len x
          have HTH : Hd (w5.there b (a * 8) (cJt x).toArray.size) := hd (by rw [hsz]; exact hth)
          have HKA := hd hka
          clear hth hsz hka
          have hals : a < l2.length := by have := hl2.out; omega
          have ST := hd ((HW.out.k (HC1.out.k h5)).set cJt_len a hals x)
          have HM := hd ((HC.out.k' (HC1.out.k h5)).trans (Chg.setCells' (g := b) (cJt x) (a * 8) (Chg.refl [b] w5) (fun _ => List.mem_singleton_self b)) (fun x hx _ => hx))
          clear h5
          go_upto_region 10 with (first | (refine wpList_load_row rfl _ _ rfl tb rfl 101 _ (0, 0) _ HKA.out Tryz.underlying101 rfl (by kernel_rfl) ?_) | (refine wpList_store_midTo rfl _ _ _ rfl rfl _ _ (cJt x).toArray rfl rfl HTH.out (by kernel_rfl) hone ?_))
          generalize w5.setCells b (a * 8) (cJt x) = w6 at *
          go_wp2_with (fail)
          go_roundw
          case rel =>
            have HK := stay_yes hl2.out hlt HX.out HD.out ht.out hdr.out ha.out hab
            first
              | exact ⟨a + 1, b2 + 1, l2.set a x, by go_num, by go_num, by omega, by omega, hd (by rw [List.length_set]; exact hl2.out), hd HK.1, hd HK.2.1, hd HK.2.2, (by rw [List.length_set]; exact ST.out), HM.out⟩
              | ((repeat apply Exists.intro); exact ⟨⟨a + 1, b2 + 1, l2.set a x, by go_num, by go_num, by omega, by omega, hd (by rw [List.length_set]; exact hl2.out), hd HK.1, hd HK.2.1, hd HK.2.2, (by rw [List.length_set]; exact ST.out), HM.out⟩, rfl⟩)
          case measure => simp [intOf]; omega
        · go_wp2_with (first | (refine wpList_load_row rfl _ _ rfl tb rfl 101 _ (0, 0) _ K1.out Tryz.underlying101 rfl (by kernel_rfl) ?_) | (go_at_fn g; refine (HCON.out _ HC1.out).mono ?_; rintro e w5 ⟨rfl, h5⟩))
          go_roundw
          case rel =>
            have HK := HNK.out HD.out
            first
              | exact ⟨a, b2 + 1, l2, rfl, by go_num, by omega, by omega, hl2, hd HK.1, hd HK.2.1, hd HK.2.2, HW.out.k (HC1.out.k h5), HC.out.k' (HC1.out.k h5)⟩
              | ((repeat apply Exists.intro); exact ⟨⟨a, b2 + 1, l2, rfl, by go_num, by omega, by omega, hl2, hd HK.1, hd HK.2.1, hd HK.2.2, HW.out.k (HC1.out.k h5), HC.out.k' (HC1.out.k h5)⟩, rfl⟩)
          case measure => simp [intOf]; omega
      · have hb : b2 = l.length := by omega
        subst hb
        have hlr : l.length = l2.length := hl2.out.symm
        have hca : ¬ c = a := by omega
        have hcb : a ≤ c := by omega
        obtain ⟨w5, hrun, hr5, hc5⟩ := OwR.clear cJt_len undRJ zeroRJ rfl (by decide) (by decide) hw a (by omega) rfl
        rw [hl2.out] at hrun
        have e1 : l2.take a = stay p l := by rw [ht.out, List.take_of_length_le (Nat.le_refl _)]
        rw [e1] at hr5
        have hle : (stay p l).length ≤ l.length := List.length_filter_le _ _
        have e2 : a = (stay p l).length := by rw [ha.out, List.take_of_length_le (Nat.le_refl _)]
        subst e2
        have HR := hd hr5
        have HCC := hd (hc.trans hc5 (by simp))
        clear hc5 hr5 e1 hlr hw hc ht ha
        go_wp2_with fail
        rw [HP.out]
        exact ⟨_, c, rfl, HR.out, by simpa [Value.ownBlock] using HCC.out⟩
set_option maxHeartbeats 1000000 in
theorem WithoutRJ_any (w : World) (v : Value) (l : List Jnt) (hv : Rd w 8 v l.length (l.flatMap cJt)) (h1 : ∀ x ∈ l, ∀ v ∈ cJt x, v.oneCell' = true) (hl : l.length ≤ 100000000000) (p : Jnt → Bool) (g : Nat) (lb : Array Value)
    (eg : ∀ args w, (callFunc g args).run Tryz.prog w = .ok (.enter g args) w) (hp : ∀ W W', Chg [] w W → (∀ S, (∀ x ∈ S, w.heap.size ≤ x) → Chg S W W' → Says S W' cJt p g lb l)) :
    Calls Tryz.prog 126 #[v, .func (.func g) #[] lb] w fun e w' => ∃ ao c, e = .returned (.slice ao (stay p l).length c) ∧ OwR cJt 8 101 w' w.heap.size (.slice ao (stay p l).length c) (stay p l) ∧ Chg [] w w' := by
  have hcl := CloneRJ_any w v l hv (by intro v hv; obtain ⟨x, hx, h⟩ := List.mem_flatMap.1 hv; exact h1 x hx v h) hl
  have hdel := fun W ao c (h : OwR cJt 8 101 W w.heap.size (.slice ao l.length c) l) (hc : Chg [] w W) => DeleteRJ_any W w.heap.size _ l h (fun x hx => all_oneCell_toArray (h1 x hx)) hl p g lb eg (hp W W hc _ (fun x hx => (h.lo x (by simpa using hx)).1) (Chg.refl _ _))
  obtain ⟨P, hP⟩ : ∃ P : Ending → World → Prop, P = fun e w' => ∃ ao c, e = .returned (.slice ao (stay p l).length c) ∧ OwR cJt 8 101 w' w.heap.size (.slice ao (stay p l).length c) (stay p l) ∧ Chg [] w w' := ⟨_, rfl⟩
  rw [← hP]
  have HP := hd hP
  clear hP hp h1
  obtain ⟨av, cv, rfl, -, -⟩ := Rd.form (by decide) hv
  go_enter Tryz.func126, Tryz.ntmps126
  go_wp2_with (first
    | (go_at_call 165; refine hcl.mono ?_; rintro e w1 ⟨ao, c, rfl, ho, hc1⟩)
    | (go_at_call 164; refine (hdel _ _ _ ho hc1).mono ?_; rintro e w2 ⟨ao2, c2, rfl, ho2, hc2⟩))
  rw [HP.out]
  exact ⟨ao2, c2, rfl, ho2, hc1.trans hc2 (fun x hx hl => absurd (ho.lo x (by simpa using hx)).1 (by omega))⟩
theorem ClipRJ_any (w : World) (ao : Option Addr) (n c : Nat) (h : n ≤ c) (_hc : c ≤ 9223372036854775807) :
    Calls Tryz.prog 122 #[.slice ao n c] w fun e w' => e = .returned (.slice ao n n) ∧ w' = w := by
  go_enter Tryz.func122, Tryz.ntmps122
  go_wp2_with fail
  go_ret
  exact ⟨rfl, rfl⟩
end Go.Proofs.YtbiadpkglcdihaaGreat

/- The library's functions on rows of records: Contact. -/
namespace Go.Proofs.YtbiadpkglcdihaaGreat
open Go.RowKit

theorem undRC : Tryz.prog.underlying 30 = some (.slice 104) := by kernel_rfl
theorem rowRC : RowT Tryz.prog 30 104 5 40 := RowT.mk (z := .agg #[.int .i64 0, .int .i64 0, .int .i64 0, .int .i64 0, .int .i64 0]) (by kernel_rfl) (by kernel_rfl) rfl (by decide)
theorem zeroRC (w : World) : (zeroValue 104).run Tryz.prog w = .ok (.agg #[.int .i64 0, .int .i64 0, .int .i64 0, .int .i64 0, .int .i64 0]) w := by kernel_rfl
set_option maxHeartbeats 400000 in
theorem CloneRC_any (w : World) (v : Value) (l : List Cnt) (hv : Rd w 5 v l.length (l.flatMap cCt)) (h1 : ∀ v ∈ l.flatMap cCt, v.oneCell' = true) (hl : l.length ≤ 100000000000) :
    Calls Tryz.prog 167 #[v] w fun e w' => ∃ ao c, e = .returned (.slice ao l.length c) ∧ OwR cCt 5 104 w' w.heap.size (.slice ao l.length c) l ∧ Chg [] w w' := by
  unfold OwR
  generalize l.flatMap cCt = xs at *
  generalize l.length = n at *
  obtain ⟨hx, ao, cap, b, off, rfl, -, -, hn, -, -⟩ := id hv
  rcases ao with _ | a
  · obtain ⟨rfl, rfl⟩ := hn rfl
    obtain rfl : xs = [] := List.length_eq_zero_iff.1 (by simpa using hx)
    clear hn hv hl h1 hx
    have hq := fun w => Lib.run_eql_slice_nil (P := Tryz.prog) w 30 104 none 0 0 0 0 undRC
    go_enter Tryz.func167, Tryz.ntmps167
    go_wp2_with fail
    refine bodyPost_ret (v := .slice none 0 0) ?_ rfl ⟨none, 0, rfl, World.ownsRow_nil _ _ _ _, Chg.refl _ _⟩
    simp only [results]; go_simp
  · have hB : (w.alloc (.cells #[] 104)).ownsRow w.heap.size 104 5 (.slice (some ⟨w.heap.size, 0, none⟩) 0 0) 0 [] := World.ownsRow_lit w #[] 0 (Nat.le_refl _) (by decide) rfl
    have hv1 := Rd.keep hv ((Chg.refl [] w).alloc (.cells #[] 104)) (by simp)
    clear hn hv hx
    have hq := fun w => Lib.run_eql_slice_nil (P := Tryz.prog) w 30 104 (some a) n cap 0 0 undRC
    go_enter Tryz.func167, Tryz.ntmps167
    go_wp2_with (at_builtin; refine wpApp rowRC rfl _ _ rfl w.heap.size _ 0 [] rfl hB _ n xs rfl hv1 h1 (by omega) (by omega) (by simp) ?_; intro ao1 c1 w1 k1 k2 k3 _)
    have hc : Chg [] w w1 := ((Chg.refl [] w).alloc _).ownGrow hB k2 (Nat.le_refl _)
    simp only [List.nil_append, Nat.zero_add] at k1 ⊢
    refine bodyPost_ret (v := .slice ao1 n c1) ?_ rfl ⟨ao1, c1, rfl, k1, hc⟩
    simp only [results]; go_simp
set_option maxHeartbeats 2000000 in
theorem IndexRC_any (w : World) (v : Value) (l : List Cnt) (hv : Rd w 5 v l.length (l.flatMap cCt)) (hl : l.length ≤ 100000000000) (p : Cnt → Bool) (g : Nat) (lb : Array Value)
    (eg : ∀ args w, (callFunc g args).run Tryz.prog w = .ok (.enter g args) w) (hp : Says [] w cCt p g lb l) :
    Calls Tryz.prog 190 #[v, .func (.func g) #[] lb] w fun e w' => FoundR p l e ∧ Chg [] w w' := by
  obtain ⟨ao, c, rfl, hm, hao⟩ := Rd.form (by decide) hv
  have HV := hd hv
  have HP := hd hp
  have HAO := hd hao
  clear hv hp hao
  obtain ⟨P, hP⟩ : ∃ P : Ending → World → Prop, P = fun e w' => FoundR p l e ∧ Chg [] w w' := ⟨_, rfl⟩
  rw [← hP]
  have HPP := hd hP
  clear hP
  go_enter Tryz.func190, Tryz.ntmps190
  go_wp2_with fail
  go_loopw [8] (fun i wr => ∃ k : Nat, i = .int .i64 (k : Int) ∧ k ≤ l.length ∧ Hd (∀ o ∈ l.take k, p o = false) ∧ Chg [] w wr) (fun i _ => (l.length - (intOf i).toNat))
  case atStart => exact ⟨0, rfl, Nat.zero_le _, hd (by simp), Chg.refl _ _⟩
  case round =>
    obtain ⟨k, rfl, hk, hno, hc⟩ := hrel
    by_cases hlt : k < l.length
    · obtain ⟨b, off, e1, hb⟩ := HAO.out (by omega)
      subst e1
      have hr := hd (rangeAt_k (Rd.rangeAt cCt_len HV.out k hlt) hc)
      have hcon := HP.out wr l[k] hc (List.getElem_mem hlt)
      have HS := hd (List.take_succ_eq_append_getElem hlt)
      generalize hx : l[k] = x at *
      have HX := hd hx
      clear hx
      obtain ⟨d, hd'⟩ : ∃ d, p x = d := ⟨_, rfl⟩
      rw [hd'] at hcon
      have HD := hd hd'
      have HC := hd hc
      clear hd' hc
      cases d
      · go_wp2_with (first
          | (refine wpList_load_mid rfl _ _ rfl _ _ rfl (cCt x) _ hr.out Tryz.underlying104 rfl (by kernel_rfl) ?_)
          | (go_at_fn g; refine hcon.mono ?_; rintro e w2 ⟨rfl, hc2⟩))
        go_roundw
        case rel => exact ⟨k + 1, by go_num, by omega, hd (by rw [HS.out]; intro o ho; rcases List.mem_append.1 ho with h | h; exact hno.out o h; obtain rfl := List.mem_singleton.1 h; exact HD.out), HC.out.k hc2⟩
        case measure => simp [intOf]; omega
      · go_wp2_with (first
          | (refine wpList_load_mid rfl _ _ rfl _ _ rfl (cCt x) _ hr.out Tryz.underlying104 rfl (by kernel_rfl) ?_)
          | (go_at_fn g; refine hcon.mono ?_; rintro e w2 ⟨rfl, hc2⟩))
        rw [HPP.out]
        exact ⟨.inr ⟨k, rfl, hlt, by rw [HX.out]; exact HD.out, hno.out⟩, HC.out.k hc2⟩
    · go_wp2_with fail
      rw [HPP.out]
      exact ⟨.inl ⟨rfl, by have := hno.out; rwa [List.take_of_length_le (by omega)] at this⟩, hc⟩
set_option maxRecDepth 100000 in
set_option maxHeartbeats 4000000 in
theorem DeleteRC_any (w : World) (base : Nat) (v : Value) (l : List Cnt) (hv : OwR cCt 5 104 w base v l) (h1 : ∀ x ∈ l, (cCt x).toArray.all (·.oneCell') = true) (hl : l.length ≤ 100000000000) (p : Cnt → Bool) (g : Nat) (lb : Array Value)
    (eg : ∀ args w, (callFunc g args).run Tryz.prog w = .ok (.enter g args) w) (hp : Says v.ownBlock.toList w cCt p g lb l) :
    Calls Tryz.prog 166 #[v, .func (.func g) #[] lb] w fun e w' => ∃ ao c, e = .returned (.slice ao (stay p l).length c) ∧ OwR cCt 5 104 w' base (.slice ao (stay p l).length c) (stay p l) ∧ Chg v.ownBlock.toList w w' := by
  have hfind := IndexRC_any w v l hv.rd hl p g lb eg (fun W x h hx => hp W x (h.mono (by simp)) hx)
  obtain ⟨ao, c, rfl, hnc, hcm, hform⟩ := hv.form
  have HV := hd hv
  have HF := hd hform
  have HPP := hd hp
  have H1 := hd h1
  clear hv hform hp h1
  obtain ⟨P, hP⟩ : ∃ P : Ending → World → Prop, P = fun e w' => ∃ ao2 c2, e = .returned (.slice ao2 (stay p l).length c2) ∧ OwR cCt 5 104 w' base (.slice ao2 (stay p l).length c2) (stay p l) ∧ Chg (Value.slice ao l.length c).ownBlock.toList w w' := ⟨_, rfl⟩
  rw [← hP]
  have HP := hd hP
  clear hP
  go_enter Tryz.func166, Tryz.ntmps166
  go_upto_region 2 with (go_at_call 190; refine hfind.mono ?_; rintro e w2 ⟨hfnd, hc2⟩; rcases hfnd with ⟨rfl, hno⟩ | ⟨k, rfl, hk, hyes, hno⟩)
  · have HNO := hd hno
    clear hno
    go_wp2_with fail
    rw [HP.out]
    rw [stay_all HNO.out]
    exact ⟨ao, c, rfl, HV.out.k hc2, hc2.mono (by simp)⟩
  · obtain ⟨b, hb, hbl⟩ : ∃ b, ao = some ⟨b, 0, none⟩ ∧ b < w.heap.size := by
      rcases HF.out with ⟨-, rfl⟩ | ⟨b, h, -, h2⟩
      · simp at hk
      · exact ⟨b, h, h2⟩
    subst hb
    have HNO := hd hno
    have HYES := hd hyes
    clear hno hyes
    have HC2 := hd hc2
    clear hc2 hfind
    have hne : ((k : Int) == -1) = false := by simp
    go_wp2_with fail
    go_loopw [5, 6] (fun i j wr => ∃ (a b2 : Nat) (l2 : List Cnt), i = .int .i64 (a : Int) ∧ j = .int .i64 (b2 : Int) ∧ a < b2 ∧ b2 ≤ l.length ∧ Hd (l2.length = l.length) ∧ Hd (l2.take a = stay p (l.take b2)) ∧ Hd (l2.drop b2 = l.drop b2) ∧ Hd (a = (stay p (l.take b2)).length) ∧
        OwR cCt 5 104 wr base (.slice (some ⟨b, 0, none⟩) l2.length c) l2 ∧ Chg [b] w wr) (fun _ j _ => (l.length - (intOf j).toNat))
    case atStart =>
      have HK := stay_start hk HYES.out HNO.out
      exact ⟨k, k + 1, l, rfl, by go_num, by omega, by omega, hd rfl, hd HK.1, hd rfl, hd HK.2, HV.out.k HC2.out, HC2.out.mono (by simp)⟩
    case round =>
      obtain ⟨a, b2, l2, rfl, rfl, hab, hbl2, hl2, ht, hdr, ha, hw, hc⟩ := hrel
      by_cases hlt : b2 < l.length
      · have hb2 : b2 < l2.length := by rw [hl2.out]; exact hlt
        have hr := Rd.rangeAt cCt_len hw.rd b2 hb2
        have hmem : l2[b2] ∈ l := by
          have h2 := hdr.out
          rw [List.drop_eq_getElem_cons hb2, List.drop_eq_getElem_cons hlt] at h2
          injection h2 with h3 h4
          rw [h3]
          exact List.getElem_mem hlt
        have hone := H1.out _ hmem
        have HNOk : p l2[b2] = true → _ := fun h => stay_no hlt hl2.out h ht.out hdr.out ha.out
        have hcon := fun W (h : Chg [] wr W) => HPP.out W l2[b2] (by simpa [Value.ownBlock] using hc.k' h) hmem
        generalize hx : l2[b2] = x at *
        have HX := hd hx
        clear hx
        obtain ⟨d, hd'⟩ : ∃ d, p x = d := ⟨_, rfl⟩
        simp only [hd'] at hcon
        have HD := hd hd'
        have HNK := hd HNOk
        have HCON := hd hcon
        have HR := hd hr
        have HW := hd hw
        have HC := hd hc
        clear hd' HNOk hcon hr hw hc hmem
        simp only [Nat.zero_add] at HR
        have kA := Blk.new wr #[.int .i64 0, .int .i64 0, .int .i64 0, .int .i64 0, .int .i64 0] 104
        have k1 := kA.row (cs' := (cCt x).toArray)
        have hc1 : Chg [] wr ((wr.alloc (.cells #[.int .i64 0, .int .i64 0, .int .i64 0, .int .i64 0, .int .i64 0] 104)).setRow wr.heap.size (cCt x).toArray) := Chg.row ((Chg.refl [] wr).alloc _) wr.heap.size _ (fun h => absurd h (Nat.lt_irrefl _))
        have hca : a < c := by have := hl2.out; omega
        go_upto_region 8 with (first
          | (refine wpList_load_mid rfl _ _ rfl _ _ rfl (cCt x) _ HR.out Tryz.underlying104 rfl (by kernel_rfl) ?_)
          | (refine wpList_store_row rfl _ _ _ rfl wr.heap.size (cCt x).toArray rfl rfl 104 _ kA (by kernel_rfl) rfl hone ?_))
        clear kA
        generalize (wr.alloc (.cells #[.int .i64 0, .int .i64 0, .int .i64 0, .int .i64 0, .int .i64 0] 104)).setRow wr.heap.size (cCt x).toArray = w1 at *
        have K1 := hd k1
        have HC1 := hd hc1
        generalize wr.heap.size = tb at *
        clear k1 hc1
        cases d
        · go_upto_region 9 with (first | (refine wpList_load_row rfl _ _ rfl tb rfl 104 _ (0, 0) _ K1.out Tryz.underlying104 rfl (by kernel_rfl) ?_) | (go_at_fn g; refine (HCON.out _ HC1.out).mono ?_; rintro e w5 ⟨rfl, h5⟩))
          have hth := (HW.out.k (HC1.out.k h5)).there a hca
          have hka := K1.out.k h5
          have hsz : (cCt x).toArray.size = 5 := by rw [List.size_toArray]; exact cCt_len x
          have HTH : Hd (w5.there b (a * 5) (cCt x).toArray.size) := hd (by rw [hsz]; exact hth)
          have HKA := hd hka
          clear hth hsz hka
          have hals : a < l2.length := by have := hl2.out; omega
          have ST := hd ((HW.out.k (HC1.out.k h5)).set cCt_len a hals x)
          have HM := hd ((HC.out.k' (HC1.out.k h5)).trans (Chg.setCells' (g := b) (cCt x) (a * 5) (Chg.refl [b] w5) (fun _ => List.mem_singleton_self b)) (fun x hx _ => hx))
          clear h5
          go_upto_region 10 with (first | (refine wpList_load_row rfl _ _ rfl tb rfl 104 _ (0, 0) _ HKA.out Tryz.underlying104 rfl (by kernel_rfl) ?_) | (refine wpList_store_midTo rfl _ _ _ rfl rfl _ _ (cCt x).toArray rfl rfl HTH.out (by kernel_rfl) hone ?_))
          generalize w5.setCells b (a * 5) (cCt x) = w6 at *
          go_wp2_with (fail)
          go_roundw
          case rel =>
            have HK := stay_yes hl2.out hlt HX.out HD.out ht.out hdr.out ha.out hab
            first
              | exact ⟨a + 1, b2 + 1, l2.set a x, by go_num, by go_num, by omega, by omega, hd (by rw [List.length_set]; exact hl2.out), hd HK.1, hd HK.2.1, hd HK.2.2, (by rw [List.length_set]; exact ST.out), HM.out⟩
              | ((repeat apply Exists.intro); exact ⟨⟨a + 1, b2 + 1, l2.set a x, by go_num, by go_num, by omega, by omega, hd (by rw [List.length_set]; exact hl2.out), hd HK.1, hd HK.2.1, hd HK.2.2, (by rw [List.length_set]; exact ST.out), HM.out⟩, rfl⟩)
          case measure => simp [intOf]; omega
        · go_wp2_with (first | (refine wpList_load_row rfl _ _ rfl tb rfl 104 _ (0, 0) _ K1.out Tryz.underlying104 rfl (by kernel_rfl) ?_) | (go_at_fn g; refine (HCON.out _ HC1.out).mono ?_; rintro e w5 ⟨rfl, h5⟩))
          go_roundw
          case rel =>
            have HK := HNK.out HD.out
            first
              | exact ⟨a, b2 + 1, l2, rfl, by go_num, by omega, by omega, hl2, hd HK.1, hd HK.2.1, hd HK.2.2, HW.out.k (HC1.out.k h5), HC.out.k' (HC1.out.k h5)⟩
              | ((repeat apply Exists.intro); exact ⟨⟨a, b2 + 1, l2, rfl, by go_num, by omega, by omega, hl2, hd HK.1, hd HK.2.1, hd HK.2.2, HW.out.k (HC1.out.k h5), HC.out.k' (HC1.out.k h5)⟩, rfl⟩)
          case measure => simp [intOf]; omega
      · have hb : b2 = l.length := by omega
        subst hb
        have hlr : l.length = l2.length := hl2.out.symm
        have hca : ¬ c = a := by omega
        have hcb : a ≤ c := by omega
        obtain ⟨w5, hrun, hr5, hc5⟩ := OwR.clear cCt_len undRC zeroRC rfl (by decide) (by decide) hw a (by omega) rfl
        rw [hl2.out] at hrun
        have e1 : l2.take a = stay p l := by rw [ht.out, List.take_of_length_le (Nat.le_refl _)]
        rw [e1] at hr5
        have hle : (stay p l).length ≤ l.length := List.length_filter_le _ _
        have e2 : a = (stay p l).length := by rw [ha.out, List.take_of_length_le (Nat.le_refl _)]
        subst e2
        have HR := hd hr5
        have HCC := hd (hc.trans hc5 (by simp))
        clear hc5 hr5 e1 hlr hw hc ht ha
        go_wp2_with fail
        rw [HP.out]
        exact ⟨_, c, rfl, HR.out, by simpa [Value.ownBlock] using HCC.out⟩
set_option maxHeartbeats 1000000 in
theorem WithoutRC_any (w : World) (v : Value) (l : List Cnt) (hv : Rd w 5 v l.length (l.flatMap cCt)) (h1 : ∀ x ∈ l, ∀ v ∈ cCt x, v.oneCell' = true) (hl : l.length ≤ 100000000000) (p : Cnt → Bool) (g : Nat) (lb : Array Value)
    (eg : ∀ args w, (callFunc g args).run Tryz.prog w = .ok (.enter g args) w) (hp : ∀ W W', Chg [] w W → (∀ S, (∀ x ∈ S, w.heap.size ≤ x) → Chg S W W' → Says S W' cCt p g lb l)) :
    Calls Tryz.prog 128 #[v, .func (.func g) #[] lb] w fun e w' => ∃ ao c, e = .returned (.slice ao (stay p l).length c) ∧ OwR cCt 5 104 w' w.heap.size (.slice ao (stay p l).length c) (stay p l) ∧ Chg [] w w' := by
  have hcl := CloneRC_any w v l hv (by intro v hv; obtain ⟨x, hx, h⟩ := List.mem_flatMap.1 hv; exact h1 x hx v h) hl
  have hdel := fun W ao c (h : OwR cCt 5 104 W w.heap.size (.slice ao l.length c) l) (hc : Chg [] w W) => DeleteRC_any W w.heap.size _ l h (fun x hx => all_oneCell_toArray (h1 x hx)) hl p g lb eg (hp W W hc _ (fun x hx => (h.lo x (by simpa using hx)).1) (Chg.refl _ _))
  obtain ⟨P, hP⟩ : ∃ P : Ending → World → Prop, P = fun e w' => ∃ ao c, e = .returned (.slice ao (stay p l).length c) ∧ OwR cCt 5 104 w' w.heap.size (.slice ao (stay p l).length c) (stay p l) ∧ Chg [] w w' := ⟨_, rfl⟩
  rw [← hP]
  have HP := hd hP
  clear hP hp h1
  obtain ⟨av, cv, rfl, -, -⟩ := Rd.form (by decide) hv
  go_enter Tryz.func128, Tryz.ntmps128
  go_wp2_with (first
    | (go_at_call 167; refine hcl.mono ?_; rintro e w1 ⟨ao, c, rfl, ho, hc1⟩)
    | (go_at_call 166; refine (hdel _ _ _ ho hc1).mono ?_; rintro e w2 ⟨ao2, c2, rfl, ho2, hc2⟩))
  rw [HP.out]
  exact ⟨ao2, c2, rfl, ho2, hc1.trans hc2 (fun x hx hl => absurd (ho.lo x (by simpa using hx)).1 (by omega))⟩
end Go.Proofs.YtbiadpkglcdihaaGreat

/- Where a number stands in a rising list; cmp.Compare. -/
namespace Go.Proofs.YtbiadpkglcdihaaGreat
open Go.RowKit

def cmpI (a b : Int) : Int := if a < b then -1 else if b < a then 1 else 0
set_option maxHeartbeats 1000000 in
theorem Cmp_any (a b : Int) (w : World) : Calls Tryz.prog 141 #[.int .i64 a, .int .i64 b] w fun e w' => e = .returned (.int .i64 (cmpI a b)) ∧ w' = w := by
  have hn : ∀ a W, Calls Tryz.prog 178 #[.int .i64 a] W fun e w' => e = .returned (.bool false) ∧ w' = W := by
    intro a W
    go_enter Tryz.func178, Tryz.ntmps178
    go_wp2_with fail
    go_ret
    exact ⟨by simp, rfl⟩
  unfold cmpI
  by_cases h1 : a < b
  · rw [if_pos h1]
    go_enter Tryz.func141, Tryz.ntmps141
    go_wp2_with (go_at_call 178; refine (hn _ _).mono ?_; rintro e w1 ⟨rfl, rfl⟩)
    go_ret
    exact ⟨rfl, rfl⟩
  · rw [if_neg h1]
    by_cases h2 : b < a
    · rw [if_pos h2]
      go_enter Tryz.func141, Tryz.ntmps141
      go_wp2_with (go_at_call 178; refine (hn _ _).mono ?_; rintro e w1 ⟨rfl, rfl⟩)
      go_ret
      exact ⟨rfl, rfl⟩
    · rw [if_neg h2]
      go_enter Tryz.func141, Tryz.ntmps141
      go_wp2_with (go_at_call 178; refine (hn _ _).mono ?_; rintro e w1 ⟨rfl, rfl⟩)
      go_ret
      exact ⟨rfl, rfl⟩
/-- Where a number stands, and if it does. -/
def fndI (l : List Int) (x : Int) : Nat × Bool := if x ∈ l then (l.idxOf x, true) else (0, false)
def risI (l : List Int) : Prop := l.Pairwise (· < ·)
theorem fnd_no {l : List Int} {x : Int} (h : x ∉ l) : fndI l x = (0, false) := by unfold fndI; rw [if_neg h]
theorem fnd_at {l : List Int} (hr : risI l) {i : Nat} (h : i < l.length) : fndI l l[i] = (i, true) := by
  unfold fndI
  rw [if_pos (List.getElem_mem h)]
  congr 1
  have hn : l.Nodup := hr.imp (fun h => Int.ne_of_lt h)
  exact hn.idxOf_getElem i h
theorem ris_get {l : List Int} (hr : risI l) {i j : Nat} (hi : i < l.length) (hj : j < l.length) (h : i < j) : l[i] < l[j] := (List.pairwise_iff_getElem.1 hr) i j hi hj h
/-- The search's bounds. -/
structure Mid (l : List Int) (x : Int) (i j : Nat) : Prop where
  ij : i ≤ j
  jl : j ≤ l.length
  lo : ∀ k (h : k < l.length), k < i → l[k] < x
  hi : ∀ k (h : k < l.length), j ≤ k → x ≤ l[k]
theorem Mid.start (l : List Int) (x : Int) : Mid l x 0 l.length := ⟨by omega, by omega, by omega, by omega⟩
theorem Mid.up {l : List Int} {x : Int} {i j h : Nat} (hr : risI l) (m : Mid l x i j) (h2 : h < j) (hl : h < l.length) (hx : l[h] < x) : Mid l x (h + 1) j :=
  ⟨by omega, m.jl, fun k hk hki => by
    by_cases e : k = h
    · subst e; exact hx
    · exact Int.lt_trans (ris_get hr hk hl (by omega)) hx, m.hi⟩
theorem Mid.down {l : List Int} {x : Int} {i j h : Nat} (hr : risI l) (m : Mid l x i j) (h1 : i ≤ h) (h2 : h < j) (hl : h < l.length) (hx : ¬ l[h] < x) : Mid l x i h :=
  ⟨h1, by have := m.jl; omega, m.lo, fun k hk hki => by
    by_cases e : k = h
    · subst e; omega
    · have := ris_get hr hl hk (by omega); omega⟩
/-- What the search ends in. -/
theorem Mid.hit {l : List Int} {x : Int} {i : Nat} (hr : risI l) (h : i < l.length) (e : l[i] = x) : fndI l x = (i, true) := by rw [← e]; exact fnd_at hr h
theorem Mid.miss {l : List Int} {x : Int} {i : Nat} (m : Mid l x i i) (e : ∀ h : i < l.length, l[i] ≠ x) (hr : risI l) : fndI l x = (0, false) := fnd_no fun hm => by
  obtain ⟨k, hk, hx⟩ := List.mem_iff_getElem.1 hm
  rcases Nat.lt_trichotomy k i with h | h | h
  · have := m.lo k hk h; omega
  · subst h; exact e hk hx
  · have h1 := m.hi i (by omega) (Nat.le_refl _)
    have h2 := ris_get hr (by omega) hk h
    omega
end Go.Proofs.YtbiadpkglcdihaaGreat

/- world.Right: what gives a body's number. -/
namespace Go.Proofs.YtbiadpkglcdihaaGreat
open Go.RowKit

set_option maxRecDepth 100000 in
set_option maxHeartbeats 2000000 in
theorem BID_any (w : World) (x : Bdy) (ap : Option Addr) (n c : Nat) : Calls Tryz.prog 107 #[vB x (.slice ap n c)] w fun e w' => e = .returned (.int .i64 x.id) ∧ Chg [] w w' := by
  obtain ⟨i, ⟨px, py⟩, ⟨vx, vy⟩, an, sp, de, ⟨sk, sr, p⟩⟩ := x
  unfold vB
  go_enter Tryz.func107, Tryz.ntmps107
  go_wp2
  go_ret
  exact ⟨rfl, (Chg.refl [] w).alloc _⟩
def risL (next : Int) : Int → List Int → Bool
  | _, [] => decide (1 ≤ next)
  | last, x :: l => if x ≤ last ∨ next ≤ x then false else risL next x l
set_option maxRecDepth 100000 in
set_option maxHeartbeats 4000000 in
theorem RisB_any (w : World) (va : Value) (A : List BV) (next : Int) (ha : BsS w va A) :
    Calls Tryz.prog 106 #[va, .int .i64 next, .func (.func 107) #[] #[]] w fun e w' => e = .returned (.bool (risL next 0 (A.map (·.1.id)))) ∧ Chg [] w w' := by
  obtain ⟨aa, ca, rfl, hma, haa⟩ := Rd.form (by decide) ha.rd
  have HA := hd ha
  have HAA := hd haa
  clear ha haa
  obtain ⟨P, hP⟩ : ∃ P : Ending → World → Prop, P = fun e w' => e = .returned (.bool (risL next 0 (A.map (·.1.id)))) ∧ Chg [] w w' := ⟨_, rfl⟩
  rw [← hP]
  have HP := hd hP
  clear hP
  go_enter Tryz.func106, Tryz.ntmps106
  go_wp2_with (fail)
  go_loopw [7, 9, 12] (fun t _ i wr => ∃ (k : Nat) (last : Int), k ≤ A.length ∧ t = .int .i64 last ∧ i = .int .i64 k ∧ Chg [] w wr ∧ risL next 0 (A.map (·.1.id)) = risL next last ((A.drop k).map (·.1.id)))
    (fun _ _ i _ => A.length - (intOf i).toNat)
  case atStart => exact ⟨0, 0, by omega, rfl, rfl, Chg.refl _ _, by simp⟩
  case round =>
    obtain ⟨j, last, hj, rfl, rfl, hc, hr⟩ := hrel
    have HC := hd hc
    by_cases hlt : j < A.length
    · obtain ⟨ga, offa, e1, hga⟩ := HAA.out (by omega)
      subst e1
      have hca := cellsChg (Rd.cellsAt cBV_len HA.out.rd j hlt) hc hga
      have hps := HA.out.ps _ (List.getElem_mem hlt)
      rw [List.drop_eq_getElem_cons hlt, List.map_cons] at hr
      generalize A[j] = x at *
      obtain ⟨x, pv⟩ := x
      simp only at hps hr
      obtain ⟨ap, cp, rfl, -⟩ := hps.form
      have HR := hd hr
      have HCA := hd hca
      clear hca hc hr hps
      have kA := Blk.new wr #[.int .i64 0, .int .i64 0, .int .i64 0, .int .i64 0, .int .i64 0, .int .i64 0, .int .i64 0, .int .i64 0, .int .i64 0, .int .i64 0, .slice none 0 0] 97
      have k1 := kA.row (cs' := (cBV (x, .slice ap x.shape.p.length cp)).toArray)
      have hc1 : Chg [] wr ((wr.alloc (.cells #[.int .i64 0, .int .i64 0, .int .i64 0, .int .i64 0, .int .i64 0, .int .i64 0, .int .i64 0, .int .i64 0, .int .i64 0, .int .i64 0, .slice none 0 0] 97)).setRow wr.heap.size (cBV (x, .slice ap x.shape.p.length cp)).toArray) := Chg.row ((Chg.refl [] wr).alloc _) wr.heap.size _ (fun h => absurd h (Nat.lt_irrefl _))
      go_upto_region 5 with (first
        | (refine wpList_load_at rfl _ _ rfl _ rfl (cBV (x, .slice ap x.shape.p.length cp)) _ HCA.out Tryz.underlying97 rfl (by kernel_rfl) ?_)
        | (refine wpList_store_row rfl _ _ _ rfl wr.heap.size (cBV (x, .slice ap x.shape.p.length cp)).toArray rfl rfl 97 _ kA (by kernel_rfl) rfl (cBV_all _ _ _ _) ?_))
      clear kA
      generalize (wr.alloc (.cells #[.int .i64 0, .int .i64 0, .int .i64 0, .int .i64 0, .int .i64 0, .int .i64 0, .int .i64 0, .int .i64 0, .int .i64 0, .int .i64 0, .slice none 0 0] 97)).setRow wr.heap.size (cBV (x, .slice ap x.shape.p.length cp)).toArray = w1 at *
      have K1 := hd k1
      have HM := hd (HC.out.k' hc1)
      generalize wr.heap.size = tb at *
      clear k1 hc1
      have hres : ∀ b, P (.returned (.bool b)) = P (.returned (.bool b)) := fun _ => rfl
      clear hres
      have M0 := HM.out
      by_cases h1 : x.id ≤ last
      · have HF := hd (show risL next 0 (A.map (·.1.id)) = false by rw [HR.out]; simp [risL, h1])
        go_wp2_with (first | (refine wpList_load_row rfl _ _ rfl tb rfl 97 _ (0, 0) _ K1.out Tryz.underlying97 rfl (by kernel_rfl) ?_) | (go_at_call 107; refine (BID_any _ x ap x.shape.p.length cp).mono ?_; rintro e w5 ⟨rfl, h5⟩; have d0 := (K1.out.k h5).cell 0; have d1 := (K1.out.k h5).cell 1; have d2 := (K1.out.k h5).cell 2; have d3 := (K1.out.k h5).cell 3; have d4 := (K1.out.k h5).cell 4; have d5 := (K1.out.k h5).cell 5; have d6 := (K1.out.k h5).cell 6; have d7 := (K1.out.k h5).cell 7; have d8 := (K1.out.k h5).cell 8; have d9 := (K1.out.k h5).cell 9; have d10 := (K1.out.k h5).cell 10; simp [cBV] at d0 d1 d2 d3 d4 d5 d6 d7 d8 d9 d10))
        rw [HP.out, HF.out]
        exact ⟨rfl, HM.out.k' h5⟩
      · by_cases h2 : next ≤ x.id
        · have HF := hd (show risL next 0 (A.map (·.1.id)) = false by rw [HR.out]; simp [risL, h2])
          go_wp2_with (first | (refine wpList_load_row rfl _ _ rfl tb rfl 97 _ (0, 0) _ K1.out Tryz.underlying97 rfl (by kernel_rfl) ?_) | (go_at_call 107; refine (BID_any _ x ap x.shape.p.length cp).mono ?_; rintro e w5 ⟨rfl, h5⟩; have d0 := (K1.out.k h5).cell 0; have d1 := (K1.out.k h5).cell 1; have d2 := (K1.out.k h5).cell 2; have d3 := (K1.out.k h5).cell 3; have d4 := (K1.out.k h5).cell 4; have d5 := (K1.out.k h5).cell 5; have d6 := (K1.out.k h5).cell 6; have d7 := (K1.out.k h5).cell 7; have d8 := (K1.out.k h5).cell 8; have d9 := (K1.out.k h5).cell 9; have d10 := (K1.out.k h5).cell 10; simp [cBV] at d0 d1 d2 d3 d4 d5 d6 d7 d8 d9 d10) | (go_at_call 107; refine (BID_any _ x ap x.shape.p.length cp).mono ?_; rintro e w6 ⟨rfl, h6⟩))
          rw [HP.out, HF.out]
          exact ⟨rfl, (HM.out.k' h5).k' h6⟩
        · have HF := hd (show risL next 0 (A.map (·.1.id)) = risL next x.id ((A.drop (j + 1)).map (·.1.id)) by rw [HR.out]; simp [risL, h1, h2])
          go_wp2_with (first | (refine wpList_load_row rfl _ _ rfl tb rfl 97 _ (0, 0) _ K1.out Tryz.underlying97 rfl (by kernel_rfl) ?_) | (go_at_call 107; refine (BID_any _ x ap x.shape.p.length cp).mono ?_; rintro e w5 ⟨rfl, h5⟩; have d0 := (K1.out.k h5).cell 0; have d1 := (K1.out.k h5).cell 1; have d2 := (K1.out.k h5).cell 2; have d3 := (K1.out.k h5).cell 3; have d4 := (K1.out.k h5).cell 4; have d5 := (K1.out.k h5).cell 5; have d6 := (K1.out.k h5).cell 6; have d7 := (K1.out.k h5).cell 7; have d8 := (K1.out.k h5).cell 8; have d9 := (K1.out.k h5).cell 9; have d10 := (K1.out.k h5).cell 10; simp [cBV] at d0 d1 d2 d3 d4 d5 d6 d7 d8 d9 d10) | (go_at_call 107; (fail_if_success (have := h6)); refine (BID_any _ x ap x.shape.p.length cp).mono ?_; rintro e w6 ⟨rfl, h6⟩) | (refine wpList_load_row rfl _ _ rfl tb rfl 97 _ (0, 0) _ ((K1.out.k h5).k h6) Tryz.underlying97 rfl (by kernel_rfl) ?_) | (go_at_call 107; refine (BID_any _ x ap x.shape.p.length cp).mono ?_; rintro e w7 ⟨rfl, h7⟩))
          go_roundw
          case rel => exact ⟨j + 1, x.id, by omega, rfl, by go_num, ((HM.out.k' h5).k' h6).k' h7, by rw [HF.out]⟩
          case measure => simp [intOf]; omega
    · have hd0 : A.drop j = [] := List.drop_eq_nil_of_le (by omega)
      rw [hd0] at hr
      have HR := hd hr
      clear hr hd0 hc
      go_wp2_with (fail)
      rw [HP.out, HR.out]
      exact ⟨rfl, HC.out⟩
end Go.Proofs.YtbiadpkglcdihaaGreat
