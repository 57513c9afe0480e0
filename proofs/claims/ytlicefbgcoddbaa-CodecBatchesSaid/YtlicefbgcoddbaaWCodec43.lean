/- Words and walks that Codec rests on: Orders, DeedI. -/
import Derived.Test.YtlicefbgcoddbaaWCodec42
import Derived.Test.YtlicefbgcoddbaaWCodec1
import Derived.Test.YtlicefbgcoddbaaWCodec29
/- law10.Orders. -/
namespace Go.Proofs.Ytlicefbgcoddbaa
open Go.RowKit

abbrev DV := Deed × Value
def cDV (x : DV) : List Value := cD x.1 x.2
theorem cDV_len (x : DV) : (cDV x).length = 30 := rfl
theorem cDV_all (d : Deed) (a : Option Addr) (n c : Nat) : ((cDV (d, .slice a n c)).toArray).all (·.oneCell') = true := by simp [cDV, cD, Value.oneCell']
structure DsS (w : World) (v : Value) (l : List DV) : Prop where
  rd : Rd w 30 v l.length (l.flatMap cDV)
  ps : ∀ x ∈ l, VsS w x.2 x.1.raw.shape.p
theorem DsS.k {w w' : World} {v : Value} {l : List DV} (h : DsS w v l) (hc : Chg [] w w') : DsS w' v l := ⟨Rd.keep h.rd hc (by simp), fun x hx => (h.ps x hx).k hc⟩
theorem rowD : RowT Try.prog 47 55 30 256 := RowT.mk (z := .agg #[.int .i64 0, .int .i64 0, .int .i64 0, .int .i64 0, .int .i64 0, .int .i64 0, .int .i64 0, .int .i64 0, .int .i64 0, .int .i64 0, .int .i64 0, .int .i64 0, .int .i64 0, .int .i64 0, .int .i64 0, .int .i64 0, .int .i64 0, .int .i64 0, .int .i64 0, .int .i64 0, .int .i64 0, .int .i64 0, .int .i64 0, .int .i64 0, .int .i64 0, .int .i64 0, .int .i64 0, .int .i64 0, .int .i64 0, .slice none 0 0]) (by kernel_rfl) (by kernel_rfl) rfl (by decide)
theorem Rd.takeN {w : World} {size n c : Nat} {ao : Option Addr} {xs : List Value} (h : Rd w size (.slice ao n c) n xs) (q : Nat) (hq : q ≤ n) : Rd w size (.slice ao q c) q (xs.take (q * size)) := by
  obtain ⟨h0, ao', cap, b, off, he, h2, h3, h4, h5, h6⟩ := h
  simp only [Value.slice.injEq] at he
  obtain ⟨rfl, -, rfl⟩ := he
  refine ⟨?_, ao, c, b, off, rfl, by omega, h3, fun hn => ⟨by have := (h4 hn).1; omega, (h4 hn).2⟩, fun hp => h5 (by omega), fun j u hu => ?_⟩
  · rw [List.length_take, h0]; exact Nat.min_eq_left (Nat.mul_le_mul_right _ hq)
  · rw [List.getElem?_take] at hu
    split at hu
    · exact h6 j u hu
    · cases hu
theorem run_loadVar_at {P : Program} (w : World) (a : Addr) (ty : TypeId) (cs : List Value) (d : TypeDesc) (hc : ∀ j v, cs[j]? = some v → w.cell? (a.add j) = some v)
    (hu : P.underlying ty = some d) (hd : (match d with | .struct _ | .array _ _ => true | _ => false) = true) (hi : (P.info? ty).map (·.size) = some cs.length) :
    (loadVar ty a).run P w = .ok (.agg cs.toArray) w := by
  have hl : (loadCells a cs.length).run P w = .ok cs.toArray w := run_loadCells_list (P := P) w a cs hc
  cases hq : P.info? ty with
  | none => simp [hq] at hi
  | some i =>
    have hs : i.size = cs.length := by simpa [hq] using hi
    have hagg : (isAgg ty).run P w = .ok true w := by
      unfold isAgg
      rw [Sem.run_bind, run_underlying hu w]
      cases d <;> simp_all
    simp [loadVar, Sem.run_bind, hagg, sizeOf, typeInfo, hq, hs, hl]
theorem wpList_load_at {P : Program} {ops : Array Oper} {rest : List Oper} {o : Oper} {a : Act} {w : World} {Q : Exit → Act → World → Prop} (hgd : o.guard = none) (ty : TypeId) (x : Operand) (ho : o.op = .load ty x)
    (ad : Addr) (hx : a.eval x = .pointer (some ad)) (cs : List Value) (d : TypeDesc) (hc : ∀ j v, cs[j]? = some v → w.cell? (ad.add j) = some v)
    (hu : P.underlying ty = some d) (hd : (match d with | .struct _ | .array _ _ => true | _ => false) = true) (hi : (P.info? ty).map (·.size) = some cs.length)
    (h : wpList P ops Q rest (a.put o.dst (.agg cs.toArray)) w) : wpList P ops Q (o :: rest) a w :=
  wpList_plain hgd fun _ hK => by
    unfold Oper.wp execOp
    simp only [ho, hx, Instr.loadAt, Instr.sureAddr, Sem.run_bind, Sem.run_pure, Result.andThen_ok, run_loadVar_at w ad ty cs d hc hu hd hi]
    exact hK _ _ h
theorem Rd.cellsAt {α : Type} {enc : α → List Value} {size : Nat} (henc : ∀ x, (enc x).length = size) {w : World} {b off n c : Nat} {l : List α} (h : Rd w size (.slice (some ⟨b, off, none⟩) n c) l.length (l.flatMap enc)) (i : Nat) (hi : i < l.length) :
    ∀ j v, (enc l[i])[j]? = some v → w.cell? ((⟨b, off + i * size, none⟩ : Addr).add j) = some v := fun j v hv => by
  have hj : j < size := by rw [← henc l[i]]; exact (List.getElem?_eq_some_iff.mp hv).1
  have hadd : (⟨b, off + i * size, none⟩ : Addr).add j = ⟨b, off + i * size + j, none⟩ := by unfold Addr.add; split <;> simp_all
  rw [hadd, Rd.cellAt henc h i hi j hj]
  rw [List.getElem?_eq_getElem (by rw [henc]; exact hj)] at hv
  exact hv
/-- A row of orders that the call lays: what stands. -/
structure Ods (w0 : World) (base : Nat) (v : Value) (L : List OV) (cur : World) : Prop where
  o : cur.ownsRow base 35 15 v L.length (L.flatMap cOV)
  p : ∀ x ∈ L, VsS cur x.2 x.1.shape.p
  q : ∀ x ∈ L, 0 < x.1.shape.p.length → ∀ k, x.2.ownBlock = some k → v.ownBlock ≠ some k
  c : Chg [] w0 cur
theorem Ods.k {w0 : World} {base : Nat} {v : Value} {L : List OV} {cur cur' : World} (h : Ods w0 base v L cur) (hm : Chg [] cur cur') : Ods w0 base v L cur' :=
  ⟨ownsRow_k h.o hm, fun x hx => (h.p x hx).k hm, h.q, h.c.k' hm⟩
theorem Ods.nil (w : World) (base : Nat) : Ods w base (.slice none 0 0) [] w := ⟨World.ownsRow_nil _ _ _ _, by simp, by simp, Chg.refl _ _⟩
theorem Ods.app {w0 : World} {base : Nat} {v u : Value} {L : List OV} {cur w6 : World} {y : OV} (h : Ods w0 base v L cur) (hy : VsS cur y.2 y.1.shape.p) (hyq : 0 < y.1.shape.p.length → ∀ k, y.2.ownBlock = some k → v.ownBlock ≠ some k)
    (hg : cur.grownBy w6 v.ownBlock) (hmv : Moved cur v u) (hr : w6.ownsRow base 35 15 u (L.length + 1) (L.flatMap cOV ++ cOV y)) (hlo : w0.heap.size ≤ base) :
    Ods w0 base u (L ++ [y]) w6 := by
  have hc : Chg v.ownBlock.toList cur w6 := (Chg.refl v.ownBlock.toList cur).grown hg (fun k hk _ => by simp [hk])
  have keep : ∀ x : OV, VsS cur x.2 x.1.shape.p → (0 < x.1.shape.p.length → ∀ k, x.2.ownBlock = some k → v.ownBlock ≠ some k) → VsS w6 x.2 x.1.shape.p := fun x hx hq => Rd.keep hx hc (fun hn k hk hmem => hq hn k hk (by simpa using hmem))
  have apart : ∀ x : OV, VsS cur x.2 x.1.shape.p → (0 < x.1.shape.p.length → ∀ k, x.2.ownBlock = some k → v.ownBlock ≠ some k) → (0 < x.1.shape.p.length → ∀ k, x.2.ownBlock = some k → u.ownBlock ≠ some k) := fun x hx hq hn k hk he => by
    rcases hmv with e | e
    · exact hq hn k hk (e ▸ he)
    · have := e k he; have := hx.own hn k hk; omega
  refine ⟨?_, ?_, ?_, ?_⟩
  · rw [List.length_append, List.flatMap_append]
    simpa using hr
  · intro x hx
    rcases List.mem_append.mp hx with hx | hx
    · exact keep x (h.p x hx) (h.q x hx)
    · rw [List.mem_singleton] at hx; subst hx
      exact keep x hy hyq
  · intro x hx
    rcases List.mem_append.mp hx with hx | hx
    · exact apart x (h.p x hx) (h.q x hx)
    · rw [List.mem_singleton] at hx; subst hx
      exact apart x hy hyq
  · exact h.c.grown hg (fun k hk hl => by have := (World.ownsRow.lt h.o k hk).1; omega)
theorem Ods.s {w0 : World} {base : Nat} {v : Value} {L : List OV} {cur : World} (h : Ods w0 base v L cur) : OsS cur v L := ⟨Rd.ofOwn h.o, h.p⟩
/-- An order's own places do not lie in the row of orders. -/
theorem ods_ne {w W : World} {base : Nat} {v bv pv : Value} {L : List OV} {lb lp : List V2} (hL : W.ownsRow base 35 15 v L.length (L.flatMap cOV)) (hb : w.heap.size ≤ base) (hpv : VsS w pv lp) (hlen : bv = pv → 0 < lb.length → 0 < lp.length) (hor : bv = pv ∨ ∀ k, bv.ownBlock = some k → W.heap.size ≤ k) :
    0 < lb.length → ∀ k, bv.ownBlock = some k → v.ownBlock ≠ some k := fun hn k hk he => by
  have h1 := World.ownsRow.lt hL k he
  rcases hor with rfl | h
  · have := hpv.own (hlen rfl hn) k hk; omega
  · have := h k hk; omega
/- LOOP -/
set_option maxRecDepth 100000 in
set_option maxHeartbeats 8000000 in
theorem Orders_any (w : World) (v : Value) (l : List DV) (m : Nat) (hl : DsS w v l) (hm : m ≤ 1048576) :
    Calls Try.prog 35 #[v, .int .i64 m] w fun e w' => ∃ u L, e = .returned u ∧ Ods w w.heap.size u L w' ∧ L.map (·.1) = (l.take m).map (fun x => orderD x.1) := by
  obtain ⟨av, cv, rfl, hmb, -⟩ := Rd.form (by decide) hl.rd
  obtain ⟨q, hq⟩ : ∃ q, q = min l.length m := ⟨_, rfl⟩
  have HQ := hd hq
  have hq1 : min (l.length : Int) (m : Int) = (q : Int) := by rw [hq]; omega
  have hq2 : q ≤ l.length ∧ q ≤ m := by omega
  clear hq
  have hcap : l.length ≤ cv := by
    obtain ⟨_, ao', cap, b, off, he, h2, _⟩ := hl.rd
    simp only [Value.slice.injEq] at he
    omega
  have HL := hd hl
  clear hl
  obtain ⟨P, hP⟩ : ∃ P : Ending → World → Prop, P = fun e w' => ∃ u L, e = .returned u ∧ Ods w w.heap.size u L w' ∧ L.map (·.1) = (l.take m).map (fun x => orderD x.1) := ⟨_, rfl⟩
  rw [← hP]
  have HP := hd hP
  clear hP
  go_enter Try.func35, Try.ntmps35
  go_upto_region 2 with (fail)
  go_cut [13, 14, 15] from 400 (fun t13 t14 t15 wx => t13 = .slice av q cv ∧ t14 = .int .i64 q ∧ t15 = .int .i64 0 ∧ wx = w)
  case first =>
    by_cases h : l.length ≤ m
    · have hql : l.length = q := by rw [HQ.out]; omega
      have h' : (l.length : Int) ≤ (m : Int) := by omega
      have h2 : (l.length : Int) ≤ (cv : Int) := by omega
      have HQL := hd hql
      clear hql hq1 hq2
      go_wp2
      go_meet
      case rel => rw [← HQL.out]; exact ⟨rfl, rfl, rfl, rfl⟩
    · have hql : m = q := by rw [HQ.out]; omega
      have h' : (m : Int) < (l.length : Int) := by omega
      have h2 : (m : Int) ≤ (cv : Int) := by omega
      have HQL := hd hql
      clear hql hq1 hq2
      go_wp2
      go_meet
      case rel => rw [← HQL.out]; exact ⟨rfl, rfl, rfl, rfl⟩
  case rest =>
  obtain ⟨rfl, rfl, rfl, rfl⟩ := hcut
  have hT : Rd wc 30 (.slice av q cv) (l.take q).length ((l.take q).flatMap cDV) := by
    have hlen : (l.take q).length = q := by rw [List.length_take]; omega
    rw [hlen]
    have := Rd.takeN HL.out.rd q hq2.1
    have e := flat_cut cDV 30 cDV_len l 0 q
    simp only [Nat.zero_mul, List.drop_zero] at e
    rwa [e] at this
  have hps : ∀ x ∈ l.take q, VsS wc x.2 x.1.raw.shape.p := fun x hx => HL.out.ps x (List.mem_of_mem_take hx)
  have htm : l.take q = l.take m := by rw [HQ.out]; by_cases h : l.length ≤ m <;> simp [h, List.take_of_length_le] <;> omega
  have HTM : Hd ((l.take m).map (fun x => orderD x.1) = (l.take q).map (fun x => orderD x.1)) := hd (by rw [htm])
  have htl : (l.take q).length = q := by rw [List.length_take]; omega
  generalize l.take q = T at *
  have HTL := hd htl
  obtain ⟨ac', cc', hce, hmc, hac⟩ := Rd.form (by decide) hT
  injection hce with hce1 hce2 hce3
  subst hce1 hce3
  have HT := hd hT
  have HPS := hd hps
  have HAC := hd hac
  clear hT hps htm htl hac hce2 HL HQ hmb hmc
  have hqq : q ≤ 1048576 := by omega
  go_wp2_with (fail)
  go_loopw [5, 7, 15] (fun u _ i wr => ∃ (j : Nat) (v : Value) (L : List OV), v = u ∧ j ≤ q ∧ L.length = j ∧ i = .int .i64 j ∧ Ods wc wc.heap.size v L wr ∧ L.map (·.1) = (T.take j).map (fun x => orderD x.1))
    (fun _ _ i _ => q - (intOf i).toNat)
  case atStart => exact ⟨0, _, [], rfl, by omega, rfl, rfl, Ods.nil _ _, by simp⟩
  case round =>
    obtain ⟨j, v, L, rfl, hj, rfl, rfl, hO, hmap⟩ := hrel
    obtain ⟨ao, c, rfl⟩ : ∃ ao c, v = .slice ao L.length c := by
      rcases hO.o.2 with ⟨rfl, hz⟩ | ⟨g, cap, cur, rfl, _⟩
      · exact ⟨none, 0, by rw [hz]⟩
      · exact ⟨_, cap, rfl⟩
    by_cases hlt : L.length < q
    · have hlT : L.length < T.length := by have := HTL.out; omega
      obtain ⟨gb, off, hao, hgb⟩ := HAC.out (by omega)
      subst hao
      have hcells : ∀ j' v', (cDV T[L.length])[j']? = some v' → wr.cell? ((⟨gb, off + L.length * 30, none⟩ : Addr).add j') = some v' := fun j' v' hv' => by
        rw [hO.c.cell (p := (⟨gb, off + L.length * 30, none⟩ : Addr).add j') (by unfold Addr.add; split <;> simpa using hgb) (by simp)]
        exact Rd.cellsAt cDV_len HT.out L.length hlT j' v' hv'
      have hps := HPS.out _ (List.getElem_mem hlT)
      have hsnoc : (T.take (L.length + 1)).map (fun x => orderD x.1) = L.map (·.1) ++ [orderD T[L.length].1] := by
        rw [List.take_succ_eq_append_getElem hlT, List.map_append, hmap]; rfl
      have HSN := hd hsnoc
      have HO := hd hO
      have HCE := hd hcells
      clear hmap hsnoc hcells
      generalize hxg : T[L.length] = x at *
      clear hxg
      obtain ⟨d, pv⟩ := x
      simp only at hps
      obtain ⟨ap, cp, rfl, -⟩ := hps.form
      have kA := Blk.new wr #[.int .i64 0, .int .i64 0, .int .i64 0, .int .i64 0, .int .i64 0, .int .i64 0, .int .i64 0, .int .i64 0, .int .i64 0, .int .i64 0, .int .i64 0, .int .i64 0, .int .i64 0, .int .i64 0, .int .i64 0, .int .i64 0, .int .i64 0, .int .i64 0, .int .i64 0, .int .i64 0, .int .i64 0, .int .i64 0, .int .i64 0, .int .i64 0, .int .i64 0, .int .i64 0, .int .i64 0, .int .i64 0, .int .i64 0, .slice none 0 0] 55
      have kB := kA.row (cs' := (cDV (d, .slice ap d.raw.shape.p.length cp)).toArray)
      have hcB : Chg [] wr ((wr.alloc (.cells #[.int .i64 0, .int .i64 0, .int .i64 0, .int .i64 0, .int .i64 0, .int .i64 0, .int .i64 0, .int .i64 0, .int .i64 0, .int .i64 0, .int .i64 0, .int .i64 0, .int .i64 0, .int .i64 0, .int .i64 0, .int .i64 0, .int .i64 0, .int .i64 0, .int .i64 0, .int .i64 0, .int .i64 0, .int .i64 0, .int .i64 0, .int .i64 0, .int .i64 0, .int .i64 0, .int .i64 0, .int .i64 0, .int .i64 0, .slice none 0 0] 55)).setRow wr.heap.size (cDV (d, .slice ap d.raw.shape.p.length cp)).toArray) := Chg.row ((Chg.refl [] wr).alloc _) wr.heap.size _ (fun h => absurd h (Nat.lt_irrefl _))
      go_upto_region 5 with (first
        | (refine wpList_load_at rfl _ _ rfl _ rfl (cDV (d, .slice ap d.raw.shape.p.length cp)) _ HCE.out Try.underlying55 rfl (by kernel_rfl) ?_)
        | (refine wpList_store_row rfl _ _ _ rfl wr.heap.size (cDV (d, .slice ap d.raw.shape.p.length cp)).toArray rfl rfl 55 _ kA (by kernel_rfl) rfl (cDV_all _ _ _ _) ?_))
      generalize (wr.alloc (.cells #[.int .i64 0, .int .i64 0, .int .i64 0, .int .i64 0, .int .i64 0, .int .i64 0, .int .i64 0, .int .i64 0, .int .i64 0, .int .i64 0, .int .i64 0, .int .i64 0, .int .i64 0, .int .i64 0, .int .i64 0, .int .i64 0, .int .i64 0, .int .i64 0, .int .i64 0, .int .i64 0, .int .i64 0, .int .i64 0, .int .i64 0, .int .i64 0, .int .i64 0, .int .i64 0, .int .i64 0, .int .i64 0, .int .i64 0, .slice none 0 0] 55)).setRow wr.heap.size (cDV (d, .slice ap d.raw.shape.p.length cp)).toArray = wB at *
      have hps2 := hps.k (HO.out.c.k' hcB)
      have hcon := DeedOrder_any d (.slice ap d.raw.shape.p.length cp) wB hps2
      have hB0 := HO.out.k hcB
      have HB0 := hd hB0
      have HCB := hd hcB
      have HPW := hd hps
      obtain ⟨o, ho⟩ : ∃ o, o = orderD d := ⟨_, rfl⟩
      rw [← ho] at hcon HSN
      clear ho hB0 hcB hps hps2 kA HCE hO
      obtain ⟨ok, oi, oa, ob, ⟨opx, opy⟩, ⟨ovx, ovy⟩, oan, osp, ode, oln, ⟨osk, osr, op⟩⟩ := o
      unfold vO vD at hcon
      simp only at hcon
      have KB := hd kB
      go_wp2_with (first
        | (refine wpList_load_row rfl _ _ rfl wr.heap.size rfl 55 _ (0, 0) _ KB.out Try.underlying55 rfl (by kernel_rfl) ?_)
        | (go_at_call 58; refine hcon.mono ?_; rintro e w4 ⟨bv, rfl, hbv, hm4, hor⟩; obtain ⟨aob, cb, rfl, -⟩ := hbv.form; have hne := ods_ne (lb := op) HB0.out.o (Nat.le_refl _) HPW.out (fun he hn => by injection he with _ h2 _; omega) hor; have hB := (HB0.out.k hm4).k ((Chg.refl [] w4).alloc (.cells #[.int .i64 ok, .int .i64 oi, .int .i64 oa, .int .i64 ob, .int .i64 opx, .int .i64 opy, .int .i64 ovx, .int .i64 ovy, .int .i64 oan, .int .i64 osp, .int .i64 ode, .int .i64 oln, .int .i64 osk, .int .i64 osr, .slice aob op.length cb] 35)); have hLit := Rd.lit w4 15 1 (cOV (⟨ok, oi, oa, ob, (opx, opy), (ovx, ovy), oan, osp, ode, oln, ⟨osk, osr, op⟩⟩, .slice aob op.length cb)) #[.int .i64 ok, .int .i64 oi, .int .i64 oa, .int .i64 ob, .int .i64 opx, .int .i64 opy, .int .i64 ovx, .int .i64 ovy, .int .i64 oan, .int .i64 osp, .int .i64 ode, .int .i64 oln, .int .i64 osk, .int .i64 osr, .slice aob op.length cb] 35 rfl rfl (by decide))
        | (at_builtin; refine wpApp rowO rfl _ _ rfl wc.heap.size (.slice ao L.length c) L.length (L.flatMap cOV) rfl hB.o _ 1 (cOV (⟨ok, oi, oa, ob, (opx, opy), (ovx, ovy), oan, osp, ode, oln, ⟨osk, osr, op⟩⟩, .slice aob op.length cb)) rfl hLit (cOV_one _ rfl) (by omega) (by omega) (by have := HO.out.c.size; have := HCB.out.size; have := hm4.size; simp; omega) ?_; intro ao6 c6 w6 hr6 hg6 hmv6 hno6))
      go_roundw
      case rel => exact ⟨L.length + 1, _, L ++ [(⟨ok, oi, oa, ob, (opx, opy), (ovx, ovy), oan, osp, ode, oln, ⟨osk, osr, op⟩⟩, .slice aob op.length cb)], rfl, by omega, by simp, by go_num, hB.app (hbv.k ((Chg.refl [] w4).alloc _)) hne hg6 hmv6 hr6 (Nat.le_refl _), by rw [HSN.out]; simp⟩
      case measure => simp [intOf]; omega
    · have hTj : T.take L.length = T := List.take_of_length_le (by have := HTL.out; omega)
      rw [hTj] at hmap
      have HM := hd hmap
      have HO := hd hO
      clear hmap hO hTj
      go_wp2_with (fail)
      rw [HP.out]
      exact ⟨_, L, rfl, HO.out, by rw [HM.out, HTM.out]⟩
end Go.Proofs.Ytlicefbgcoddbaa

/- Orders of deeds: all numbers fit. -/
namespace Go.Proofs.Ytlicefbgcoddbaa
open Go.RowKit

structure ID (d : Deed) : Prop where
  len : I64 d.len
  pos : IV d.raw.pos
  vel : IV d.raw.vel
  angle : I64 d.raw.angle
  spin : I64 d.raw.spin
  density : I64 d.raw.density
  skind : I64 d.raw.shape.kind
  sr : I64 d.raw.shape.r
  sp : ∀ x ∈ d.raw.shape.p, IV x
theorem bringF_I (x m : Int) (h0 : 0 ≤ m) (h1 : m ≤ 9223372036854775807) : I64 (bringF x (-m) m) := by
  unfold I64 bringF; omega
theorem bringV_I (v : V2) (m : Int) (h0 : 0 ≤ m) (h1 : m ≤ 9223372036854775807) : IV (bringV v m) := ⟨bringF_I _ m h0 h1, bringF_I _ m h0 h1⟩
theorem sizeSd_lo (x : Int) (h0 : 0 ≤ x) (h1 : x < 64) : 268435456 ≤ sizeSd x ∧ sizeSd x ≤ 17179869184 := by unfold sizeSd; omega
theorem shapeSd_I (s : Sd) : I64 (shapeSd s).kind ∧ I64 (shapeSd s).r ∧ ∀ x ∈ (shapeSd s).p, IV x := by
  have e1 := sizeSd_lo (s.size % 64) (by omega) (by omega)
  have e2 := sizeSd_lo (s.turn % 32) (by omega) (by omega)
  unfold shapeSd
  simp only
  generalize sizeSd (s.size % 64) = a at *
  generalize sizeSd (s.turn % 32) = b at *
  split
  · exact ⟨by unfold I64; simp, by unfold I64; simp only; omega, by simp⟩
  · split
    · refine ⟨by unfold I64; simp, by unfold I64; simp, ?_⟩
      intro x hx
      simp only [List.mem_cons, List.not_mem_nil, or_false] at hx
      rcases hx with rfl | rfl | rfl | rfl <;> (constructor <;> (unfold I64; simp only; omega))
    · refine ⟨by unfold I64; simp, by unfold I64; simp, ?_⟩
      intro x hx
      obtain ⟨i, _, rfl⟩ := List.mem_map.mp hx
      have h := cornSd_lo a (3 + (s.n % 256).toNat % 6) (s.turn % 256).toNat i e1
      have h1 := tdiv64_lo _ ⟨h.1, h.2.1⟩
      have h2 := tdiv64_lo _ ⟨h.2.2.1, h.2.2.2⟩
      unfold cornSd
      generalize ((ringAt (3 + (s.n % 256).toNat % 6) (s.turn % 256).toNat i).1 * a).tdiv 64 = u at *
      generalize ((ringAt (3 + (s.n % 256).toNat % 6) (s.turn % 256).toNat i).2 * a).tdiv 64 = v at *
      exact ⟨by unfold I64; simp only; omega, by unfold I64; simp only; omega⟩
theorem shapeSd_p (s : Sd) : (shapeSd s).p.length ≤ 8 := by
  unfold shapeSd
  simp only
  split
  · simp
  · split
    · simp
    · have : (s.n % 256).toNat % 6 < 6 := Nat.mod_lt _ (by omega)
      simp; omega
theorem orderD_I (d : Deed) (h : ID d) : IO (orderD d) := by
  have z : I64 0 := by unfold I64; simp
  have zv : IV (0, 0) := ⟨z, z⟩
  have ha : I64 (d.a % 16) := by unfold I64; omega
  have hb : I64 (d.b % 16) := by unfold I64; omega
  have hB : IV (bodyD d).pos ∧ IV (bodyD d).vel ∧ I64 (bodyD d).angle ∧ I64 (bodyD d).spin ∧ I64 (bodyD d).density ∧ I64 (bodyD d).shape.kind ∧ I64 (bodyD d).shape.r ∧ ∀ x ∈ (bodyD d).shape.p, IV x := by
    obtain ⟨s1, s2, s3⟩ := shapeSd_I d.place.seed
    have p1 := bringV_I d.place.pos 4294967296000 (by omega) (by omega)
    have p2 := bringV_I d.vel 85899345920 (by omega) (by omega)
    have p3 := bringF_I d.spin 85899345920 (by omega) (by omega)
    have p4 : I64 (d.place.angle % 4294967296) := by unfold I64; omega
    have p5 : I64 (1 + d.density % 34359738368) := by unfold I64; omega
    unfold bodyD bodyPl
    split
    · exact ⟨h.pos, h.vel, h.angle, h.spin, h.density, h.skind, h.sr, h.sp⟩
    · split
      · exact ⟨p1, zv, p4, z, z, s1, s2, s3⟩
      · exact ⟨p1, p2, p4, p3, p5, s1, s2, s3⟩
  have hJ1 := bringV_I d.at_ 17179869184 (by omega) (by omega)
  have hJ2 := bringV_I d.to_ 17179869184 (by omega) (by omega)
  have v1 := bringV_I d.vel 858993459200 (by omega) (by omega)
  have v2 := bringV_I d.vel 214748364800 (by omega) (by omega)
  have v3 := bringF_I d.spin 858993459200 (by omega) (by omega)
  obtain ⟨b1, b2, b3, b4, b5, b6, b7, b8⟩ := hB
  unfold orderD jointD noS
  repeat' split
  all_goals constructor
  all_goals dsimp only
  all_goals (first | with_reducible exact z | with_reducible exact zv | with_reducible exact ha | with_reducible exact hb | with_reducible exact hJ1 | with_reducible exact hJ2 | with_reducible exact v1 | with_reducible exact v2 | with_reducible exact v3 | with_reducible exact h.len | with_reducible exact b1 | with_reducible exact b2 | with_reducible exact b3 | with_reducible exact b4 | with_reducible exact b5 | with_reducible exact b6 | with_reducible exact b7 | with_reducible exact b8 | (unfold I64; omega) | (intro x hx; cases hx))
end Go.Proofs.Ytlicefbgcoddbaa
