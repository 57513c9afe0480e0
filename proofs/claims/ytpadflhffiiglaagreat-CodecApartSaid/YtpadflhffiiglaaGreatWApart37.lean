/- Words and walks that Apart rests on: Orders, Like. -/
import Derived.Test.YtpadflhffiiglaaGreatWApart36
import Derived.Test.YtpadflhffiiglaaGreatWApart1
import Derived.Test.YtpadflhffiiglaaGreatWApart30
import Derived.Test.YtpadflhffiiglaaGreatWApart22
/- law10.Orders. -/
namespace Go.Proofs.YtpadflhffiiglaaGreat
open Go.RowKit

abbrev DV := Deed × Value
def cDV (x : DV) : List Value := cD x.1 x.2
theorem cDV_len (x : DV) : (cDV x).length = 30 := rfl
theorem cDV_all (d : Deed) (a : Option Addr) (n c : Nat) : ((cDV (d, .slice a n c)).toArray).all (·.oneCell') = true := by simp [cDV, cD, Value.oneCell']
structure DsS (w : World) (v : Value) (l : List DV) : Prop where
  rd : Rd w 30 v l.length (l.flatMap cDV)
  ps : ∀ x ∈ l, VsS w x.2 x.1.raw.shape.p
theorem DsS.k {w w' : World} {v : Value} {l : List DV} (h : DsS w v l) (hc : Chg [] w w') : DsS w' v l := ⟨Rd.keep h.rd hc (by simp), fun x hx => (h.ps x hx).k hc⟩
theorem Rd.takeN {w : World} {size n c : Nat} {ao : Option Addr} {xs : List Value} (h : Rd w size (.slice ao n c) n xs) (q : Nat) (hq : q ≤ n) : Rd w size (.slice ao q c) q (xs.take (q * size)) := by
  obtain ⟨h0, ao', cap, b, off, he, h2, h3, h4, h5, h6⟩ := h
  simp only [Value.slice.injEq] at he
  obtain ⟨rfl, -, rfl⟩ := he
  refine ⟨?_, ao, c, b, off, rfl, by omega, h3, fun hn => ⟨by have := (h4 hn).1; omega, (h4 hn).2⟩, fun hp => h5 (by omega), fun j u hu => ?_⟩
  · rw [List.length_take, h0]; exact Nat.min_eq_left (Nat.mul_le_mul_right _ hq)
  · rw [List.getElem?_take] at hu
    split at hu
    · exact h6 j u hu
    · cases hu
theorem run_loadVar_at {P : Program} (w : World) (a : Addr) (ty : TypeId) (cs : List Value) (d : TypeDesc) (hc : ∀ j v, cs[j]? = some v → w.cell? (a.add j) = some v)
    (hu : P.underlying ty = some d) (hd : (match d with | .struct _ | .array _ _ => true | _ => false) = true) (hi : (P.info? ty).map (·.size) = some cs.length) :
    (loadVar ty a).run P w = .ok (.agg cs.toArray) w := by
  have hl : (loadCells a cs.length).run P w = .ok cs.toArray w := run_loadCells_list (P := P) w a cs hc
  cases hq : P.info? ty with
  | none => simp [hq] at hi
  | some i =>
    have hs : i.size = cs.length := by simpa [hq] using hi
    have hagg : (isAgg ty).run P w = .ok true w := by
      unfold isAgg
      rw [Sem.run_bind, run_underlying hu w]
      cases d <;> simp_all
    simp [loadVar, Sem.run_bind, hagg, sizeOf, typeInfo, hq, hs, hl]
theorem wpList_load_at {P : Program} {ops : Array Oper} {rest : List Oper} {o : Oper} {a : Act} {w : World} {Q : Exit → Act → World → Prop} (hgd : o.guard = none) (ty : TypeId) (x : Operand) (ho : o.op = .load ty x)
    (ad : Addr) (hx : a.eval x = .pointer (some ad)) (cs : List Value) (d : TypeDesc) (hc : ∀ j v, cs[j]? = some v → w.cell? (ad.add j) = some v)
    (hu : P.underlying ty = some d) (hd : (match d with | .struct _ | .array _ _ => true | _ => false) = true) (hi : (P.info? ty).map (·.size) = some cs.length)
    (h : wpList P ops Q rest (a.put o.dst (.agg cs.toArray)) w) : wpList P ops Q (o :: rest) a w :=
  wpList_plain hgd fun _ hK => by
    unfold Oper.wp execOp
    simp only [ho, hx, Instr.loadAt, Instr.sureAddr, Sem.run_bind, Sem.run_pure, Result.andThen_ok, run_loadVar_at w ad ty cs d hc hu hd hi]
    exact hK _ _ h
theorem Rd.cellsAt {α : Type} {enc : α → List Value} {size : Nat} (henc : ∀ x, (enc x).length = size) {w : World} {b off n c : Nat} {l : List α} (h : Rd w size (.slice (some ⟨b, off, none⟩) n c) l.length (l.flatMap enc)) (i : Nat) (hi : i < l.length) :
    ∀ j v, (enc l[i])[j]? = some v → w.cell? ((⟨b, off + i * size, none⟩ : Addr).add j) = some v := fun j v hv => by
  have hj : j < size := by rw [← henc l[i]]; exact (List.getElem?_eq_some_iff.mp hv).1
  have hadd : (⟨b, off + i * size, none⟩ : Addr).add j = ⟨b, off + i * size + j, none⟩ := by unfold Addr.add; split <;> simp_all
  rw [hadd, Rd.cellAt henc h i hi j hj]
  rw [List.getElem?_eq_getElem (by rw [henc]; exact hj)] at hv
  exact hv
/-- A row of orders that the call lays: what stands. -/
structure Ods (w0 : World) (base : Nat) (v : Value) (L : List OV) (cur : World) : Prop where
  o : cur.ownsRow base 120 15 v L.length (L.flatMap cOV)
  p : ∀ x ∈ L, VsS cur x.2 x.1.shape.p
  q : ∀ x ∈ L, 0 < x.1.shape.p.length → ∀ k, x.2.ownBlock = some k → v.ownBlock ≠ some k
  c : Chg [] w0 cur
theorem Ods.k {w0 : World} {base : Nat} {v : Value} {L : List OV} {cur cur' : World} (h : Ods w0 base v L cur) (hm : Chg [] cur cur') : Ods w0 base v L cur' :=
  ⟨ownsRow_k h.o hm, fun x hx => (h.p x hx).k hm, h.q, h.c.k' hm⟩
theorem Ods.nil (w : World) (base : Nat) : Ods w base (.slice none 0 0) [] w := ⟨World.ownsRow_nil _ _ _ _, by simp, by simp, Chg.refl _ _⟩
theorem Ods.app {w0 : World} {base : Nat} {v u : Value} {L : List OV} {cur w6 : World} {y : OV} (h : Ods w0 base v L cur) (hy : VsS cur y.2 y.1.shape.p) (hyq : 0 < y.1.shape.p.length → ∀ k, y.2.ownBlock = some k → v.ownBlock ≠ some k)
    (hg : cur.grownBy w6 v.ownBlock) (hmv : Moved cur v u) (hr : w6.ownsRow base 120 15 u (L.length + 1) (L.flatMap cOV ++ cOV y)) (hlo : w0.heap.size ≤ base) :
    Ods w0 base u (L ++ [y]) w6 := by
  have hc : Chg v.ownBlock.toList cur w6 := (Chg.refl v.ownBlock.toList cur).grown hg (fun k hk _ => by simp [hk])
  have keep : ∀ x : OV, VsS cur x.2 x.1.shape.p → (0 < x.1.shape.p.length → ∀ k, x.2.ownBlock = some k → v.ownBlock ≠ some k) → VsS w6 x.2 x.1.shape.p := fun x hx hq => Rd.keep hx hc (fun hn k hk hmem => hq hn k hk (by simpa using hmem))
  have apart : ∀ x : OV, VsS cur x.2 x.1.shape.p → (0 < x.1.shape.p.length → ∀ k, x.2.ownBlock = some k → v.ownBlock ≠ some k) → (0 < x.1.shape.p.length → ∀ k, x.2.ownBlock = some k → u.ownBlock ≠ some k) := fun x hx hq hn k hk he => by
    rcases hmv with e | e
    · exact hq hn k hk (e ▸ he)
    · have := e k he; have := hx.own hn k hk; omega
  refine ⟨?_, ?_, ?_, ?_⟩
  · rw [List.length_append, List.flatMap_append]
    simpa using hr
  · intro x hx
    rcases List.mem_append.mp hx with hx | hx
    · exact keep x (h.p x hx) (h.q x hx)
    · rw [List.mem_singleton] at hx; subst hx
      exact keep x hy hyq
  · intro x hx
    rcases List.mem_append.mp hx with hx | hx
    · exact apart x (h.p x hx) (h.q x hx)
    · rw [List.mem_singleton] at hx; subst hx
      exact apart x hy hyq
  · exact h.c.grown hg (fun k hk hl => by have := (World.ownsRow.lt h.o k hk).1; omega)
theorem Ods.s {w0 : World} {base : Nat} {v : Value} {L : List OV} {cur : World} (h : Ods w0 base v L cur) : OsS cur v L := ⟨Rd.ofOwn h.o, h.p⟩
/- LOOP -/
end Go.Proofs.YtpadflhffiiglaaGreat

/- law15.Like: the same orders. -/
namespace Go.Proofs.YtpadflhffiiglaaGreat
open Go.RowKit

theorem exec_load_at {P : Program} {o : Oper} {a : Act} {ty : TypeId} {x : Operand} {w : World} {ad : Addr} {cs : List Value} {d : TypeDesc} (ho : o.op = .load ty x) (hx : a.eval x = .pointer (some ad)) (hc : ∀ j v, cs[j]? = some v → w.cell? (ad.add j) = some v)
    (hu : P.underlying ty = some d) (hd : (match d with | .struct _ | .array _ _ => true | _ => false) = true) (hi : (P.info? ty).map (·.size) = some cs.length) : (execOp a.eval o).run P w = .ok (.value (.agg cs.toArray)) w := by
  unfold execOp
  simp only [ho, hx, Instr.loadAt, Instr.sureAddr, Sem.run_bind, Sem.run_pure, Result.andThen_ok, run_loadVar_at w ad ty cs d hc hu hd hi]
theorem cellsChg {w wx : World} {b k : Nat} {cs : List Value} (h : ∀ j v, cs[j]? = some v → w.cell? ((⟨b, k, none⟩ : Addr).add j) = some v) (hc : Chg [] w wx) (hb : b < w.heap.size) : ∀ j v, cs[j]? = some v → wx.cell? ((⟨b, k, none⟩ : Addr).add j) = some v := fun j v hv => by
  rw [hc.cell (p := (⟨b, k, none⟩ : Addr).add j) (by unfold Addr.add; split <;> simpa using hb) (by simp)]
  exact h j v hv
end Go.Proofs.YtpadflhffiiglaaGreat
