/- Words and walks that SF rests on: MapU, MapI, DiskSettle, DiskCrash. -/
import Derived.Test.YtbiadpkglcdihaaGreatWSF12
import Derived.Test.YtbiadpkglcdihaaGreatWSF1
import Derived.Carry
import Derived.Test.YtbiadpkglcdihaaGreatWSF2
/- m[k] = v at a key that is there, while m is ranged over. -/
namespace Go.Proofs.YtbiadpkglcdihaaGreat
open Go.RowKit
open Go.ChangeMaps Go.MapKept
open Go.WideElems (Fit rd pl rd_val elemAt)
open Go.Maps (Keyed)

section
variable {P : Program} {k : TypeId} {w : World} {b : Nat} {es : Array MapEntry} {clock : Nat} {R : Value → Option (DataW Unit × List MemPlace)}

theorem run_store_there {t e : TypeId} (K : Keyed P k) (ht : P.underlying t = some (.map k e)) (hb : w.heap[b]? = some (.map es clock)) {key val : Value} {kl : Lit} (hkey : keyOf P k key = some kl) {j : Nat} {e0 : MapEntry}
    (h1 : (Instr.findKey k key es.toList).run P w = .ok (some (j, e0.val)) w) (h2 : es.toList[j]? = some e0) (h3 : e0.key = key) :
    (Instr.mapUpdate t (.map (some b)) key val).run P w = .ok () (setBlock w b (.map (es.modify j (fun e' => { e' with key := key, val := val })) clock)) := by
  have hj : es[j]? = some e0 := by simpa using h2
  simp [Instr.mapUpdate, run_underlying ht, MapKept.run_getObj_map hb, K.check w false hkey, h1, hj, h3, K.stays w hkey, MapKept.run_setObj_map _ hb, Result.andThen, setBlock]
theorem ranges_store {t e : TypeId} {r n cnt : Nat} {D : DataW Unit} {left : Lit → Bool} (h : w.ranges P k R b r n D left cnt) (K : Keyed P k) (ht : P.underlying t = some (.map k e)) {key val : Value} {kl : Lit} (hkey : keyOf P k key = some kl)
    (hin : Maps.has D kl = true) {d : DataW Unit} {ps : List MemPlace} (hv : R val = some (d, ps)) (hn : n < maxLen) :
    ∃ w', (Instr.mapUpdate t (.map (some b)) key val).run P w = .ok () w' ∧ w'.ranges P k R b r n (D.put kl d) left cnt ∧ w.mapTurned w' b := by
  have hne := h.ne
  obtain ⟨es, clock, since, seen, c0, hb, F, hs, rfl, hr, hold, hcnt, hl1, hl2, hsc, hsk⟩ := h
  rcases K.find w hkey es.toList F.keys with ⟨h1, h2⟩ | ⟨j, e0, h1, h2, h3⟩
  · exfalso
    rw [Maps.has_eq, List.any_eq_true] at hin
    obtain ⟨p, hp, hs⟩ := hin
    obtain ⟨x, hx, rfl⟩ := List.mem_map.1 (mem_sorted.1 hp)
    obtain ⟨y, hy⟩ := F.reads x hx
    have e1 : (WideElems.rg P k R x).1 = kl := by
      by_cases he : (WideElems.rg P k R x).1 = kl
      · exact he
      · rw [Maps.sameKey_ne he] at hs; cases hs
    rw [WideElems.rg_of hy] at e1
    exact h2 x hx (K.inj (e1 ▸ WideElems.rd_key hy) hkey)
  · have hrun := run_store_there (w := w) K ht hb (val := val) hkey h1 h2 h3
    obtain ⟨es', clock', hrun', F', hput, -⟩ := Maps.fit_store (R' := R) K ht hb F (Nat.lt_of_le_of_lt hs hn) (fun _ _ _ _ hz => hz) hkey hv
    have heq : es' = es.modify j (fun e' => { e' with key := key, val := val }) ∧ clock' = clock := by
      have := hrun'.symm.trans hrun
      simp only [Result.ok.injEq, true_and] at this
      have h5 := congrArg (fun W : World => W.heap[b]?) this
      simp only [heap_setBlock_same hb] at h5
      simpa using h5
    obtain ⟨rfl, rfl⟩ := heq
    have hlist : (es.modify j (fun e' => { e' with key := key, val := val })).toList = es.toList.set j { e0 with key := key, val := val } := by
      rw [Array.toList_modify]
      apply List.ext_getElem?
      intro i
      rw [List.getElem?_modify, List.getElem?_set]
      by_cases hij : j = i
      · subst hij
        rw [h2]
        have : j < es.toList.length := (List.getElem?_eq_some_iff.1 h2).1
        simp
        simpa using this
      · simp [hij]
    have hk0 : (WideElems.rg P k R e0).1 = kl := by
      obtain ⟨y, hy⟩ := F.reads e0 (List.mem_of_getElem? h2)
      have m1 := WideElems.rd_key hy
      rw [h3, hkey] at m1
      rw [WideElems.rg_of hy]
      exact (Option.some.inj m1).symm
    have hk1 : (WideElems.rg P k R { e0 with key := key, val := val }).1 = kl := by rw [WideElems.rg_of (WideElems.rd_mk hkey hv)]
    have hme := List.mem_of_getElem? h2
    have who : ∀ x ∈ es.toList.set j { e0 with key := key, val := val }, x = { e0 with key := key, val := val } ∨ x ∈ es.toList := fun x hx => (List.mem_or_eq_of_mem_set hx).symm
    refine ⟨_, hrun, ⟨_, _, since, seen, c0, heap_setBlock_same hb _, F', by simpa using hs, by rw [DataW.put_eq, hput], (heap_setBlock_other hb _ hne).trans hr, fun x hx => ?_, ?_, fun x hx => ?_, fun x0 hx0 => ?_, hsc, hsk⟩, ⟨es, _, _, _, hb, rfl⟩⟩
    · rw [hlist] at hx
      rcases who x hx with rfl | hx
      · exact hold e0 hme
      · exact hold x hx
    · have e1 : ∀ a : Array MapEntry, (leftOf a seen).size = (a.toList.filter fun e => !seen.contains e.born).length := fun a => by
        unfold leftOf
        rw [← Array.toList_filter, Array.length_toList]
      rw [e1] at hcnt ⊢
      rw [hlist, ← hcnt, ← List.countP_eq_length_filter, ← List.countP_eq_length_filter]
      have e2 : ∀ l : List MapEntry, l.countP (fun e => !seen.contains e.born) = (l.map (·.born)).countP (fun z => !seen.contains z) := fun l => by rw [List.countP_map]; rfl
      rw [e2, e2, List.map_set]
      congr 1
      apply List.ext_getElem?
      intro i
      rw [List.getElem?_set]
      by_cases hij : j = i
      · subst hij
        have : j < (es.toList.map (·.born)).length := by rw [List.length_map]; exact (List.getElem?_eq_some_iff.1 h2).1
        rw [if_pos rfl, if_pos this, List.getElem?_map, h2]
        rfl
      · rw [if_neg hij]
    · rw [hlist] at hx
      rcases who x hx with rfl | hx
      · rw [hk1, ← hk0]; exact hl1 e0 hme
      · exact hl1 x hx
    · obtain ⟨x, hx, rfl⟩ := hl2 x0 hx0
      rw [hlist]
      obtain ⟨i, hi, rfl⟩ := List.getElem_of_mem hx
      by_cases hij : j = i
      · subst hij
        have he : es.toList[j] = e0 := by rw [List.getElem?_eq_getElem hi] at h2; exact Option.some.inj h2
        exact ⟨_, List.mem_set hi _, by rw [hk1, he, hk0]⟩
      · exact ⟨es.toList[i], by rw [List.mem_iff_getElem?]; exact ⟨i, by rw [List.getElem?_set_ne hij, List.getElem?_eq_getElem hi]⟩, rfl⟩
end
theorem MapRange.chg {S : List Nat} {w w' : World} {b r : Nat} {es rest : Nm} (h : MapRange w b r es rest) (hc : Chg S w w') (hb : b ∉ S) (hr : r ∉ S) : MapRange w' b r es rest ∧ w'.rangeLeft b r = w.rangeLeft b r := by
  have hlt1 := h.map.lt
  have hlt2 := h.lt
  obtain ⟨D, lf, cnt, hrg, hR, hnd, hsub, hleft⟩ := h
  have hrg2 : w'.ranges Tryz.prog 9 (plainElem Tryz.prog 3) b r es.length D lf cnt := by
    obtain ⟨xs, clock, since, seen, c0, h1, F, hs, hD, h2, rest⟩ := hrg
    exact ⟨xs, clock, since, seen, c0, (hc.block b hlt1 hb).trans h1, F, hs, hD, (hc.block r hlt2 hr).trans h2, rest⟩
  exact ⟨⟨D, lf, cnt, hrg2, hR, hnd, hsub, hleft⟩, by rw [hrg2.left_eq, hrg.left_eq]⟩
theorem nget_mem_isSome {es : Nm} {s : List UInt8} {i : Nat} (h : (s, i) ∈ es) : (nget es s).isSome := by
  rcases hn : nget es s with _ | j
  · exfalso
    unfold nget at hn
    rw [Option.map_eq_none_iff, List.find?_eq_none] at hn
    exact hn _ h (by simp)
  · rfl
/-- The same map, told in another order. -/
theorem MapAt.congr {w : World} {b : Nat} {es es' : Nm} (h : MapAt w b es) (hn : (es'.map (·.1)).Nodup) (hl : es'.length = es.length) (hg : ∀ k, nget es' k = nget es k) : MapAt w b es' := by
  obtain ⟨D, h1, hr⟩ := h
  rw [← hl] at h1
  refine ⟨D, h1, ⟨hn, fun k z => by rw [hg]; exact hr.at_ k z, fun k => by rw [hg]; exact hr.has k, by rw [hl]; exact hr.size, hr.tidy, fun p hp => ?_⟩⟩
  have := mem_nget hn (s := p.1) (i := p.2) hp
  rw [hg] at this
  exact hr.wf _ (nget_some_mem this)
/-- 'm[k] = v' at a key that is there: the range goes on. -/
theorem wpPutR {w : World} {o : Oper} {a : Act} {K : Act → World → Prop} {Q : Exit → Act → World → Prop} (hdst : o.dst = none) (m x v : Operand) (hop : o.op = Op.mapUpdate 71 m x v)
    (b r : Nat) (es rest : Nm) (s : List UInt8) (i : Nat) (hm : a.eval m = .map (some b)) (hx : a.eval x = .string (strB s)) (hv : a.eval v = .int .i64 (i : Int)) (h : MapRange w b r es rest) (hin : (nget es s).isSome) (hs : s.length ≤ 9223372036854775807) (hi : i ≤ 4611686018427387904) (hn : es.length ≤ 10000000000000)
    (hno : nget rest s = none) (hK : ∀ w', MapRange w' b r (nput es s i) rest → w.grownBy w' (some b) → (nput es s i).length = es.length → w'.rangeLeft b r = w.rangeLeft b r → K a w') : o.wp Tryz.prog a w K Q := by
  obtain ⟨D, lf, cnt, hrg, hr, hnd, hsub, hleft⟩ := h
  obtain ⟨w', hrun, h1, h2⟩ := ranges_store hrg strKeyed undMapN (keyStr' s hs) (by rw [hr.has]; exact hin) (plainElem_int undInt (wfNat hi)) (by unfold maxLen; omega)
  have hsz : (nput es s i).length = es.length := by
    have h3 := length_ndel hr.nodup s
    rw [if_pos hin] at h3
    unfold nput
    rw [List.length_append]
    simp only [List.length_cons, List.length_nil]
    omega
  unfold Oper.wp
  simp [execOp, hop, hm, hx, hv, hrun, Result.andThen]
  have e : a.put o.dst undef = a := by rw [hdst]; rfl
  show K (a.put o.dst undef) w'
  rw [e]
  refine hK w' ⟨_, lf, cnt, by rw [hsz]; exact h1, hr.put s i hi, hnd, fun p hp => ?_, hleft⟩ h2.grown hsz (by rw [h1.left_eq, hrg.left_eq])
  unfold nput
  refine List.mem_append.2 (.inl (List.mem_filter.2 ⟨hsub p hp, ?_⟩))
  have : p.1 ≠ s := fun e => by
    have := nget_mem_isSome (es := rest) (s := s) (i := p.2) (by rw [← e]; exact hp)
    rw [hno] at this
    cases this
  simpa using this
end Go.Proofs.YtbiadpkglcdihaaGreat

/- Maps of a call's own with int keys, as functions. -/
namespace Go.Proofs.YtbiadpkglcdihaaGreat
open Go.RowKit

theorem intKeyed : Maps.Keyed Tryz.prog 3 := Maps.int_keyed undInt
theorem undMapII : Tryz.prog.underlying 62 = some (.map 3 3) := by kernel_rfl
theorem undMapIB : Tryz.prog.underlying 166 = some (.map 3 4) := by kernel_rfl
theorem undBool : Tryz.prog.underlying 4 = some .bool := by kernel_rfl
theorem zeroBool (w : World) : (zeroValue 4).run Tryz.prog w = .ok (.bool false) w := by kernel_rfl
/-- Block b is a map from ints that says f, and z where it holds nothing; at most n entries. -/
def MapF (w : World) (et : TypeId) (b n : Nat) (z : Lit) (f : Int → Lit) : Prop :=
  ∃ D : DataW Unit, w.ownsMap Tryz.prog 3 (plainElem Tryz.prog et) b n D ∧ Maps.IsMap D ∧ ∀ i : Int, D.atKey (.int .i64 i) (.lit z) = .lit (f i)
theorem MapF.lt {w : World} {et : TypeId} {b n : Nat} {z : Lit} {f : Int → Lit} (h : MapF w et b n z f) : b < w.heap.size := let ⟨_, h1, _⟩ := h; h1.lt
theorem MapF.block {w w' : World} {et : TypeId} {b n : Nat} {z : Lit} {f : Int → Lit} (h : MapF w et b n z f) (hc : w'.heap[b]? = w.heap[b]?) : MapF w' et b n z f := by
  obtain ⟨D, ⟨xs, clock, hb, r⟩, hr⟩ := h
  exact ⟨D, ⟨xs, clock, hc.trans hb, r⟩, hr⟩
theorem MapF.chg {S : List Nat} {w w' : World} {et : TypeId} {b n : Nat} {z : Lit} {f : Int → Lit} (h : MapF w et b n z f) (hc : Chg S w w') (hn : b ∉ S) : MapF w' et b n z f := h.block (hc.block b h.lt hn)
theorem MapF.k {w w' : World} {et : TypeId} {b n : Nat} {z : Lit} {f : Int → Lit} (h : MapF w et b n z f) (hc : Chg [] w w') : MapF w' et b n z f := h.chg hc (by simp)
theorem MapF.heap {w : World} {et : TypeId} {b n : Nat} {z : Lit} {f : Int → Lit} (h : MapF w et b n z f) : ∃ xs c, w.heap[b]? = some (.map xs c) := by
  obtain ⟨_, ⟨xs, c, hb, _⟩, _⟩ := h; exact ⟨xs, c, hb⟩
theorem MapF.apartRow {w : World} {et : TypeId} {b n : Nat} {z : Lit} {f : Int → Lit} (h : MapF w et b n z f) {base : Nat} {e : TypeId} {size m : Nat} {v : Value} {xs : List Value} (hr : w.ownsRow base e size v m xs) : v.ownBlock ≠ some b := by
  intro he
  obtain ⟨ys, c, hx⟩ := h.heap
  rcases hr.2 with ⟨rfl, _⟩ | ⟨g, cap, cur, rfl, _, hg, _⟩
  · simp [Value.ownBlock] at he
  · simp only [Value.ownBlock, Option.some.injEq] at he
    subst he
    rw [hx] at hg
    simp at hg
theorem MapF.grown {w w' : World} {row : Option Nat} {et : TypeId} {b n : Nat} {z : Lit} {f : Int → Lit} (h : MapF w et b n z f) (hg : w.grownBy w' row) (hn : some b ≠ row) : MapF w' et b n z f := h.block (hg.block b h.lt hn)
theorem MapF.alloc {w : World} {et : TypeId} {b n : Nat} {z : Lit} {f : Int → Lit} (h : MapF w et b n z f) (o : Obj) : MapF (w.alloc o) et b n z f := h.k ((Chg.refl _ _).alloc o)
theorem MapF.new (w : World) (et : TypeId) (z : Lit) : MapF (w.alloc (.map #[] 0)) et w.heap.size 0 z (fun _ => z) := ⟨.map [], World.ownsMap_made w _ _ _, Maps.isMap_empty, fun _ => rfl⟩
theorem keyInt {i : Int} (h : (Lit.int .i64 i).wf = true) : keyOf Tryz.prog 3 (.int .i64 i) = some (.int .i64 i) := Maps.keyOf_int_mk undInt h
theorem int_ne {a b : Int} (h : a ≠ b) : (Lit.int .i64 a) ≠ Lit.int .i64 b := fun e => h (by injection e)
/-- 'm[k]' of ints. -/
theorem run_lookII {w : World} {b n : Nat} {f : Int → Lit} (h : MapF w 3 b n (.int .i64 0) f) {i : Int} (hi : (Lit.int .i64 i).wf = true) :
    ∃ c, (Instr.lookup 62 (.map (some b)) (.int .i64 i) false).run Tryz.prog w = .ok (.int .i64 c) w ∧ f i = .int .i64 c := by
  obtain ⟨D, hown, -, hat⟩ := h
  obtain ⟨c, hrun, hc, -⟩ := hown.lookup_int intKeyed undMapII undInt (zeroInt w) (keyInt hi)
  refine ⟨c, hrun, ?_⟩
  rw [hat] at hc
  simpa using hc
/-- 'm[k] = v' of ints, of bools. -/
theorem run_putF {w : World} {t et : TypeId} {b n : Nat} {z : Lit} {f : Int → Lit} (ht : Tryz.prog.underlying t = some (.map 3 et)) (h : MapF w et b n z f) (hn : n < maxLen) {i : Int} (hi : (Lit.int .i64 i).wf = true) {v : Value} {l : Lit} (hv : plainElem (H := Unit) Tryz.prog et v = some (.lit l, [])) :
    ∃ w', (Instr.mapUpdate t (.map (some b)) (.int .i64 i) v).run Tryz.prog w = .ok () w' ∧ MapF w' et b (n + 1) z (fun j => if j = i then l else f j) ∧ w.grownBy w' (some b) := by
  obtain ⟨D, hown, hm, hat⟩ := h
  obtain ⟨w', hrun, h1, h2⟩ := hown.update intKeyed ht hn (keyInt hi) hv
  refine ⟨w', hrun, ⟨_, h1, hm.put _ _, fun j => ?_⟩, h2⟩
  by_cases hj : j = i
  · subst hj; rw [Maps.atKey_put_same hm (intKeyed.key (keyInt hi))]; simp
  · simp only [if_neg hj]; rw [Maps.atKey_put_other (int_ne hj), hat]
theorem wpPutF {w : World} {ops : Array Oper} {rest : List Oper} {o : Oper} {a : Act} {Q : Exit → Act → World → Prop} (hg : o.guard = none) (hdst : o.dst = none) (m x v : Operand) (t et : TypeId) (hop : o.op = Op.mapUpdate t m x v) (ht : Tryz.prog.underlying t = some (.map 3 et))
    (b n : Nat) (z : Lit) (f : Int → Lit) (h : MapF w et b n z f) (hm : a.eval m = .map (some b)) (hn : n < maxLen) (i : Int) (hi : (Lit.int .i64 i).wf = true) (val : Value) (l : Lit) (hx : a.eval x = .int .i64 i) (hv : a.eval v = val) (hp : plainElem (H := Unit) Tryz.prog et val = some (.lit l, []))
    (hK : ∀ w', MapF w' et b (n + 1) z (fun j => if j = i then l else f j) → w.grownBy w' (some b) → wpList Tryz.prog ops Q rest a w') : wpList Tryz.prog ops Q (o :: rest) a w := by
  refine wpList_plain hg fun K' hK' => ?_
  obtain ⟨w', hrun, h1, h2⟩ := run_putF ht h hn hi hp
  unfold Oper.wp
  simp [execOp, hop, hm, hx, hv, hrun, Result.andThen]
  have e : a.put o.dst undef = a := by rw [hdst]; rfl
  exact hK' (a.put o.dst undef) w' (by rw [e]; exact hK w' h1 h2)
/-- 'm[k]' of bools. -/
theorem run_lookIB {w : World} {b n : Nat} {f : Int → Lit} (h : MapF w 4 b n (.bool false) f) {i : Int} (hi : (Lit.int .i64 i).wf = true) {x : Bool} (hx : f i = .bool x) :
    (Instr.lookup 166 (.map (some b)) (.int .i64 i) false).run Tryz.prog w = .ok (.bool x) w := by
  obtain ⟨D, hown, -, hat⟩ := h
  obtain ⟨v, ps, hrun, hv⟩ := hown.lookup intKeyed undMapIB (zeroBool w) (plainElem_bool undBool false) (keyInt hi)
  rw [hat, hx] at hv
  have : v = .bool x := by
    unfold plainElem at hv
    rw [undBool] at hv
    cases v <;> simp at hv
    rw [hv.1]
  rw [hrun, this]
end Go.Proofs.YtbiadpkglcdihaaGreat

/- Disk.settle. -/
namespace Go.Proofs.YtbiadpkglcdihaaGreat
open Go.RowKit

variable {w : World} {fp : List Nat} {b : Nat} {fv cv : Value} {nb sb : Nat} {hs : List HF} {d : Dsk}

def keepH (es : Nm) (hs : List HF) (n : Nat) : List HF := ((List.range n).filter (namedN es)).map fun i => ((hs.getD i (.slice none 0 0, [], 0)).1, (hs.getD i (.slice none 0 0, [], 0)).2.1, (hs.getD i (.slice none 0 0, [], 0)).2.1.length)
theorem keepH_length (es : Nm) (hs : List HF) (n : Nat) : (keepH es hs n).length = atN es n := by simp [keepH, atN]
theorem keepH_succ (es : Nm) (hs : List HF) (n : Nat) (h : n < hs.length) : keepH es hs (n + 1) = keepH es hs n ++ (if namedN es n then [(hs[n].1, hs[n].2.1, hs[n].2.1.length)] else []) := by
  have e : hs.getD n (.slice none 0 0, [], 0) = hs[n] := by rw [List.getD_eq_getElem?_getD, List.getElem?_eq_getElem h]; rfl
  unfold keepH; rw [List.range_succ, List.filter_append, List.map_append]; by_cases h : namedN es n <;> simp [h, e, -List.getD_eq_getElem?_getD]
theorem keepH_same (es : Nm) (hs : List HF) (n : Nat) : (keepH es hs n).map (·.2) = keepF es (hs.map (·.2)) n := by
  unfold keepH keepF
  rw [List.map_map]
  apply List.map_congr_left
  intro i _
  simp only [Function.comp, List.getD_eq_getElem?_getD, List.getElem?_map]
  cases hs[i]? <;> rfl
theorem keepH_mem {es : Nm} {hs : List HF} {n : Nat} (hn : n ≤ hs.length) {f : HF} (h : f ∈ keepH es hs n) : ∃ g ∈ hs, f = (g.1, g.2.1, g.2.1.length) := by
  obtain ⟨i, hi, rfl⟩ := List.mem_map.1 h
  have hi2 : i < hs.length := by have := List.mem_range.1 (List.mem_filter.1 hi).1; omega
  refine ⟨hs[i], List.getElem_mem hi2, ?_⟩
  rw [List.getD_eq_getElem?_getD, List.getElem?_eq_getElem hi2]; rfl
theorem keepH_apart {es : Nm} {hs : List HF} {n : Nat} (hn : n ≤ hs.length) (h : hs.Pairwise ApartV) : (keepH es hs n).Pairwise ApartV := by
  unfold keepH
  rw [List.pairwise_map]
  refine List.Pairwise.imp_of_mem ?_ ((List.pairwise_lt_range (n := n)).filter _)
  intro i j hi hj hij
  have hi2 : i < hs.length := by have := List.mem_range.1 (List.mem_filter.1 hi).1; omega
  have hj2 : j < hs.length := by have := List.mem_range.1 (List.mem_filter.1 hj).1; omega
  rw [List.getD_eq_getElem?_getD, List.getElem?_eq_getElem hi2, List.getD_eq_getElem?_getD, List.getElem?_eq_getElem hj2]
  exact pw_get h apartV_symm hi2 hj2 (by omega)
/-- What the map 'at' says behind file k. -/
def atF (es : Nm) (k : Nat) (j : Int) : Lit := .int .i64 (if 0 ≤ j ∧ j < k ∧ namedN es j.toNat = true then (atN es j.toNat : Int) else 0)
theorem atF_zero (es : Nm) : atF es 0 = fun _ => Lit.int .i64 0 := by funext j; unfold atF; rw [if_neg (by omega)]
theorem atF_succ (es : Nm) (k : Nat) : atF es (k + 1) = if namedN es k = true then (fun j => if j = (k : Int) then Lit.int .i64 (atN es k : Int) else atF es k j) else atF es k := by
  by_cases hk : namedN es k = true
  · rw [if_pos hk]
    funext j
    unfold atF
    by_cases hj : j = (k : Int)
    · subst hj
      have : (k : Int) < ((k + 1 : Nat) : Int) := by omega
      simp [hk]
      omega
    · rw [if_neg hj]
      have : (j < ((k + 1 : Nat) : Int)) ↔ j < (k : Int) := by omega
      simp only [this]
  · rw [if_neg hk]
    funext j
    unfold atF
    by_cases hj : j = (k : Int)
    · subst hj
      have : ¬ (namedN es ((k : Int)).toNat = true) := by simpa using hk
      rw [if_neg (fun h => this h.2.2), if_neg (fun h => this h.2.2)]
    · have : (j < ((k + 1 : Nat) : Int)) ↔ j < (k : Int) := by omega
      simp only [this]
theorem atF_at (es : Nm) (k i : Nat) (hi : i < k) (hn : namedN es i = true) : atF es k (i : Int) = .int .i64 (atN es i : Int) := by
  unfold atF; rw [if_pos ⟨by omega, by omega, by simpa using hn⟩]; simp

/-- What the names say while they are turned. -/
def HalfN (es0 rest es : Nm) : Prop := (es.map (·.1)).Nodup ∧ es.length = es0.length ∧ (∀ p ∈ rest, p ∈ es0) ∧ ∀ k, nget es k = if (nget rest k).isSome then nget es0 k else (nget es0 k).map (atN es0)
theorem HalfN.start {es : Nm} (h : (es.map (·.1)).Nodup) : HalfN es es es := ⟨h, rfl, fun _ hp => hp, fun k => by rcases hk : nget es k with _ | i <;> simp⟩
theorem HalfN.step {es0 rest es : Nm} (h : HalfN es0 rest es) (hn : (es0.map (·.1)).Nodup) (_hr : (rest.map (·.1)).Nodup) {k : List UInt8} {i : Nat} (hm : (k, i) ∈ rest) (hl : (nput es k (atN es0 i)).length = es.length) : HalfN es0 (ndel rest k) (nput es k (atN es0 i)) := by
  obtain ⟨h1, h2, h3, h4⟩ := h
  refine ⟨nodup_put h1 _ _, by rw [hl, h2], fun p hp => h3 p (List.mem_filter.1 hp).1, fun j => ?_⟩
  by_cases hj : j = k
  · subst hj
    rw [nget_put_same, nget_del_same, mem_nget hn (h3 _ hm)]; simp
  · rw [nget_put_other hj, nget_del_other hj, h4]
theorem HalfN.done {es0 es : Nm} (h : HalfN es0 [] es) (k : List UInt8) : nget (movedN es0) k = nget es k := by
  rw [nget_moved, h.2.2.2 k, nget_nil]; simp
theorem GoodD.moved {d : Dsk} (h : GoodD d) : GoodD { d with names := movedN d.names } := by
  refine { h with named := fun p hp => ?_, nnames := ?_ }
  · obtain ⟨q, hq, rfl⟩ := List.mem_map.1 hp
    exact Nat.lt_of_le_of_lt (atN_le _ _) (h.named q hq)
  · show ((movedN d.names).length : Int) ≤ d.ops
    unfold movedN; rw [List.length_map]; exact h.nnames

theorem settle_fin {wr wC : World} {L : List HF} {ao2 : Option Addr} {c2 : Nat} (D : DkP wC fp b fv cv nb sb hs { d with names := movedN d.names })
    (row : wC.ownsRow w.heap.size 85 2 (.slice ao2 L.length c2) L.length (fileCells L)) (HG : GoodD d) (HML : ∀ f ∈ L, ∃ g ∈ hs, f = (g.1, g.2.1, g.2.1.length))
    (HSM : L.map (·.2) = keepF d.names (hs.map (·.2)) hs.length) (HAP : L.Pairwise ApartV) (hsame : hs.map (·.2) = d.files) (hlt : nb < wr.heap.size) (hmc : MapAt wC wr.heap.size (movedN d.names)) (hcy : Chg [nb] w wr) (hcc : Chg [] wr wC) :
    DkOut w fp b (settleD d) ((((((wC.setCell ⟨b, 1, none⟩ (.slice ao2 L.length c2)).setCell ⟨b, 3, none⟩ (.map (some wr.heap.size))).setCell ⟨b, 4, none⟩ (.slice none 0 0)).setCell ⟨b, 8, none⟩ (.bool false)).setCell ⟨b, 6, none⟩ (.int .i64 (-1))).setCell ⟨b, 7, none⟩ (.int .i64 (-1))) := by
  have hbox : Blk ((((((wC.setCell ⟨b, 1, none⟩ (.slice ao2 L.length c2)).setCell ⟨b, 3, none⟩ (.map (some wr.heap.size))).setCell ⟨b, 4, none⟩ (.slice none 0 0)).setCell ⟨b, 8, none⟩ (.bool false)).setCell ⟨b, 6, none⟩ (.int .i64 (-1))).setCell ⟨b, 7, none⟩ (.int .i64 (-1))) b
      (boxCells (.slice ao2 L.length c2) (.slice none 0 0) nb wr.heap.size (settleD d)) 75 :=
    (((((D.box.set 1 _).set 3 _).set 4 _).set 8 _).set 6 _).set 7 _
  have hch : Chg [b] wC ((((((wC.setCell ⟨b, 1, none⟩ (.slice ao2 L.length c2)).setCell ⟨b, 3, none⟩ (.map (some wr.heap.size))).setCell ⟨b, 4, none⟩ (.slice none 0 0)).setCell ⟨b, 8, none⟩ (.bool false)).setCell ⟨b, 6, none⟩ (.int .i64 (-1))).setCell ⟨b, 7, none⟩ (.int .i64 (-1))) :=
    ((((((Chg.refl _ _).setCell _ _ (by simp)).setCell _ _ (by simp)).setCell _ _ (by simp)).setCell _ _ (by simp)).setCell _ _ (by simp)).setCell _ _ (by simp)
  generalize ((((((wC.setCell ⟨b, 1, none⟩ (.slice ao2 L.length c2)).setCell ⟨b, 3, none⟩ (.map (some wr.heap.size))).setCell ⟨b, 4, none⟩ (.slice none 0 0)).setCell ⟨b, 8, none⟩ (.bool false)).setCell ⟨b, 6, none⟩ (.int .i64 (-1))).setCell ⟨b, 7, none⟩ (.int .i64 (-1))) = W at *
  have hrb := ownsRow_apart row D.box (by decide)
  have hcf : Chg fp w W := ((hcy.mono (S' := fp) (by simp only [List.mem_singleton]; rintro x rfl _; exact D.fpn)).trans hcc (by simp)).trans hch (by simp only [List.mem_singleton]; rintro x rfl _; exact D.fpb)
  refine DkOut.mk (fp' := (Value.slice ao2 L.length c2).ownBlock.toList ++ wr.heap.size :: fp) ⟨.slice ao2 L.length c2, .slice none 0 0, nb, wr.heap.size, L, ?_⟩ hcf ?_
  · exact
    { box := hbox
      names := D.names.chg hch (by simpa using D.names.apart D.box)
      sure := hmc.chg hch (by simpa using hmc.apart D.box)
      files := ownsRow_mono (ownsRow_chg row hch fun k hk => by rw [hk] at hrb; simpa using hrb) (Nat.zero_le _)
      same := by rw [HSM, hsame]; show _ = keepF d.names d.files d.files.length; rw [← hsame, List.length_map]
      changes := World.ownsRow_nil _ _ _ _
      bytes := fun f hf => by
        obtain ⟨g, hg, rfl⟩ := HML f hf
        exact OwB.chg (D.bytes g hg) hch fun k hk => by have := ownsRow_apart (D.bytes g hg) D.box (by decide); rw [hk] at this; simpa using this
      apart := HAP
      ne := by omega
      fpb := by simp [D.fpb]
      fpn := by simp [D.fpn]
      fps := by simp
      fpf := fun k hk => by simp [hk]
      fpc := by simp [Value.ownBlock]
      fph := fun f hf k hk => by
        obtain ⟨g, hg, rfl⟩ := HML f hf
        simp [D.fph g hg k hk]
      fpl := fun k hk => by
        refine Nat.lt_of_lt_of_le ?_ hch.size
        rcases List.mem_append.1 hk with hk | hk
        · exact (World.ownsRow.lt row k (by simpa using hk)).2
        · rcases List.mem_cons.1 hk with rfl | hk
          · exact hmc.lt
          · exact D.fpl k hk
      good := HG.settle (fun f hf => (HG.files f hf).2) }
  · intro k hk
    rcases List.mem_append.1 hk with hk | hk
    · exact .inr (World.ownsRow.lt row k (by simpa using hk)).1
    · rcases List.mem_cons.1 hk with rfl | hk
      · exact .inr hcy.size
      · exact .inl hk

set_option maxRecDepth 100000 in
set_option maxHeartbeats 2000000 in
theorem settle_any (h : DkP w fp b fv cv nb sb hs d) : Calls Tryz.prog 55 #[.pointer (some ⟨b, 0, none⟩)] w fun e w' => e = .returned (.tuple #[]) ∧ DkOut w fp b (settleD d) w' := by
  have hmm := @run_makeMap Tryz.prog
  have H := hd h
  have m3 := MapF.new w 3 (.int .i64 0)
  have m4 := MapF.new (w.alloc (.map #[] 0)) 4 (.bool false)
  have e1 : (w.alloc (.map #[] 0)).heap.size = w.heap.size + 1 := by simp
  rw [e1] at m4
  have hcA : Chg [] w ((w.alloc (.map #[] 0)).alloc (.map #[] 0)) := ((Chg.refl [] w).alloc _).alloc _
  replace m3 := m3.k ((Chg.refl [] _).alloc (.map #[] 0))
  clear e1 h
  go_enter Tryz.func55, Tryz.ntmps55
  go_upto_region 3 with (fail)
  have hzA2 : ((w.alloc (.map #[] 0)).alloc (.map #[] 0)).heap.size = w.heap.size + 2 := by simp
  generalize (w.alloc (.map #[] 0)).alloc (.map #[] 0) = wA at *
  have q2 := (H.out.k hcA).box.cell 2
  simp [boxCells] at q2
  have hN := (H.out.k hcA).names
  have hzA := hcA.size
  go_wp2_with (at_range; refine wpRangeM rfl _ rfl nb _ rfl hN ?_; intro w1 hr1 hc1)
  have hR : w.heap.size + 2 ≤ wA.heap.size := by omega
  have HZA := hd hzA2
  clear hzA2
  replace m3 := m3.k hc1
  replace m4 := m4.k hc1
  have hc01 := hcA.k hc1
  have hg := H.out.good
  obtain ⟨aof, cf, rfl⟩ : ∃ ao c, fv = .slice ao hs.length c := by
    rcases H.out.files.2 with ⟨rfl, hz⟩ | ⟨g, cap, cur, rfl, _⟩
    · exact ⟨none, 0, by rw [hz]⟩
    · exact ⟨_, cap, rfl⟩
  have hnl : (d.names.length : Int) ≤ d.ops := hg.nnames
  have hfl : (hs.length : Int) ≤ d.ops := by rw [H.out.len]; exact hg.nfiles
  have hol : d.ops ≤ 1073741824 := hg.ops.2
  have hnb : nb < w.heap.size := H.out.names.lt
  have HG := hd hg
  clear hmm hN q2 hc1 hg
  go_frame
  go_loopw [6] (fun _ wr => ∃ (rest : Nm) (n : Nat) (f : Int → Lit), MapRange wr nb wA.heap.size d.names rest ∧ MapF wr 4 (w.heap.size + 1) n (.bool false) f ∧ MapF wr 3 w.heap.size 0 (.int .i64 0) (fun _ => .int .i64 0) ∧ n + rest.length ≤ d.names.length ∧
      (∀ p ∈ d.names, p ∈ rest ∨ f (p.2 : Nat) = .bool true) ∧ (∀ j : Nat, f j = .bool true → namedN d.names j = true) ∧ (∀ j : Nat, f j = .bool true ∨ f j = .bool false) ∧ Chg [] w wr)
    (fun _ wr => wr.rangeLeft nb wA.heap.size)
  case atStart => exact ⟨d.names, 0, _, hr1, m4, m3, by omega, fun p hp => .inl hp, fun j h => absurd h (by simp), fun j => .inr rfl, hc01⟩
  case round =>
    obtain ⟨rest, n, f, hr, hm4, hm3, hn, g1, g2, g3, hc⟩ := hrel
    have G1 := hd g1
    have G2 := hd g2
    have G3 := hd g3
    clear g1 g2 g3
    go_wp2_with (at_next; refine wpNextM rfl _ rfl nb wA.heap.size d.names rest rfl hr ?_ ?_)
    · rintro rfl
      have hf : ∀ j : Nat, f j = .bool (namedN d.names j) := fun j => by
        rcases G3.out j with h1 | h1
        · rw [h1, G2.out j h1]
        · by_cases hj : namedN d.names j = true
          · exfalso
            unfold namedN at hj
            rw [List.any_eq_true] at hj
            obtain ⟨p, hp, hpj⟩ := hj
            have hpj : p.2 = j := by simpa using hpj
            rcases G1.out p hp with h2 | h2
            · cases h2
            · rw [hpj, h1] at h2; cases h2
          · rw [h1]; simpa using hj
      have HF := hd hf
      have hn4 : n ≤ 1073741824 := by have := hnl; simp only [List.length_nil] at hn; omega
      clear hf G1 G2 G3 hn hr hr1 m3 m4 hc01
      have q1 := (H.out.k hc).box.cell 1
      simp [boxCells] at q1
      have hm30 : MapF wr 3 w.heap.size 0 (.int .i64 0) (atF d.names 0) := by rw [atF_zero]; exact hm3
      clear hm3
      go_wp2_with fail
      go_loopw [2, 7, 8, 29] (fun t2 _ _ t29 wx => ∃ (k n3 : Nat) (ao : Option Addr) (c : Nat), k ≤ hs.length ∧ t29 = .int .i64 k ∧ t2 = .slice ao (keepH d.names hs k).length c ∧
          wx.ownsRow w.heap.size 85 2 (.slice ao (keepH d.names hs k).length c) (keepH d.names hs k).length (fileCells (keepH d.names hs k)) ∧
          MapF wx 4 (w.heap.size + 1) n (.bool false) f ∧ n3 ≤ k ∧ MapF wx 3 w.heap.size n3 (.int .i64 0) (atF d.names k) ∧ Chg [] w wx)
        (fun _ _ _ t29 _ => hs.length - (intOf t29).toNat)
      case atStart => exact ⟨0, 0, none, 0, by omega, rfl, rfl, World.ownsRow_nil _ _ _ _, hm4, by omega, hm30, hc⟩
      case round =>
        obtain ⟨k, n3, ao2, c2, hk, rfl, rfl, hrow, hm4', hn3, hm3', hcx⟩ := hrel
        by_cases hlt : k < hs.length
        · obtain ⟨g, cg, e⟩ := H.out.slice (by omega)
          simp only [Value.slice.injEq, true_and] at e
          obtain ⟨rfl, rfl⟩ := e
          obtain ⟨aok, ck, hv, c0, c1, -⟩ := (H.out.k hcx).file hlt
          have hlti : (k : Int) < (hs.length : Int) := by omega
          have hks := keepH_succ d.names hs k hlt
          have has := atF_succ d.names k
          have hle : (keepH d.names hs k).length ≤ k := by rw [keepH_length]; exact atN_le _ _
          have hat : atN d.names k = (keepH d.names hs k).length := (keepH_length _ _ _).symm
          have hxl : hs[k].2.1.length ≤ 4294967296 := by
            have := (HG.out.files hs[k].2 (by rw [← H.out.same]; exact List.mem_map.2 ⟨_, List.getElem_mem hlt, rfl⟩)).2.2
            exact this
          rw [hat] at has
          generalize hs[k]'hlt = X at *
          obtain ⟨Xv, Xb, Xs⟩ := X
          simp only at hv c0 c1 hks hxl
          subst hv
          generalize atF d.names k = A at *
          have HKS := hd hks
          have HAS := hd has
          generalize keepH d.names hs k = L at *
          have hiw : (Lit.int .i64 (k : Int)).wf = true := wfNat (by omega)
          have hlw : (Lit.int .i64 (L.length : Int)).wf = true := wfNat (by omega)
          have hlt3 := hm3'.lt
          clear hks has hat hm4 hm30 q1
          go_upto_region 10 with (fail)
          have kx := Blk.new wr #[.slice aok Xb.length ck, .int .i64 (Xs : Int)] 85
          have hcb := (Chg.refl [] wr).alloc (.cells #[.slice aok Xb.length ck, .int .i64 (Xs : Int)] 85)
          replace hcx := hcx.k hcb
          replace hm4' := hm4'.k hcb
          replace hm3' := hm3'.k hcb
          replace hrow := ownsRow_k hrow hcb
          have hzq := hcb.size
          clear hcb
          generalize wr.alloc (.cells #[.slice aok Xb.length ck, .int .i64 (Xs : Int)] 85) = wq at *
          have hlk := run_lookIB hm4' hiw (HF.out k)
          by_cases hnm : namedN d.names k = true
          · rw [hnm] at hlk
            have hn3m : n3 < maxLen := by unfold maxLen; omega
            have hks := HKS.out
            rw [if_pos hnm] at hks
            have has := HAS.out
            rw [if_pos hnm] at has
            replace HKS := hd hks
            replace HAS := hd has
            clear hks has c0 c1
            go_upto_region 12 with (at_mapUpdate; refine wpPutF rfl rfl _ _ _ 62 3 rfl undMapII w.heap.size n3 _ _ hm3' rfl hn3m (k : Int) hiw (.int .i64 (L.length : Int)) (.int .i64 (L.length : Int)) rfl rfl (plainElem_int undInt hlw) ?_; intro w3 hm33 hg3)
            have kx3 := kx.grown hg3 (by intro e; injection e with e; omega)
            have q0 := kx3.cell 0
            have q1 := kx3.cell 1
            simp at q0 q1
            have row3 := World.ownsRow.kept hrow hg3 (.inr (hm3'.apartRow hrow))
            have m43 := hm4'.grown hg3 (by simp)
            have hc3 := hcx.grown hg3 (by rintro _ ⟨rfl⟩; omega)
            have row4 := World.ownsRow.alloc row3 (.cells #[.slice aok Xb.length ck, .int .i64 (Xb.length : Int)] 85)
            have hz3 := hc3.size
            clear kx kx3 hm3' hm4' hrow hlk hg3
            go_wp2_with (at_builtin; refine wpApp rowFile rfl _ _ rfl w.heap.size _ L.length (fileCells L) rfl row4 _ 1 [.slice aok Xb.length ck, .int .i64 (Xb.length : Int)] rfl (Rd.lit w3 2 1 _ _ _ rfl rfl (by decide)) (by simp [Value.oneCell']) (by omega) (by omega) (by simp; omega) ?_; intro ao5 c5 w5 hr5 hg5 hm5 _)
            go_roundw
            case rel =>
              have hl1 : (keepH d.names hs (k + 1)).length = L.length + 1 := by rw [HKS.out]; simp
              refine ⟨k + 1, n3 + 1, ao5, c5, by omega, by go_num, by rw [hl1], ?_, (m43.alloc _).grown hg5 (fun e => (m43.alloc _).apartRow row4 e.symm), by omega, ?_, (hc3.alloc _).ownGrow row4 hg5 (Nat.le_refl _)⟩
              · rw [hl1, HKS.out, fileCells_app]; exact hr5
              · rw [HAS.out]; exact (hm33.alloc _).grown hg5 (fun e => (hm33.alloc _).apartRow row4 e.symm)
            case measure => simp [intOf]; omega
          · have hnm' : namedN d.names k = false := by simpa using hnm
            rw [hnm'] at hlk
            have hks := HKS.out
            rw [if_neg hnm, List.append_nil] at hks
            have has := HAS.out
            rw [if_neg hnm] at has
            replace HKS := hd hks
            replace HAS := hd has
            clear hks has c0 c1 hnm hnm'
            go_wp2_with fail
            go_roundw
            case rel => exact ⟨k + 1, n3, ao2, c2, by omega, by go_num, by rw [HKS.out], by rw [HKS.out]; exact hrow, hm4', by omega, by rw [HAS.out]; exact hm3', hcx⟩
            case measure => simp [intOf]; omega
        · obtain rfl : k = hs.length := by omega
          obtain ⟨wB, hwB⟩ : ∃ wB, wB = wr := ⟨_, rfl⟩
          subst hwB
          have ha0 := hm3'.lt
          have hN3 := (H.out.k hcx).names
          have q2 := (H.out.k hcx).box.cell 2
          simp [boxCells] at q2
          have hml := fun f hf => keepH_mem (es := d.names) (Nat.le_refl hs.length) (f := f) hf
          have hsm := keepH_same d.names hs hs.length
          have hap := keepH_apart (es := d.names) (Nat.le_refl hs.length) H.out.apart
          have hll : (keepH d.names hs hs.length).length ≤ hs.length := by rw [keepH_length]; exact atN_le _ _
          generalize keepH d.names hs hs.length = L at *
          have hA : ∀ p ∈ d.names, atF d.names hs.length (p.2 : Nat) = .int .i64 (atN d.names p.2 : Int) := fun p hp => atF_at _ _ _ (by rw [H.out.len]; exact HG.out.named p hp) (named_of_mem hp)
          generalize atF d.names hs.length = A at *
          have HA := hd hA
          have HML := hd hml
          have HSM := hd hsm
          have HAP := hd hap
          have hrb : ∀ j, (Value.slice ao2 L.length c2).ownBlock = some j → j < wB.heap.size := fun j hj => (World.ownsRow.lt hrow j hj).2
          have HRB := hd hrb
          clear hrb hA hm4' HF hm4 hm30 q1 hml hsm hap hlt hc hcA hzA HZA hR
          go_wp2_with (at_range; refine wpRangeM rfl _ rfl nb _ rfl hN3 ?_; intro w4 hr4 hc4)
          replace hm3' := hm3'.k hc4
          replace hrow := ownsRow_k hrow hc4
          have hc4' := hcx.k hc4
          have hzx := hcx.size
          clear hN3 q2 hc4 hcx
          go_loopw [9, 10] (fun _ _ wy => ∃ (rest es : Nm), MapRange wy nb wB.heap.size es rest ∧ HalfN d.names rest es ∧ wy.ownsRow w.heap.size 85 2 (.slice ao2 L.length c2) L.length (fileCells L) ∧ MapF wy 3 w.heap.size n3 (.int .i64 0) A ∧ Chg [nb] w wy)
            (fun _ _ wy => wy.rangeLeft nb wB.heap.size)
          case atStart => exact ⟨d.names, d.names, hr4, HalfN.start H.out.names.nodup, hrow, hm3', hc4'.mono (by simp)⟩
          case round =>
            obtain ⟨rest, es, hr, hhalf, hrow, hm3', hcy⟩ := hrel
            have HH := hd hhalf
            clear hhalf
            go_wp2_with (at_next; refine wpNextM rfl _ rfl nb wB.heap.size es rest rfl hr ?_ ?_)
            · rintro rfl
              have hm := hr.map.congr (moved_nodup H.out.names.nodup) (by unfold movedN; rw [List.length_map]; exact HH.out.2.1.symm) (fun k => HH.out.done k)
              have hD := H.out.named hcy hm HG.out.moved
              have q2 := hD.box.cell 2
              simp [boxCells] at q2
              have HD := hd hD
              have HROW := hd hrow
              have HCY := hd hcy
              have hmlt := hm.lt
              clear hr hm3' hr4 hc4' hrow hcy hD
              go_wp2_with fail
              refine (CloneM_any _ nb (movedN d.names) hm).mono ?_
              rintro e wC ⟨rfl, hmc, hcc⟩
              have D := HD.out.k hcc
              have row := ownsRow_k HROW.out hcc
              have FIN := settle_fin D row HG.out HML.out HSM.out HAP.out H.out.same hmlt hmc HCY.out hcc
              have f1 := D.box.free 1
              have b1 := D.box.set 1 (.slice ao2 L.length c2)
              have q1 := D.box.cell 1
              have f3 := b1.free 3
              have b3 := b1.set 3 (.map (some wr.heap.size))
              have q3 := b1.cell 3
              have f4 := b3.free 4
              have b4 := b3.set 4 (.slice none 0 0)
              have q4 := b3.cell 4
              have f8 := b4.free 8
              have b8 := b4.set 8 (.bool false)
              have q8 := b4.cell 8
              have f6 := b8.free 6
              have b6 := b8.set 6 (.int .i64 (-1))
              have q6 := b8.cell 6
              have f7 := b6.free 7
              have q7 := b6.cell 7
              simp [boxCells] at q1 q3 q4 q8 q6 q7
              have HFIN := hd FIN
              clear FIN D row hm hmc hcc b1 b3 b4 b8 b6 hmlt q2 hn3 hk hll hnl hfl hol
              go_wp2_with fail
              go_end0
              exact ⟨rfl, HFIN.out⟩
            · intro k i w2 hmem hr2 hc2 hlt2 hen hkl
              have hcw : Chg [nb] w w2 := hcy.trans hc2 (by simp; omega)
              have hm2 := hm3'.chg hc2 (by simp; omega)
              have hrow2 := ownsRow_chg hrow hc2 (fun j hj => by have := HRB.out j hj; simp; omega)
              have hes := hr.sub _ hmem
              have hn0 := HH.out.2.2.1 _ hmem
              have hil := HG.out.named _ hn0
              have hin := nget_mem_isSome hes
              have hno := nget_del_same rest k
              have hst := fun hl => HH.out.step H.out.names.nodup hr.nodup hmem hl
              have hAi := HA.out _ hn0
              have hale := atN_le d.names i
              simp only at hAi hil
              rw [← H.out.len] at hil
              have hesl : es.length ≤ 1073741824 := by have := HH.out.2.1; omega
              generalize atN d.names i = m at *
              have hiw : (Lit.int .i64 (i : Int)).wf = true := wfNat (by omega)
              have hlk : ∀ wx, Chg [nb] w2 wx → (Instr.lookup 62 (.map (some w.heap.size)) (.int .i64 (i : Int)) false).run Tryz.prog wx = .ok (.int .i64 (m : Int)) wx := fun wx hx => by
                obtain ⟨c, h1, h2⟩ := run_lookII (hm2.chg hx (by simp; omega)) hiw
                rw [hAi] at h2
                simp only [Lit.int.injEq, true_and] at h2
                rw [h1, h2]
              have q2 := hcw.cellT (H.out.box.cell 2) (by simpa using fun e => H.out.names.apart H.out.box e.symm)
              simp [boxCells] at q2
              have NB : b ∉ [nb] := by simpa using fun e => H.out.names.apart H.out.box e.symm
              have hr2' := (hr2.chg ((Chg.refl [] w2).drew) (by simp) (by simp)).1
              have hz2 := (hr2.chg ((Chg.refl [] w2).drew) (by simp) (by simp)).2
              have HLK := hd hlk
              have Q2 := hd q2
              have HR2 := hd hr2'
              have HST := hd hst
              have HM2 := hd hm2
              have HROW2 := hd hrow2
              have HCW := hd hcw
              have HLT := hd hlt2
              have HZ2 := hd hz2
              have HIN := hd hin
              have HNO := hd hno
              clear hlk q2 hr2' hst hm2 hrow2 hcw hr hr2 hc2 hes hn0 hmem hcy hrow hm3' hlt2 hz2 hAi hin hno hr4 hc4'
              go_upto_region 17 with (fail)
              refine rg (N := 9) (by kernel_rfl) (by kernel_rfl) (S := (fun wx => Chg [nb] w2 wx)) ((Chg.refl _ _).drew) (fun hHeld => ?_)
              refine tks [0, 1, 2, 3, 4, 5, 6, 7] (by kernel_rfl) (fun _ _ _ _ _ h => h) (by assumption) ?_
              iterate 7 (refine tkc rfl rfl (by rfl) (fun wx hSw => by (try dsimp only at hSw); (have t2 := hSw.cellT Q2.out NB); go_simp; (try with_reducible rfl)) ?_; simp only [List.set])
              refine tkc rfl rfl (by rfl) (fun wx hSw => by (try dsimp only at hSw); (have t7 := HLK.out _ hSw); go_simp; (try with_reducible rfl)) ?_; simp only [List.set]
              refine tk0 ?_
              refine rn 8 rfl (by kernel_rfl) (by rfl) fun KK hKK => ?_
              (refine wpPutR rfl _ _ _ rfl nb wB.heap.size es (ndel rest k) k m rfl rfl rfl HR2.out HIN.out hkl (by omega) (by omega) HNO.out ?_; intro w6 hr6 hg6 hl6 hz6; have hc6 : Chg [nb] w2 w6 := (Chg.refl [nb] w2).drew.grown hg6 (by rintro _ ⟨rfl⟩ _; simp)); refine hKK.out _ _ (by assumption) fun hHeld => ?_; clear hKK KK; try simp only [Act.put, List.setIfInBounds_toArray, List.set]
              refine wpAnyH_done (by kernel_rfl) ?_ _
              go_roundw
              case rel =>
                (repeat apply Exists.intro)
                exact ⟨⟨ndel rest k, nput es k m, hr6, HST.out hl6, ownsRow_chg HROW2.out hc6 (fun j hj => by have := (World.ownsRow.lt HROW2.out j hj).1; simp; omega), HM2.out.chg hc6 (by simp; omega), HCW.out.trans hc6 (by simp)⟩, rfl⟩
              case measure => rw [hz6, HZ2.out]; exact HLT.out
    · intro k i w2 hmem hr2 hc2 hlt hen _
      have hcw : Chg [] w w2 := hc.trans hc2 (by simp; omega)
      have hm42 := hm4.chg hc2 (by simp; omega)
      have hm32 := hm3.chg hc2 (by simp; omega)
      have hes := hr.sub _ hmem
      have hlen : (ndel rest k).length + 1 ≤ rest.length := by
        have h1 := length_ndel hr.nodup k
        rw [mem_nget hr.nodup hmem] at h1
        simp at h1
        omega
      have hiw : (Lit.int .i64 (i : Int)).wf = true := wfNat (by have := HG.out.named _ hes; have := HG.out.nfiles; simp only at *; omega)
      have hnm : n < maxLen := by unfold maxLen; omega
      have hrw : ∀ w3, w2.grownBy w3 (some (w.heap.size + 1)) → MapRange w3 nb wA.heap.size d.names (ndel rest k) ∧ w3.rangeLeft nb wA.heap.size = w2.rangeLeft nb wA.heap.size := fun w3 hg3 => hr2.chg (Chg.ofGrown hg3) (by simp; omega) (by simp; omega)
      have HRW := hd hrw
      have hm32' : ∀ w3, w2.grownBy w3 (some (w.heap.size + 1)) → MapF w3 3 w.heap.size 0 (.int .i64 0) (fun _ => .int .i64 0) := fun w3 hg3 => hm32.grown hg3 (by simp)
      have HM3 := hd hm32'
      have HES := hd hes
      have HNDR := hd hr.nodup
      have HSUBR := hd hr.sub
      have HMEM := hd hmem
      clear hrw hm32' hm32 hr hr2 hm4 hm3 hr1 m3 m4 hc01 hc2 hes hmem
      go_wp2_with (at_mapUpdate; refine wpPutF rfl rfl _ _ _ _ 4 rfl undMapIB (w.heap.size + 1) n _ f hm42 rfl hnm (i : Int) hiw (.bool true) (.bool true) rfl rfl (plainElem_bool undBool true) ?_; intro w3 hm43 hg3)
      go_roundw
      case rel =>
        refine ⟨ndel rest k, n + 1, _, (HRW.out w3 hg3).1, hm43, HM3.out w3 hg3, by omega, fun p hp => ?_, fun j hj => ?_, fun j => ?_, hcw.grown hg3 (by rintro _ ⟨rfl⟩; omega)⟩
        · by_cases hpk : p.1 = k
          · right
            have h1 := mem_nget (H.out.names.nodup) (s := p.1) (i := p.2) hp
            have h2 := mem_nget (H.out.names.nodup) HES.out
            rw [hpk, h2] at h1
            simp at h1
            rw [if_pos (by rw [h1])]
          · rcases G1.out p hp with h1 | h1
            · left; exact List.mem_filter.2 ⟨h1, by simpa using hpk⟩
            · right; split
              · rfl
              · exact h1
        · split at hj
          · rename_i e
            have e' : j = i := by omega
            subst e'
            exact named_of_mem HES.out
          · exact G2.out j hj
        · split
          · exact .inl rfl
          · exact G3.out j
      case measure => rw [(HRW.out w3 hg3).2]; exact hlt
end Go.Proofs.YtbiadpkglcdihaaGreat

/- Disk.Crash. -/
namespace Go.Proofs.YtbiadpkglcdihaaGreat
open Go.RowKit

variable {w : World} {fp : List Nat} {b : Nat} {fv cv : Value} {nb sb : Nat} {hs : List HF} {d : Dsk}

/-- xs[:q] of a row of the call's own. -/
theorem run_cutOwn {P : Program} {t e : TypeId} {size bytes : Nat} (hT : RowT P t e size bytes) {w : World} {base n cap q : Nat} {ao : Option Addr} {xs : List Value} (h : w.ownsRow base e size (.slice ao n cap) n xs) {hi : Option Value} (hhi : Bound hi q n) (hq : q ≤ n) :
    (∀ W, (Instr.sliceAt t (.slice ao n cap) none hi none).run P W = .ok (.slice ao q cap) W) ∧ w.ownsRow base e size (.slice ao q cap) q (xs.take (q * size)) := by
  have hv := Rd.ofOwn h
  obtain ⟨i, z, ht, hi', hz, rfl, rfl, hzs, hsz⟩ := hT
  have hadd : ∀ a : Addr, a.add 0 = a := by intro a; unfold Addr.add; simp
  rcases h.2 with ⟨he, h0⟩ | ⟨g, cap', cur, he, hb, hg, hnc, hcm, hcs, htake⟩
  · simp only [Value.slice.injEq] at he
    obtain ⟨rfl, rfl, rfl⟩ := he
    obtain rfl : q = 0 := by omega
    refine ⟨fun W => ?_, by simp, .inl ⟨rfl, rfl⟩⟩
    have hbd : (Instr.sliceBounds true 0 0 none hi none).run P W = .ok (0, 0, 0) W := by
      have e1 : ∀ (k : IntKind) (code : BoundsCode), (Instr.sliceBound (.int k 0) 0 code).run P W = .ok 0 W := by
        intro k code; simp [Instr.sliceBound, asIntOf, go_sem]
      rcases hhi with ⟨rfl, _⟩ | ⟨k', rfl⟩ <;> simp [Instr.sliceBounds, e1, go_sem]
    simp [Instr.sliceAt, Instr.slice, run_underlying ht, sizeOf, typeInfo, hi', hbd]
  · simp only [Value.slice.injEq] at he
    obtain ⟨rfl, -, rfl⟩ := he
    refine ⟨fun W => ?_, ?_, .inr ⟨g, cap, cur, rfl, hb, hg, by omega, hcm, hcs, ?_⟩⟩
    · have hbd : (Instr.sliceBounds true n cap none hi none).run P W = .ok (0, q, cap) W := by
        have e1 : ∀ (k : IntKind) (code : BoundsCode), (Instr.sliceBound (.int k (q : Int)) cap code).run P W = .ok q W := by
          intro k code; simp [Instr.sliceBound, asIntOf, show (q : Int) ≤ (cap : Int) by omega, go_sem]
        rcases hhi with ⟨rfl, rfl⟩ | ⟨k', rfl⟩ <;> simp [Instr.sliceBounds, e1, go_sem] <;> (intro h; omega)
      simp [Instr.sliceAt, Instr.slice, run_underlying ht, sizeOf, typeInfo, hi', hbd, hadd]
    · rw [List.length_take, h.1]; exact Nat.min_eq_left (Nat.mul_le_mul_right _ hq)
    · rw [← htake, List.take_take, Nat.min_eq_left (Nat.mul_le_mul_right _ hq)]
theorem DkP.shrink {fp' : List Nat} (h : DkP w fp' b fv cv nb sb hs d) (hsub : ∀ k ∈ fp', k ∈ fp) (hl : ∀ k ∈ fp, k < w.heap.size) : DkP w fp b fv cv nb sb hs d :=
  { h with
    fpb := hsub _ h.fpb
    fpn := hsub _ h.fpn
    fps := hsub _ h.fps
    fpf := fun k hk => hsub _ (h.fpf k hk)
    fpc := fun k hk => hsub _ (h.fpc k hk)
    fph := fun f hf k hk => hsub _ (h.fph f hf k hk)
    fpl := hl }
/-- The names lie in a new map. -/
theorem DkP.newNames (h : DkP w fp b fv cv nb sb hs d) {nb' : Nat} {es : Nm} (hm : MapAt w nb' es) (hne : nb' ≠ sb) (hg : GoodD { d with names := es }) :
    DkP (w.setCell ⟨b, 2, none⟩ (.map (some nb'))) (nb' :: fp) b fv cv nb' sb hs { d with names := es } := by
  have hc : Chg [b] w (w.setCell ⟨b, 2, none⟩ (.map (some nb'))) := (Chg.refl _ _).setCell _ _ (by simp)
  exact
  { box := h.box.set 2 _
    names := hm.chg hc (by simpa using hm.apart h.box)
    sure := h.sure.chg hc (by simpa using h.sure.apart h.box)
    files := ownsRow_chg h.files hc fun k hk => by have := ownsRow_apart h.files h.box (by decide); rw [hk] at this; simpa using this
    same := h.same
    changes := ownsRow_chg h.changes hc fun k hk => by have := ownsRow_apart h.changes h.box (by decide); rw [hk] at this; simpa using this
    bytes := fun f hf => OwB.chg (h.bytes f hf) hc fun k hk => by have := ownsRow_apart (h.bytes f hf) h.box (by decide); rw [hk] at this; simpa using this
    apart := h.apart
    ne := hne
    fpb := by simp [h.fpb]
    fpn := by simp
    fps := by simp [h.fps]
    fpf := fun k hk => by simp [h.fpf k hk]
    fpc := fun k hk => by simp [h.fpc k hk]
    fph := fun f hf k hk => by simp [h.fph f hf k hk]
    fpl := fun k hk => by
      rw [size_set]
      rcases List.mem_cons.1 hk with rfl | hk
      · exact hm.lt
      · exact h.fpl k hk
    good := hg }

theorem undInts : Tryz.prog.underlying 59 = some (.slice 3) := by kernel_rfl
theorem elemInt : Tryz.prog.elem 59 = 3 := by kernel_rfl
theorem run_cutI {w : World} {v : Value} {l : List Int} (hv : Fs w v l) {lo hi : Option Value} {p q : Nat} (hlo : Bound lo p 0) (hhi : Bound hi q l.length) (hpq : p ≤ q) (hq : q ≤ l.length) :
    ∃ ao c, (∀ W, (Instr.slice 59 v lo hi none).run Tryz.prog W = .ok (.slice ao (q - p) c) W) ∧ Fs w (.slice ao (q - p) c) ((l.drop p).take (q - p)) ∧
      (∀ k, (Value.slice ao (q - p) c).ownBlock = some k → v.ownBlock = some k) := by
  obtain ⟨ao, c, h1, h2, h3⟩ := run_cut rowInt hv hlo hhi hpq hq
  refine ⟨ao, c, fun W => ?_, ?_, h3⟩
  · rw [← run_sliceAt_slice (P := Tryz.prog) W 59 v lo hi none (by rw [elemInt]; exact undInts)]
    exact h1 W
  · have e : ((l.drop p).take (q - p)).length = q - p := by rw [List.length_take, List.length_drop]; omega
    unfold Fs; rw [e]; simpa [List.map_take, List.map_drop] using h2
theorem setF_same {d : Dsk} {k : Nat} {f : List UInt8 × Nat} (h : d.files[k]? = some f) : setF d k f = d := by
  unfold setF
  have : d.files.set k f = d.files := by
    apply List.ext_getElem?
    intro i
    rw [List.getElem?_set]
    split
    · rename_i e; subst e
      rw [h]; have := (List.getElem?_eq_some_iff.1 h).1; simp [this]
    · rfl
  rw [this]
theorem crash_cut {g cf k m ck : Nat} {aok : Option Addr} {Xb : List UInt8} {Xs : Nat} (hD : DkP w fp b (.slice (some ⟨g, 0, none⟩) hs.length cf) cv nb sb hs d) (hk : k < hs.length) (hX : hs[k] = (.slice aok Xb.length ck, Xb, Xs)) (h1 : Xs ≤ m) (h2 : m ≤ Xb.length) :
    (∀ W, (Instr.slice 39 (.slice aok Xb.length ck) none (some (.int .i64 (m : Int))) none).run Tryz.prog W = .ok (.slice aok m ck) W) ∧
    ∃ hs', DkP (w.setCell ⟨g, k * 2, none⟩ (.slice aok m ck)) fp b (.slice (some ⟨g, 0, none⟩) hs.length cf) cv nb sb hs' (setF d k (Xb.take m, Xs)) := by
  have hb := hD.bytes _ (List.getElem_mem hk)
  rw [hX] at hb
  simp only at hb
  obtain ⟨hr, hown⟩ := run_cutOwn rowBytes hb (hi := some (.int .i64 (m : Int))) (.inr ⟨_, rfl⟩) h2
  refine ⟨fun W => ?_, ?_⟩
  · rw [← run_sliceAt_slice (P := Tryz.prog) W 39 _ _ _ none (by rw [elemBytes]; exact undBytes)]
    exact hr W
  · have hfm : d.files[k]? = some (Xb, Xs) := by rw [← hD.same, List.getElem?_map, List.getElem?_eq_getElem hk, hX]; rfl
    have hgood := hD.good.files _ (List.mem_of_getElem? hfm)
    have hv : OwB w 0 (.slice aok m ck) (Xb.take m) := by
      unfold OwB
      have e : (Xb.take m).length = m := by rw [List.length_take]; omega
      rw [e, List.map_take]; simpa using hown
    have hX2 : hs[k].2.2 = Xs := by rw [hX]
    have hmv : Moved w hs[k].1 (.slice aok m ck) := .inl (by rw [hX]; cases aok <;> rfl)
    have hgd : GoodD (setF d k (Xb.take m, hs[k].2.2)) := by
      rw [hX2]
      have e : (Xb.take m).length = m := by rw [List.length_take]; omega
      refine hD.good.putF k _ ⟨by simp only [e]; exact h1, ?_, ?_⟩
      · simp only [e]; have := hgood.2.1; simp only at this; omega
      · simp only [e]; have := hgood.2.2; simp only at this; omega
    have := hD.byteSet hk (Chg.refl _ _) hv hmv hgd
    rw [hX2] at this
    refine ⟨_, this.shrink (fun j hj => ?_) (fun j hj => by rw [size_set]; exact hD.fpl j hj)⟩
    rcases List.mem_append.1 hj with hj | hj
    · refine hD.fph _ (List.getElem_mem hk) j ?_
      rw [hX]
      cases aok with
      | none => simp [Value.ownBlock] at hj
      | some a => simpa [Value.ownBlock, eq_comm] using hj
    · exact hj

theorem chCells_get : ∀ (l : List (List UInt8 × List UInt8 × Nat)) (i : Nat) (h : i < l.length), (chCells l)[i * 3]? = some (.string (strB l[i].1)) ∧ (chCells l)[i * 3 + 1]? = some (.string (strB l[i].2.1)) ∧ (chCells l)[i * 3 + 2]? = some (.int .i64 (l[i].2.2 : Int))
  | f :: l, 0, _ => by simp [chCells]
  | f :: l, i + 1, h => by
    have := chCells_get l i (by simpa using h)
    rw [show (i + 1) * 3 = i * 3 + 1 + 1 + 1 by omega]
    simpa [chCells] using this
theorem undChs : Tryz.prog.underlying 73 = some (.slice 109) := by kernel_rfl
theorem elemCh : Tryz.prog.elem 73 = 109 := by kernel_rfl
theorem crash_cutCh {base n cap q : Nat} {ao : Option Addr} {xs : List Value} (h : w.ownsRow base 109 3 (.slice ao n cap) n xs) (hq : q ≤ n) :
    ∀ W, (Instr.slice 73 (.slice ao n cap) none (some (.int .i64 (q : Int))) none).run Tryz.prog W = .ok (.slice ao q cap) W := fun W => by
  rw [← run_sliceAt_slice (P := Tryz.prog) W 73 _ _ _ none (by rw [elemCh]; exact undChs)]
  exact (run_cutOwn rowCh h (.inr ⟨_, rfl⟩) hq).1 W

set_option maxRecDepth 100000 in
set_option maxHeartbeats 2000000 in
theorem Crash_anyE (h : Dk w fp b d) (names : Int) (vk : Value) (kept : List Int) (hk : Fs w vk kept) (hkf : 0 < kept.length → ∀ j, vk.ownBlock = some j → j ∉ fp) : Calls Tryz.prog 22 #[.pointer (some ⟨b, 0, none⟩), .int .i64 names, vk] w fun e w' => e = .returned (.tuple #[]) ∧ DkOut w fp b (crashD d names kept) w' := by
  obtain ⟨fv, cv, nb, sb, hs, h⟩ := h
  have H := hd h
  have HK := hd hk
  obtain ⟨aof, cf, rfl⟩ : ∃ ao c, fv = .slice ao hs.length c := by
    rcases h.files.2 with ⟨rfl, hz⟩ | ⟨g, cap, cur, rfl, _⟩
    · exact ⟨none, 0, by rw [hz]⟩
    · exact ⟨_, cap, rfl⟩
  have hfl : (hs.length : Int) ≤ d.ops := by rw [h.len]; exact h.good.nfiles
  have hol : d.ops ≤ 1073741824 := h.good.ops.2
  have q1 := h.box.cell 1
  simp [boxCells] at q1
  have hkl : kept.length ≤ 9223372036854775807 := by obtain ⟨_, _, _, _, _, h1, h2, _⟩ := hk.open; omega
  have HKL := hd hkl
  have h0 : ∃ hs', DkP w fp b (.slice aof hs.length cf) cv nb sb hs' { d with files := filesAt d.files kept 0 } := by rw [filesAt_zero]; exact ⟨hs, h⟩
  have hk0 : Fs w vk (keptAt d.files kept 0) := by rw [keptAt_zero]; exact hk
  clear hkl
  go_enter Tryz.func22, Tryz.ntmps22
  clear h hk
  go_wp2_with fail
  go_loopw [2, 6, 7, 8, 9, 17] (fun t2 _ _ _ _ t17 wr => ∃ k : Nat, k ≤ hs.length ∧ t17 = .int .i64 k ∧ Fs wr t2 (keptAt d.files kept k) ∧ (∃ hs', DkP wr fp b (.slice aof hs.length cf) cv nb sb hs' { d with files := filesAt d.files kept k }) ∧ Chg fp w wr ∧ wr.heap.size = w.heap.size ∧ (0 < (keptAt d.files kept k).length → ∀ j, t2.ownBlock = some j → j ∉ fp))
    (fun _ _ _ _ _ t17 _ => hs.length - (intOf t17).toNat)
  case atStart => exact ⟨0, by omega, rfl, hk0, h0, Chg.refl _ _, rfl, by rw [keptAt_zero]; exact hkf⟩
  case round =>
    obtain ⟨k, hkk, rfl, hkr, ⟨hs', hD⟩, hc, hz, hkf⟩ := hrel
    by_cases hlt : k < hs.length
    · have hl' : hs'.length = hs.length := by rw [hD.len, H.out.len]; exact filesAt_length _ _ _
      obtain ⟨g, cg, e⟩ := hD.slice (by omega)
      rw [hl'] at e
      simp only [Value.slice.injEq, true_and] at e
      obtain ⟨rfl, rfl⟩ := e
      have hlt' : k < hs'.length := by omega
      have hlf : k < d.files.length := by rw [← H.out.len]; exact hlt
      have hD' : DkP wr fp b (.slice (some ⟨g, 0, none⟩) hs'.length cf) cv nb sb hs' { d with files := filesAt d.files kept k } := by rw [hl']; exact hD
      obtain ⟨aok, ck, hv, c0, c1, hfk⟩ := hD'.file hlt'
      have hfk2 := filesAt_get d.files kept k hlf
      have hsucc := filesAt_succ d.files kept k hlf
      have hgf := H.out.good.files d.files[k] (List.getElem_mem hlf)
      have q1 := hD.box.cell 1
      simp [boxCells] at q1
      rw [hfk2] at hfk
      simp only [Option.some.injEq] at hfk
      rw [hfk] at hsucc hgf
      have HD := hd hD'
      have HL' := hd hl'
      have hlti : (k : Int) < (hs.length : Int) := by omega
      obtain ⟨Xv, Xb, Xs, hX⟩ : ∃ Xv Xb Xs, hs'[k] = (Xv, Xb, Xs) := ⟨_, _, _, rfl⟩
      have hfk3 : (filesAt d.files kept k)[k]? = some (Xb, Xs) := by rw [hfk2, hfk, hX]
      rw [hX] at c0 c1 hgf hsucc
      simp only at c0 c1 hgf hsucc
      have hsn : ¬ Xs < Xb.length → { d with files := filesAt d.files kept (k + 1) } = { d with files := filesAt d.files kept k } ∧ keptAt d.files kept (k + 1) = keptAt d.files kept k := fun hn => by
        rw [if_neg hn, if_neg hn] at hsucc
        refine ⟨?_, hsucc.2⟩
        rw [hsucc.1]
        exact setF_same (d := { d with files := filesAt d.files kept k }) hfk3
      have hsc : Xs < Xb.length → ∀ m : Nat, (m : Int) = Xs + min (max ((keptAt d.files kept k).headD 0) 0) ((Xb.length : Int) - Xs) → { d with files := filesAt d.files kept (k + 1) } = setF { d with files := filesAt d.files kept k } k (Xb.take m, Xs) ∧ keptAt d.files kept (k + 1) = (keptAt d.files kept k).tail := fun hy m hm => by
        rw [if_pos hy, if_pos hy] at hsucc
        refine ⟨?_, hsucc.2⟩
        rw [hsucc.1]
        unfold setF cutOne
        simp only
        have : m = Xs + (min (max ((keptAt d.files kept k).headD 0) 0) ((Xb.length : Int) - Xs)).toNat := by omega
        rw [this]
      have hX' : hs'[k] = (.slice aok Xb.length ck, Xb, Xs) := by
        rw [hX] at hv ⊢
        simp only at hv
        rw [hv]
      have HSN := hd hsn
      have HSC := hd hsc
      have HXE := hd hX'
      have Q1 := hd q1
      have C0 := hd c0
      have C1 := hd c1
      clear hX hX' hv hD hD' hfk hfk2 hfk3 hsucc hsn hsc q1 c0 c1 h0 hk0 hl'
      have q1 := Q1.out
      go_upto_region 4 with (fail)
      clear q1
      obtain ⟨g1, -, g2⟩ := hgf
      have hsb : IntKind.i64.wrap ((Xb.length : Int) - (Xs : Int)) = (Xb.length : Int) - (Xs : Int) := IntWalk.i64_in _ (by omega)
      refine rg (N := 11) (by kernel_rfl) (by kernel_rfl) (S := (fun wx => Chg [] wr wx)) ((Chg.refl _ _).drew) (fun hHeld => ?_)
      refine tks [0, 1, 2, 3, 4, 5, 6, 7, 8, 9, 10] (by kernel_rfl) (fun _ _ _ _ _ h => h) (by assumption) ?_
      iterate 11 (refine tkc rfl rfl (by rfl) (fun wx hSw => by (try dsimp only at hSw); (have t0 := hSw.cellT C0.out (by simp); have t1 := hSw.cellT C1.out (by simp)); go_simp; (try with_reducible rfl)) ?_; simp only [List.set])
      refine tk0 ?_
      refine wpAnyH_done (by kernel_rfl) ?_ _
      clear hsb
      by_cases hcut : Xs < Xb.length
      case neg =>
        have hn0 : ¬ (0 : Int) < (Xb.length : Int) - (Xs : Int) := by omega
        have HSS := hd (HSN.out hcut)
        clear hcut
        go_wp2_with fail
        go_roundw
        case rel => exact ⟨k + 1, by omega, by go_num, by rw [HSS.out.2]; exact hkr.k (Chg.refl _ _).drew, by rw [HSS.out.1, ← HL'.out]; exact ⟨_, HD.out.k (Chg.refl _ _).drew⟩, hc.drew, hz, by rw [HSS.out.2]; exact hkf⟩
        case measure => simp [intOf]; omega
      have hn0 : (0 : Int) < (Xb.length : Int) - (Xs : Int) := by omega
      have HSS := hd (HSC.out hcut)
      clear HSC HSN
      generalize keptAt d.files kept k = kr at *
      cases kr with
      | nil =>
        have hu2 : ∃ ao2 cap2, u2 = .slice ao2 0 cap2 := by obtain ⟨ao2, cap2, _, _, h, _⟩ := hkr.open; exact ⟨ao2, cap2, h⟩
        obtain ⟨ao2, cap2, rfl⟩ := hu2
        have hcc := HSS.out Xs (by simp; omega)
        have hc2 : Chg [] wr wr.drew := (Chg.refl [] wr).drew
        obtain ⟨hrun, hnew⟩ := crash_cut (m := Xs) (HD.out.k hc2.drew) hlt' HXE.out (Nat.le_refl _) (by omega)
        have hz2 : wr.drew.heap.size = w.heap.size := hz
        have hw : IntKind.i64.wrap (Xs : Int) = (Xs : Int) := IntWalk.i64_in _ (by omega)
        go_upto_region 9 with (fail)
        generalize wr.drew = W2 at *
        have hgfp : g ∈ fp := HD.out.fpf g rfl
        have F0 : Hd (W2.frozen? ⟨g, k * 2, none⟩ = false) := hd (by rw [Chg.frozenS hc2 C0.out]; exact World.ownsRow.frozenAt HD.out.files (k * 2))
        replace C0 := hd (Chg.cellS hc2 C0.out)
        replace C1 := hd (Chg.cellS hc2 C1.out)
        have hne1 : (⟨g, k * 2, none⟩ : Addr) ≠ ⟨g, k * 2 + 1, none⟩ := by simp
        have HNEW := hd hnew
        have hS2 : Chg [g] W2 (W2.drew.setCell ⟨g, k * 2, none⟩ (.slice aok Xs ck)) ∧ (W2.drew.setCell ⟨g, k * 2, none⟩ (.slice aok Xs ck)).cell? ⟨g, k * 2 + 1, none⟩ = some (.int .i64 (Xs : Int)) := ⟨(Chg.refl [g] W2).drew.setCell _ _ (by simp), by rw [World.cell?_setCell_other (h := hne1)]; exact C1.out⟩
        have HS2 := hd hS2
        have HF := hd hkr
        clear hS2 hnew hkr
        refine rg (N := 15) (by kernel_rfl) (by kernel_rfl) (S := (fun wx => Chg [g] W2 wx ∧ wx.cell? ⟨g, k * 2 + 1, none⟩ = some (.int .i64 (Xs : Int)))) ⟨(Chg.refl _ _).drew, C1.out⟩ (fun hHeld => ?_)
        refine tks [0, 1, 2, 3, 5, 6, 7, 8, 9, 10] (by kernel_rfl) (fun _ _ _ _ _ h => h) (by assumption) ?_
        iterate 10 (refine tkc rfl rfl (by rfl) (fun wx hSw => by (try dsimp only at hSw); (have t1 := hSw.2); go_simp; (try with_reducible rfl)) ?_; simp only [List.set])
        refine tk0 ?_
        refine rn 4 rfl (by kernel_rfl) (by rfl) fun KK hKK => ?_
        (have t0 : W2.drew.cell? ⟨g, k * 2, none⟩ = _ := C0.out; go_simp); refine hKK.out _ _ (by assumption) fun hHeld => ?_; clear hKK KK; try simp only [Act.put, List.setIfInBounds_toArray, List.set]
        refine rn 11 rfl (by kernel_rfl) (by rfl) fun KK hKK => ?_
        go_simp; refine hKK.out _ _ (by assumption) fun hHeld => ?_; clear hKK KK; try simp only [Act.put, List.setIfInBounds_toArray, List.set]
        refine tks [12, 13] (by kernel_rfl) (fun _ _ _ _ _ h => h) (by assumption) ?_
        iterate 2 (refine tkc rfl rfl (by rfl) (fun wx hSw => by (try dsimp only at hSw); (have t1 := hSw.2); go_simp; (try with_reducible rfl)) ?_; simp only [List.set])
        refine tk0 ?_
        refine rn 14 rfl (by kernel_rfl) (by rfl) fun KK hKK => ?_
        (have t0 : W2.drew.cell? ⟨g, k * 2, none⟩ = _ := C0.out; have f0 : W2.drew.frozen? ⟨g, k * 2, none⟩ = false := F0.out; have hS2 := HS2.out; go_simp); refine hKK.out _ _ (by assumption) fun hHeld => ?_; clear hKK KK; try simp only [Act.put, List.setIfInBounds_toArray, List.set]
        refine wpAnyH_done (by kernel_rfl) ?_ _
        go_wp2_with fail
        go_roundw
        case rel =>
          have hc3 := HS2.out.1
          exact ⟨k + 1, by omega, by go_num, by rw [hcc.2]; exact Fs.chg (HF.out.k hc2) hc3 (fun h0 j hj => by simp only [List.mem_singleton]; rintro rfl; exact hkf h0 j hj hgfp), by rw [hcc.1, ← HL'.out]; exact HNEW.out, (hc.trans hc2 (by simp)).trans hc3 (by simp only [List.mem_singleton]; rintro x rfl _; exact hgfp), by show (W2.setCell _ _).heap.size = _; rw [size_set]; exact hz2, by rw [hcc.2]; exact hkf⟩
        case measure => simp [intOf]; omega
      | cons x xs =>
        obtain ⟨ao2, cap2, b2, off2, rfl, hl2, hm2, -, hao2, hel2⟩ := hkr.open
        obtain rfl := hao2 (by simp)
        obtain ⟨aoN, cN, hrun, hFN, hbN⟩ := run_cutI hkr (lo := some (.int .i64 1)) (hi := none) (p := 1) (.inr ⟨.i64, rfl⟩) (.inl ⟨rfl, rfl⟩) (by simp) (Nat.le_refl _)
        have e0 := hel2 0 (by simp)
        simp only [List.getElem_cons_zero, Nat.add_zero] at e0
        have E0 := hd e0
        simp only [List.length_cons, Nat.add_sub_cancel] at hrun hFN hbN ⊢
        have HRUN := hd hrun
        have hpos : 0 < (xs.length : Int) + 1 := by omega
        clear hel2 hao2 e0 hrun
        go_upto_region 8 with (fail)
        refine rg (N := 10) (by kernel_rfl) (by kernel_rfl) (S := (fun wx => Chg [] wr wx)) ((Chg.refl _ _).drew.drew) (fun hHeld => ?_)
        refine tks [0, 1, 2, 3, 4, 5, 6, 7, 8, 9] (by kernel_rfl) (fun _ _ _ _ _ h => h) (by assumption) ?_
        iterate 7 (refine tkc rfl rfl (by rfl) (fun wx hSw => by (try dsimp only at hSw); (have t0 := hSw.cellT E0.out (by simp)); go_simp; (try with_reducible rfl)) ?_; simp only [List.set])
        refine tkc rfl rfl (by rfl) (fun wx hSw => by (try dsimp only at hSw); (have t7 := HRUN.out); go_simp; (try with_reducible rfl)) ?_; simp only [List.set]
        iterate 2 (refine tkc rfl rfl (by rfl) (fun wx hSw => by (try dsimp only at hSw); (have t0 := hSw.cellT E0.out (by simp)); go_simp; (try with_reducible rfl)) ?_; simp only [List.set])
        refine tk0 ?_
        refine wpAnyH_done (by kernel_rfl) ?_ _
        generalize hzz : (if (Xb.length : Int) - (Xs : Int) < if x < 0 then 0 else x then (Xb.length : Int) - (Xs : Int) else if x < 0 then 0 else x) = z
        have hz1 : 0 ≤ z ∧ z ≤ (Xb.length : Int) - (Xs : Int) ∧ z = min (max x 0) ((Xb.length : Int) - (Xs : Int)) := by rw [← hzz]; split <;> split <;> omega
        clear hzz
        obtain ⟨hz1, hz2, hz3⟩ := hz1
        obtain ⟨zn, rfl⟩ := Int.eq_ofNat_of_zero_le hz1
        have hcc := HSS.out (Xs + zn) (by simp only [List.headD_cons]; omega)
        have hc2 : Chg [] wr wr.drew.drew := (Chg.refl [] wr).drew.drew
        obtain ⟨hrun, hnew⟩ := crash_cut (m := Xs + zn) (HD.out.k hc2.drew) hlt' HXE.out (by omega) (by omega)
        rw [Int.natCast_add] at hrun
        have hz2 : wr.drew.drew.heap.size = w.heap.size := hz
        have hbN' : ∀ j, (Value.slice aoN xs.length cN).ownBlock = some j → j ∉ fp := fun j hj => hkf (by simp) j (hbN j hj)
        have hFN' : Fs wr (.slice aoN xs.length cN) xs := by simpa using hFN
        have hw : IntKind.i64.wrap ((Xs : Int) + (zn : Int)) = (Xs : Int) + (zn : Int) := IntWalk.i64_in _ (by omega)
        clear hbN hFN E0 HRUN hkr HSS hcut hm2 hl2 hpos hz1 hz3
        go_upto_region 9 with (fail)
        generalize wr.drew.drew = W2 at *
        have hgfp : g ∈ fp := HD.out.fpf g rfl
        have F0 : Hd (W2.frozen? ⟨g, k * 2, none⟩ = false) := hd (by rw [Chg.frozenS hc2 C0.out]; exact World.ownsRow.frozenAt HD.out.files (k * 2))
        replace C0 := hd (Chg.cellS hc2 C0.out)
        replace C1 := hd (Chg.cellS hc2 C1.out)
        have hne1 : (⟨g, k * 2, none⟩ : Addr) ≠ ⟨g, k * 2 + 1, none⟩ := by simp
        have HNEW := hd hnew
        have hS2 : Chg [g] W2 (W2.drew.setCell ⟨g, k * 2, none⟩ (.slice aok (Xs + zn) ck)) ∧ (W2.drew.setCell ⟨g, k * 2, none⟩ (.slice aok (Xs + zn) ck)).cell? ⟨g, k * 2 + 1, none⟩ = some (.int .i64 (Xs : Int)) := ⟨(Chg.refl [g] W2).drew.setCell _ _ (by simp), by rw [World.cell?_setCell_other (h := hne1)]; exact C1.out⟩
        have HS2 := hd hS2
        have HF := hd hFN'
        clear hS2 hnew hFN'
        refine rg (N := 15) (by kernel_rfl) (by kernel_rfl) (S := (fun wx => Chg [g] W2 wx ∧ wx.cell? ⟨g, k * 2 + 1, none⟩ = some (.int .i64 (Xs : Int)))) ⟨(Chg.refl _ _).drew, C1.out⟩ (fun hHeld => ?_)
        refine tks [0, 1, 2, 3, 5, 6, 7, 8, 9, 10] (by kernel_rfl) (fun _ _ _ _ _ h => h) (by assumption) ?_
        iterate 10 (refine tkc rfl rfl (by rfl) (fun wx hSw => by (try dsimp only at hSw); (have t1 := hSw.2); go_simp; (try with_reducible rfl)) ?_; simp only [List.set])
        refine tk0 ?_
        refine rn 4 rfl (by kernel_rfl) (by rfl) fun KK hKK => ?_
        (have t0 : W2.drew.cell? ⟨g, k * 2, none⟩ = _ := C0.out; go_simp); refine hKK.out _ _ (by assumption) fun hHeld => ?_; clear hKK KK; try simp only [Act.put, List.setIfInBounds_toArray, List.set]
        refine rn 11 rfl (by kernel_rfl) (by rfl) fun KK hKK => ?_
        go_simp; refine hKK.out _ _ (by assumption) fun hHeld => ?_; clear hKK KK; try simp only [Act.put, List.setIfInBounds_toArray, List.set]
        refine tks [12, 13] (by kernel_rfl) (fun _ _ _ _ _ h => h) (by assumption) ?_
        iterate 2 (refine tkc rfl rfl (by rfl) (fun wx hSw => by (try dsimp only at hSw); (have t1 := hSw.2); go_simp; (try with_reducible rfl)) ?_; simp only [List.set])
        refine tk0 ?_
        refine rn 14 rfl (by kernel_rfl) (by rfl) fun KK hKK => ?_
        (have t0 : W2.drew.cell? ⟨g, k * 2, none⟩ = _ := C0.out; have f0 : W2.drew.frozen? ⟨g, k * 2, none⟩ = false := F0.out; have hS2 := HS2.out; go_simp); refine hKK.out _ _ (by assumption) fun hHeld => ?_; clear hKK KK; try simp only [Act.put, List.setIfInBounds_toArray, List.set]
        refine wpAnyH_done (by kernel_rfl) ?_ _
        go_wp2_with fail
        go_roundw
        case rel =>
          have hc3 := HS2.out.1
          exact ⟨k + 1, by omega, by go_num, by rw [hcc.2]; exact Fs.chg (HF.out.k hc2) hc3 (fun _ j hj => by simp only [List.mem_singleton]; rintro rfl; exact hbN' j hj hgfp), by rw [hcc.1, ← HL'.out]; exact HNEW.out, (hc.trans hc2 (by simp)).trans hc3 (by simp only [List.mem_singleton]; rintro x rfl _; exact hgfp), by show (W2.setCell _ _).heap.size = _; rw [size_set]; exact hz2, by rw [hcc.2]; exact fun _ => hbN'⟩
        case measure => simp [intOf]; omega
    · obtain rfl : k = hs.length := by omega
      obtain ⟨wB, hwB⟩ : ∃ wB, wB = wr := ⟨_, rfl⟩
      subst hwB
      rw [H.out.len, filesAt_all] at hD
      rw [← H.out.len] at hD
      have hcut := fun m => H.out.good.cut H.out.sure.nodup kept m
      have hsl := fun m => (foldl_turn d.sure (d.changes.take m) H.out.sure.nodup).2.1
      have hgc := H.out.good.nchanges
      have hcw := H.out.good.clens
      have hci := H.out.good.idx
      have hnf := H.out.good.nfiles
      have q3 := hD.box.cell 3
      simp [boxCells] at q3
      have hm := hD.sure
      have hsb := hD.sure.lt
      have HC := hd hc
      have HD := hd hD
      have hzw : w.heap.size ≤ wB.heap.size := by omega
      clear hz hkr hkf hc hD hk0 h0 q1 hlt
      go_wp2_with fail
      refine (CloneM_any _ sb d.sure hm).mono ?_
      rintro e wC ⟨rfl, hmc, hcc⟩
      have D := HD.out.k hcc
      have hcf : Chg fp w (wC.setCell ⟨b, 2, none⟩ (.map (some wB.heap.size))) := (HC.out.trans hcc (by simp)).setCell _ _ (fun _ => D.fpb)
      have D2 := D.newNames (es := d.sure) hmc (by omega) (by have := hcut 0; simpa using this)
      have q2 := D.box.cell 2
      have f2 := D.box.free 2
      have q4 := D2.box.cell 4
      simp [boxCells] at q2 q4
      have HD2 := hd D2
      have HCF := hd hcf
      clear D D2 hcf hm hmc hcc q3
      go_upto_region 12 with (fail)
      clear q2 f2
      generalize wC.setCell ⟨b, 2, none⟩ (.map (some wB.heap.size)) = wD at *
      obtain ⟨aoc, cc, rfl⟩ : ∃ ao c, cv = .slice ao d.changes.length c := by
        rcases H.out.changes.2 with ⟨rfl, hz⟩ | ⟨g, cap, cur, rfl, _⟩
        · exact ⟨none, 0, by rw [hz]⟩
        · exact ⟨_, cap, rfl⟩
      obtain ⟨m, hm⟩ : ∃ m, m = (min (max names 0) (d.changes.length : Int)).toNat := ⟨_, rfl⟩
      have hE : (if (d.changes.length : Int) < if names < 0 then 0 else names then (d.changes.length : Int) else if names < 0 then 0 else names) = (m : Int) := by split <;> split <;> omega
      have hml : m ≤ d.changes.length := by omega
      have HM := hd hm
      have hrun := crash_cutCh HD2.out.changes hml
      rw [← hE] at hrun
      have HRUN := hd hrun
      have Q4 := hd q4
      clear hE hrun hm q4
      refine rg (N := 15) (by kernel_rfl) (by kernel_rfl) (S := (fun wx => Chg [] wD wx)) ((Chg.refl _ _).drew) (fun hHeld => ?_)
      refine tks [0, 1, 2, 3, 4, 5, 6, 7, 8, 9, 10, 11, 12, 13, 14] (by kernel_rfl) (fun _ _ _ _ _ h => h) (by assumption) ?_
      iterate 12 (refine tkc rfl rfl (by rfl) (fun wx hSw => by (try dsimp only at hSw); (have t0 := Chg.cellS hSw Q4.out); go_simp; (try with_reducible rfl)) ?_; simp only [List.set])
      refine tkc rfl rfl (by rfl) (fun wx hSw => by (try dsimp only at hSw); (have t1 := HRUN.out); go_simp; (try with_reducible rfl)) ?_; simp only [List.set]
      iterate 2 (refine tkc rfl rfl (by rfl) (fun wx hSw => by (try dsimp only at hSw); (have t0 := Chg.cellS hSw Q4.out); go_simp; (try with_reducible rfl)) ?_; simp only [List.set])
      refine tk0 ?_
      refine wpAnyH_done (by kernel_rfl) ?_ _
      have hE : (if (d.changes.length : Int) < if names < 0 then 0 else names then (d.changes.length : Int) else if names < 0 then 0 else names) = (m : Int) := by have := HM.out; split <;> split <;> omega
      rw [hE]
      generalize (if names < 0 then (0 : Int) else names) = nz
      have HD3 := hd (HD2.out.k (Chg.refl [] wD).drew)
      have HCF3 := hd (HCF.out.k' (Chg.refl [] wD).drew)
      clear hE HRUN Q4 hHeld HD2 HCF HD HC
      have HCUT := hd hcut
      have HSL := hd hsl
      have HCW := hd hcw
      have HCI := hd hci
      clear hcut hsl hcw hci
      generalize wD.drew = wE at *
      go_wp2_with fail
      go_loopw [11, 86] (fun _ t86 wr => ∃ k : Nat, k ≤ m ∧ t86 = .int .i64 k ∧ Hd (DkP wr (wB.heap.size :: fp) b (.slice aof hs.length cf) (.slice aoc d.changes.length cc) wB.heap.size sb hs' { d with files := cutF d.files kept, names := (d.changes.take k).foldl turnD d.sure }) ∧ Hd (Chg fp w wr))
        (fun _ t86 _ => m - (intOf t86).toNat)
      case atStart => exact ⟨0, by omega, rfl, by simpa using HD3, HCF3⟩
      case round =>
        obtain ⟨k, hkm, rfl, HDk, HCk⟩ := hrel
        by_cases hlt : k < m
        · have hkc : k < d.changes.length := by omega
          obtain ⟨gc, hgc2⟩ : ∃ gc, aoc = some ⟨gc, 0, none⟩ := by
            rcases HDk.out.changes.2 with ⟨e, hz⟩ | ⟨g, cap, cur, e, _⟩
            · simp only at hz; omega
            · simp only [Value.slice.injEq] at e; exact ⟨g, e.1⟩
          subst hgc2
          obtain ⟨e0, e1, e2⟩ := chCells_get d.changes k hkc
          have hrow := HDk.out.changes
          simp only at hrow
          have hcl := chCells_length d.changes
          have c0 := World.ownsRow.cellAt hrow (k * 3) (by omega)
          have c1 := World.ownsRow.cellAt hrow (k * 3 + 1) (by omega)
          have c2 := World.ownsRow.cellAt hrow (k * 3 + 2) (by omega)
          rw [e0] at c0
          rw [e1] at c1
          rw [e2] at c2
          have hfold : (d.changes.take (k + 1)).foldl turnD d.sure = turnD ((d.changes.take k).foldl turnD d.sure) d.changes[k] := by
            rw [List.take_succ_eq_append_getElem hkc, List.foldl_append]; rfl
          have hw1 := HCW.out _ (List.getElem_mem hkc)
          have hi1 := HCI.out _ (List.getElem_mem hkc)
          have hel : ((d.changes.take k).foldl turnD d.sure).length ≤ 10000000000 := by have := HSL.out k; rw [List.length_take] at this; omega
          have hgn := HCUT.out (k + 1)
          rw [hfold] at hgn
          generalize d.changes[k]'hkc = X at *
          obtain ⟨X1, X2, X3⟩ := X
          simp only at c0 c1 c2 hw1 hi1
          generalize (d.changes.take k).foldl turnD d.sure = es at *
          have HFO := hd hfold
          have HGN := hd hgn
          clear e0 e1 e2 hrow hcl hfold hgn
          go_upto_region 15 with (fail)
          clear c0 c1 c2
          have hD := HDk.out
          have hcx := HCk.out
          have hszD : ∀ j ∈ wB.heap.size :: fp, j < wr.heap.size := hD.fpl
          have kx := Blk.new wr #[.string (strB X1), .string (strB X2), .int .i64 (X3 : Int)] 109
          have hcb := (Chg.refl [] wr).alloc (.cells #[.string (strB X1), .string (strB X2), .int .i64 (X3 : Int)] 109)
          replace hD := hD.k hcb
          replace hcx := hcx.k' hcb
          clear hcb
          generalize wr.alloc (.cells #[.string (strB X1), .string (strB X2), .int .i64 (X3 : Int)] 109) = wq at *
          have q0 := kx.cell 0
          have q1 := kx.cell 1
          have q2 := kx.cell 2
          have q3 := hD.box.cell 2
          simp [boxCells] at q0 q1 q2 q3
          have Q0 := hd q0
          have Q1 := hd q1
          have Q2 := hd q2
          have Q3 := hd q3
          have N1 : wr.heap.size ∉ [wB.heap.size] := by simp only [List.mem_singleton]; intro e; have := hszD wB.heap.size (by simp); omega
          have N2 : b ∉ [wB.heap.size] := by simpa using fun e => hD.names.apart hD.box e.symm
          have HM5 := hd hD.names
          have HD5 := hd hD
          have HX5 := hd hcx
          clear q0 q1 q2 q3 kx hD hcx hszD HDk HCk
          refine rg (N := 6) (by kernel_rfl) (by kernel_rfl) (S := (fun wx => Chg [wB.heap.size] wq wx)) ((Chg.refl _ _).drew) (fun hHeld => ?_)
          refine tks [0, 1, 2, 3, 4] (by kernel_rfl) (fun _ _ _ _ _ h => h) (by assumption) ?_
          iterate 5 (refine tkc rfl rfl (by rfl) (fun wx hSw => by (try dsimp only at hSw); (have t0 := hSw.cellT Q0.out N1; have t1 := hSw.cellT Q1.out N1; have t2 := hSw.cellT Q2.out N1; have t3 := hSw.cellT Q3.out N2); go_simp; (try with_reducible rfl)) ?_; simp only [List.set])
          refine tk0 ?_
          refine rn 5 rfl (by kernel_rfl) (by rfl) fun KK hKK => ?_
          go_simp; (refine (turn_any _ wB.heap.size es (X1, X2, X3) (HM5.out.k (Chg.refl _ _).drew) hw1.1 hw1.2 (by show X3 ≤ _; omega) hel).mono ?_; rintro e w2 ⟨rfl, hm2, hc2⟩; have hcc := (Chg.refl [wB.heap.size] wq).drew.trans hc2 (by simp); clear hc2; try go_simp); refine hKK.out _ _ (by assumption) fun hHeld => ?_; clear hKK KK; try simp only [Act.put, List.setIfInBounds_toArray, List.set]
          refine wpAnyH_done (by kernel_rfl) ?_ _
          have HN := hd (HD5.out.named hcc hm2 HGN.out)
          have HZ := hd (HX5.out.trans (S' := [wB.heap.size]) hcc (by simp only [List.mem_singleton]; rintro x rfl hx; omega))
          clear hcc hm2
          go_wp2_with fail
          go_roundw
          case rel => exact ⟨k + 1, by omega, by go_num, by rw [HFO.out]; exact HN, HZ⟩
          case measure => simp [intOf]; omega
        · obtain rfl : k = m := by omega
          have hset := settle_any HDk.out
          go_wp2_with fail
          refine (hset).mono ?_
          rintro e wF ⟨rfl, hF⟩
          have hF2 := hF.chain HCk.out (by intro j hj; rcases List.mem_cons.1 hj with rfl | hj; exact .inr hzw; exact .inl hj)
          have HFIN : Hd (DkOut w fp b (crashD d names kept) wF) := hd (by unfold crashD; rw [← HM.out]; exact hF2)
          clear hF hF2 hset
          go_wp2_with fail
          go_end0
          exact ⟨rfl, HFIN.out⟩
end Go.Proofs.YtbiadpkglcdihaaGreat
