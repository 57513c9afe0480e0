/- Words and walks that JournalRemoves rests on, part 6. -/
import Derived.Test.YtpoohpmcopjklaaWJournalRemoves5
import Derived.Test.YtpoohpmcopjklaaWJournalRemoves2
import Derived.Carry
/- A map[int]int of a call's own that says 1 at some numbers. -/
namespace Go.Proofs.Ytpoohpmcopjklaa
open Go.RowKit

structure ReadsT (D : DataW Unit) (T : List Nat) : Prop where
  nodup : T.Nodup
  at_ : ∀ (k : Nat) z, D.atKey (.int .i64 (k : Int)) z = if k ∈ T then .lit (.int .i64 1) else z
  has : ∀ k : Nat, Maps.has D (.int .i64 (k : Int)) = decide (k ∈ T)
  size : Maps.size D = T.length
  tidy : Maps.Tidy D
theorem ReadsT.empty : ReadsT (.map []) [] := ⟨by simp, fun _ _ => rfl, fun _ => rfl, rfl, Maps.tidy_empty⟩
theorem nat_ne {a b : Nat} (h : a ≠ b) : (Lit.int .i64 (a : Int)) ≠ Lit.int .i64 (b : Int) := fun e => h (by injection e; omega)
theorem keyNat (k : Nat) (h : k ≤ 4611686018427387904) : WideAt.IsKeyLit (Lit.int .i64 (k : Int)) := intKeyed.key (keyInt (wfNat h))
theorem ReadsT.put {D : DataW Unit} {T : List Nat} (h : ReadsT D T) (k : Nat) (hk : k ≤ 4611686018427387904) (hn : k ∉ T) : ReadsT (D.put (.int .i64 (k : Int)) (.lit (.int .i64 1))) (T ++ [k]) := by
  have hl := keyNat k hk
  refine ⟨?_, fun j z => ?_, fun j => ?_, ?_, h.tidy.put hl _⟩
  · rw [List.nodup_append]; exact ⟨h.nodup, by simp, fun a ha b hb => by simp at hb; subst hb; exact fun e => hn (e ▸ ha)⟩
  · by_cases hj : j = k
    · subst hj; rw [Maps.atKey_put_same h.tidy.isMap hl]; simp
    · rw [Maps.atKey_put_other (nat_ne hj), h.at_]; simp [hj]
  · by_cases hj : j = k
    · subst hj; rw [Maps.has_put_same h.tidy.isMap hl]; simp
    · rw [Maps.has_put_other (nat_ne hj), h.has]; simp [hj]
  · rw [Maps.size_put h.tidy, h.has, h.size, decide_eq_false hn]; simp
theorem ReadsT.del {D : DataW Unit} {T : List Nat} (h : ReadsT D T) (k : Nat) : ReadsT (D.del (.int .i64 (k : Int))) (T.filter (· ≠ k)) := by
  refine ⟨h.nodup.filter _, fun j z => ?_, fun j => ?_, ?_, h.tidy.del _⟩
  · by_cases hj : j = k
    · subst hj; rw [Maps.atKey_del_same]; simp
    · rw [Maps.atKey_del_other (nat_ne hj), h.at_]; simp [hj]
  · by_cases hj : j = k
    · subst hj; rw [Maps.has_del_same]; simp
    · rw [Maps.has_del_other (nat_ne hj), h.has]; simp [hj]
  · have h1 := Maps.size_del (k := .int .i64 (k : Int)) h.tidy
    rw [h.has, h.size] at h1
    have h2 : (T.filter (· ≠ k)).length + (if k ∈ T then 1 else 0) = T.length := by
      have hn := h.nodup
      clear h1 h
      induction T with
      | nil => simp
      | cons a T ih =>
        rw [List.nodup_cons] at hn
        have ih := ih hn.2
        by_cases ha : a = k
        · subst ha
          rw [if_neg hn.1] at ih
          simp at ih ⊢
          omega
        · have e : (a :: T).filter (· ≠ k) = a :: T.filter (· ≠ k) := by rw [List.filter_cons_of_pos (by simpa using ha)]
          have e2 : (k ∈ a :: T) ↔ k ∈ T := by simp; exact fun e => absurd e.symm ha
          rw [e]
          simp only [e2, List.length_cons]
          omega
    by_cases hk : k ∈ T
    · simp only [hk, decide_true, if_true] at h1 h2
      omega
    · rw [decide_eq_false hk, if_neg (by decide)] at h1
      rw [if_neg hk] at h2
      omega
/-- Block b is such a map. -/
def MapT (w : World) (b : Nat) (T : List Nat) : Prop := ∃ (D : DataW Unit), w.ownsMap Try.prog 3 (plainElem Try.prog 3) b T.length D ∧ ReadsT D T
theorem MapT.of {w : World} {b n : Nat} {T : List Nat} {D : DataW Unit} (h : w.ownsMap Try.prog 3 (plainElem Try.prog 3) b n D) (hr : ReadsT D T) : MapT w b T := by
  refine ⟨D, ?_, hr⟩
  have hsz := hr.size
  obtain ⟨xs, clock, hb, F, hs, hD⟩ := h
  refine ⟨xs, clock, hb, F, ?_, hD⟩
  rw [hD, Maps.size_eq, length_read] at hsz
  omega
theorem MapT.nodup {w : World} {b : Nat} {T : List Nat} (h : MapT w b T) : T.Nodup := let ⟨_, _, hr⟩ := h; hr.nodup
theorem MapT.lt {w : World} {b : Nat} {T : List Nat} (h : MapT w b T) : b < w.heap.size := let ⟨_, h1, _⟩ := h; h1.lt
theorem MapT.block {w w' : World} {b : Nat} {T : List Nat} (h : MapT w b T) (hc : w'.heap[b]? = w.heap[b]?) : MapT w' b T := by
  obtain ⟨D, ⟨xs, clock, hb, r⟩, hr⟩ := h
  exact ⟨D, ⟨xs, clock, hc.trans hb, r⟩, hr⟩
theorem MapT.chg {S : List Nat} {w w' : World} {b : Nat} {T : List Nat} (h : MapT w b T) (hc : Chg S w w') (hn : b ∉ S) : MapT w' b T := h.block (hc.block b h.lt hn)
theorem MapT.k {w w' : World} {b : Nat} {T : List Nat} (h : MapT w b T) (hc : Chg [] w w') : MapT w' b T := h.chg hc (by simp)
theorem MapT.new (w : World) : MapT (w.alloc (.map #[] 0)) w.heap.size [] := ⟨.map [], World.ownsMap_made w _ _ _, ReadsT.empty⟩
theorem MapT.look {w : World} {b : Nat} {T : List Nat} (h : MapT w b T) (k : Nat) (hk : k ≤ 4611686018427387904) :
    (Instr.lookup 54 (.map (some b)) (.int .i64 (k : Int)) false).run Try.prog w = .ok (.int .i64 (if k ∈ T then 1 else 0)) w := by
  obtain ⟨D, hown, hr⟩ := h
  obtain ⟨c, hrun, hc, -⟩ := hown.lookup_int intKeyed undMapII undInt (zeroInt w) (keyInt (wfNat hk))
  rw [hr.at_] at hc
  rw [hrun]
  by_cases h : k ∈ T
  · rw [if_pos h] at hc ⊢; simp at hc; rw [← hc]
  · rw [if_neg h] at hc ⊢; simp at hc; rw [← hc]
theorem MapT.len {w : World} {b : Nat} {T : List Nat} (h : MapT w b T) (ty : TypeId) : (Builtin.len_ #[54] ty #[.map (some b)]).run Try.prog w = .ok (.int .i64 (T.length : Int)) w := by
  obtain ⟨D, hown, hr⟩ := h
  rw [hown.len undMapII ty, hr.size]
theorem wpPutT {w : World} {ops : Array Oper} {rest : List Oper} {o : Oper} {a : Act} {Q : Exit → Act → World → Prop} (hg : o.guard = none) (hdst : o.dst = none) (m x v : Operand) (hop : o.op = Op.mapUpdate 54 m x v)
    (b : Nat) (T : List Nat) (k : Nat) (hm : a.eval m = .map (some b)) (hx : a.eval x = .int .i64 (k : Int)) (hv : a.eval v = .int .i64 1) (h : MapT w b T) (hk : k ≤ 4611686018427387904) (hno : k ∉ T) (hn : T.length ≤ 10000000000)
    (hK : ∀ w', MapT w' b (T ++ [k]) → w.grownBy w' (some b) → wpList Try.prog ops Q rest a w') : wpList Try.prog ops Q (o :: rest) a w := by
  obtain ⟨D, hown, hr⟩ := h
  refine wpList_mapUpdate_own w hg m x v _ hop 3 3 intKeyed undMapII _ b _ D hm hown (by unfold maxLen; omega) _ _ _ hx hv (keyInt (wfNat hk)) (.lit (.int .i64 1)) [] (plainElem_int undInt (by decide)) fun w' h1 h2 => ?_
  have e : a.put o.dst undef = a := by rw [hdst]; rfl
  rw [e]
  exact hK w' (MapT.of h1 (hr.put k hk hno)) h2
theorem wpDelT {w : World} {ops : Array Oper} {rest : List Oper} {o : Oper} {a : Act} {Q : Exit → Act → World → Prop} (hg : o.guard = none) (m x : Operand) (hop : o.op = Op.call { callee := Callee.builtin Builtin.delete, args := #[m, x], argTypes := #[54, 3] })
    (b : Nat) (T : List Nat) (k : Nat) (hm : a.eval m = .map (some b)) (hx : a.eval x = .int .i64 (k : Int)) (h : MapT w b T) (hk : k ≤ 4611686018427387904)
    (hK : ∀ w', MapT w' b (T.filter (· ≠ k)) → w.grownBy w' (some b) → wpList Try.prog ops Q rest (a.put o.dst (.tuple #[])) w') : wpList Try.prog ops Q (o :: rest) a w := by
  obtain ⟨D, hown, hr⟩ := h
  refine wpList_delete_own w hg m x _ _ hop 3 intKeyed undMapII _ b _ D hm hown _ _ hx (keyInt (wfNat hk)) fun w' h1 h2 => ?_
  exact hK w' (MapT.of h1 (hr.del k)) h2.grown
end Go.Proofs.Ytpoohpmcopjklaa

/- m[k] = v at a key that is there, while m is ranged over. -/
namespace Go.Proofs.Ytpoohpmcopjklaa
open Go.RowKit
open Go.ChangeMaps Go.MapKept
open Go.WideElems (Fit rd rg pl rd_val elemAt)
open Go.Maps (Keyed)

section
variable {P : Program} {k : TypeId} {w : World} {b : Nat} {es : Array MapEntry} {clock : Nat} {R : Value → Option (DataW Unit × List MemPlace)}

theorem run_store_there {t e : TypeId} (K : Keyed P k) (ht : P.underlying t = some (.map k e)) (hb : w.heap[b]? = some (.map es clock)) {key val : Value} {kl : Lit} (hkey : keyOf P k key = some kl) {j : Nat} {e0 : MapEntry}
    (h1 : (Instr.findKey k key es.toList).run P w = .ok (some (j, e0.val)) w) (h2 : es.toList[j]? = some e0) (h3 : e0.key = key) :
    (Instr.mapUpdate t (.map (some b)) key val).run P w = .ok () (setBlock w b (.map (es.modify j (fun e' => { e' with key := key, val := val })) clock)) := by
  have hj : es[j]? = some e0 := by simpa using h2
  simp [Instr.mapUpdate, run_underlying ht, MapKept.run_getObj_map hb, K.check w false hkey, h1, hj, h3, K.stays w hkey, MapKept.run_setObj_map _ hb, Result.andThen, setBlock]
theorem ranges_store {t e : TypeId} {r n cnt : Nat} {D : DataW Unit} {left : Lit → Bool} (h : w.ranges P k R b r n D left cnt) (K : Keyed P k) (ht : P.underlying t = some (.map k e)) {key val : Value} {kl : Lit} (hkey : keyOf P k key = some kl)
    (hin : Maps.has D kl = true) {d : DataW Unit} {ps : List MemPlace} (hv : R val = some (d, ps)) (hn : n < maxLen) :
    ∃ w', (Instr.mapUpdate t (.map (some b)) key val).run P w = .ok () w' ∧ w'.ranges P k R b r n (D.put kl d) left cnt ∧ w.mapTurned w' b := by
  have hne := h.ne
  obtain ⟨es, clock, since, seen, c0, hb, F, hs, rfl, hr, hold, hcnt, hl1, hl2, hsc, hsk⟩ := h
  rcases K.find w hkey es.toList F.keys with ⟨h1, h2⟩ | ⟨j, e0, h1, h2, h3⟩
  · exfalso
    rw [Maps.has_eq, List.any_eq_true] at hin
    obtain ⟨p, hp, hs⟩ := hin
    obtain ⟨x, hx, rfl⟩ := List.mem_map.1 (mem_sorted.1 hp)
    obtain ⟨y, hy⟩ := F.reads x hx
    have e1 : (rg P k R x).1 = kl := by
      by_cases he : (rg P k R x).1 = kl
      · exact he
      · rw [Maps.sameKey_ne he] at hs; cases hs
    rw [WideElems.rg_of hy] at e1
    exact h2 x hx (K.inj (e1 ▸ WideElems.rd_key hy) hkey)
  · have hrun := run_store_there (w := w) K ht hb (val := val) hkey h1 h2 h3
    obtain ⟨es', clock', hrun', F', hput, -⟩ := Maps.fit_store (R' := R) K ht hb F (Nat.lt_of_le_of_lt hs hn) (fun _ _ _ _ hz => hz) hkey hv
    have heq : es' = es.modify j (fun e' => { e' with key := key, val := val }) ∧ clock' = clock := by
      have := hrun'.symm.trans hrun
      simp only [Result.ok.injEq, true_and] at this
      have h5 := congrArg (fun W : World => W.heap[b]?) this
      simp only [heap_setBlock_same hb] at h5
      simpa using h5
    obtain ⟨rfl, rfl⟩ := heq
    have hlist : (es.modify j (fun e' => { e' with key := key, val := val })).toList = es.toList.set j { e0 with key := key, val := val } := by
      rw [Array.toList_modify]
      apply List.ext_getElem?
      intro i
      rw [List.getElem?_modify, List.getElem?_set]
      by_cases hij : j = i
      · subst hij
        rw [h2]
        have : j < es.toList.length := (List.getElem?_eq_some_iff.1 h2).1
        simp
        simpa using this
      · simp [hij]
    have hk0 : (WideElems.rg P k R e0).1 = kl := by
      obtain ⟨y, hy⟩ := F.reads e0 (List.mem_of_getElem? h2)
      have m1 := WideElems.rd_key hy
      rw [h3, hkey] at m1
      rw [WideElems.rg_of hy]
      exact (Option.some.inj m1).symm
    have hk1 : (WideElems.rg P k R { e0 with key := key, val := val }).1 = kl := by rw [WideElems.rg_of (WideElems.rd_mk hkey hv)]
    have hme := List.mem_of_getElem? h2
    have who : ∀ x ∈ es.toList.set j { e0 with key := key, val := val }, x = { e0 with key := key, val := val } ∨ x ∈ es.toList := fun x hx => (List.mem_or_eq_of_mem_set hx).symm
    refine ⟨_, hrun, ⟨_, _, since, seen, c0, heap_setBlock_same hb _, F', by simpa using hs, by rw [DataW.put_eq, hput], (heap_setBlock_other hb _ hne).trans hr, fun x hx => ?_, ?_, fun x hx => ?_, fun x0 hx0 => ?_, hsc, hsk⟩, ⟨es, _, _, _, hb, rfl⟩⟩
    · rw [hlist] at hx
      rcases who x hx with rfl | hx
      · exact hold e0 hme
      · exact hold x hx
    · have e1 : ∀ a : Array MapEntry, (leftOf a seen).size = (a.toList.filter fun e => !seen.contains e.born).length := fun a => by
        unfold leftOf
        rw [← Array.toList_filter, Array.length_toList]
      rw [e1] at hcnt ⊢
      rw [hlist, ← hcnt, ← List.countP_eq_length_filter, ← List.countP_eq_length_filter]
      have e2 : ∀ l : List MapEntry, l.countP (fun e => !seen.contains e.born) = (l.map (·.born)).countP (fun z => !seen.contains z) := fun l => by rw [List.countP_map]; rfl
      rw [e2, e2, List.map_set]
      congr 1
      apply List.ext_getElem?
      intro i
      rw [List.getElem?_set]
      by_cases hij : j = i
      · subst hij
        have : j < (es.toList.map (·.born)).length := by rw [List.length_map]; exact (List.getElem?_eq_some_iff.1 h2).1
        rw [if_pos rfl, if_pos this, List.getElem?_map, h2]
        rfl
      · rw [if_neg hij]
    · rw [hlist] at hx
      rcases who x hx with rfl | hx
      · rw [hk1, ← hk0]; exact hl1 e0 hme
      · exact hl1 x hx
    · obtain ⟨x, hx, rfl⟩ := hl2 x0 hx0
      rw [hlist]
      obtain ⟨i, hi, rfl⟩ := List.getElem_of_mem hx
      by_cases hij : j = i
      · subst hij
        have he : es.toList[j] = e0 := by rw [List.getElem?_eq_getElem hi] at h2; exact Option.some.inj h2
        exact ⟨_, List.mem_set hi _, by rw [hk1, he, hk0]⟩
      · exact ⟨es.toList[i], by rw [List.mem_iff_getElem?]; exact ⟨i, by rw [List.getElem?_set_ne hij, List.getElem?_eq_getElem hi]⟩, rfl⟩
end
theorem MapRange.chg {S : List Nat} {w w' : World} {b r : Nat} {es rest : Nm} (h : MapRange w b r es rest) (hc : Chg S w w') (hb : b ∉ S) (hr : r ∉ S) : MapRange w' b r es rest ∧ w'.rangeLeft b r = w.rangeLeft b r := by
  have hlt1 := h.map.lt
  have hlt2 := h.lt
  obtain ⟨D, lf, cnt, hrg, hR, hnd, hsub, hleft⟩ := h
  have hrg2 : w'.ranges Try.prog 9 (plainElem Try.prog 3) b r es.length D lf cnt := by
    obtain ⟨xs, clock, since, seen, c0, h1, F, hs, hD, h2, rest⟩ := hrg
    exact ⟨xs, clock, since, seen, c0, (hc.block b hlt1 hb).trans h1, F, hs, hD, (hc.block r hlt2 hr).trans h2, rest⟩
  exact ⟨⟨D, lf, cnt, hrg2, hR, hnd, hsub, hleft⟩, by rw [hrg2.left_eq, hrg.left_eq]⟩
theorem nget_mem_isSome {es : Nm} {s : List UInt8} {i : Nat} (h : (s, i) ∈ es) : (nget es s).isSome := by
  rcases hn : nget es s with _ | j
  · exfalso
    unfold nget at hn
    rw [Option.map_eq_none_iff, List.find?_eq_none] at hn
    exact hn _ h (by simp)
  · rfl
/-- The same map, told in another order. -/
theorem MapAt.congr {w : World} {b : Nat} {es es' : Nm} (h : MapAt w b es) (hn : (es'.map (·.1)).Nodup) (hl : es'.length = es.length) (hg : ∀ k, nget es' k = nget es k) : MapAt w b es' := by
  obtain ⟨D, h1, hr⟩ := h
  rw [← hl] at h1
  refine ⟨D, h1, ⟨hn, fun k z => by rw [hg]; exact hr.at_ k z, fun k => by rw [hg]; exact hr.has k, by rw [hl]; exact hr.size, hr.tidy, fun p hp => ?_⟩⟩
  have := mem_nget hn (s := p.1) (i := p.2) hp
  rw [hg] at this
  exact hr.wf _ (nget_some_mem this)
/-- 'm[k] = v' at a key that is there: the range goes on. -/
theorem wpPutR {w : World} {o : Oper} {a : Act} {K : Act → World → Prop} {Q : Exit → Act → World → Prop} (hdst : o.dst = none) (m x v : Operand) (hop : o.op = Op.mapUpdate 81 m x v)
    (b r : Nat) (es rest : Nm) (s : List UInt8) (i : Nat) (hm : a.eval m = .map (some b)) (hx : a.eval x = .string (strB s)) (hv : a.eval v = .int .i64 (i : Int)) (h : MapRange w b r es rest) (hin : (nget es s).isSome) (hs : s.length ≤ 9223372036854775807) (hi : i ≤ 4611686018427387904) (hn : es.length ≤ 10000000000000)
    (hno : nget rest s = none) (hK : ∀ w', MapRange w' b r (nput es s i) rest → w.grownBy w' (some b) → (nput es s i).length = es.length → w'.rangeLeft b r = w.rangeLeft b r → K a w') : o.wp Try.prog a w K Q := by
  obtain ⟨D, lf, cnt, hrg, hr, hnd, hsub, hleft⟩ := h
  obtain ⟨w', hrun, h1, h2⟩ := ranges_store hrg strKeyed undMapN (keyStr' s hs) (by rw [hr.has]; exact hin) (plainElem_int undInt (wfNat hi)) (by unfold maxLen; omega)
  have hsz : (nput es s i).length = es.length := by
    have h3 := length_ndel hr.nodup s
    rw [if_pos hin] at h3
    unfold nput
    rw [List.length_append]
    simp only [List.length_cons, List.length_nil]
    omega
  unfold Oper.wp
  simp [execOp, hop, hm, hx, hv, hrun, Result.andThen]
  have e : a.put o.dst undef = a := by rw [hdst]; rfl
  show K (a.put o.dst undef) w'
  rw [e]
  refine hK w' ⟨_, lf, cnt, by rw [hsz]; exact h1, hr.put s i hi, hnd, fun p hp => ?_, hleft⟩ h2.grown hsz (by rw [h1.left_eq, hrg.left_eq])
  unfold nput
  refine List.mem_append.2 (.inl (List.mem_filter.2 ⟨hsub p hp, ?_⟩))
  have : p.1 ≠ s := fun e => by
    have := nget_mem_isSome (es := rest) (s := s) (i := p.2) (by rw [← e]; exact hp)
    rw [hno] at this
    cases this
  simpa using this
end Go.Proofs.Ytpoohpmcopjklaa

/- Disk.settle. -/
namespace Go.Proofs.Ytpoohpmcopjklaa
open Go.RowKit

variable {w : World} {fp : List Nat} {b : Nat} {fv cv : Value} {nb sb : Nat} {hs : List HF} {d : Dsk}

def keepH (es : Nm) (hs : List HF) (n : Nat) : List HF := ((List.range n).filter (namedN es)).map fun i => ((hs.getD i (.slice none 0 0, [], 0)).1, (hs.getD i (.slice none 0 0, [], 0)).2.1, (hs.getD i (.slice none 0 0, [], 0)).2.1.length)
theorem keepH_length (es : Nm) (hs : List HF) (n : Nat) : (keepH es hs n).length = atN es n := by simp [keepH, atN]
theorem keepH_succ (es : Nm) (hs : List HF) (n : Nat) (h : n < hs.length) : keepH es hs (n + 1) = keepH es hs n ++ (if namedN es n then [(hs[n].1, hs[n].2.1, hs[n].2.1.length)] else []) := by
  have e : hs.getD n (.slice none 0 0, [], 0) = hs[n] := by rw [List.getD_eq_getElem?_getD, List.getElem?_eq_getElem h]; rfl
  unfold keepH; rw [List.range_succ, List.filter_append, List.map_append]; by_cases h : namedN es n <;> simp [h, e, -List.getD_eq_getElem?_getD]
theorem keepH_same (es : Nm) (hs : List HF) (n : Nat) : (keepH es hs n).map (·.2) = keepF es (hs.map (·.2)) n := by
  unfold keepH keepF
  rw [List.map_map]
  apply List.map_congr_left
  intro i _
  simp only [Function.comp, List.getD_eq_getElem?_getD, List.getElem?_map]
  cases hs[i]? <;> rfl
theorem keepH_mem {es : Nm} {hs : List HF} {n : Nat} (hn : n ≤ hs.length) {f : HF} (h : f ∈ keepH es hs n) : ∃ g ∈ hs, f = (g.1, g.2.1, g.2.1.length) := by
  obtain ⟨i, hi, rfl⟩ := List.mem_map.1 h
  have hi2 : i < hs.length := by have := List.mem_range.1 (List.mem_filter.1 hi).1; omega
  refine ⟨hs[i], List.getElem_mem hi2, ?_⟩
  rw [List.getD_eq_getElem?_getD, List.getElem?_eq_getElem hi2]; rfl
theorem keepH_apart {es : Nm} {hs : List HF} {n : Nat} (hn : n ≤ hs.length) (h : hs.Pairwise ApartV) : (keepH es hs n).Pairwise ApartV := by
  unfold keepH
  rw [List.pairwise_map]
  refine List.Pairwise.imp_of_mem ?_ ((List.pairwise_lt_range (n := n)).filter _)
  intro i j hi hj hij
  have hi2 : i < hs.length := by have := List.mem_range.1 (List.mem_filter.1 hi).1; omega
  have hj2 : j < hs.length := by have := List.mem_range.1 (List.mem_filter.1 hj).1; omega
  rw [List.getD_eq_getElem?_getD, List.getElem?_eq_getElem hi2, List.getD_eq_getElem?_getD, List.getElem?_eq_getElem hj2]
  exact pw_get h apartV_symm hi2 hj2 (by omega)
/-- What the map 'at' says behind file k. -/
def atF (es : Nm) (k : Nat) (j : Int) : Lit := .int .i64 (if 0 ≤ j ∧ j < k ∧ namedN es j.toNat = true then (atN es j.toNat : Int) else 0)
theorem atF_zero (es : Nm) : atF es 0 = fun _ => Lit.int .i64 0 := by funext j; unfold atF; rw [if_neg (by omega)]
theorem atF_succ (es : Nm) (k : Nat) : atF es (k + 1) = if namedN es k = true then (fun j => if j = (k : Int) then Lit.int .i64 (atN es k : Int) else atF es k j) else atF es k := by
  by_cases hk : namedN es k = true
  · rw [if_pos hk]
    funext j
    unfold atF
    by_cases hj : j = (k : Int)
    · subst hj
      have : (k : Int) < ((k + 1 : Nat) : Int) := by omega
      simp [hk]
      omega
    · rw [if_neg hj]
      have : (j < ((k + 1 : Nat) : Int)) ↔ j < (k : Int) := by omega
      simp only [this]
  · rw [if_neg hk]
    funext j
    unfold atF
    by_cases hj : j = (k : Int)
    · subst hj
      have : ¬ (namedN es ((k : Int)).toNat = true) := by simpa using hk
      rw [if_neg (fun h => this h.2.2), if_neg (fun h => this h.2.2)]
    · have : (j < ((k + 1 : Nat) : Int)) ↔ j < (k : Int) := by omega
      simp only [this]
theorem atF_at (es : Nm) (k i : Nat) (hi : i < k) (hn : namedN es i = true) : atF es k (i : Int) = .int .i64 (atN es i : Int) := by
  unfold atF; rw [if_pos ⟨by omega, by omega, by simpa using hn⟩]; simp

/-- What the names say while they are turned. -/
def HalfN (es0 rest es : Nm) : Prop := (es.map (·.1)).Nodup ∧ es.length = es0.length ∧ (∀ p ∈ rest, p ∈ es0) ∧ ∀ k, nget es k = if (nget rest k).isSome then nget es0 k else (nget es0 k).map (atN es0)
theorem HalfN.start {es : Nm} (h : (es.map (·.1)).Nodup) : HalfN es es es := ⟨h, rfl, fun _ hp => hp, fun k => by rcases hk : nget es k with _ | i <;> simp⟩
theorem HalfN.step {es0 rest es : Nm} (h : HalfN es0 rest es) (hn : (es0.map (·.1)).Nodup) (_hr : (rest.map (·.1)).Nodup) {k : List UInt8} {i : Nat} (hm : (k, i) ∈ rest) (hl : (nput es k (atN es0 i)).length = es.length) : HalfN es0 (ndel rest k) (nput es k (atN es0 i)) := by
  obtain ⟨h1, h2, h3, h4⟩ := h
  refine ⟨nodup_put h1 _ _, by rw [hl, h2], fun p hp => h3 p (List.mem_filter.1 hp).1, fun j => ?_⟩
  by_cases hj : j = k
  · subst hj
    rw [nget_put_same, nget_del_same, mem_nget hn (h3 _ hm)]; simp
  · rw [nget_put_other hj, nget_del_other hj, h4]
theorem HalfN.done {es0 es : Nm} (h : HalfN es0 [] es) (k : List UInt8) : nget (movedN es0) k = nget es k := by
  rw [nget_moved, h.2.2.2 k, nget_nil]; simp
theorem GoodD.moved {d : Dsk} (h : GoodD d) : GoodD { d with names := movedN d.names } := by
  refine { h with named := fun p hp => ?_, nnames := ?_ }
  · obtain ⟨q, hq, rfl⟩ := List.mem_map.1 hp
    exact Nat.lt_of_le_of_lt (atN_le _ _) (h.named q hq)
  · show ((movedN d.names).length : Int) ≤ d.ops
    unfold movedN; rw [List.length_map]; exact h.nnames

theorem settle_fin {wr wC : World} {L : List HF} {ao2 : Option Addr} {c2 : Nat} (D : DkP wC fp b fv cv nb sb hs { d with names := movedN d.names })
    (row : wC.ownsRow w.heap.size 94 2 (.slice ao2 L.length c2) L.length (fileCells L)) (HG : GoodD d) (HML : ∀ f ∈ L, ∃ g ∈ hs, f = (g.1, g.2.1, g.2.1.length))
    (HSM : L.map (·.2) = keepF d.names (hs.map (·.2)) hs.length) (HAP : L.Pairwise ApartV) (hsame : hs.map (·.2) = d.files) (hlt : nb < wr.heap.size) (hmc : MapAt wC wr.heap.size (movedN d.names)) (hcy : Chg [nb] w wr) (hcc : Chg [] wr wC) :
    DkOut w fp b (settleD d) ((((((wC.setCell ⟨b, 1, none⟩ (.slice ao2 L.length c2)).setCell ⟨b, 3, none⟩ (.map (some wr.heap.size))).setCell ⟨b, 4, none⟩ (.slice none 0 0)).setCell ⟨b, 8, none⟩ (.bool false)).setCell ⟨b, 6, none⟩ (.int .i64 (-1))).setCell ⟨b, 7, none⟩ (.int .i64 (-1))) := by
  have hbox : Blk ((((((wC.setCell ⟨b, 1, none⟩ (.slice ao2 L.length c2)).setCell ⟨b, 3, none⟩ (.map (some wr.heap.size))).setCell ⟨b, 4, none⟩ (.slice none 0 0)).setCell ⟨b, 8, none⟩ (.bool false)).setCell ⟨b, 6, none⟩ (.int .i64 (-1))).setCell ⟨b, 7, none⟩ (.int .i64 (-1))) b
      (boxCells (.slice ao2 L.length c2) (.slice none 0 0) nb wr.heap.size (settleD d)) 85 :=
    (((((D.box.set 1 _).set 3 _).set 4 _).set 8 _).set 6 _).set 7 _
  have hch : Chg [b] wC ((((((wC.setCell ⟨b, 1, none⟩ (.slice ao2 L.length c2)).setCell ⟨b, 3, none⟩ (.map (some wr.heap.size))).setCell ⟨b, 4, none⟩ (.slice none 0 0)).setCell ⟨b, 8, none⟩ (.bool false)).setCell ⟨b, 6, none⟩ (.int .i64 (-1))).setCell ⟨b, 7, none⟩ (.int .i64 (-1))) :=
    ((((((Chg.refl _ _).setCell _ _ (by simp)).setCell _ _ (by simp)).setCell _ _ (by simp)).setCell _ _ (by simp)).setCell _ _ (by simp)).setCell _ _ (by simp)
  generalize ((((((wC.setCell ⟨b, 1, none⟩ (.slice ao2 L.length c2)).setCell ⟨b, 3, none⟩ (.map (some wr.heap.size))).setCell ⟨b, 4, none⟩ (.slice none 0 0)).setCell ⟨b, 8, none⟩ (.bool false)).setCell ⟨b, 6, none⟩ (.int .i64 (-1))).setCell ⟨b, 7, none⟩ (.int .i64 (-1))) = W at *
  have hrb := ownsRow_apart row D.box (by decide)
  have hcf : Chg fp w W := ((hcy.mono (S' := fp) (by simp only [List.mem_singleton]; rintro x rfl _; exact D.fpn)).trans hcc (by simp)).trans hch (by simp only [List.mem_singleton]; rintro x rfl _; exact D.fpb)
  refine DkOut.mk (fp' := (Value.slice ao2 L.length c2).ownBlock.toList ++ wr.heap.size :: fp) ⟨.slice ao2 L.length c2, .slice none 0 0, nb, wr.heap.size, L, ?_⟩ hcf ?_
  · exact
    { box := hbox
      names := D.names.chg hch (by simpa using D.names.apart D.box)
      sure := hmc.chg hch (by simpa using hmc.apart D.box)
      files := ownsRow_mono (ownsRow_chg row hch fun k hk => by rw [hk] at hrb; simpa using hrb) (Nat.zero_le _)
      same := by rw [HSM, hsame]; show _ = keepF d.names d.files d.files.length; rw [← hsame, List.length_map]
      changes := World.ownsRow_nil _ _ _ _
      bytes := fun f hf => by
        obtain ⟨g, hg, rfl⟩ := HML f hf
        exact OwB.chg (D.bytes g hg) hch fun k hk => by have := ownsRow_apart (D.bytes g hg) D.box (by decide); rw [hk] at this; simpa using this
      apart := HAP
      ne := by omega
      fpb := by simp [D.fpb]
      fpn := by simp [D.fpn]
      fps := by simp
      fpf := fun k hk => by simp [hk]
      fpc := by simp [Value.ownBlock]
      fph := fun f hf k hk => by
        obtain ⟨g, hg, rfl⟩ := HML f hf
        simp [D.fph g hg k hk]
      fpl := fun k hk => by
        refine Nat.lt_of_lt_of_le ?_ hch.size
        rcases List.mem_append.1 hk with hk | hk
        · exact (World.ownsRow.lt row k (by simpa using hk)).2
        · rcases List.mem_cons.1 hk with rfl | hk
          · exact hmc.lt
          · exact D.fpl k hk
      good := HG.settle (fun f hf => (HG.files f hf).2) }
  · intro k hk
    rcases List.mem_append.1 hk with hk | hk
    · exact .inr (World.ownsRow.lt row k (by simpa using hk)).1
    · rcases List.mem_cons.1 hk with rfl | hk
      · exact .inr hcy.size
      · exact .inl hk

set_option maxRecDepth 100000 in
set_option maxHeartbeats 2000000 in
theorem settle_any (h : DkP w fp b fv cv nb sb hs d) : Calls Try.prog 57 #[.pointer (some ⟨b, 0, none⟩)] w fun e w' => e = .returned (.tuple #[]) ∧ DkOut w fp b (settleD d) w' := by
  have hmm := @run_makeMap Try.prog
  have H := hd h
  have m3 := MapF.new w 3 (.int .i64 0)
  have m4 := MapF.new (w.alloc (.map #[] 0)) 4 (.bool false)
  have e1 : (w.alloc (.map #[] 0)).heap.size = w.heap.size + 1 := by simp
  rw [e1] at m4
  have hcA : Chg [] w ((w.alloc (.map #[] 0)).alloc (.map #[] 0)) := ((Chg.refl [] w).alloc _).alloc _
  replace m3 := m3.k ((Chg.refl [] _).alloc (.map #[] 0))
  clear e1 h
  go_enter Try.func57, Try.ntmps57
  go_upto_region 3 with (fail)
  have hzA2 : ((w.alloc (.map #[] 0)).alloc (.map #[] 0)).heap.size = w.heap.size + 2 := by simp
  generalize (w.alloc (.map #[] 0)).alloc (.map #[] 0) = wA at *
  have q2 := (H.out.k hcA).box.cell 2
  simp [boxCells] at q2
  have hN := (H.out.k hcA).names
  have hzA := hcA.size
  go_wp2_with (at_range; refine wpRangeM rfl _ rfl nb _ rfl hN ?_; intro w1 hr1 hc1)
  have hR : w.heap.size + 2 ≤ wA.heap.size := by omega
  have HZA := hd hzA2
  clear hzA2
  replace m3 := m3.k hc1
  replace m4 := m4.k hc1
  have hc01 := hcA.k hc1
  have hg := H.out.good
  obtain ⟨aof, cf, rfl⟩ : ∃ ao c, fv = .slice ao hs.length c := by
    rcases H.out.files.2 with ⟨rfl, hz⟩ | ⟨g, cap, cur, rfl, _⟩
    · exact ⟨none, 0, by rw [hz]⟩
    · exact ⟨_, cap, rfl⟩
  have hnl : (d.names.length : Int) ≤ d.ops := hg.nnames
  have hfl : (hs.length : Int) ≤ d.ops := by rw [H.out.len]; exact hg.nfiles
  have hol : d.ops ≤ 1073741824 := hg.ops.2
  have hnb : nb < w.heap.size := H.out.names.lt
  have HG := hd hg
  clear hmm hN q2 hc1 hg
  go_frame
  go_loopw [6] (fun _ wr => ∃ (rest : Nm) (n : Nat) (f : Int → Lit), MapRange wr nb wA.heap.size d.names rest ∧ MapF wr 4 (w.heap.size + 1) n (.bool false) f ∧ MapF wr 3 w.heap.size 0 (.int .i64 0) (fun _ => .int .i64 0) ∧ n + rest.length ≤ d.names.length ∧
      (∀ p ∈ d.names, p ∈ rest ∨ f (p.2 : Nat) = .bool true) ∧ (∀ j : Nat, f j = .bool true → namedN d.names j = true) ∧ (∀ j : Nat, f j = .bool true ∨ f j = .bool false) ∧ Chg [] w wr)
    (fun _ wr => wr.rangeLeft nb wA.heap.size)
  case atStart => exact ⟨d.names, 0, _, hr1, m4, m3, by omega, fun p hp => .inl hp, fun j h => absurd h (by simp), fun j => .inr rfl, hc01⟩
  case round =>
    obtain ⟨rest, n, f, hr, hm4, hm3, hn, g1, g2, g3, hc⟩ := hrel
    have G1 := hd g1
    have G2 := hd g2
    have G3 := hd g3
    clear g1 g2 g3
    go_wp2_with (at_next; refine wpNextM rfl _ rfl nb wA.heap.size d.names rest rfl hr ?_ ?_)
    · rintro rfl
      have hf : ∀ j : Nat, f j = .bool (namedN d.names j) := fun j => by
        rcases G3.out j with h1 | h1
        · rw [h1, G2.out j h1]
        · by_cases hj : namedN d.names j = true
          · exfalso
            unfold namedN at hj
            rw [List.any_eq_true] at hj
            obtain ⟨p, hp, hpj⟩ := hj
            have hpj : p.2 = j := by simpa using hpj
            rcases G1.out p hp with h2 | h2
            · cases h2
            · rw [hpj, h1] at h2; cases h2
          · rw [h1]; simpa using hj
      have HF := hd hf
      have hn4 : n ≤ 1073741824 := by have := hnl; simp only [List.length_nil] at hn; omega
      clear hf G1 G2 G3 hn hr hr1 m3 m4 hc01
      have q1 := (H.out.k hc).box.cell 1
      simp [boxCells] at q1
      have hm30 : MapF wr 3 w.heap.size 0 (.int .i64 0) (atF d.names 0) := by rw [atF_zero]; exact hm3
      clear hm3
      go_wp2_with fail
      go_loopw [2, 7, 8, 29] (fun t2 _ _ t29 wx => ∃ (k n3 : Nat) (ao : Option Addr) (c : Nat), k ≤ hs.length ∧ t29 = .int .i64 k ∧ t2 = .slice ao (keepH d.names hs k).length c ∧
          wx.ownsRow w.heap.size 94 2 (.slice ao (keepH d.names hs k).length c) (keepH d.names hs k).length (fileCells (keepH d.names hs k)) ∧
          MapF wx 4 (w.heap.size + 1) n (.bool false) f ∧ n3 ≤ k ∧ MapF wx 3 w.heap.size n3 (.int .i64 0) (atF d.names k) ∧ Chg [] w wx)
        (fun _ _ _ t29 _ => hs.length - (intOf t29).toNat)
      case atStart => exact ⟨0, 0, none, 0, by omega, rfl, rfl, World.ownsRow_nil _ _ _ _, hm4, by omega, hm30, hc⟩
      case round =>
        obtain ⟨k, n3, ao2, c2, hk, rfl, rfl, hrow, hm4', hn3, hm3', hcx⟩ := hrel
        by_cases hlt : k < hs.length
        · obtain ⟨g, cg, e⟩ := H.out.slice (by omega)
          simp only [Value.slice.injEq, true_and] at e
          obtain ⟨rfl, rfl⟩ := e
          obtain ⟨aok, ck, hv, c0, c1, -⟩ := (H.out.k hcx).file hlt
          have hlti : (k : Int) < (hs.length : Int) := by omega
          have hks := keepH_succ d.names hs k hlt
          have has := atF_succ d.names k
          have hle : (keepH d.names hs k).length ≤ k := by rw [keepH_length]; exact atN_le _ _
          have hat : atN d.names k = (keepH d.names hs k).length := (keepH_length _ _ _).symm
          have hxl : hs[k].2.1.length ≤ 4294967296 := by
            have := (HG.out.files hs[k].2 (by rw [← H.out.same]; exact List.mem_map.2 ⟨_, List.getElem_mem hlt, rfl⟩)).2.2
            exact this
          rw [hat] at has
          generalize hs[k]'hlt = X at *
          obtain ⟨Xv, Xb, Xs⟩ := X
          simp only at hv c0 c1 hks hxl
          subst hv
          generalize atF d.names k = A at *
          have HKS := hd hks
          have HAS := hd has
          generalize keepH d.names hs k = L at *
          have hiw : (Lit.int .i64 (k : Int)).wf = true := wfNat (by omega)
          have hlw : (Lit.int .i64 (L.length : Int)).wf = true := wfNat (by omega)
          have hlt3 := hm3'.lt
          clear hks has hat hm4 hm30 q1
          go_upto_region 10 with (fail)
          have kx := Blk.new wr #[.slice aok Xb.length ck, .int .i64 (Xs : Int)] 94
          have hcb := (Chg.refl [] wr).alloc (.cells #[.slice aok Xb.length ck, .int .i64 (Xs : Int)] 94)
          replace hcx := hcx.k hcb
          replace hm4' := hm4'.k hcb
          replace hm3' := hm3'.k hcb
          replace hrow := ownsRow_k hrow hcb
          have hzq := hcb.size
          clear hcb
          generalize wr.alloc (.cells #[.slice aok Xb.length ck, .int .i64 (Xs : Int)] 94) = wq at *
          have hlk := run_lookIB hm4' hiw (HF.out k)
          by_cases hnm : namedN d.names k = true
          · rw [hnm] at hlk
            have hn3m : n3 < maxLen := by unfold maxLen; omega
            have hks := HKS.out
            rw [if_pos hnm] at hks
            have has := HAS.out
            rw [if_pos hnm] at has
            replace HKS := hd hks
            replace HAS := hd has
            clear hks has c0 c1
            go_upto_region 12 with (at_mapUpdate; refine wpPutF rfl rfl _ _ _ 54 3 rfl undMapII w.heap.size n3 _ _ hm3' rfl hn3m (k : Int) hiw (.int .i64 (L.length : Int)) (.int .i64 (L.length : Int)) rfl rfl (plainElem_int undInt hlw) ?_; intro w3 hm33 hg3)
            have kx3 := kx.grown hg3 (by intro e; injection e with e; omega)
            have q0 := kx3.cell 0
            have q1 := kx3.cell 1
            simp at q0 q1
            have row3 := World.ownsRow.kept hrow hg3 (.inr (hm3'.apartRow hrow))
            have m43 := hm4'.grown hg3 (by simp)
            have hc3 := hcx.grown hg3 (by rintro _ ⟨rfl⟩; omega)
            have row4 := World.ownsRow.alloc row3 (.cells #[.slice aok Xb.length ck, .int .i64 (Xb.length : Int)] 94)
            have hz3 := hc3.size
            clear kx kx3 hm3' hm4' hrow hlk hg3
            go_wp2_with (at_builtin; refine wpApp rowFile rfl _ _ rfl w.heap.size _ L.length (fileCells L) rfl row4 _ 1 [.slice aok Xb.length ck, .int .i64 (Xb.length : Int)] rfl (Rd.lit w3 2 1 _ _ _ rfl rfl (by decide)) (by simp [Value.oneCell']) (by omega) (by omega) (by simp; omega) ?_; intro ao5 c5 w5 hr5 hg5 hm5 _)
            go_roundw
            case rel =>
              have hl1 : (keepH d.names hs (k + 1)).length = L.length + 1 := by rw [HKS.out]; simp
              refine ⟨k + 1, n3 + 1, ao5, c5, by omega, by go_num, by rw [hl1], ?_, (m43.alloc _).grown hg5 (fun e => (m43.alloc _).apartRow row4 e.symm), by omega, ?_, (hc3.alloc _).ownGrow row4 hg5 (Nat.le_refl _)⟩
              · rw [hl1, HKS.out, fileCells_app]; exact hr5
              · rw [HAS.out]; exact (hm33.alloc _).grown hg5 (fun e => (hm33.alloc _).apartRow row4 e.symm)
            case measure => simp [intOf]; omega
          · have hnm' : namedN d.names k = false := by simpa using hnm
            rw [hnm'] at hlk
            have hks := HKS.out
            rw [if_neg hnm, List.append_nil] at hks
            have has := HAS.out
            rw [if_neg hnm] at has
            replace HKS := hd hks
            replace HAS := hd has
            clear hks has c0 c1 hnm hnm'
            go_wp2_with fail
            go_roundw
            case rel => exact ⟨k + 1, n3, ao2, c2, by omega, by go_num, by rw [HKS.out], by rw [HKS.out]; exact hrow, hm4', by omega, by rw [HAS.out]; exact hm3', hcx⟩
            case measure => simp [intOf]; omega
        · obtain rfl : k = hs.length := by omega
          obtain ⟨wB, hwB⟩ : ∃ wB, wB = wr := ⟨_, rfl⟩
          subst hwB
          have ha0 := hm3'.lt
          have hN3 := (H.out.k hcx).names
          have q2 := (H.out.k hcx).box.cell 2
          simp [boxCells] at q2
          have hml := fun f hf => keepH_mem (es := d.names) (Nat.le_refl hs.length) (f := f) hf
          have hsm := keepH_same d.names hs hs.length
          have hap := keepH_apart (es := d.names) (Nat.le_refl hs.length) H.out.apart
          have hll : (keepH d.names hs hs.length).length ≤ hs.length := by rw [keepH_length]; exact atN_le _ _
          generalize keepH d.names hs hs.length = L at *
          have hA : ∀ p ∈ d.names, atF d.names hs.length (p.2 : Nat) = .int .i64 (atN d.names p.2 : Int) := fun p hp => atF_at _ _ _ (by rw [H.out.len]; exact HG.out.named p hp) (named_of_mem hp)
          generalize atF d.names hs.length = A at *
          have HA := hd hA
          have HML := hd hml
          have HSM := hd hsm
          have HAP := hd hap
          have hrb : ∀ j, (Value.slice ao2 L.length c2).ownBlock = some j → j < wB.heap.size := fun j hj => (World.ownsRow.lt hrow j hj).2
          have HRB := hd hrb
          clear hrb hA hm4' HF hm4 hm30 q1 hml hsm hap hlt hc hcA hzA HZA hR
          go_wp2_with (at_range; refine wpRangeM rfl _ rfl nb _ rfl hN3 ?_; intro w4 hr4 hc4)
          replace hm3' := hm3'.k hc4
          replace hrow := ownsRow_k hrow hc4
          have hc4' := hcx.k hc4
          have hzx := hcx.size
          clear hN3 q2 hc4 hcx
          go_loopw [9, 10] (fun _ _ wy => ∃ (rest es : Nm), MapRange wy nb wB.heap.size es rest ∧ HalfN d.names rest es ∧ wy.ownsRow w.heap.size 94 2 (.slice ao2 L.length c2) L.length (fileCells L) ∧ MapF wy 3 w.heap.size n3 (.int .i64 0) A ∧ Chg [nb] w wy)
            (fun _ _ wy => wy.rangeLeft nb wB.heap.size)
          case atStart => exact ⟨d.names, d.names, hr4, HalfN.start H.out.names.nodup, hrow, hm3', hc4'.mono (by simp)⟩
          case round =>
            obtain ⟨rest, es, hr, hhalf, hrow, hm3', hcy⟩ := hrel
            have HH := hd hhalf
            clear hhalf
            go_wp2_with (at_next; refine wpNextM rfl _ rfl nb wB.heap.size es rest rfl hr ?_ ?_)
            · rintro rfl
              have hm := hr.map.congr (moved_nodup H.out.names.nodup) (by unfold movedN; rw [List.length_map]; exact HH.out.2.1.symm) (fun k => HH.out.done k)
              have hD := H.out.named hcy hm HG.out.moved
              have q2 := hD.box.cell 2
              simp [boxCells] at q2
              have HD := hd hD
              have HROW := hd hrow
              have HCY := hd hcy
              have hmlt := hm.lt
              clear hr hm3' hr4 hc4' hrow hcy hD
              go_wp2_with fail
              refine (CloneM_any _ nb (movedN d.names) hm).mono ?_
              rintro e wC ⟨rfl, hmc, hcc⟩
              have D := HD.out.k hcc
              have row := ownsRow_k HROW.out hcc
              have FIN := settle_fin D row HG.out HML.out HSM.out HAP.out H.out.same hmlt hmc HCY.out hcc
              have f1 := D.box.free 1
              have b1 := D.box.set 1 (.slice ao2 L.length c2)
              have q1 := D.box.cell 1
              have f3 := b1.free 3
              have b3 := b1.set 3 (.map (some wr.heap.size))
              have q3 := b1.cell 3
              have f4 := b3.free 4
              have b4 := b3.set 4 (.slice none 0 0)
              have q4 := b3.cell 4
              have f8 := b4.free 8
              have b8 := b4.set 8 (.bool false)
              have q8 := b4.cell 8
              have f6 := b8.free 6
              have b6 := b8.set 6 (.int .i64 (-1))
              have q6 := b8.cell 6
              have f7 := b6.free 7
              have q7 := b6.cell 7
              simp [boxCells] at q1 q3 q4 q8 q6 q7
              have HFIN := hd FIN
              clear FIN D row hm hmc hcc b1 b3 b4 b8 b6 hmlt q2 hn3 hk hll hnl hfl hol
              go_wp2_with fail
              go_end0
              exact ⟨rfl, HFIN.out⟩
            · intro k i w2 hmem hr2 hc2 hlt2 hen hkl
              have hcw : Chg [nb] w w2 := hcy.trans hc2 (by simp; omega)
              have hm2 := hm3'.chg hc2 (by simp; omega)
              have hrow2 := ownsRow_chg hrow hc2 (fun j hj => by have := HRB.out j hj; simp; omega)
              have hes := hr.sub _ hmem
              have hn0 := HH.out.2.2.1 _ hmem
              have hil := HG.out.named _ hn0
              have hin := nget_mem_isSome hes
              have hno := nget_del_same rest k
              have hst := fun hl => HH.out.step H.out.names.nodup hr.nodup hmem hl
              have hAi := HA.out _ hn0
              have hale := atN_le d.names i
              simp only at hAi hil
              rw [← H.out.len] at hil
              have hesl : es.length ≤ 1073741824 := by have := HH.out.2.1; omega
              generalize atN d.names i = m at *
              have hiw : (Lit.int .i64 (i : Int)).wf = true := wfNat (by omega)
              have hlk : ∀ wx, Chg [nb] w2 wx → (Instr.lookup 54 (.map (some w.heap.size)) (.int .i64 (i : Int)) false).run Try.prog wx = .ok (.int .i64 (m : Int)) wx := fun wx hx => by
                obtain ⟨c, h1, h2⟩ := run_lookII (hm2.chg hx (by simp; omega)) hiw
                rw [hAi] at h2
                simp only [Lit.int.injEq, true_and] at h2
                rw [h1, h2]
              have q2 := hcw.cellT (H.out.box.cell 2) (by simpa using fun e => H.out.names.apart H.out.box e.symm)
              simp [boxCells] at q2
              have NB : b ∉ [nb] := by simpa using fun e => H.out.names.apart H.out.box e.symm
              have hr2' := (hr2.chg ((Chg.refl [] w2).drew) (by simp) (by simp)).1
              have hz2 := (hr2.chg ((Chg.refl [] w2).drew) (by simp) (by simp)).2
              have HLK := hd hlk
              have Q2 := hd q2
              have HR2 := hd hr2'
              have HST := hd hst
              have HM2 := hd hm2
              have HROW2 := hd hrow2
              have HCW := hd hcw
              have HLT := hd hlt2
              have HZ2 := hd hz2
              have HIN := hd hin
              have HNO := hd hno
              clear hlk q2 hr2' hst hm2 hrow2 hcw hr hr2 hc2 hes hn0 hmem hcy hrow hm3' hlt2 hz2 hAi hin hno hr4 hc4'
              go_upto_region 17 with (fail)
              refine anyH_start (n := 9) (L := #[false, false, false, false, false, false, false, false, false]) (by kernel_rfl) (by kernel_rfl) (S := (fun wx => Chg [nb] w2 wx)) ((Chg.refl _ _).drew) (fun hHeld => ?_)
              refine anyH_take (i := 0) (d := 61) (L' := #[true, false, false, false, false, false, false, false, false]) (v := ?v4) rfl rfl (by kernel_rfl) (fun _ _ _ h => h) (by rfl) ?hy4 (by assumption) ?rest4
              case hy4 => (intro wx hSw; (try dsimp only at hSw); (have t2 := hSw.cellT Q2.out NB); go_simp; (try with_reducible rfl))
              simp only [Act.put, List.setIfInBounds_toArray, List.set_cons_zero, List.set_cons_succ]
              refine anyH_take (i := 1) (d := 62) (L' := #[true, true, false, false, false, false, false, false, false]) (v := ?v5) rfl rfl (by kernel_rfl) (fun _ _ _ h => h) (by rfl) ?hy5 (by assumption) ?rest5
              case hy5 => (intro wx hSw; (try dsimp only at hSw); (have t2 := hSw.cellT Q2.out NB); go_simp; (try with_reducible rfl))
              simp only [Act.put, List.setIfInBounds_toArray, List.set_cons_zero, List.set_cons_succ]
              refine anyH_take (i := 2) (d := 63) (L' := #[true, true, true, false, false, false, false, false, false]) (v := ?v6) rfl rfl (by kernel_rfl) (fun _ _ _ h => h) (by rfl) ?hy6 (by assumption) ?rest6
              case hy6 => (intro wx hSw; (try dsimp only at hSw); (have t2 := hSw.cellT Q2.out NB); go_simp; (try with_reducible rfl))
              simp only [Act.put, List.setIfInBounds_toArray, List.set_cons_zero, List.set_cons_succ]
              refine anyH_take (i := 3) (d := 64) (L' := #[true, true, true, true, false, false, false, false, false]) (v := ?v7) rfl rfl (by kernel_rfl) (fun _ _ _ h => h) (by rfl) ?hy7 (by assumption) ?rest7
              case hy7 => (intro wx hSw; (try dsimp only at hSw); (have t2 := hSw.cellT Q2.out NB); go_simp; (try with_reducible rfl))
              simp only [Act.put, List.setIfInBounds_toArray, List.set_cons_zero, List.set_cons_succ]
              refine anyH_take (i := 4) (d := 65) (L' := #[true, true, true, true, true, false, false, false, false]) (v := ?v8) rfl rfl (by kernel_rfl) (fun _ _ _ h => h) (by rfl) ?hy8 (by assumption) ?rest8
              case hy8 => (intro wx hSw; (try dsimp only at hSw); (have t2 := hSw.cellT Q2.out NB); go_simp; (try with_reducible rfl))
              simp only [Act.put, List.setIfInBounds_toArray, List.set_cons_zero, List.set_cons_succ]
              refine anyH_take (i := 5) (d := 66) (L' := #[true, true, true, true, true, true, false, false, false]) (v := ?v9) rfl rfl (by kernel_rfl) (fun _ _ _ h => h) (by rfl) ?hy9 (by assumption) ?rest9
              case hy9 => (intro wx hSw; (try dsimp only at hSw); (have t2 := hSw.cellT Q2.out NB); go_simp; (try with_reducible rfl))
              simp only [Act.put, List.setIfInBounds_toArray, List.set_cons_zero, List.set_cons_succ]
              refine anyH_take (i := 6) (d := 67) (L' := #[true, true, true, true, true, true, true, false, false]) (v := ?v10) rfl rfl (by kernel_rfl) (fun _ _ _ h => h) (by rfl) ?hy10 (by assumption) ?rest10
              case hy10 => (intro wx hSw; (try dsimp only at hSw); (have t2 := hSw.cellT Q2.out NB); go_simp; (try with_reducible rfl))
              simp only [Act.put, List.setIfInBounds_toArray, List.set_cons_zero, List.set_cons_succ]
              refine anyH_take (i := 7) (d := 68) (L' := #[true, true, true, true, true, true, true, true, false]) (v := ?v11) rfl rfl (by kernel_rfl) (fun _ _ _ h => h) (by rfl) ?hy11 (by assumption) ?rest11
              case hy11 => (intro wx hSw; (try dsimp only at hSw); (have t7 := HLK.out _ hSw); go_simp; (try with_reducible rfl))
              simp only [Act.put, List.setIfInBounds_toArray, List.set_cons_zero, List.set_cons_succ]
              refine anyH_run (i := 8) (L' := #[true, true, true, true, true, true, true, true, true]) rfl (by kernel_rfl) (by rfl) (fun KK hKK => ?_)
              (refine wpPutR rfl _ _ _ rfl nb wB.heap.size es (ndel rest k) k m rfl rfl rfl HR2.out HIN.out hkl (by omega) (by omega) HNO.out ?_; intro w6 hr6 hg6 hl6 hz6; have hc6 : Chg [nb] w2 w6 := (Chg.refl [nb] w2).drew.grown hg6 (by rintro _ ⟨rfl⟩ _; simp))
              refine hKK.out _ _ (by assumption) (fun hHeld => ?_)
              clear hKK KK
              try simp only [Act.put, List.setIfInBounds_toArray, List.set_cons_zero, List.set_cons_succ]
              refine wpAnyH_done (by kernel_rfl) ?_ _
              go_roundw
              case rel =>
                (repeat apply Exists.intro)
                exact ⟨⟨ndel rest k, nput es k m, hr6, HST.out hl6, ownsRow_chg HROW2.out hc6 (fun j hj => by have := (World.ownsRow.lt HROW2.out j hj).1; simp; omega), HM2.out.chg hc6 (by simp; omega), HCW.out.trans hc6 (by simp)⟩, rfl⟩
              case measure => rw [hz6, HZ2.out]; exact HLT.out
    · intro k i w2 hmem hr2 hc2 hlt hen _
      have hcw : Chg [] w w2 := hc.trans hc2 (by simp; omega)
      have hm42 := hm4.chg hc2 (by simp; omega)
      have hm32 := hm3.chg hc2 (by simp; omega)
      have hes := hr.sub _ hmem
      have hlen : (ndel rest k).length + 1 ≤ rest.length := by
        have h1 := length_ndel hr.nodup k
        rw [mem_nget hr.nodup hmem] at h1
        simp at h1
        omega
      have hiw : (Lit.int .i64 (i : Int)).wf = true := wfNat (by have := HG.out.named _ hes; have := HG.out.nfiles; simp only at *; omega)
      have hnm : n < maxLen := by unfold maxLen; omega
      have hrw : ∀ w3, w2.grownBy w3 (some (w.heap.size + 1)) → MapRange w3 nb wA.heap.size d.names (ndel rest k) ∧ w3.rangeLeft nb wA.heap.size = w2.rangeLeft nb wA.heap.size := fun w3 hg3 => hr2.chg (Chg.ofGrown hg3) (by simp; omega) (by simp; omega)
      have HRW := hd hrw
      have hm32' : ∀ w3, w2.grownBy w3 (some (w.heap.size + 1)) → MapF w3 3 w.heap.size 0 (.int .i64 0) (fun _ => .int .i64 0) := fun w3 hg3 => hm32.grown hg3 (by simp)
      have HM3 := hd hm32'
      have HES := hd hes
      have HNDR := hd hr.nodup
      have HSUBR := hd hr.sub
      have HMEM := hd hmem
      clear hrw hm32' hm32 hr hr2 hm4 hm3 hr1 m3 m4 hc01 hc2 hes hmem
      go_wp2_with (at_mapUpdate; refine wpPutF rfl rfl _ _ _ _ 4 rfl undMapIB (w.heap.size + 1) n _ f hm42 rfl hnm (i : Int) hiw (.bool true) (.bool true) rfl rfl (plainElem_bool undBool true) ?_; intro w3 hm43 hg3)
      go_roundw
      case rel =>
        refine ⟨ndel rest k, n + 1, _, (HRW.out w3 hg3).1, hm43, HM3.out w3 hg3, by omega, fun p hp => ?_, fun j hj => ?_, fun j => ?_, hcw.grown hg3 (by rintro _ ⟨rfl⟩; omega)⟩
        · by_cases hpk : p.1 = k
          · right
            have h1 := mem_nget (H.out.names.nodup) (s := p.1) (i := p.2) hp
            have h2 := mem_nget (H.out.names.nodup) HES.out
            rw [hpk, h2] at h1
            simp at h1
            rw [if_pos (by rw [h1])]
          · rcases G1.out p hp with h1 | h1
            · left; exact List.mem_filter.2 ⟨h1, by simpa using hpk⟩
            · right; split
              · rfl
              · exact h1
        · split at hj
          · rename_i e
            have e' : j = i := by omega
            subst e'
            exact named_of_mem HES.out
          · exact G2.out j hj
        · split
          · exact .inl rfl
          · exact G3.out j
      case measure => rw [(HRW.out w3 hg3).2]; exact hlt
end Go.Proofs.Ytpoohpmcopjklaa
