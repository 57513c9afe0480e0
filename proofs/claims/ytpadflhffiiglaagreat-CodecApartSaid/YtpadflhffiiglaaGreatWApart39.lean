/- Words and walks that Apart rests on: Rec, RecB, RecJ, RecC, Find, WorldI, FindB, FindJ, CodecMath, CodecBack, CodecLaw, CodecCnt, CodecFwd, WorldR. -/
import Derived.Test.YtpadflhffiiglaaGreatWApart38
import Derived.Deep.MidRow
import Derived.Shelf.Abstract
import Derived.Test.YtpadflhffiiglaaGreatWApart24
import Derived.Test.YtpadflhffiiglaaGreatWApart7
import Derived.Test.YtpadflhffiiglaaGreatWApart30
import Derived.Test.YtpadflhffiiglaaGreatWApart15
/- Rows of records of whatever size: what is read, what is written; the ones that go. -/
namespace Go.Proofs.YtpadflhffiiglaaGreat
open Go.RowKit

/-- A row of records of the call's own. -/
def OwR {α : Type} (enc : α → List Value) (sz : Nat) (et : TypeId) (w : World) (base : Nat) (v : Value) (l : List α) : Prop := w.ownsRow base et sz v l.length (l.flatMap enc)
section
variable {α : Type} {enc : α → List Value} {sz : Nat} {et : TypeId} {w w' : World} {base : Nat} {v : Value} {l : List α}
theorem OwR.rd (h : OwR enc sz et w base v l) : Rd w sz v l.length (l.flatMap enc) := Rd.ofOwn h
theorem OwR.k (h : OwR enc sz et w base v l) (hc : Chg [] w w') : OwR enc sz et w' base v l := ownsRow_k h hc
theorem OwR.chg {S : List Nat} (h : OwR enc sz et w base v l) (hc : Chg S w w') (hn : ∀ sz, v.ownBlock = some sz → sz ∉ S) : OwR enc sz et w' base v l := ownsRow_chg h hc hn
theorem OwR.mono {b' : Nat} (h : OwR enc sz et w base v l) (hb : b' ≤ base) : OwR enc sz et w b' v l := ownsRow_mono h hb
theorem OwR.form (h : OwR enc sz et w base v l) : ∃ ao c, v = .slice ao l.length c ∧ l.length ≤ c ∧ c ≤ 9223372036854775807 ∧ ((ao = none ∧ l = []) ∨ ∃ g, ao = some ⟨g, 0, none⟩ ∧ base ≤ g ∧ g < w.heap.size) := by
  rcases h.2 with ⟨rfl, hz⟩ | ⟨g, cap, cur, rfl, hb, hg, hnc, hcm, _⟩
  · exact ⟨none, 0, by rw [hz], by omega, by decide, .inl ⟨rfl, List.eq_nil_of_length_eq_zero hz⟩⟩
  · exact ⟨_, cap, rfl, hnc, hcm, .inr ⟨g, rfl, hb, lt_of_block hg⟩⟩
theorem OwR.lo (h : OwR enc sz et w base v l) : ∀ b, v.ownBlock = some b → base ≤ b ∧ b < w.heap.size := World.ownsRow.lt h
theorem Rd.rangeAt (henc : ∀ x, (enc x).length = sz) {b off n c : Nat} (h : Rd w sz (.slice (some ⟨b, off, none⟩) n c) l.length (l.flatMap enc)) (i : Nat) (hi : i < l.length) : w.rangeAt b (off + i * sz) (enc l[i]) := by
  intro j v hv
  have := Rd.cellsAt henc h i hi j v hv
  rwa [Addr.add_mid] at this
theorem rangeAt_k {b o : Nat} {cs : List Value} (h : w.rangeAt b o cs) (hc : Chg [] w w') : w'.rangeAt b o cs := fun j v hv => hc.cellS (h j v hv)
theorem there_k {b o n : Nat} (h : w.there b o n) (hc : Chg [] w w') : w'.there b o n := fun j hj => by
  obtain ⟨h1, h2⟩ := h j hj
  obtain ⟨u, hu⟩ := Option.isSome_iff_exists.1 h1
  exact ⟨by rw [hc.cellS hu]; rfl, (hc.frozenS hu).trans h2⟩
theorem OwR.there {g n c : Nat} (h : OwR enc sz et w base (.slice (some ⟨g, 0, none⟩) n c) l) (i : Nat) (hi : i < c) : w.there g (i * sz) sz := by
  rcases h.2 with ⟨he, _⟩ | ⟨g', cap, cur, he, hb, hg, hnc, hcm, hcs, ht⟩
  · simp at he
  · simp only [Value.slice.injEq, Option.some.injEq, Addr.mk.injEq, and_true] at he
    obtain ⟨rfl, -, rfl⟩ := he
    intro j hj
    have hB : Blk w g cur et := hg
    refine ⟨?_, hB.free _⟩
    rw [hB.cell]
    have : (i + 1) * sz ≤ c * sz := Nat.mul_le_mul_right sz hi
    rw [Nat.succ_mul] at this
    have hlt : i * sz + j < cur.size := by omega
    simp [hlt]
def setArr (cur : Array Value) : Nat → List Value → Array Value
  | _, [] => cur
  | o, v :: vs => setArr (cur.setIfInBounds o v) (o + 1) vs
theorem setArr_size : ∀ (vs : List Value) (cur : Array Value) (o : Nat), (setArr cur o vs).size = cur.size
  | [], _, _ => rfl
  | v :: vs, cur, o => by rw [setArr, setArr_size vs]; simp
theorem setArr_get : ∀ (vs : List Value) (cur : Array Value) (o j : Nat), o + vs.length ≤ cur.size → (setArr cur o vs)[j]? = if o ≤ j ∧ j < o + vs.length then vs[j - o]? else cur[j]?
  | [], cur, o, j, _ => by rw [setArr, if_neg (by simp)]
  | v :: vs, cur, o, j, h => by
    rw [List.length_cons] at h
    have hlc : (v :: vs).length = vs.length + 1 := rfl
    rw [setArr, setArr_get vs _ (o + 1) j (by simp; omega)]
    by_cases h1 : o + 1 ≤ j ∧ j < o + 1 + vs.length
    · rw [if_pos h1, if_pos (by simp; omega), show j - o = (j - (o + 1)) + 1 by omega, List.getElem?_cons_succ]
    · rw [if_neg h1]
      by_cases h2 : j = o
      · subst h2
        rw [if_pos (by simp)]
        have : j < cur.size := by omega
        simp [this]
      · rw [if_neg (by simp; omega), Array.getElem?_setIfInBounds_ne (by omega)]
theorem Blk.setCells' {g : Nat} {t : TypeId} : ∀ (vs : List Value) (o : Nat) {w : World} {cur : Array Value}, Blk w g cur t → Blk (w.setCells g o vs) g (setArr cur o vs) t
  | [], _, _, _, h => h
  | v :: vs, o, _, _, h => Blk.setCells' vs (o + 1) (h.set o v)
theorem Chg.setCells' {S : List Nat} {g : Nat} : ∀ (vs : List Value) (o : Nat) {w0 w : World}, Chg S w0 w → (g < w0.heap.size → g ∈ S) → Chg S w0 (w.setCells g o vs)
  | [], _, _, _, h, _ => h
  | _v :: vs, o, _, _, h, hg => Chg.setCells' vs (o + 1) (h.setCell _ _ hg) hg
/-- A record of a row is written anew. -/
theorem OwR.set (henc : ∀ x, (enc x).length = sz) {g n c : Nat} (h : OwR enc sz et w base (.slice (some ⟨g, 0, none⟩) n c) l) (i : Nat) (hi : i < l.length) (x : α) :
    OwR enc sz et (w.setCells g (i * sz) (enc x)) base (.slice (some ⟨g, 0, none⟩) n c) (l.set i x) := by
  refine ⟨by rw [List.length_set]; exact flat_len enc sz henc _ |>.trans (by rw [List.length_set]), ?_⟩
  rcases h.2 with ⟨he, _⟩ | ⟨g', cap, cur, he, hb, hg, hnc, hcm, hcs, ht⟩
  · simp at he
  · simp only [Value.slice.injEq, Option.some.injEq, Addr.mk.injEq, and_true] at he
    obtain ⟨rfl, rfl, rfl⟩ := he
    have hB : Blk w g cur et := hg
    have hle : l.length * sz ≤ c * sz := Nat.mul_le_mul_right sz hnc
    have hik : i * sz + sz ≤ l.length * sz := by rw [← Nat.succ_mul]; exact Nat.mul_le_mul_right sz hi
    refine .inr ⟨g, c, _, by simp, hb, hB.setCells' (enc x) (i * sz), by simpa using hnc, hcm, by rw [setArr_size]; exact hcs, ?_⟩
    rw [List.length_set]
    apply List.ext_getElem?
    intro j
    have e1 : (setArr cur (i * sz) (enc x)).toList[j]? = (setArr cur (i * sz) (enc x))[j]? := Array.getElem?_toList
    have e2 : cur.toList[j]? = cur[j]? := Array.getElem?_toList
    rw [flat_set enc sz henc l i hi x j, ← ht, List.getElem?_take, List.getElem?_take, e1, e2, setArr_get _ _ _ _ (by rw [henc]; omega), henc]
    by_cases hj : j < l.length * sz
    · simp only [if_pos hj]
    · rw [if_neg hj, if_neg (by omega), if_neg hj]
/-- 'clear(s[a:])' of a row of the call's own, cut to [:a] behind it. -/
theorem OwR.clear (henc : ∀ x, (enc x).length = sz) {st : TypeId} {z : Value} (hst : Tryz.prog.underlying st = some (.slice et)) (hz : ∀ w, (zeroValue et).run Tryz.prog w = .ok z w) (hzs : z.cells.size = sz) (hz1 : ∀ v ∈ z.cells.toList, v.oneCell' = true) (hk : 0 < sz)
    {g n c : Nat} (h : OwR enc sz et w base (.slice (some ⟨g, 0, none⟩) n c) l) (a : Nat) (ha : a < n) (hn : n = l.length) :
    ∃ w', (∀ ty, (Builtin.clear_ #[st] ty #[.slice (some ⟨g, a * sz, none⟩) (n - a) (c - a)]).run Tryz.prog w = .ok (.tuple #[]) w') ∧ OwR enc sz et w' base (.slice (some ⟨g, 0, none⟩) (l.take a).length c) (l.take a) ∧ Chg [g] w w' := by
  subst hn
  have hlen : (l.take a).length = a := by rw [List.length_take]; omega
  rcases h.2 with ⟨he, _⟩ | ⟨g', cap, cur, he, hb, hg, hnc, hcm, hcs, ht⟩
  · simp at he
  · simp only [Value.slice.injEq, Option.some.injEq, Addr.mk.injEq, and_true] at he
    obtain ⟨rfl, -, rfl⟩ := he
    have hB : Blk w g cur et := hg
    obtain ⟨Z, hZ⟩ : ∃ Z, Z = Builtin.zeroCells z.cells (l.length - a) := ⟨_, rfl⟩
    have hZs : Z.size = (l.length - a) * sz := by rw [hZ, size_zeroCells, hzs]
    have hZ1 : ∀ v ∈ Z.toList, v.oneCell' = true := by
      intro v hv
      rw [hZ, Builtin.zeroCells] at hv
      simp only [Array.toList_map, List.mem_map] at hv
      obtain ⟨i, -, rfl⟩ := hv
      have hlt : i % z.cells.size < z.cells.size := Nat.mod_lt _ (by omega)
      refine hz1 _ ?_
      rw [getElem!_pos z.cells _ hlt]
      simp
    have hle : l.length * sz ≤ c * sz := Nat.mul_le_mul_right sz hnc
    have hsplit : a * sz + (l.length - a) * sz = l.length * sz := by rw [← Nat.add_mul, Nat.add_sub_cancel' (Nat.le_of_lt ha)]
    have hst' := run_storeCells_cells (P := Tryz.prog) g (a * sz) Z.toList 0 w
      (fun j hj => by rw [Nat.add_zero, hB.cell]; rw [Array.length_toList, hZs] at hj; have : a * sz + j < cur.size := by omega
                      simp [this])
      (fun j hj => hB.free _) hZ1
    refine ⟨w.setCells g (a * sz) Z.toList, fun ty => ?_, ⟨by rw [flat_len enc sz henc, List.length_take], .inr ⟨g, c, _, rfl, hb, hB.setCells' Z.toList (a * sz), by rw [hlen]; omega, hcm, by rw [setArr_size]; exact hcs, ?_⟩⟩, Chg.setCells' _ _ (Chg.refl _ _) (by simp)⟩
    · obtain ⟨m, hm⟩ : ∃ m, l.length - a = m + 1 := ⟨l.length - a - 1, by omega⟩
      rw [hm] at hZ ⊢
      simp only [Nat.add_zero, hZ] at hst'
      simp [Builtin.clear_, run_underlying hst, hz, hZ, hst']
    · rw [hlen]
      apply List.ext_getElem?
      intro j
      have ht' := congrArg (fun L => L[j]?) ht
      simp only [List.getElem?_take] at ht' ⊢
      by_cases hj : j < a * sz
      · rw [if_pos hj, Array.getElem?_toList, setArr_get _ _ _ _ (by rw [Array.length_toList, hZs]; omega), if_neg (by omega)]
        rw [if_pos (by omega), Array.getElem?_toList] at ht'
        rw [ht']
        have e : (l.take a ++ l.drop a).flatMap enc = l.flatMap enc := by rw [List.take_append_drop]
        rw [← e, List.flatMap_append, List.getElem?_append_left (by rw [flat_len enc sz henc, hlen]; exact hj)]
      · rw [if_neg hj, List.getElem?_eq_none (by rw [flat_len enc sz henc, hlen]; omega)]
theorem OwR.nil (w : World) (base : Nat) : OwR enc sz et w base (.slice none 0 0) [] := World.ownsRow_nil _ _ _ _
/-- A record is stored; the frame stays as it is. -/
theorem wpList_store_midTo {P : Program} {ops : Array Oper} {rest : List Oper} {op : Oper} {a : Act} {w : World} {Q : Exit → Act → World → Prop} (hgd : op.guard = none) (ty : TypeId) (x y : Operand) (ho : op.op = .store ty x y) (hd : op.dst = none)
    (b o : Nat) (cells : Array Value) (hx : a.eval x = .pointer (some ⟨b, o, none⟩)) (hy : a.eval y = .agg cells) (ht : w.there b o cells.size) (hi : (P.info? ty).map (·.size) = some cells.size) (h1 : cells.all (·.oneCell') = true)
    (h : wpList P ops Q rest a (w.setCells b o cells.toList)) : wpList P ops Q (op :: rest) a w :=
  wpList_store_mid hgd ty x y ho b o cells hx hy ht hi h1 (by rw [hd]; exact h)
/-- .. behind a guard. -/
theorem wpList_load_midW {P : Program} {ops : Array Oper} {rest : List Oper} {op : Oper} {a : Act} {w : World} {Q : Exit → Act → World → Prop} (hgd : Region.wanted op (yielded ops a.tmps) = true) (ty : TypeId) (x : Operand) (ho : op.op = .load ty x)
    (b o : Nat) (hx : a.eval x = .pointer (some ⟨b, o, none⟩)) (cs : List Value) (d : TypeDesc) (hc : w.rangeAt b o cs) (hu : P.underlying ty = some d) (hd : d.isRow = true) (hi : (P.info? ty).map (·.size) = some cs.length)
    (h : wpList P ops Q rest (a.put op.dst (.agg cs.toArray)) w) : wpList P ops Q (op :: rest) a w :=
  BigFrame.wpList_want hgd fun _ hK => wp_load_mid ty x ho b o hx cs d hc hu hd hi (hK _ _ h)
/-- Those that stay. -/
def stay (p : α → Bool) (l : List α) : List α := l.filter fun x => !p x
theorem stay_snoc (p : α → Bool) (l : List α) (b : Nat) (h : b < l.length) : stay p (l.take (b + 1)) = stay p (l.take b) ++ (if p l[b] then [] else [l[b]]) := by
  unfold stay
  rw [List.take_succ_eq_append_getElem h, List.filter_append]
  congr 1
  cases h : p l[b] <;> simp [h]
theorem stay_no {p : α → Bool} {l l2 : List α} {a b : Nat} (h : b < l.length) (hl : l2.length = l.length) (hd : p (l2[b]'(by omega)) = true) (ht : l2.take a = stay p (l.take b)) (hdr : l2.drop b = l.drop b) (ha : a = (stay p (l.take b)).length) :
    l2.take a = stay p (l.take (b + 1)) ∧ l2.drop (b + 1) = l.drop (b + 1) ∧ a = (stay p (l.take (b + 1))).length := by
  rw [List.drop_eq_getElem_cons (by omega), List.drop_eq_getElem_cons h] at hdr
  injection hdr with h1 h2
  have e : stay p (l.take (b + 1)) = stay p (l.take b) := by rw [stay_snoc p l b h, ← h1, hd]; simp
  rw [e]
  exact ⟨ht, h2, ha⟩
theorem stay_yes {p : α → Bool} {l l2 : List α} {a b : Nat} {o : α} (hl : l2.length = l.length) (h : b < l.length) (ho : l2[b]'(by omega) = o) (hd : p o = false) (ht : l2.take a = stay p (l.take b)) (hdr : l2.drop b = l.drop b) (ha : a = (stay p (l.take b)).length) (hab : a < b) :
    (l2.set a o).take (a + 1) = stay p (l.take (b + 1)) ∧ (l2.set a o).drop (b + 1) = l.drop (b + 1) ∧ a + 1 = (stay p (l.take (b + 1))).length := by
  rw [List.drop_eq_getElem_cons (by omega), List.drop_eq_getElem_cons h] at hdr
  injection hdr with h1 h2
  have e : stay p (l.take (b + 1)) = stay p (l.take b) ++ [o] := by rw [stay_snoc p l b h, ← h1, ho, hd]; rfl
  rw [e]
  refine ⟨?_, ?_, by rw [List.length_append, ← ha]; rfl⟩
  · rw [List.take_succ_eq_append_getElem (by rw [List.length_set]; omega), List.getElem_set_self, List.take_set_of_le (Nat.le_refl _), ht]
  · rw [List.drop_set_of_lt (by omega), h2]
theorem stay_start {p : α → Bool} {l : List α} {sz : Nat} (hk : sz < l.length) (hy : p l[sz] = true) (hno : ∀ o ∈ l.take sz, p o = false) : l.take sz = stay p (l.take (sz + 1)) ∧ sz = (stay p (l.take (sz + 1))).length := by
  have e : stay p (l.take (sz + 1)) = l.take sz := by
    rw [stay_snoc p l sz hk, hy, if_pos rfl, List.append_nil, stay, List.filter_eq_self]
    intro o ho; rw [hno o ho]; rfl
  rw [e]
  exact ⟨rfl, by rw [List.length_take]; omega⟩
theorem stay_all {p : α → Bool} {l : List α} (h : ∀ o ∈ l, p o = false) : stay p l = l := by
  rw [stay, List.filter_eq_self]
  intro o ho; rw [h o ho]; rfl
/-- What IndexFunc finds. -/
def FoundR (p : α → Bool) (l : List α) (e : Ending) : Prop :=
  (e = .returned (.int .i64 (-1)) ∧ ∀ o ∈ l, p o = false) ∨ ∃ sz : Nat, e = .returned (.int .i64 (sz : Int)) ∧ ∃ h : sz < l.length, p l[sz] = true ∧ ∀ o ∈ l.take sz, p o = false
/-- What a closure says of a record, wherever nothing elder than w has turned but S. -/
def Says (S : List Nat) (w : World) (enc : α → List Value) (p : α → Bool) (g : Nat) (lb : Array Value) (l : List α) : Prop :=
  ∀ W x, Chg S w W → x ∈ l → Calls Tryz.prog g (#[.agg (enc x).toArray] ++ lb) W fun e w' => e = .returned (.bool (p x)) ∧ Chg [] W w'
end
end Go.Proofs.YtpadflhffiiglaaGreat

/- The library's functions on rows of records: Body. -/
namespace Go.Proofs.YtpadflhffiiglaaGreat
open Go.RowKit

theorem undRB : Tryz.prog.underlying 38 = some (.slice 34) := by kernel_rfl
theorem rowRB : RowT Tryz.prog 38 34 11 104 := RowT.mk (z := .agg #[.int .i64 0, .int .i64 0, .int .i64 0, .int .i64 0, .int .i64 0, .int .i64 0, .int .i64 0, .int .i64 0, .int .i64 0, .int .i64 0, .slice none 0 0]) (by kernel_rfl) (by kernel_rfl) rfl (by decide)
theorem zeroRB (w : World) : (zeroValue 34).run Tryz.prog w = .ok (.agg #[.int .i64 0, .int .i64 0, .int .i64 0, .int .i64 0, .int .i64 0, .int .i64 0, .int .i64 0, .int .i64 0, .int .i64 0, .int .i64 0, .slice none 0 0]) w := by kernel_rfl
set_option maxHeartbeats 400000 in
theorem CloneRB_any (w : World) (v : Value) (l : List BV) (hv : Rd w 11 v l.length (l.flatMap cBV)) (h1 : ∀ v ∈ l.flatMap cBV, v.oneCell' = true) (hl : l.length ≤ 100000000000) :
    Calls Tryz.prog 16 #[v] w fun e w' => ∃ ao c, e = .returned (.slice ao l.length c) ∧ OwR cBV 11 34 w' w.heap.size (.slice ao l.length c) l ∧ Chg [] w w' := by
  unfold OwR
  generalize l.flatMap cBV = xs at *
  generalize l.length = n at *
  obtain ⟨hx, ao, cap, b, off, rfl, -, -, hn, -, -⟩ := id hv
  rcases ao with _ | a
  · obtain ⟨rfl, rfl⟩ := hn rfl
    obtain rfl : xs = [] := List.length_eq_zero_iff.1 (by simpa using hx)
    clear hn hv hl h1 hx
    have hq := fun w => Lib.run_eql_slice_nil (P := Tryz.prog) w 38 34 none 0 0 0 0 undRB
    go_enter Tryz.func16, Tryz.ntmps16
    go_wp2_with fail
    refine bodyPost_ret (v := .slice none 0 0) ?_ rfl ⟨none, 0, rfl, World.ownsRow_nil _ _ _ _, Chg.refl _ _⟩
    simp only [results]; go_simp
  · have hB : (w.alloc (.cells #[] 34)).ownsRow w.heap.size 34 11 (.slice (some ⟨w.heap.size, 0, none⟩) 0 0) 0 [] := World.ownsRow_lit w #[] 0 (Nat.le_refl _) (by decide) rfl
    have hv1 := Rd.keep hv ((Chg.refl [] w).alloc (.cells #[] 34)) (by simp)
    clear hn hv hx
    have hq := fun w => Lib.run_eql_slice_nil (P := Tryz.prog) w 38 34 (some a) n cap 0 0 undRB
    go_enter Tryz.func16, Tryz.ntmps16
    go_wp2_with (at_builtin; refine wpApp rowRB rfl _ _ rfl w.heap.size _ 0 [] rfl hB _ n xs rfl hv1 h1 (by omega) (by omega) (by simp) ?_; intro ao1 c1 w1 k1 k2 k3 _)
    have hc : Chg [] w w1 := ((Chg.refl [] w).alloc _).ownGrow hB k2 (Nat.le_refl _)
    simp only [List.nil_append, Nat.zero_add] at k1 ⊢
    refine bodyPost_ret (v := .slice ao1 n c1) ?_ rfl ⟨ao1, c1, rfl, k1, hc⟩
    simp only [results]; go_simp
set_option maxHeartbeats 2000000 in
theorem IndexRB_any (w : World) (v : Value) (l : List BV) (hv : Rd w 11 v l.length (l.flatMap cBV)) (hl : l.length ≤ 100000000000) (p : BV → Bool) (g : Nat) (lb : Array Value)
    (eg : ∀ args w, (callFunc g args).run Tryz.prog w = .ok (.enter g args) w) (hp : Says [] w cBV p g lb l) :
    Calls Tryz.prog 130 #[v, .func (.func g) #[] lb] w fun e w' => FoundR p l e ∧ Chg [] w w' := by
  obtain ⟨ao, c, rfl, hm, hao⟩ := Rd.form (by decide) hv
  have HV := hd hv
  have HP := hd hp
  have HAO := hd hao
  clear hv hp hao
  obtain ⟨P, hP⟩ : ∃ P : Ending → World → Prop, P = fun e w' => FoundR p l e ∧ Chg [] w w' := ⟨_, rfl⟩
  rw [← hP]
  have HPP := hd hP
  clear hP
  go_enter Tryz.func130, Tryz.ntmps130
  go_wp2_with fail
  go_loopw [8] (fun i wr => ∃ k : Nat, i = .int .i64 (k : Int) ∧ k ≤ l.length ∧ Hd (∀ o ∈ l.take k, p o = false) ∧ Chg [] w wr) (fun i _ => (l.length - (intOf i).toNat))
  case atStart => exact ⟨0, rfl, Nat.zero_le _, hd (by simp), Chg.refl _ _⟩
  case round =>
    obtain ⟨k, rfl, hk, hno, hc⟩ := hrel
    by_cases hlt : k < l.length
    · obtain ⟨b, off, e1, hb⟩ := HAO.out (by omega)
      subst e1
      have hr := hd (rangeAt_k (Rd.rangeAt cBV_len HV.out k hlt) hc)
      have hcon := HP.out wr l[k] hc (List.getElem_mem hlt)
      have HS := hd (List.take_succ_eq_append_getElem hlt)
      generalize hx : l[k] = x at *
      have HX := hd hx
      clear hx
      obtain ⟨d, hd'⟩ : ∃ d, p x = d := ⟨_, rfl⟩
      rw [hd'] at hcon
      have HD := hd hd'
      have HC := hd hc
      clear hd' hc
      cases d
      · go_wp2_with (first
          | (refine wpList_load_mid rfl _ _ rfl _ _ rfl (cBV x) _ hr.out Tryz.underlying34 rfl (by kernel_rfl) ?_)
          | (go_at_fn g; refine hcon.mono ?_; rintro e w2 ⟨rfl, hc2⟩))
        go_roundw
        case rel => exact ⟨k + 1, by go_num, by omega, hd (by rw [HS.out]; intro o ho; rcases List.mem_append.1 ho with h | h; exact hno.out o h; obtain rfl := List.mem_singleton.1 h; exact HD.out), HC.out.k hc2⟩
        case measure => simp [intOf]; omega
      · go_wp2_with (first
          | (refine wpList_load_mid rfl _ _ rfl _ _ rfl (cBV x) _ hr.out Tryz.underlying34 rfl (by kernel_rfl) ?_)
          | (go_at_fn g; refine hcon.mono ?_; rintro e w2 ⟨rfl, hc2⟩))
        rw [HPP.out]
        exact ⟨.inr ⟨k, rfl, hlt, by rw [HX.out]; exact HD.out, hno.out⟩, HC.out.k hc2⟩
    · go_wp2_with fail
      rw [HPP.out]
      exact ⟨.inl ⟨rfl, by have := hno.out; rwa [List.take_of_length_le (by omega)] at this⟩, hc⟩
set_option maxRecDepth 100000 in
set_option maxHeartbeats 4000000 in
theorem DeleteRB_any (w : World) (base : Nat) (v : Value) (l : List BV) (hv : OwR cBV 11 34 w base v l) (h1 : ∀ x ∈ l, (cBV x).toArray.all (·.oneCell') = true) (hl : l.length ≤ 100000000000) (p : BV → Bool) (g : Nat) (lb : Array Value)
    (eg : ∀ args w, (callFunc g args).run Tryz.prog w = .ok (.enter g args) w) (hp : Says v.ownBlock.toList w cBV p g lb l) :
    Calls Tryz.prog 87 #[v, .func (.func g) #[] lb] w fun e w' => ∃ ao c, e = .returned (.slice ao (stay p l).length c) ∧ OwR cBV 11 34 w' base (.slice ao (stay p l).length c) (stay p l) ∧ Chg v.ownBlock.toList w w' := by
  have hfind := IndexRB_any w v l hv.rd hl p g lb eg (fun W x h hx => hp W x (h.mono (by simp)) hx)
  obtain ⟨ao, c, rfl, hnc, hcm, hform⟩ := hv.form
  have HV := hd hv
  have HF := hd hform
  have HPP := hd hp
  have H1 := hd h1
  clear hv hform hp h1
  obtain ⟨P, hP⟩ : ∃ P : Ending → World → Prop, P = fun e w' => ∃ ao2 c2, e = .returned (.slice ao2 (stay p l).length c2) ∧ OwR cBV 11 34 w' base (.slice ao2 (stay p l).length c2) (stay p l) ∧ Chg (Value.slice ao l.length c).ownBlock.toList w w' := ⟨_, rfl⟩
  rw [← hP]
  have HP := hd hP
  clear hP
  go_enter Tryz.func87, Tryz.ntmps87
  go_upto_region 2 with (go_at_call 130; refine hfind.mono ?_; rintro e w2 ⟨hfnd, hc2⟩; rcases hfnd with ⟨rfl, hno⟩ | ⟨k, rfl, hk, hyes, hno⟩)
  · have HNO := hd hno
    clear hno
    go_wp2_with fail
    rw [HP.out]
    rw [stay_all HNO.out]
    exact ⟨ao, c, rfl, HV.out.k hc2, hc2.mono (by simp)⟩
  · obtain ⟨b, hb, hbl⟩ : ∃ b, ao = some ⟨b, 0, none⟩ ∧ b < w.heap.size := by
      rcases HF.out with ⟨-, rfl⟩ | ⟨b, h, -, h2⟩
      · simp at hk
      · exact ⟨b, h, h2⟩
    subst hb
    have HNO := hd hno
    have HYES := hd hyes
    clear hno hyes
    have HC2 := hd hc2
    clear hc2 hfind
    have hne : ((k : Int) == -1) = false := by simp
    go_wp2_with fail
    go_loopw [5, 6] (fun i j wr => ∃ (a b2 : Nat) (l2 : List BV), i = .int .i64 (a : Int) ∧ j = .int .i64 (b2 : Int) ∧ a < b2 ∧ b2 ≤ l.length ∧ Hd (l2.length = l.length) ∧ Hd (l2.take a = stay p (l.take b2)) ∧ Hd (l2.drop b2 = l.drop b2) ∧ Hd (a = (stay p (l.take b2)).length) ∧
        OwR cBV 11 34 wr base (.slice (some ⟨b, 0, none⟩) l2.length c) l2 ∧ Chg [b] w wr) (fun _ j _ => (l.length - (intOf j).toNat))
    case atStart =>
      have HK := stay_start hk HYES.out HNO.out
      exact ⟨k, k + 1, l, rfl, by go_num, by omega, by omega, hd rfl, hd HK.1, hd rfl, hd HK.2, HV.out.k HC2.out, HC2.out.mono (by simp)⟩
    case round =>
      obtain ⟨a, b2, l2, rfl, rfl, hab, hbl2, hl2, ht, hdr, ha, hw, hc⟩ := hrel
      by_cases hlt : b2 < l.length
      · have hb2 : b2 < l2.length := by rw [hl2.out]; exact hlt
        have hr := Rd.rangeAt cBV_len hw.rd b2 hb2
        have hmem : l2[b2] ∈ l := by
          have h2 := hdr.out
          rw [List.drop_eq_getElem_cons hb2, List.drop_eq_getElem_cons hlt] at h2
          injection h2 with h3 h4
          rw [h3]
          exact List.getElem_mem hlt
        have hone := H1.out _ hmem
        have HNOk : p l2[b2] = true → _ := fun h => stay_no hlt hl2.out h ht.out hdr.out ha.out
        have hcon := fun W (h : Chg [] wr W) => HPP.out W l2[b2] (by simpa [Value.ownBlock] using hc.k' h) hmem
        generalize hx : l2[b2] = x at *
        have HX := hd hx
        clear hx
        obtain ⟨d, hd'⟩ : ∃ d, p x = d := ⟨_, rfl⟩
        simp only [hd'] at hcon
        have HD := hd hd'
        have HNK := hd HNOk
        have HCON := hd hcon
        have HR := hd hr
        have HW := hd hw
        have HC := hd hc
        clear hd' HNOk hcon hr hw hc hmem
        simp only [Nat.zero_add] at HR
        have kA := Blk.new wr #[.int .i64 0, .int .i64 0, .int .i64 0, .int .i64 0, .int .i64 0, .int .i64 0, .int .i64 0, .int .i64 0, .int .i64 0, .int .i64 0, .slice none 0 0] 34
        have k1 := kA.row (cs' := (cBV x).toArray)
        have hc1 : Chg [] wr ((wr.alloc (.cells #[.int .i64 0, .int .i64 0, .int .i64 0, .int .i64 0, .int .i64 0, .int .i64 0, .int .i64 0, .int .i64 0, .int .i64 0, .int .i64 0, .slice none 0 0] 34)).setRow wr.heap.size (cBV x).toArray) := Chg.row ((Chg.refl [] wr).alloc _) wr.heap.size _ (fun h => absurd h (Nat.lt_irrefl _))
        have hca : a < c := by have := hl2.out; omega
        go_upto_region 8 with (first
          | (refine wpList_load_mid rfl _ _ rfl _ _ rfl (cBV x) _ HR.out Tryz.underlying34 rfl (by kernel_rfl) ?_)
          | (refine wpList_store_row rfl _ _ _ rfl wr.heap.size (cBV x).toArray rfl rfl 34 _ kA (by kernel_rfl) rfl hone ?_))
        clear kA
        generalize (wr.alloc (.cells #[.int .i64 0, .int .i64 0, .int .i64 0, .int .i64 0, .int .i64 0, .int .i64 0, .int .i64 0, .int .i64 0, .int .i64 0, .int .i64 0, .slice none 0 0] 34)).setRow wr.heap.size (cBV x).toArray = w1 at *
        have K1 := hd k1
        have HC1 := hd hc1
        generalize wr.heap.size = tb at *
        clear k1 hc1
        cases d
        · go_upto_region 9 with (first | (refine wpList_load_row rfl _ _ rfl tb rfl 34 _ (0, 0) _ K1.out Tryz.underlying34 rfl (by kernel_rfl) ?_) | (go_at_fn g; refine (HCON.out _ HC1.out).mono ?_; rintro e w5 ⟨rfl, h5⟩))
          have hth := (HW.out.k (HC1.out.k h5)).there a hca
          have hka := K1.out.k h5
          have hsz : (cBV x).toArray.size = 11 := by rw [List.size_toArray]; exact cBV_len x
          have HTH : Hd (w5.there b (a * 11) (cBV x).toArray.size) := hd (by rw [hsz]; exact hth)
          have HKA := hd hka
          clear hth hsz hka
          have hals : a < l2.length := by have := hl2.out; omega
          have ST := hd ((HW.out.k (HC1.out.k h5)).set cBV_len a hals x)
          have HM := hd ((HC.out.k' (HC1.out.k h5)).trans (Chg.setCells' (g := b) (cBV x) (a * 11) (Chg.refl [b] w5) (fun _ => List.mem_singleton_self b)) (fun x hx _ => hx))
          clear h5
          go_upto_region 10 with (first | (refine wpList_load_row rfl _ _ rfl tb rfl 34 _ (0, 0) _ HKA.out Tryz.underlying34 rfl (by kernel_rfl) ?_) | (refine wpList_store_midTo rfl _ _ _ rfl rfl _ _ (cBV x).toArray rfl rfl HTH.out (by kernel_rfl) hone ?_))
          generalize w5.setCells b (a * 11) (cBV x) = w6 at *
          go_wp2_with (fail)
          go_roundw
          case rel =>
            have HK := stay_yes hl2.out hlt HX.out HD.out ht.out hdr.out ha.out hab
            first
              | exact ⟨a + 1, b2 + 1, l2.set a x, by go_num, by go_num, by omega, by omega, hd (by rw [List.length_set]; exact hl2.out), hd HK.1, hd HK.2.1, hd HK.2.2, (by rw [List.length_set]; exact ST.out), HM.out⟩
              | ((repeat apply Exists.intro); exact ⟨⟨a + 1, b2 + 1, l2.set a x, by go_num, by go_num, by omega, by omega, hd (by rw [List.length_set]; exact hl2.out), hd HK.1, hd HK.2.1, hd HK.2.2, (by rw [List.length_set]; exact ST.out), HM.out⟩, rfl⟩)
          case measure => simp [intOf]; omega
        · go_wp2_with (first | (refine wpList_load_row rfl _ _ rfl tb rfl 34 _ (0, 0) _ K1.out Tryz.underlying34 rfl (by kernel_rfl) ?_) | (go_at_fn g; refine (HCON.out _ HC1.out).mono ?_; rintro e w5 ⟨rfl, h5⟩))
          go_roundw
          case rel =>
            have HK := HNK.out HD.out
            first
              | exact ⟨a, b2 + 1, l2, rfl, by go_num, by omega, by omega, hl2, hd HK.1, hd HK.2.1, hd HK.2.2, HW.out.k (HC1.out.k h5), HC.out.k' (HC1.out.k h5)⟩
              | ((repeat apply Exists.intro); exact ⟨⟨a, b2 + 1, l2, rfl, by go_num, by omega, by omega, hl2, hd HK.1, hd HK.2.1, hd HK.2.2, HW.out.k (HC1.out.k h5), HC.out.k' (HC1.out.k h5)⟩, rfl⟩)
          case measure => simp [intOf]; omega
      · have hb : b2 = l.length := by omega
        subst hb
        have hlr : l.length = l2.length := hl2.out.symm
        have hca : ¬ c = a := by omega
        have hcb : a ≤ c := by omega
        obtain ⟨w5, hrun, hr5, hc5⟩ := OwR.clear cBV_len undRB zeroRB rfl (by decide) (by decide) hw a (by omega) rfl
        rw [hl2.out] at hrun
        have e1 : l2.take a = stay p l := by rw [ht.out, List.take_of_length_le (Nat.le_refl _)]
        rw [e1] at hr5
        have hle : (stay p l).length ≤ l.length := List.length_filter_le _ _
        have e2 : a = (stay p l).length := by rw [ha.out, List.take_of_length_le (Nat.le_refl _)]
        subst e2
        have HR := hd hr5
        have HCC := hd (hc.trans hc5 (by simp))
        clear hc5 hr5 e1 hlr hw hc ht ha
        go_wp2_with fail
        rw [HP.out]
        exact ⟨_, c, rfl, HR.out, by simpa [Value.ownBlock] using HCC.out⟩
set_option maxHeartbeats 1000000 in
theorem WithoutRB_any (w : World) (v : Value) (l : List BV) (hv : Rd w 11 v l.length (l.flatMap cBV)) (h1 : ∀ x ∈ l, ∀ v ∈ cBV x, v.oneCell' = true) (hl : l.length ≤ 100000000000) (p : BV → Bool) (g : Nat) (lb : Array Value)
    (eg : ∀ args w, (callFunc g args).run Tryz.prog w = .ok (.enter g args) w) (hp : ∀ W W', Chg [] w W → (∀ S, (∀ x ∈ S, w.heap.size ≤ x) → Chg S W W' → Says S W' cBV p g lb l)) :
    Calls Tryz.prog 55 #[v, .func (.func g) #[] lb] w fun e w' => ∃ ao c, e = .returned (.slice ao (stay p l).length c) ∧ OwR cBV 11 34 w' w.heap.size (.slice ao (stay p l).length c) (stay p l) ∧ Chg [] w w' := by
  have hcl := CloneRB_any w v l hv (by intro v hv; obtain ⟨x, hx, h⟩ := List.mem_flatMap.1 hv; exact h1 x hx v h) hl
  have hdel := fun W ao c (h : OwR cBV 11 34 W w.heap.size (.slice ao l.length c) l) (hc : Chg [] w W) => DeleteRB_any W w.heap.size _ l h (fun x hx => all_oneCell_toArray (h1 x hx)) hl p g lb eg (hp W W hc _ (fun x hx => (h.lo x (by simpa using hx)).1) (Chg.refl _ _))
  obtain ⟨P, hP⟩ : ∃ P : Ending → World → Prop, P = fun e w' => ∃ ao c, e = .returned (.slice ao (stay p l).length c) ∧ OwR cBV 11 34 w' w.heap.size (.slice ao (stay p l).length c) (stay p l) ∧ Chg [] w w' := ⟨_, rfl⟩
  rw [← hP]
  have HP := hd hP
  clear hP hp h1
  obtain ⟨av, cv, rfl, -, -⟩ := Rd.form (by decide) hv
  go_enter Tryz.func55, Tryz.ntmps55
  go_wp2_with (first
    | (go_at_call 16; refine hcl.mono ?_; rintro e w1 ⟨ao, c, rfl, ho, hc1⟩)
    | (go_at_call 87; refine (hdel _ _ _ ho hc1).mono ?_; rintro e w2 ⟨ao2, c2, rfl, ho2, hc2⟩))
  rw [HP.out]
  exact ⟨ao2, c2, rfl, ho2, hc1.trans hc2 (fun x hx hl => absurd (ho.lo x (by simpa using hx)).1 (by omega))⟩
theorem ClipRB_any (w : World) (ao : Option Addr) (n c : Nat) (h : n ≤ c) (_hc : c ≤ 9223372036854775807) :
    Calls Tryz.prog 64 #[.slice ao n c] w fun e w' => e = .returned (.slice ao n n) ∧ w' = w := by
  go_enter Tryz.func64, Tryz.ntmps64
  go_wp2_with fail
  go_ret
  exact ⟨rfl, rfl⟩
end Go.Proofs.YtpadflhffiiglaaGreat

/- The library's functions on rows of records: Joint. -/
namespace Go.Proofs.YtpadflhffiiglaaGreat
open Go.RowKit

theorem undRJ : Tryz.prog.underlying 39 = some (.slice 67) := by kernel_rfl
theorem rowRJ : RowT Tryz.prog 39 67 8 64 := RowT.mk (z := .agg #[.int .i64 0, .int .i64 0, .int .i64 0, .int .i64 0, .int .i64 0, .int .i64 0, .int .i64 0, .int .i64 0]) (by kernel_rfl) (by kernel_rfl) rfl (by decide)
theorem zeroRJ (w : World) : (zeroValue 67).run Tryz.prog w = .ok (.agg #[.int .i64 0, .int .i64 0, .int .i64 0, .int .i64 0, .int .i64 0, .int .i64 0, .int .i64 0, .int .i64 0]) w := by kernel_rfl
set_option maxHeartbeats 400000 in
theorem CloneRJ_any (w : World) (v : Value) (l : List Jnt) (hv : Rd w 8 v l.length (l.flatMap cJt)) (h1 : ∀ v ∈ l.flatMap cJt, v.oneCell' = true) (hl : l.length ≤ 100000000000) :
    Calls Tryz.prog 18 #[v] w fun e w' => ∃ ao c, e = .returned (.slice ao l.length c) ∧ OwR cJt 8 67 w' w.heap.size (.slice ao l.length c) l ∧ Chg [] w w' := by
  unfold OwR
  generalize l.flatMap cJt = xs at *
  generalize l.length = n at *
  obtain ⟨hx, ao, cap, b, off, rfl, -, -, hn, -, -⟩ := id hv
  rcases ao with _ | a
  · obtain ⟨rfl, rfl⟩ := hn rfl
    obtain rfl : xs = [] := List.length_eq_zero_iff.1 (by simpa using hx)
    clear hn hv hl h1 hx
    have hq := fun w => Lib.run_eql_slice_nil (P := Tryz.prog) w 39 67 none 0 0 0 0 undRJ
    go_enter Tryz.func18, Tryz.ntmps18
    go_wp2_with fail
    refine bodyPost_ret (v := .slice none 0 0) ?_ rfl ⟨none, 0, rfl, World.ownsRow_nil _ _ _ _, Chg.refl _ _⟩
    simp only [results]; go_simp
  · have hB : (w.alloc (.cells #[] 67)).ownsRow w.heap.size 67 8 (.slice (some ⟨w.heap.size, 0, none⟩) 0 0) 0 [] := World.ownsRow_lit w #[] 0 (Nat.le_refl _) (by decide) rfl
    have hv1 := Rd.keep hv ((Chg.refl [] w).alloc (.cells #[] 67)) (by simp)
    clear hn hv hx
    have hq := fun w => Lib.run_eql_slice_nil (P := Tryz.prog) w 39 67 (some a) n cap 0 0 undRJ
    go_enter Tryz.func18, Tryz.ntmps18
    go_wp2_with (at_builtin; refine wpApp rowRJ rfl _ _ rfl w.heap.size _ 0 [] rfl hB _ n xs rfl hv1 h1 (by omega) (by omega) (by simp) ?_; intro ao1 c1 w1 k1 k2 k3 _)
    have hc : Chg [] w w1 := ((Chg.refl [] w).alloc _).ownGrow hB k2 (Nat.le_refl _)
    simp only [List.nil_append, Nat.zero_add] at k1 ⊢
    refine bodyPost_ret (v := .slice ao1 n c1) ?_ rfl ⟨ao1, c1, rfl, k1, hc⟩
    simp only [results]; go_simp
set_option maxHeartbeats 2000000 in
theorem IndexRJ_any (w : World) (v : Value) (l : List Jnt) (hv : Rd w 8 v l.length (l.flatMap cJt)) (hl : l.length ≤ 100000000000) (p : Jnt → Bool) (g : Nat) (lb : Array Value)
    (eg : ∀ args w, (callFunc g args).run Tryz.prog w = .ok (.enter g args) w) (hp : Says [] w cJt p g lb l) :
    Calls Tryz.prog 131 #[v, .func (.func g) #[] lb] w fun e w' => FoundR p l e ∧ Chg [] w w' := by
  obtain ⟨ao, c, rfl, hm, hao⟩ := Rd.form (by decide) hv
  have HV := hd hv
  have HP := hd hp
  have HAO := hd hao
  clear hv hp hao
  obtain ⟨P, hP⟩ : ∃ P : Ending → World → Prop, P = fun e w' => FoundR p l e ∧ Chg [] w w' := ⟨_, rfl⟩
  rw [← hP]
  have HPP := hd hP
  clear hP
  go_enter Tryz.func131, Tryz.ntmps131
  go_wp2_with fail
  go_loopw [8] (fun i wr => ∃ k : Nat, i = .int .i64 (k : Int) ∧ k ≤ l.length ∧ Hd (∀ o ∈ l.take k, p o = false) ∧ Chg [] w wr) (fun i _ => (l.length - (intOf i).toNat))
  case atStart => exact ⟨0, rfl, Nat.zero_le _, hd (by simp), Chg.refl _ _⟩
  case round =>
    obtain ⟨k, rfl, hk, hno, hc⟩ := hrel
    by_cases hlt : k < l.length
    · obtain ⟨b, off, e1, hb⟩ := HAO.out (by omega)
      subst e1
      have hr := hd (rangeAt_k (Rd.rangeAt cJt_len HV.out k hlt) hc)
      have hcon := HP.out wr l[k] hc (List.getElem_mem hlt)
      have HS := hd (List.take_succ_eq_append_getElem hlt)
      generalize hx : l[k] = x at *
      have HX := hd hx
      clear hx
      obtain ⟨d, hd'⟩ : ∃ d, p x = d := ⟨_, rfl⟩
      rw [hd'] at hcon
      have HD := hd hd'
      have HC := hd hc
      clear hd' hc
      cases d
      · go_wp2_with (first
          | (refine wpList_load_mid rfl _ _ rfl _ _ rfl (cJt x) _ hr.out Tryz.underlying67 rfl (by kernel_rfl) ?_)
          | (go_at_fn g; refine hcon.mono ?_; rintro e w2 ⟨rfl, hc2⟩))
        go_roundw
        case rel => exact ⟨k + 1, by go_num, by omega, hd (by rw [HS.out]; intro o ho; rcases List.mem_append.1 ho with h | h; exact hno.out o h; obtain rfl := List.mem_singleton.1 h; exact HD.out), HC.out.k hc2⟩
        case measure => simp [intOf]; omega
      · go_wp2_with (first
          | (refine wpList_load_mid rfl _ _ rfl _ _ rfl (cJt x) _ hr.out Tryz.underlying67 rfl (by kernel_rfl) ?_)
          | (go_at_fn g; refine hcon.mono ?_; rintro e w2 ⟨rfl, hc2⟩))
        rw [HPP.out]
        exact ⟨.inr ⟨k, rfl, hlt, by rw [HX.out]; exact HD.out, hno.out⟩, HC.out.k hc2⟩
    · go_wp2_with fail
      rw [HPP.out]
      exact ⟨.inl ⟨rfl, by have := hno.out; rwa [List.take_of_length_le (by omega)] at this⟩, hc⟩
set_option maxRecDepth 100000 in
set_option maxHeartbeats 4000000 in
theorem DeleteRJ_any (w : World) (base : Nat) (v : Value) (l : List Jnt) (hv : OwR cJt 8 67 w base v l) (h1 : ∀ x ∈ l, (cJt x).toArray.all (·.oneCell') = true) (hl : l.length ≤ 100000000000) (p : Jnt → Bool) (g : Nat) (lb : Array Value)
    (eg : ∀ args w, (callFunc g args).run Tryz.prog w = .ok (.enter g args) w) (hp : Says v.ownBlock.toList w cJt p g lb l) :
    Calls Tryz.prog 88 #[v, .func (.func g) #[] lb] w fun e w' => ∃ ao c, e = .returned (.slice ao (stay p l).length c) ∧ OwR cJt 8 67 w' base (.slice ao (stay p l).length c) (stay p l) ∧ Chg v.ownBlock.toList w w' := by
  have hfind := IndexRJ_any w v l hv.rd hl p g lb eg (fun W x h hx => hp W x (h.mono (by simp)) hx)
  obtain ⟨ao, c, rfl, hnc, hcm, hform⟩ := hv.form
  have HV := hd hv
  have HF := hd hform
  have HPP := hd hp
  have H1 := hd h1
  clear hv hform hp h1
  obtain ⟨P, hP⟩ : ∃ P : Ending → World → Prop, P = fun e w' => ∃ ao2 c2, e = .returned (.slice ao2 (stay p l).length c2) ∧ OwR cJt 8 67 w' base (.slice ao2 (stay p l).length c2) (stay p l) ∧ Chg (Value.slice ao l.length c).ownBlock.toList w w' := ⟨_, rfl⟩
  rw [← hP]
  have HP := hd hP
  clear hP
  go_enter Tryz.func88, Tryz.ntmps88
  go_upto_region 2 with (go_at_call 131; refine hfind.mono ?_; rintro e w2 ⟨hfnd, hc2⟩; rcases hfnd with ⟨rfl, hno⟩ | ⟨k, rfl, hk, hyes, hno⟩)
  · have HNO := hd hno
    clear hno
    go_wp2_with fail
    rw [HP.out]
    rw [stay_all HNO.out]
    exact ⟨ao, c, rfl, HV.out.k hc2, hc2.mono (by simp)⟩
  · obtain ⟨b, hb, hbl⟩ : ∃ b, ao = some ⟨b, 0, none⟩ ∧ b < w.heap.size := by
      rcases HF.out with ⟨-, rfl⟩ | ⟨b, h, -, h2⟩
      · simp at hk
      · exact ⟨b, h, h2⟩
    subst hb
    have HNO := hd hno
    have HYES := hd hyes
    clear hno hyes
    have HC2 := hd hc2
    clear hc2 hfind
    have hne : ((k : Int) == -1) = false := by simp
    go_wp2_with fail
    go_loopw [5, 6] (fun i j wr => ∃ (a b2 : Nat) (l2 : List Jnt), i = .int .i64 (a : Int) ∧ j = .int .i64 (b2 : Int) ∧ a < b2 ∧ b2 ≤ l.length ∧ Hd (l2.length = l.length) ∧ Hd (l2.take a = stay p (l.take b2)) ∧ Hd (l2.drop b2 = l.drop b2) ∧ Hd (a = (stay p (l.take b2)).length) ∧
        OwR cJt 8 67 wr base (.slice (some ⟨b, 0, none⟩) l2.length c) l2 ∧ Chg [b] w wr) (fun _ j _ => (l.length - (intOf j).toNat))
    case atStart =>
      have HK := stay_start hk HYES.out HNO.out
      exact ⟨k, k + 1, l, rfl, by go_num, by omega, by omega, hd rfl, hd HK.1, hd rfl, hd HK.2, HV.out.k HC2.out, HC2.out.mono (by simp)⟩
    case round =>
      obtain ⟨a, b2, l2, rfl, rfl, hab, hbl2, hl2, ht, hdr, ha, hw, hc⟩ := hrel
      by_cases hlt : b2 < l.length
      · have hb2 : b2 < l2.length := by rw [hl2.out]; exact hlt
        have hr := Rd.rangeAt cJt_len hw.rd b2 hb2
        have hmem : l2[b2] ∈ l := by
          have h2 := hdr.out
          rw [List.drop_eq_getElem_cons hb2, List.drop_eq_getElem_cons hlt] at h2
          injection h2 with h3 h4
          rw [h3]
          exact List.getElem_mem hlt
        have hone := H1.out _ hmem
        have HNOk : p l2[b2] = true → _ := fun h => stay_no hlt hl2.out h ht.out hdr.out ha.out
        have hcon := fun W (h : Chg [] wr W) => HPP.out W l2[b2] (by simpa [Value.ownBlock] using hc.k' h) hmem
        generalize hx : l2[b2] = x at *
        have HX := hd hx
        clear hx
        obtain ⟨d, hd'⟩ : ∃ d, p x = d := ⟨_, rfl⟩
        simp only [hd'] at hcon
        have HD := hd hd'
        have HNK := hd HNOk
        have HCON := hd hcon
        have HR := hd hr
        have HW := hd hw
        have HC := hd hc
        clear hd' HNOk hcon hr hw hc hmem
        simp only [Nat.zero_add] at HR
        have kA := Blk.new wr #[.int .i64 0, .int .i64 0, .int .i64 0, .int .i64 0, .int .i64 0, .int .i64 0, .int .i64 0, .int .i64 0] 67
        have k1 := kA.row (cs' := (cJt x).toArray)
        have hc1 : Chg [] wr ((wr.alloc (.cells #[.int .i64 0, .int .i64 0, .int .i64 0, .int .i64 0, .int .i64 0, .int .i64 0, .int .i64 0, .int .i64 0] 67)).setRow wr.heap.size (cJt x).toArray) := Chg.row ((Chg.refl [] wr).alloc _) wr.heap.size _ (fun h => absurd h (Nat.lt_irrefl _))
        have hca : a < c := by have := hl2.out; omega
        go_upto_region 8 with (first
          | (refine wpList_load_mid rfl _ _ rfl _ _ rfl (cJt x) _ HR.out Tryz.underlying67 rfl (by kernel_rfl) ?_)
          | (refine wpList_store_row rfl _ _ _ rfl wr.heap.size (cJt x).toArray rfl rfl 67 _ kA (by kernel_rfl) rfl hone ?_))
        clear kA
        generalize (wr.alloc (.cells #[.int .i64 0, .int .i64 0, .int .i64 0, .int .i64 0, .int .i64 0, .int .i64 0, .int .i64 0, .int .i64 0] 67)).setRow wr.heap.size (cJt x).toArray = w1 at *
        have K1 := hd k1
        have HC1 := hd hc1
        generalize wr.heap.size = tb at *
        clear k1 hc1
        cases d
        · go_upto_region 9 with (first | (refine wpList_load_row rfl _ _ rfl tb rfl 67 _ (0, 0) _ K1.out Tryz.underlying67 rfl (by kernel_rfl) ?_) | (go_at_fn g; refine (HCON.out _ HC1.out).mono ?_; rintro e w5 ⟨rfl, h5⟩))
          have hth := (HW.out.k (HC1.out.k h5)).there a hca
          have hka := K1.out.k h5
          have hsz : (cJt x).toArray.size = 8 := by rw [List.size_toArray]; exact cJt_len x
          have HTH : Hd (w5.there b (a * 8) (cJt x).toArray.size) := hd (by rw [hsz]; exact hth)
          have HKA := hd hka
          clear hth hsz hka
          have hals : a < l2.length := by have := hl2.out; omega
          have ST := hd ((HW.out.k (HC1.out.k h5)).set cJt_len a hals x)
          have HM := hd ((HC.out.k' (HC1.out.k h5)).trans (Chg.setCells' (g := b) (cJt x) (a * 8) (Chg.refl [b] w5) (fun _ => List.mem_singleton_self b)) (fun x hx _ => hx))
          clear h5
          go_upto_region 10 with (first | (refine wpList_load_row rfl _ _ rfl tb rfl 67 _ (0, 0) _ HKA.out Tryz.underlying67 rfl (by kernel_rfl) ?_) | (refine wpList_store_midTo rfl _ _ _ rfl rfl _ _ (cJt x).toArray rfl rfl HTH.out (by kernel_rfl) hone ?_))
          generalize w5.setCells b (a * 8) (cJt x) = w6 at *
          go_wp2_with (fail)
          go_roundw
          case rel =>
            have HK := stay_yes hl2.out hlt HX.out HD.out ht.out hdr.out ha.out hab
            first
              | exact ⟨a + 1, b2 + 1, l2.set a x, by go_num, by go_num, by omega, by omega, hd (by rw [List.length_set]; exact hl2.out), hd HK.1, hd HK.2.1, hd HK.2.2, (by rw [List.length_set]; exact ST.out), HM.out⟩
              | ((repeat apply Exists.intro); exact ⟨⟨a + 1, b2 + 1, l2.set a x, by go_num, by go_num, by omega, by omega, hd (by rw [List.length_set]; exact hl2.out), hd HK.1, hd HK.2.1, hd HK.2.2, (by rw [List.length_set]; exact ST.out), HM.out⟩, rfl⟩)
          case measure => simp [intOf]; omega
        · go_wp2_with (first | (refine wpList_load_row rfl _ _ rfl tb rfl 67 _ (0, 0) _ K1.out Tryz.underlying67 rfl (by kernel_rfl) ?_) | (go_at_fn g; refine (HCON.out _ HC1.out).mono ?_; rintro e w5 ⟨rfl, h5⟩))
          go_roundw
          case rel =>
            have HK := HNK.out HD.out
            first
              | exact ⟨a, b2 + 1, l2, rfl, by go_num, by omega, by omega, hl2, hd HK.1, hd HK.2.1, hd HK.2.2, HW.out.k (HC1.out.k h5), HC.out.k' (HC1.out.k h5)⟩
              | ((repeat apply Exists.intro); exact ⟨⟨a, b2 + 1, l2, rfl, by go_num, by omega, by omega, hl2, hd HK.1, hd HK.2.1, hd HK.2.2, HW.out.k (HC1.out.k h5), HC.out.k' (HC1.out.k h5)⟩, rfl⟩)
          case measure => simp [intOf]; omega
      · have hb : b2 = l.length := by omega
        subst hb
        have hlr : l.length = l2.length := hl2.out.symm
        have hca : ¬ c = a := by omega
        have hcb : a ≤ c := by omega
        obtain ⟨w5, hrun, hr5, hc5⟩ := OwR.clear cJt_len undRJ zeroRJ rfl (by decide) (by decide) hw a (by omega) rfl
        rw [hl2.out] at hrun
        have e1 : l2.take a = stay p l := by rw [ht.out, List.take_of_length_le (Nat.le_refl _)]
        rw [e1] at hr5
        have hle : (stay p l).length ≤ l.length := List.length_filter_le _ _
        have e2 : a = (stay p l).length := by rw [ha.out, List.take_of_length_le (Nat.le_refl _)]
        subst e2
        have HR := hd hr5
        have HCC := hd (hc.trans hc5 (by simp))
        clear hc5 hr5 e1 hlr hw hc ht ha
        go_wp2_with fail
        rw [HP.out]
        exact ⟨_, c, rfl, HR.out, by simpa [Value.ownBlock] using HCC.out⟩
set_option maxHeartbeats 1000000 in
theorem WithoutRJ_any (w : World) (v : Value) (l : List Jnt) (hv : Rd w 8 v l.length (l.flatMap cJt)) (h1 : ∀ x ∈ l, ∀ v ∈ cJt x, v.oneCell' = true) (hl : l.length ≤ 100000000000) (p : Jnt → Bool) (g : Nat) (lb : Array Value)
    (eg : ∀ args w, (callFunc g args).run Tryz.prog w = .ok (.enter g args) w) (hp : ∀ W W', Chg [] w W → (∀ S, (∀ x ∈ S, w.heap.size ≤ x) → Chg S W W' → Says S W' cJt p g lb l)) :
    Calls Tryz.prog 57 #[v, .func (.func g) #[] lb] w fun e w' => ∃ ao c, e = .returned (.slice ao (stay p l).length c) ∧ OwR cJt 8 67 w' w.heap.size (.slice ao (stay p l).length c) (stay p l) ∧ Chg [] w w' := by
  have hcl := CloneRJ_any w v l hv (by intro v hv; obtain ⟨x, hx, h⟩ := List.mem_flatMap.1 hv; exact h1 x hx v h) hl
  have hdel := fun W ao c (h : OwR cJt 8 67 W w.heap.size (.slice ao l.length c) l) (hc : Chg [] w W) => DeleteRJ_any W w.heap.size _ l h (fun x hx => all_oneCell_toArray (h1 x hx)) hl p g lb eg (hp W W hc _ (fun x hx => (h.lo x (by simpa using hx)).1) (Chg.refl _ _))
  obtain ⟨P, hP⟩ : ∃ P : Ending → World → Prop, P = fun e w' => ∃ ao c, e = .returned (.slice ao (stay p l).length c) ∧ OwR cJt 8 67 w' w.heap.size (.slice ao (stay p l).length c) (stay p l) ∧ Chg [] w w' := ⟨_, rfl⟩
  rw [← hP]
  have HP := hd hP
  clear hP hp h1
  obtain ⟨av, cv, rfl, -, -⟩ := Rd.form (by decide) hv
  go_enter Tryz.func57, Tryz.ntmps57
  go_wp2_with (first
    | (go_at_call 18; refine hcl.mono ?_; rintro e w1 ⟨ao, c, rfl, ho, hc1⟩)
    | (go_at_call 88; refine (hdel _ _ _ ho hc1).mono ?_; rintro e w2 ⟨ao2, c2, rfl, ho2, hc2⟩))
  rw [HP.out]
  exact ⟨ao2, c2, rfl, ho2, hc1.trans hc2 (fun x hx hl => absurd (ho.lo x (by simpa using hx)).1 (by omega))⟩
theorem ClipRJ_any (w : World) (ao : Option Addr) (n c : Nat) (h : n ≤ c) (_hc : c ≤ 9223372036854775807) :
    Calls Tryz.prog 53 #[.slice ao n c] w fun e w' => e = .returned (.slice ao n n) ∧ w' = w := by
  go_enter Tryz.func53, Tryz.ntmps53
  go_wp2_with fail
  go_ret
  exact ⟨rfl, rfl⟩
end Go.Proofs.YtpadflhffiiglaaGreat

/- The library's functions on rows of records: Contact. -/
namespace Go.Proofs.YtpadflhffiiglaaGreat
open Go.RowKit

theorem undRC : Tryz.prog.underlying 40 = some (.slice 70) := by kernel_rfl
theorem rowRC : RowT Tryz.prog 40 70 5 40 := RowT.mk (z := .agg #[.int .i64 0, .int .i64 0, .int .i64 0, .int .i64 0, .int .i64 0]) (by kernel_rfl) (by kernel_rfl) rfl (by decide)
theorem zeroRC (w : World) : (zeroValue 70).run Tryz.prog w = .ok (.agg #[.int .i64 0, .int .i64 0, .int .i64 0, .int .i64 0, .int .i64 0]) w := by kernel_rfl
set_option maxHeartbeats 400000 in
theorem CloneRC_any (w : World) (v : Value) (l : List Cnt) (hv : Rd w 5 v l.length (l.flatMap cCt)) (h1 : ∀ v ∈ l.flatMap cCt, v.oneCell' = true) (hl : l.length ≤ 100000000000) :
    Calls Tryz.prog 19 #[v] w fun e w' => ∃ ao c, e = .returned (.slice ao l.length c) ∧ OwR cCt 5 70 w' w.heap.size (.slice ao l.length c) l ∧ Chg [] w w' := by
  unfold OwR
  generalize l.flatMap cCt = xs at *
  generalize l.length = n at *
  obtain ⟨hx, ao, cap, b, off, rfl, -, -, hn, -, -⟩ := id hv
  rcases ao with _ | a
  · obtain ⟨rfl, rfl⟩ := hn rfl
    obtain rfl : xs = [] := List.length_eq_zero_iff.1 (by simpa using hx)
    clear hn hv hl h1 hx
    have hq := fun w => Lib.run_eql_slice_nil (P := Tryz.prog) w 40 70 none 0 0 0 0 undRC
    go_enter Tryz.func19, Tryz.ntmps19
    go_wp2_with fail
    refine bodyPost_ret (v := .slice none 0 0) ?_ rfl ⟨none, 0, rfl, World.ownsRow_nil _ _ _ _, Chg.refl _ _⟩
    simp only [results]; go_simp
  · have hB : (w.alloc (.cells #[] 70)).ownsRow w.heap.size 70 5 (.slice (some ⟨w.heap.size, 0, none⟩) 0 0) 0 [] := World.ownsRow_lit w #[] 0 (Nat.le_refl _) (by decide) rfl
    have hv1 := Rd.keep hv ((Chg.refl [] w).alloc (.cells #[] 70)) (by simp)
    clear hn hv hx
    have hq := fun w => Lib.run_eql_slice_nil (P := Tryz.prog) w 40 70 (some a) n cap 0 0 undRC
    go_enter Tryz.func19, Tryz.ntmps19
    go_wp2_with (at_builtin; refine wpApp rowRC rfl _ _ rfl w.heap.size _ 0 [] rfl hB _ n xs rfl hv1 h1 (by omega) (by omega) (by simp) ?_; intro ao1 c1 w1 k1 k2 k3 _)
    have hc : Chg [] w w1 := ((Chg.refl [] w).alloc _).ownGrow hB k2 (Nat.le_refl _)
    simp only [List.nil_append, Nat.zero_add] at k1 ⊢
    refine bodyPost_ret (v := .slice ao1 n c1) ?_ rfl ⟨ao1, c1, rfl, k1, hc⟩
    simp only [results]; go_simp
set_option maxHeartbeats 2000000 in
theorem IndexRC_any (w : World) (v : Value) (l : List Cnt) (hv : Rd w 5 v l.length (l.flatMap cCt)) (hl : l.length ≤ 100000000000) (p : Cnt → Bool) (g : Nat) (lb : Array Value)
    (eg : ∀ args w, (callFunc g args).run Tryz.prog w = .ok (.enter g args) w) (hp : Says [] w cCt p g lb l) :
    Calls Tryz.prog 132 #[v, .func (.func g) #[] lb] w fun e w' => FoundR p l e ∧ Chg [] w w' := by
  obtain ⟨ao, c, rfl, hm, hao⟩ := Rd.form (by decide) hv
  have HV := hd hv
  have HP := hd hp
  have HAO := hd hao
  clear hv hp hao
  obtain ⟨P, hP⟩ : ∃ P : Ending → World → Prop, P = fun e w' => FoundR p l e ∧ Chg [] w w' := ⟨_, rfl⟩
  rw [← hP]
  have HPP := hd hP
  clear hP
  go_enter Tryz.func132, Tryz.ntmps132
  go_wp2_with fail
  go_loopw [8] (fun i wr => ∃ k : Nat, i = .int .i64 (k : Int) ∧ k ≤ l.length ∧ Hd (∀ o ∈ l.take k, p o = false) ∧ Chg [] w wr) (fun i _ => (l.length - (intOf i).toNat))
  case atStart => exact ⟨0, rfl, Nat.zero_le _, hd (by simp), Chg.refl _ _⟩
  case round =>
    obtain ⟨k, rfl, hk, hno, hc⟩ := hrel
    by_cases hlt : k < l.length
    · obtain ⟨b, off, e1, hb⟩ := HAO.out (by omega)
      subst e1
      have hr := hd (rangeAt_k (Rd.rangeAt cCt_len HV.out k hlt) hc)
      have hcon := HP.out wr l[k] hc (List.getElem_mem hlt)
      have HS := hd (List.take_succ_eq_append_getElem hlt)
      generalize hx : l[k] = x at *
      have HX := hd hx
      clear hx
      obtain ⟨d, hd'⟩ : ∃ d, p x = d := ⟨_, rfl⟩
      rw [hd'] at hcon
      have HD := hd hd'
      have HC := hd hc
      clear hd' hc
      cases d
      · go_wp2_with (first
          | (refine wpList_load_mid rfl _ _ rfl _ _ rfl (cCt x) _ hr.out Tryz.underlying70 rfl (by kernel_rfl) ?_)
          | (go_at_fn g; refine hcon.mono ?_; rintro e w2 ⟨rfl, hc2⟩))
        go_roundw
        case rel => exact ⟨k + 1, by go_num, by omega, hd (by rw [HS.out]; intro o ho; rcases List.mem_append.1 ho with h | h; exact hno.out o h; obtain rfl := List.mem_singleton.1 h; exact HD.out), HC.out.k hc2⟩
        case measure => simp [intOf]; omega
      · go_wp2_with (first
          | (refine wpList_load_mid rfl _ _ rfl _ _ rfl (cCt x) _ hr.out Tryz.underlying70 rfl (by kernel_rfl) ?_)
          | (go_at_fn g; refine hcon.mono ?_; rintro e w2 ⟨rfl, hc2⟩))
        rw [HPP.out]
        exact ⟨.inr ⟨k, rfl, hlt, by rw [HX.out]; exact HD.out, hno.out⟩, HC.out.k hc2⟩
    · go_wp2_with fail
      rw [HPP.out]
      exact ⟨.inl ⟨rfl, by have := hno.out; rwa [List.take_of_length_le (by omega)] at this⟩, hc⟩
set_option maxRecDepth 100000 in
set_option maxHeartbeats 4000000 in
theorem DeleteRC_any (w : World) (base : Nat) (v : Value) (l : List Cnt) (hv : OwR cCt 5 70 w base v l) (h1 : ∀ x ∈ l, (cCt x).toArray.all (·.oneCell') = true) (hl : l.length ≤ 100000000000) (p : Cnt → Bool) (g : Nat) (lb : Array Value)
    (eg : ∀ args w, (callFunc g args).run Tryz.prog w = .ok (.enter g args) w) (hp : Says v.ownBlock.toList w cCt p g lb l) :
    Calls Tryz.prog 89 #[v, .func (.func g) #[] lb] w fun e w' => ∃ ao c, e = .returned (.slice ao (stay p l).length c) ∧ OwR cCt 5 70 w' base (.slice ao (stay p l).length c) (stay p l) ∧ Chg v.ownBlock.toList w w' := by
  have hfind := IndexRC_any w v l hv.rd hl p g lb eg (fun W x h hx => hp W x (h.mono (by simp)) hx)
  obtain ⟨ao, c, rfl, hnc, hcm, hform⟩ := hv.form
  have HV := hd hv
  have HF := hd hform
  have HPP := hd hp
  have H1 := hd h1
  clear hv hform hp h1
  obtain ⟨P, hP⟩ : ∃ P : Ending → World → Prop, P = fun e w' => ∃ ao2 c2, e = .returned (.slice ao2 (stay p l).length c2) ∧ OwR cCt 5 70 w' base (.slice ao2 (stay p l).length c2) (stay p l) ∧ Chg (Value.slice ao l.length c).ownBlock.toList w w' := ⟨_, rfl⟩
  rw [← hP]
  have HP := hd hP
  clear hP
  go_enter Tryz.func89, Tryz.ntmps89
  go_upto_region 2 with (go_at_call 132; refine hfind.mono ?_; rintro e w2 ⟨hfnd, hc2⟩; rcases hfnd with ⟨rfl, hno⟩ | ⟨k, rfl, hk, hyes, hno⟩)
  · have HNO := hd hno
    clear hno
    go_wp2_with fail
    rw [HP.out]
    rw [stay_all HNO.out]
    exact ⟨ao, c, rfl, HV.out.k hc2, hc2.mono (by simp)⟩
  · obtain ⟨b, hb, hbl⟩ : ∃ b, ao = some ⟨b, 0, none⟩ ∧ b < w.heap.size := by
      rcases HF.out with ⟨-, rfl⟩ | ⟨b, h, -, h2⟩
      · simp at hk
      · exact ⟨b, h, h2⟩
    subst hb
    have HNO := hd hno
    have HYES := hd hyes
    clear hno hyes
    have HC2 := hd hc2
    clear hc2 hfind
    have hne : ((k : Int) == -1) = false := by simp
    go_wp2_with fail
    go_loopw [5, 6] (fun i j wr => ∃ (a b2 : Nat) (l2 : List Cnt), i = .int .i64 (a : Int) ∧ j = .int .i64 (b2 : Int) ∧ a < b2 ∧ b2 ≤ l.length ∧ Hd (l2.length = l.length) ∧ Hd (l2.take a = stay p (l.take b2)) ∧ Hd (l2.drop b2 = l.drop b2) ∧ Hd (a = (stay p (l.take b2)).length) ∧
        OwR cCt 5 70 wr base (.slice (some ⟨b, 0, none⟩) l2.length c) l2 ∧ Chg [b] w wr) (fun _ j _ => (l.length - (intOf j).toNat))
    case atStart =>
      have HK := stay_start hk HYES.out HNO.out
      exact ⟨k, k + 1, l, rfl, by go_num, by omega, by omega, hd rfl, hd HK.1, hd rfl, hd HK.2, HV.out.k HC2.out, HC2.out.mono (by simp)⟩
    case round =>
      obtain ⟨a, b2, l2, rfl, rfl, hab, hbl2, hl2, ht, hdr, ha, hw, hc⟩ := hrel
      by_cases hlt : b2 < l.length
      · have hb2 : b2 < l2.length := by rw [hl2.out]; exact hlt
        have hr := Rd.rangeAt cCt_len hw.rd b2 hb2
        have hmem : l2[b2] ∈ l := by
          have h2 := hdr.out
          rw [List.drop_eq_getElem_cons hb2, List.drop_eq_getElem_cons hlt] at h2
          injection h2 with h3 h4
          rw [h3]
          exact List.getElem_mem hlt
        have hone := H1.out _ hmem
        have HNOk : p l2[b2] = true → _ := fun h => stay_no hlt hl2.out h ht.out hdr.out ha.out
        have hcon := fun W (h : Chg [] wr W) => HPP.out W l2[b2] (by simpa [Value.ownBlock] using hc.k' h) hmem
        generalize hx : l2[b2] = x at *
        have HX := hd hx
        clear hx
        obtain ⟨d, hd'⟩ : ∃ d, p x = d := ⟨_, rfl⟩
        simp only [hd'] at hcon
        have HD := hd hd'
        have HNK := hd HNOk
        have HCON := hd hcon
        have HR := hd hr
        have HW := hd hw
        have HC := hd hc
        clear hd' HNOk hcon hr hw hc hmem
        simp only [Nat.zero_add] at HR
        have kA := Blk.new wr #[.int .i64 0, .int .i64 0, .int .i64 0, .int .i64 0, .int .i64 0] 70
        have k1 := kA.row (cs' := (cCt x).toArray)
        have hc1 : Chg [] wr ((wr.alloc (.cells #[.int .i64 0, .int .i64 0, .int .i64 0, .int .i64 0, .int .i64 0] 70)).setRow wr.heap.size (cCt x).toArray) := Chg.row ((Chg.refl [] wr).alloc _) wr.heap.size _ (fun h => absurd h (Nat.lt_irrefl _))
        have hca : a < c := by have := hl2.out; omega
        go_upto_region 8 with (first
          | (refine wpList_load_mid rfl _ _ rfl _ _ rfl (cCt x) _ HR.out Tryz.underlying70 rfl (by kernel_rfl) ?_)
          | (refine wpList_store_row rfl _ _ _ rfl wr.heap.size (cCt x).toArray rfl rfl 70 _ kA (by kernel_rfl) rfl hone ?_))
        clear kA
        generalize (wr.alloc (.cells #[.int .i64 0, .int .i64 0, .int .i64 0, .int .i64 0, .int .i64 0] 70)).setRow wr.heap.size (cCt x).toArray = w1 at *
        have K1 := hd k1
        have HC1 := hd hc1
        generalize wr.heap.size = tb at *
        clear k1 hc1
        cases d
        · go_upto_region 9 with (first | (refine wpList_load_row rfl _ _ rfl tb rfl 70 _ (0, 0) _ K1.out Tryz.underlying70 rfl (by kernel_rfl) ?_) | (go_at_fn g; refine (HCON.out _ HC1.out).mono ?_; rintro e w5 ⟨rfl, h5⟩))
          have hth := (HW.out.k (HC1.out.k h5)).there a hca
          have hka := K1.out.k h5
          have hsz : (cCt x).toArray.size = 5 := by rw [List.size_toArray]; exact cCt_len x
          have HTH : Hd (w5.there b (a * 5) (cCt x).toArray.size) := hd (by rw [hsz]; exact hth)
          have HKA := hd hka
          clear hth hsz hka
          have hals : a < l2.length := by have := hl2.out; omega
          have ST := hd ((HW.out.k (HC1.out.k h5)).set cCt_len a hals x)
          have HM := hd ((HC.out.k' (HC1.out.k h5)).trans (Chg.setCells' (g := b) (cCt x) (a * 5) (Chg.refl [b] w5) (fun _ => List.mem_singleton_self b)) (fun x hx _ => hx))
          clear h5
          go_upto_region 10 with (first | (refine wpList_load_row rfl _ _ rfl tb rfl 70 _ (0, 0) _ HKA.out Tryz.underlying70 rfl (by kernel_rfl) ?_) | (refine wpList_store_midTo rfl _ _ _ rfl rfl _ _ (cCt x).toArray rfl rfl HTH.out (by kernel_rfl) hone ?_))
          generalize w5.setCells b (a * 5) (cCt x) = w6 at *
          go_wp2_with (fail)
          go_roundw
          case rel =>
            have HK := stay_yes hl2.out hlt HX.out HD.out ht.out hdr.out ha.out hab
            first
              | exact ⟨a + 1, b2 + 1, l2.set a x, by go_num, by go_num, by omega, by omega, hd (by rw [List.length_set]; exact hl2.out), hd HK.1, hd HK.2.1, hd HK.2.2, (by rw [List.length_set]; exact ST.out), HM.out⟩
              | ((repeat apply Exists.intro); exact ⟨⟨a + 1, b2 + 1, l2.set a x, by go_num, by go_num, by omega, by omega, hd (by rw [List.length_set]; exact hl2.out), hd HK.1, hd HK.2.1, hd HK.2.2, (by rw [List.length_set]; exact ST.out), HM.out⟩, rfl⟩)
          case measure => simp [intOf]; omega
        · go_wp2_with (first | (refine wpList_load_row rfl _ _ rfl tb rfl 70 _ (0, 0) _ K1.out Tryz.underlying70 rfl (by kernel_rfl) ?_) | (go_at_fn g; refine (HCON.out _ HC1.out).mono ?_; rintro e w5 ⟨rfl, h5⟩))
          go_roundw
          case rel =>
            have HK := HNK.out HD.out
            first
              | exact ⟨a, b2 + 1, l2, rfl, by go_num, by omega, by omega, hl2, hd HK.1, hd HK.2.1, hd HK.2.2, HW.out.k (HC1.out.k h5), HC.out.k' (HC1.out.k h5)⟩
              | ((repeat apply Exists.intro); exact ⟨⟨a, b2 + 1, l2, rfl, by go_num, by omega, by omega, hl2, hd HK.1, hd HK.2.1, hd HK.2.2, HW.out.k (HC1.out.k h5), HC.out.k' (HC1.out.k h5)⟩, rfl⟩)
          case measure => simp [intOf]; omega
      · have hb : b2 = l.length := by omega
        subst hb
        have hlr : l.length = l2.length := hl2.out.symm
        have hca : ¬ c = a := by omega
        have hcb : a ≤ c := by omega
        obtain ⟨w5, hrun, hr5, hc5⟩ := OwR.clear cCt_len undRC zeroRC rfl (by decide) (by decide) hw a (by omega) rfl
        rw [hl2.out] at hrun
        have e1 : l2.take a = stay p l := by rw [ht.out, List.take_of_length_le (Nat.le_refl _)]
        rw [e1] at hr5
        have hle : (stay p l).length ≤ l.length := List.length_filter_le _ _
        have e2 : a = (stay p l).length := by rw [ha.out, List.take_of_length_le (Nat.le_refl _)]
        subst e2
        have HR := hd hr5
        have HCC := hd (hc.trans hc5 (by simp))
        clear hc5 hr5 e1 hlr hw hc ht ha
        go_wp2_with fail
        rw [HP.out]
        exact ⟨_, c, rfl, HR.out, by simpa [Value.ownBlock] using HCC.out⟩
set_option maxHeartbeats 1000000 in
theorem WithoutRC_any (w : World) (v : Value) (l : List Cnt) (hv : Rd w 5 v l.length (l.flatMap cCt)) (h1 : ∀ x ∈ l, ∀ v ∈ cCt x, v.oneCell' = true) (hl : l.length ≤ 100000000000) (p : Cnt → Bool) (g : Nat) (lb : Array Value)
    (eg : ∀ args w, (callFunc g args).run Tryz.prog w = .ok (.enter g args) w) (hp : ∀ W W', Chg [] w W → (∀ S, (∀ x ∈ S, w.heap.size ≤ x) → Chg S W W' → Says S W' cCt p g lb l)) :
    Calls Tryz.prog 59 #[v, .func (.func g) #[] lb] w fun e w' => ∃ ao c, e = .returned (.slice ao (stay p l).length c) ∧ OwR cCt 5 70 w' w.heap.size (.slice ao (stay p l).length c) (stay p l) ∧ Chg [] w w' := by
  have hcl := CloneRC_any w v l hv (by intro v hv; obtain ⟨x, hx, h⟩ := List.mem_flatMap.1 hv; exact h1 x hx v h) hl
  have hdel := fun W ao c (h : OwR cCt 5 70 W w.heap.size (.slice ao l.length c) l) (hc : Chg [] w W) => DeleteRC_any W w.heap.size _ l h (fun x hx => all_oneCell_toArray (h1 x hx)) hl p g lb eg (hp W W hc _ (fun x hx => (h.lo x (by simpa using hx)).1) (Chg.refl _ _))
  obtain ⟨P, hP⟩ : ∃ P : Ending → World → Prop, P = fun e w' => ∃ ao c, e = .returned (.slice ao (stay p l).length c) ∧ OwR cCt 5 70 w' w.heap.size (.slice ao (stay p l).length c) (stay p l) ∧ Chg [] w w' := ⟨_, rfl⟩
  rw [← hP]
  have HP := hd hP
  clear hP hp h1
  obtain ⟨av, cv, rfl, -, -⟩ := Rd.form (by decide) hv
  go_enter Tryz.func59, Tryz.ntmps59
  go_wp2_with (first
    | (go_at_call 19; refine hcl.mono ?_; rintro e w1 ⟨ao, c, rfl, ho, hc1⟩)
    | (go_at_call 89; refine (hdel _ _ _ ho hc1).mono ?_; rintro e w2 ⟨ao2, c2, rfl, ho2, hc2⟩))
  rw [HP.out]
  exact ⟨ao2, c2, rfl, ho2, hc1.trans hc2 (fun x hx hl => absurd (ho.lo x (by simpa using hx)).1 (by omega))⟩
end Go.Proofs.YtpadflhffiiglaaGreat

/- Where a number stands in a rising list; cmp.Compare. -/
namespace Go.Proofs.YtpadflhffiiglaaGreat
open Go.RowKit

def cmpI (a b : Int) : Int := if a < b then -1 else if b < a then 1 else 0
set_option maxHeartbeats 1000000 in
theorem Cmp_any (a b : Int) (w : World) : Calls Tryz.prog 111 #[.int .i64 a, .int .i64 b] w fun e w' => e = .returned (.int .i64 (cmpI a b)) ∧ w' = w := by
  have hn : ∀ a W, Calls Tryz.prog 146 #[.int .i64 a] W fun e w' => e = .returned (.bool false) ∧ w' = W := by
    intro a W
    go_enter Tryz.func146, Tryz.ntmps146
    go_wp2_with fail
    go_ret
    exact ⟨by simp, rfl⟩
  unfold cmpI
  by_cases h1 : a < b
  · rw [if_pos h1]
    go_enter Tryz.func111, Tryz.ntmps111
    go_wp2_with (go_at_call 146; refine (hn _ _).mono ?_; rintro e w1 ⟨rfl, rfl⟩)
    go_ret
    exact ⟨rfl, rfl⟩
  · rw [if_neg h1]
    by_cases h2 : b < a
    · rw [if_pos h2]
      go_enter Tryz.func111, Tryz.ntmps111
      go_wp2_with (go_at_call 146; refine (hn _ _).mono ?_; rintro e w1 ⟨rfl, rfl⟩)
      go_ret
      exact ⟨rfl, rfl⟩
    · rw [if_neg h2]
      go_enter Tryz.func111, Tryz.ntmps111
      go_wp2_with (go_at_call 146; refine (hn _ _).mono ?_; rintro e w1 ⟨rfl, rfl⟩)
      go_ret
      exact ⟨rfl, rfl⟩
/-- Where a number stands, and if it does. -/
def fndI (l : List Int) (x : Int) : Nat × Bool := if x ∈ l then (l.idxOf x, true) else (0, false)
def risI (l : List Int) : Prop := l.Pairwise (· < ·)
theorem fnd_no {l : List Int} {x : Int} (h : x ∉ l) : fndI l x = (0, false) := by unfold fndI; rw [if_neg h]
theorem fnd_at {l : List Int} (hr : risI l) {i : Nat} (h : i < l.length) : fndI l l[i] = (i, true) := by
  unfold fndI
  rw [if_pos (List.getElem_mem h)]
  congr 1
  have hn : l.Nodup := hr.imp (fun h => Int.ne_of_lt h)
  exact hn.idxOf_getElem i h
theorem ris_get {l : List Int} (hr : risI l) {i j : Nat} (hi : i < l.length) (hj : j < l.length) (h : i < j) : l[i] < l[j] := (List.pairwise_iff_getElem.1 hr) i j hi hj h
/-- The search's bounds. -/
structure Mid (l : List Int) (x : Int) (i j : Nat) : Prop where
  ij : i ≤ j
  jl : j ≤ l.length
  lo : ∀ k (h : k < l.length), k < i → l[k] < x
  hi : ∀ k (h : k < l.length), j ≤ k → x ≤ l[k]
theorem Mid.start (l : List Int) (x : Int) : Mid l x 0 l.length := ⟨by omega, by omega, by omega, by omega⟩
theorem Mid.up {l : List Int} {x : Int} {i j h : Nat} (hr : risI l) (m : Mid l x i j) (h2 : h < j) (hl : h < l.length) (hx : l[h] < x) : Mid l x (h + 1) j :=
  ⟨by omega, m.jl, fun k hk hki => by
    by_cases e : k = h
    · subst e; exact hx
    · exact Int.lt_trans (ris_get hr hk hl (by omega)) hx, m.hi⟩
theorem Mid.down {l : List Int} {x : Int} {i j h : Nat} (hr : risI l) (m : Mid l x i j) (h1 : i ≤ h) (h2 : h < j) (hl : h < l.length) (hx : ¬ l[h] < x) : Mid l x i h :=
  ⟨h1, by have := m.jl; omega, m.lo, fun k hk hki => by
    by_cases e : k = h
    · subst e; omega
    · have := ris_get hr hl hk (by omega); omega⟩
/-- What the search ends in. -/
theorem Mid.hit {l : List Int} {x : Int} {i : Nat} (hr : risI l) (h : i < l.length) (e : l[i] = x) : fndI l x = (i, true) := by rw [← e]; exact fnd_at hr h
theorem Mid.miss {l : List Int} {x : Int} {i : Nat} (m : Mid l x i i) (e : ∀ h : i < l.length, l[i] ≠ x) (hr : risI l) : fndI l x = (0, false) := fnd_no fun hm => by
  obtain ⟨k, hk, hx⟩ := List.mem_iff_getElem.1 hm
  rcases Nat.lt_trichotomy k i with h | h | h
  · have := m.lo k hk h; omega
  · subst h; exact e hk hx
  · have h1 := m.hi i (by omega) (Nat.le_refl _)
    have h2 := ris_get hr (by omega) hk h
    omega
end Go.Proofs.YtpadflhffiiglaaGreat

/- world.Right: what gives a body's number. -/
namespace Go.Proofs.YtpadflhffiiglaaGreat
open Go.RowKit

end Go.Proofs.YtpadflhffiiglaaGreat

/- world.Body: where a number stands. -/
namespace Go.Proofs.YtpadflhffiiglaaGreat
open Go.RowKit

theorem BsS.one {w : World} {v : Value} {l : List BV} (h : BsS w v l) : ∀ x ∈ l, (cBV x).toArray.all (·.oneCell') = true := fun x hx => by
  obtain ⟨ap, cp, e, -⟩ := (h.ps x hx).form
  obtain ⟨x, pv⟩ := x
  simp only at e
  subst e
  exact cBV_all _ _ _ _
theorem one_cBV (x : BV) (h : (cBV x).toArray.all (·.oneCell') = true) : x.2.oneCell' = true := by simpa [cBV, Value.oneCell'] using h
set_option maxHeartbeats 1000000 in
theorem FIdB_any (w : World) (x : BV) (ho : (cBV x).toArray.all (·.oneCell') = true) : Calls Tryz.prog 71 #[.agg (cBV x).toArray] w fun e w' => e = .returned (.int .i64 x.1.id) ∧ Chg [] w w' := by
  obtain ⟨⟨i, ⟨px, py⟩, ⟨vx, vy⟩, an, sp, de, ⟨sk, sr, p⟩⟩, pv⟩ := x
  unfold cBV
  simp only
  go_enter Tryz.func71, Tryz.ntmps71
  go_wp2
  go_ret
  exact ⟨rfl, (Chg.refl [] w).alloc _⟩
set_option maxHeartbeats 1000000 in
theorem FCmpB_any (w : World) (x : BV) (id : Int) (fb : Nat) (hf : w.cell? ⟨fb, 0, none⟩ = some (.func (.func 71) #[] #[])) (ho : (cBV x).toArray.all (·.oneCell') = true) :
    Calls Tryz.prog 113 #[.agg (cBV x).toArray, .int .i64 id, .pointer (some ⟨fb, 0, none⟩)] w fun e w' => e = .returned (.int .i64 (cmpI (x.1.id) id)) ∧ Chg [] w w' := by
  have hc1 := (Chg.refl [] w).alloc (.cells (cBV x).toArray 34)
  have k1 := Blk.new w (cBV x).toArray 34
  have hf1 := hc1.cellS hf
  have hid := fun W => FIdB_any W x ho
  have hcm := fun W => Cmp_any (x.1.id) id W
  clear hf
  go_enter Tryz.func113, Tryz.ntmps113
  go_upto_region 1 with (fail)
  generalize w.alloc (.cells (cBV x).toArray 34) = w1 at *
  go_wp2_with (first
    | (refine wpList_load_row rfl _ _ rfl _ rfl 34 _ (0, 0) _ k1 Tryz.underlying34 rfl (by kernel_rfl) ?_)
    | (go_at_call 71; refine (hid _).mono ?_; rintro e w2 ⟨rfl, h2⟩)
    | (go_at_call 111; refine (hcm _).mono ?_; rintro e w3 ⟨rfl, rfl⟩))
  go_ret
  exact ⟨rfl, hc1.k h2⟩
set_option maxRecDepth 100000 in
set_option maxHeartbeats 4000000 in
theorem BinB_any (w : World) (v : Value) (l : List BV) (id : Int) (fb : Nat) (hv : Rd w 11 v l.length (l.flatMap cBV)) (ho : ∀ x ∈ l, (cBV x).toArray.all (·.oneCell') = true) (hl : l.length ≤ 100000000000) (hr : risI (l.map (fun x => x.1.id)))
    (hf : w.cell? ⟨fb, 0, none⟩ = some (.func (.func 71) #[] #[])) :
    Calls Tryz.prog 112 #[v, .int .i64 id, .func (.func 113) #[] #[.pointer (some ⟨fb, 0, none⟩)]] w fun e w' =>
      (∃ k : Nat, e = .returned (.tuple #[.int .i64 (k : Int), .bool (fndI (l.map (fun x => x.1.id)) id).2]) ∧ ((fndI (l.map (fun x => x.1.id)) id).2 = true → k = (fndI (l.map (fun x => x.1.id)) id).1)) ∧ Chg [] w w' := by
  obtain ⟨ao, c, rfl, hm, hao⟩ := Rd.form (by decide) hv
  have HV := hd hv
  have HAO := hd hao
  have HO := hd ho
  have HR := hd hr
  have HF := hd hf
  clear hv hao ho hr hf
  obtain ⟨P, hP⟩ : ∃ P : Ending → World → Prop, P = fun e w' => (∃ k : Nat, e = .returned (.tuple #[.int .i64 (k : Int), .bool (fndI (l.map (fun x => x.1.id)) id).2]) ∧ ((fndI (l.map (fun x => x.1.id)) id).2 = true → k = (fndI (l.map (fun x => x.1.id)) id).1)) ∧ Chg [] w w' := ⟨_, rfl⟩
  rw [← hP]
  have HP := hd hP
  clear hP
  go_enter Tryz.func112, Tryz.ntmps112
  go_wp2_with fail
  go_loopw [9, 10] (fun i j wr => ∃ p q : Nat, i = .int .i64 (p : Int) ∧ j = .int .i64 (q : Int) ∧ p ≤ q ∧ q ≤ l.length ∧ Hd (Mid (l.map (fun x => x.1.id)) id p q) ∧ Chg [] w wr) (fun i j _ => ((intOf j).toNat - (intOf i).toNat))
  case atStart => exact ⟨0, l.length, rfl, rfl, by omega, by omega, hd (by simpa using Mid.start (l.map (fun x => x.1.id)) id), Chg.refl _ _⟩
  case round =>
    obtain ⟨p, q, rfl, rfl, hpq, hql, hmid, hc⟩ := hrel
    have HC := hd hc
    clear hc
    by_cases hlt : p < q
    · have h1 : p ≤ (p + q) / 2 := by omega
      have h2 : (p + q) / 2 < q := by omega
      have h3 : (p + q) / 2 < l.length := by omega
      obtain ⟨b, off, e1, hb⟩ := HAO.out (by omega)
      subst e1
      have hrg := hd (rangeAt_k (Rd.rangeAt cBV_len HV.out ((p + q) / 2) h3) HC.out)
      have hcon := FCmpB_any wr l[(p + q) / 2] id fb (HC.out.cellS HF.out) (HO.out _ (List.getElem_mem h3))
      have hup : l[(p + q) / 2].1.id < id → _ := fun hx => Mid.up (h := (p + q) / 2) HR.out hmid.out h2 (by simpa using h3) (by simpa using hx)
      have hdn : ¬ l[(p + q) / 2].1.id < id → _ := fun hx => Mid.down (h := (p + q) / 2) HR.out hmid.out h1 h2 (by simpa using h3) (by simpa using hx)
      have HUP := hd hup
      have HDN := hd hdn
      clear hup hdn
      generalize l[(p + q) / 2] = x at *
      by_cases hx : x.1.id < id
      · have HX := hd hx
        have e2 : cmpI x.1.id id = -1 := by unfold cmpI; rw [if_pos hx]
        simp only [e2] at hcon
        clear hx e2
        go_wp2_with (first
          | (refine wpList_load_mid rfl _ _ rfl _ _ rfl (cBV x) _ hrg.out Tryz.underlying34 rfl (by kernel_rfl) ?_)
          | (go_at_call 113; refine hcon.mono ?_; rintro e w2 ⟨rfl, hc2⟩))
        go_roundw
        case rel => exact ⟨(p + q) / 2 + 1, q, by go_num, rfl, by omega, by omega, hd (HUP.out HX.out), HC.out.k hc2⟩
        case measure => simp [intOf]; omega
      · have HX := hd hx
        obtain ⟨z, hz⟩ : ∃ z, z = cmpI x.1.id id := ⟨_, rfl⟩
        have hz2 : ¬ z < 0 := by rw [hz]; unfold cmpI; rw [if_neg hx]; split <;> omega
        simp only [← hz] at hcon
        clear hx hz
        go_wp2_with (first
          | (refine wpList_load_mid rfl _ _ rfl _ _ rfl (cBV x) _ hrg.out Tryz.underlying34 rfl (by kernel_rfl) ?_)
          | (go_at_call 113; refine hcon.mono ?_; rintro e w2 ⟨rfl, hc2⟩))
        go_roundw
        case rel => exact ⟨p, (p + q) / 2, rfl, by go_num, by omega, by omega, hd (HDN.out HX.out), HC.out.k hc2⟩
        case measure => simp [intOf]; omega
    · obtain rfl : p = q := by omega
      by_cases hlt2 : p < l.length
      · obtain ⟨b, off, e1, hb⟩ := HAO.out (by omega)
        subst e1
        have hrg := hd (rangeAt_k (Rd.rangeAt cBV_len HV.out p hlt2) HC.out)
        have hcon := FCmpB_any wr l[p] id fb (HC.out.cellS HF.out) (HO.out _ (List.getElem_mem hlt2))
        have hhit : l[p].1.id = id → _ := fun hx => Mid.hit (i := p) HR.out (by simpa using hlt2) (by simpa using hx)
        have hmiss : l[p].1.id ≠ id → _ := fun hx => Mid.miss hmid.out (by intro _; simpa using hx) HR.out
        have HUP := hd hhit
        have HDN := hd hmiss
        clear hhit hmiss
        generalize l[p] = x at *
        by_cases hx : x.1.id = id
        · have HX := hd (HUP.out hx)
          have e2 : cmpI x.1.id id = 0 := by unfold cmpI; rw [if_neg (by omega), if_neg (by omega)]
          simp only [e2] at hcon
          clear hx e2
          go_wp2_with (first
            | (refine wpList_load_midW rfl _ _ rfl _ _ rfl (cBV x) _ hrg.out Tryz.underlying34 rfl (by kernel_rfl) ?_)
            | (go_at_call 113; refine hcon.mono ?_; rintro e w2 ⟨rfl, hc2⟩))
          rw [HP.out]
          exact ⟨⟨p, by rw [HX.out]; rfl, fun _ => by rw [HX.out]⟩, HC.out.k hc2⟩
        · have HX := hd (HDN.out hx)
          obtain ⟨z, hz⟩ : ∃ z, z = cmpI x.1.id id := ⟨_, rfl⟩
          have hz2 : (z == 0) = false := by rw [hz, beq_eq_false_iff_ne]; unfold cmpI; split <;> (try split) <;> omega
          simp only [← hz] at hcon
          clear hx hz
          go_wp2_with (first
            | (refine wpList_load_midW rfl _ _ rfl _ _ rfl (cBV x) _ hrg.out Tryz.underlying34 rfl (by kernel_rfl) ?_)
            | (go_at_call 113; refine hcon.mono ?_; rintro e w2 ⟨rfl, hc2⟩))
          rw [HP.out]
          exact ⟨⟨p, by rw [HX.out]; rfl, fun h => by rw [HX.out] at h; cases h⟩, HC.out.k hc2⟩
      · have HX := hd (Mid.miss hmid.out (by intro h; simp at h; omega) HR.out)
        go_wp2_with (fail)
        rw [HP.out]
        exact ⟨⟨p, by rw [HX.out]; rfl, fun h => by rw [HX.out] at h; cases h⟩, HC.out⟩
set_option maxHeartbeats 1000000 in
theorem FindB_any (w : World) (v : Value) (l : List BV) (id : Int) (hv : Rd w 11 v l.length (l.flatMap cBV)) (ho : ∀ x ∈ l, (cBV x).toArray.all (·.oneCell') = true) (hl : l.length ≤ 100000000000) (hr : risI (l.map (fun x => x.1.id))) :
    Calls Tryz.prog 70 #[v, .int .i64 id, .func (.func 71) #[] #[]] w fun e w' => e = .returned (.tuple #[.int .i64 ((fndI (l.map (fun x => x.1.id)) id).1 : Int), .bool (fndI (l.map (fun x => x.1.id)) id).2]) ∧ Chg [] w w' := by
  have hc1 := (Chg.refl [] w).alloc (.cells #[.func (.func 71) #[] #[]] 141)
  have hb := (Blk.new w #[.func (.func 71) #[] #[]] 141).cell 0
  have hcon := BinB_any _ v l id w.heap.size (Rd.keep hv hc1 (by simp)) ho hl hr hb
  obtain ⟨av, cv, rfl, -, -⟩ := Rd.form (by decide) hv
  have hno : (fndI (l.map (fun x => x.1.id)) id).2 = false → (fndI (l.map (fun x => x.1.id)) id).1 = 0 := by unfold fndI; split <;> simp
  generalize fndI (l.map (fun x => x.1.id)) id = r at *
  obtain ⟨ri, rb⟩ := r
  simp only at hcon hno ⊢
  clear hv hb ho hr
  go_enter Tryz.func70, Tryz.ntmps70
  cases rb
  · obtain rfl := hno rfl
    clear hno
    go_wp2_with (go_at_call 112; refine hcon.mono ?_; rintro e w2 ⟨⟨k, rfl, -⟩, h2⟩)
    go_ret2
    exact ⟨rfl, hc1.k h2⟩
  · go_wp2_with (go_at_call 112; refine hcon.mono ?_; rintro e w2 ⟨⟨k, rfl, hk⟩, h2⟩; obtain rfl := hk (by trivial))
    go_ret2
    exact ⟨rfl, hc1.k h2⟩
set_option maxHeartbeats 1000000 in
theorem BodyAt_any (w : World) (bv jv kv : Value) (L : List BV) (X : Wld) (id : Int) (hx : WlP w bv jv kv L X) (hl : X.bodies.length ≤ 100000000000) (hr : risI (X.bodies.map (·.id))) :
    Calls Tryz.prog 36 #[vW X bv jv kv, .int .i64 id] w fun e w' => e = .returned (.tuple #[.int .i64 ((fndI (X.bodies.map (·.id)) id).1 : Int), .bool (fndI (X.bodies.map (·.id)) id).2]) ∧ Chg [] w w' := by
  obtain ⟨ab, cb, rfl, -, -⟩ := Rd.form (by decide) hx.b.rd
  obtain ⟨aj, cj, rfl, -, -⟩ := Rd.form (by decide) hx.j
  obtain ⟨ak, ck, rfl, -, -⟩ := Rd.form (by decide) hx.c
  obtain ⟨tk, nb, nj, ⟨gx, gy⟩, bs, js, ks⟩ := X
  have hlb := hx.l
  simp only at hlb
  subst hlb
  have hcon := fun W (h : Chg [] w W) => FindB_any W _ L id (Rd.keep hx.b.rd h (by simp)) (BsS.one hx.b) (by simpa using hl) (by simpa [List.map_map, Function.comp_def] using hr)
  simp only [List.map_map, Function.comp_def] at hcon hr hl ⊢
  unfold vW
  simp only at *
  have hc1 := fun y => (Chg.refl [] w).alloc (.cells #[.int .i64 tk, .int .i64 nb, .int .i64 nj, .int .i64 gx, .int .i64 gy, .slice ab L.length cb, .slice aj js.length cj, .slice ak ks.length ck] y)
  have HX := hd hx
  clear hx hl hr
  go_enter Tryz.func36, Tryz.ntmps36
  go_wp2_with (go_at_call 70; refine (hcon _ (hc1 _)).mono ?_; rintro e w2 ⟨rfl, h2⟩)
  go_ret2
  exact ⟨rfl, (hc1 _).k h2⟩
end Go.Proofs.YtpadflhffiiglaaGreat

/- world.Joint: where a number stands. -/
namespace Go.Proofs.YtpadflhffiiglaaGreat
open Go.RowKit

set_option maxHeartbeats 1000000 in
theorem FIdJ_any (w : World) (x : Jnt) (_ho : (cJt x).toArray.all (·.oneCell') = true) : Calls Tryz.prog 91 #[.agg (cJt x).toArray] w fun e w' => e = .returned (.int .i64 x.id) ∧ Chg [] w w' := by
  obtain ⟨i, a, b, ⟨px, py⟩, ⟨vx, vy⟩, ln⟩ := x
  unfold cJt
  simp only
  go_enter Tryz.func91, Tryz.ntmps91
  go_wp2
  go_ret
  exact ⟨rfl, (Chg.refl [] w).alloc _⟩
set_option maxHeartbeats 1000000 in
theorem FCmpJ_any (w : World) (x : Jnt) (id : Int) (fb : Nat) (hf : w.cell? ⟨fb, 0, none⟩ = some (.func (.func 91) #[] #[])) (ho : (cJt x).toArray.all (·.oneCell') = true) :
    Calls Tryz.prog 134 #[.agg (cJt x).toArray, .int .i64 id, .pointer (some ⟨fb, 0, none⟩)] w fun e w' => e = .returned (.int .i64 (cmpI (x.id) id)) ∧ Chg [] w w' := by
  have hc1 := (Chg.refl [] w).alloc (.cells (cJt x).toArray 67)
  have k1 := Blk.new w (cJt x).toArray 67
  have hf1 := hc1.cellS hf
  have hid := fun W => FIdJ_any W x ho
  have hcm := fun W => Cmp_any (x.id) id W
  clear hf
  go_enter Tryz.func134, Tryz.ntmps134
  go_upto_region 1 with (fail)
  generalize w.alloc (.cells (cJt x).toArray 67) = w1 at *
  go_wp2_with (first
    | (refine wpList_load_row rfl _ _ rfl _ rfl 67 _ (0, 0) _ k1 Tryz.underlying67 rfl (by kernel_rfl) ?_)
    | (go_at_call 91; refine (hid _).mono ?_; rintro e w2 ⟨rfl, h2⟩)
    | (go_at_call 111; refine (hcm _).mono ?_; rintro e w3 ⟨rfl, rfl⟩))
  go_ret
  exact ⟨rfl, hc1.k h2⟩
set_option maxRecDepth 100000 in
set_option maxHeartbeats 4000000 in
theorem BinJ_any (w : World) (v : Value) (l : List Jnt) (id : Int) (fb : Nat) (hv : Rd w 8 v l.length (l.flatMap cJt)) (ho : ∀ x ∈ l, (cJt x).toArray.all (·.oneCell') = true) (hl : l.length ≤ 100000000000) (hr : risI (l.map (fun x => x.id)))
    (hf : w.cell? ⟨fb, 0, none⟩ = some (.func (.func 91) #[] #[])) :
    Calls Tryz.prog 133 #[v, .int .i64 id, .func (.func 134) #[] #[.pointer (some ⟨fb, 0, none⟩)]] w fun e w' =>
      (∃ k : Nat, e = .returned (.tuple #[.int .i64 (k : Int), .bool (fndI (l.map (fun x => x.id)) id).2]) ∧ ((fndI (l.map (fun x => x.id)) id).2 = true → k = (fndI (l.map (fun x => x.id)) id).1)) ∧ Chg [] w w' := by
  obtain ⟨ao, c, rfl, hm, hao⟩ := Rd.form (by decide) hv
  have HV := hd hv
  have HAO := hd hao
  have HO := hd ho
  have HR := hd hr
  have HF := hd hf
  clear hv hao ho hr hf
  obtain ⟨P, hP⟩ : ∃ P : Ending → World → Prop, P = fun e w' => (∃ k : Nat, e = .returned (.tuple #[.int .i64 (k : Int), .bool (fndI (l.map (fun x => x.id)) id).2]) ∧ ((fndI (l.map (fun x => x.id)) id).2 = true → k = (fndI (l.map (fun x => x.id)) id).1)) ∧ Chg [] w w' := ⟨_, rfl⟩
  rw [← hP]
  have HP := hd hP
  clear hP
  go_enter Tryz.func133, Tryz.ntmps133
  go_wp2_with fail
  go_loopw [9, 10] (fun i j wr => ∃ p q : Nat, i = .int .i64 (p : Int) ∧ j = .int .i64 (q : Int) ∧ p ≤ q ∧ q ≤ l.length ∧ Hd (Mid (l.map (fun x => x.id)) id p q) ∧ Chg [] w wr) (fun i j _ => ((intOf j).toNat - (intOf i).toNat))
  case atStart => exact ⟨0, l.length, rfl, rfl, by omega, by omega, hd (by simpa using Mid.start (l.map (fun x => x.id)) id), Chg.refl _ _⟩
  case round =>
    obtain ⟨p, q, rfl, rfl, hpq, hql, hmid, hc⟩ := hrel
    have HC := hd hc
    clear hc
    by_cases hlt : p < q
    · have h1 : p ≤ (p + q) / 2 := by omega
      have h2 : (p + q) / 2 < q := by omega
      have h3 : (p + q) / 2 < l.length := by omega
      obtain ⟨b, off, e1, hb⟩ := HAO.out (by omega)
      subst e1
      have hrg := hd (rangeAt_k (Rd.rangeAt cJt_len HV.out ((p + q) / 2) h3) HC.out)
      have hcon := FCmpJ_any wr l[(p + q) / 2] id fb (HC.out.cellS HF.out) (HO.out _ (List.getElem_mem h3))
      have hup : l[(p + q) / 2].id < id → _ := fun hx => Mid.up (h := (p + q) / 2) HR.out hmid.out h2 (by simpa using h3) (by simpa using hx)
      have hdn : ¬ l[(p + q) / 2].id < id → _ := fun hx => Mid.down (h := (p + q) / 2) HR.out hmid.out h1 h2 (by simpa using h3) (by simpa using hx)
      have HUP := hd hup
      have HDN := hd hdn
      clear hup hdn
      generalize l[(p + q) / 2] = x at *
      by_cases hx : x.id < id
      · have HX := hd hx
        have e2 : cmpI x.id id = -1 := by unfold cmpI; rw [if_pos hx]
        simp only [e2] at hcon
        clear hx e2
        go_wp2_with (first
          | (refine wpList_load_mid rfl _ _ rfl _ _ rfl (cJt x) _ hrg.out Tryz.underlying67 rfl (by kernel_rfl) ?_)
          | (go_at_call 134; refine hcon.mono ?_; rintro e w2 ⟨rfl, hc2⟩))
        go_roundw
        case rel => exact ⟨(p + q) / 2 + 1, q, by go_num, rfl, by omega, by omega, hd (HUP.out HX.out), HC.out.k hc2⟩
        case measure => simp [intOf]; omega
      · have HX := hd hx
        obtain ⟨z, hz⟩ : ∃ z, z = cmpI x.id id := ⟨_, rfl⟩
        have hz2 : ¬ z < 0 := by rw [hz]; unfold cmpI; rw [if_neg hx]; split <;> omega
        simp only [← hz] at hcon
        clear hx hz
        go_wp2_with (first
          | (refine wpList_load_mid rfl _ _ rfl _ _ rfl (cJt x) _ hrg.out Tryz.underlying67 rfl (by kernel_rfl) ?_)
          | (go_at_call 134; refine hcon.mono ?_; rintro e w2 ⟨rfl, hc2⟩))
        go_roundw
        case rel => exact ⟨p, (p + q) / 2, rfl, by go_num, by omega, by omega, hd (HDN.out HX.out), HC.out.k hc2⟩
        case measure => simp [intOf]; omega
    · obtain rfl : p = q := by omega
      by_cases hlt2 : p < l.length
      · obtain ⟨b, off, e1, hb⟩ := HAO.out (by omega)
        subst e1
        have hrg := hd (rangeAt_k (Rd.rangeAt cJt_len HV.out p hlt2) HC.out)
        have hcon := FCmpJ_any wr l[p] id fb (HC.out.cellS HF.out) (HO.out _ (List.getElem_mem hlt2))
        have hhit : l[p].id = id → _ := fun hx => Mid.hit (i := p) HR.out (by simpa using hlt2) (by simpa using hx)
        have hmiss : l[p].id ≠ id → _ := fun hx => Mid.miss hmid.out (by intro _; simpa using hx) HR.out
        have HUP := hd hhit
        have HDN := hd hmiss
        clear hhit hmiss
        generalize l[p] = x at *
        by_cases hx : x.id = id
        · have HX := hd (HUP.out hx)
          have e2 : cmpI x.id id = 0 := by unfold cmpI; rw [if_neg (by omega), if_neg (by omega)]
          simp only [e2] at hcon
          clear hx e2
          go_wp2_with (first
            | (refine wpList_load_midW rfl _ _ rfl _ _ rfl (cJt x) _ hrg.out Tryz.underlying67 rfl (by kernel_rfl) ?_)
            | (go_at_call 134; refine hcon.mono ?_; rintro e w2 ⟨rfl, hc2⟩))
          rw [HP.out]
          exact ⟨⟨p, by rw [HX.out]; rfl, fun _ => by rw [HX.out]⟩, HC.out.k hc2⟩
        · have HX := hd (HDN.out hx)
          obtain ⟨z, hz⟩ : ∃ z, z = cmpI x.id id := ⟨_, rfl⟩
          have hz2 : (z == 0) = false := by rw [hz, beq_eq_false_iff_ne]; unfold cmpI; split <;> (try split) <;> omega
          simp only [← hz] at hcon
          clear hx hz
          go_wp2_with (first
            | (refine wpList_load_midW rfl _ _ rfl _ _ rfl (cJt x) _ hrg.out Tryz.underlying67 rfl (by kernel_rfl) ?_)
            | (go_at_call 134; refine hcon.mono ?_; rintro e w2 ⟨rfl, hc2⟩))
          rw [HP.out]
          exact ⟨⟨p, by rw [HX.out]; rfl, fun h => by rw [HX.out] at h; cases h⟩, HC.out.k hc2⟩
      · have HX := hd (Mid.miss hmid.out (by intro h; simp at h; omega) HR.out)
        go_wp2_with (fail)
        rw [HP.out]
        exact ⟨⟨p, by rw [HX.out]; rfl, fun h => by rw [HX.out] at h; cases h⟩, HC.out⟩
set_option maxHeartbeats 1000000 in
theorem FindJ_any (w : World) (v : Value) (l : List Jnt) (id : Int) (hv : Rd w 8 v l.length (l.flatMap cJt)) (ho : ∀ x ∈ l, (cJt x).toArray.all (·.oneCell') = true) (hl : l.length ≤ 100000000000) (hr : risI (l.map (fun x => x.id))) :
    Calls Tryz.prog 90 #[v, .int .i64 id, .func (.func 91) #[] #[]] w fun e w' => e = .returned (.tuple #[.int .i64 ((fndI (l.map (fun x => x.id)) id).1 : Int), .bool (fndI (l.map (fun x => x.id)) id).2]) ∧ Chg [] w w' := by
  have hc1 := (Chg.refl [] w).alloc (.cells #[.func (.func 91) #[] #[]] 150)
  have hb := (Blk.new w #[.func (.func 91) #[] #[]] 150).cell 0
  have hcon := BinJ_any _ v l id w.heap.size (Rd.keep hv hc1 (by simp)) ho hl hr hb
  obtain ⟨av, cv, rfl, -, -⟩ := Rd.form (by decide) hv
  have hno : (fndI (l.map (fun x => x.id)) id).2 = false → (fndI (l.map (fun x => x.id)) id).1 = 0 := by unfold fndI; split <;> simp
  generalize fndI (l.map (fun x => x.id)) id = r at *
  obtain ⟨ri, rb⟩ := r
  simp only at hcon hno ⊢
  clear hv hb ho hr
  go_enter Tryz.func90, Tryz.ntmps90
  cases rb
  · obtain rfl := hno rfl
    clear hno
    go_wp2_with (go_at_call 133; refine hcon.mono ?_; rintro e w2 ⟨⟨k, rfl, -⟩, h2⟩)
    go_ret2
    exact ⟨rfl, hc1.k h2⟩
  · go_wp2_with (go_at_call 133; refine hcon.mono ?_; rintro e w2 ⟨⟨k, rfl, hk⟩, h2⟩; obtain rfl := hk (by trivial))
    go_ret2
    exact ⟨rfl, hc1.k h2⟩
set_option maxHeartbeats 1000000 in
theorem JointAt_any (w : World) (bv jv kv : Value) (L : List BV) (X : Wld) (id : Int) (hx : WlP w bv jv kv L X) (hl : X.joints.length ≤ 100000000000) (hr : risI (X.joints.map (·.id))) :
    Calls Tryz.prog 61 #[vW X bv jv kv, .int .i64 id] w fun e w' => e = .returned (.tuple #[.int .i64 ((fndI (X.joints.map (·.id)) id).1 : Int), .bool (fndI (X.joints.map (·.id)) id).2]) ∧ Chg [] w w' := by
  obtain ⟨ab, cb, rfl, -, -⟩ := Rd.form (by decide) hx.b.rd
  obtain ⟨aj, cj, rfl, -, -⟩ := Rd.form (by decide) hx.j
  obtain ⟨ak, ck, rfl, -, -⟩ := Rd.form (by decide) hx.c
  obtain ⟨tk, nb, nj, ⟨gx, gy⟩, bs, js, ks⟩ := X
  have hcon := fun W (h : Chg [] w W) => FindJ_any W _ js id (Rd.keep hx.j h (by simp)) (fun x _ => all_oneCell_toArray (cJt_one x)) hl hr
  simp only at hcon hr hl ⊢
  unfold vW
  simp only at *
  have hc1 := fun y => (Chg.refl [] w).alloc (.cells #[.int .i64 tk, .int .i64 nb, .int .i64 nj, .int .i64 gx, .int .i64 gy, .slice ab L.length cb, .slice aj js.length cj, .slice ak ks.length ck] y)
  have HX := hd hx
  clear hx hl hr
  go_enter Tryz.func61, Tryz.ntmps61
  go_wp2_with (go_at_call 90; refine (hcon _ (hc1 _)).mono ?_; rintro e w2 ⟨rfl, h2⟩)
  go_ret2
  exact ⟨rfl, (hc1 _).k h2⟩
end Go.Proofs.YtpadflhffiiglaaGreat

/- What is read without failing is what would be written: plain functions. -/
namespace Go.Proofs.YtpadflhffiiglaaGreat
open Go.RowKit

end Go.Proofs.YtpadflhffiiglaaGreat

/- What the codec reads without failing is what it writes. -/
namespace Go.Proofs.YtpadflhffiiglaaGreat
open Go.RowKit

section
attribute [local irreducible] numR plR shapeR
end
end Go.Proofs.YtpadflhffiiglaaGreat

/- Batches: what is read is what is written: plain laws. -/
namespace Go.Proofs.YtpadflhffiiglaaGreat
open Go.RowKit

end Go.Proofs.YtpadflhffiiglaaGreat

/- A batch of so many pulls, told with whatever count: a plain law. -/
namespace Go.Proofs.YtpadflhffiiglaaGreat
open Go.RowKit

theorem numR_app (n : Nat) (a r : List UInt8) (b : Bool) (h : a.length = n) : numR n (a ++ r, b) = (rdNum a, (r, b)) := by
  unfold numR
  rw [if_neg (by simp; omega)]
  simp only
  rw [List.take_append_of_le_length (by omega), List.drop_append_of_le_length (by omega), List.take_of_length_le (by omega), List.drop_eq_nil_of_le (by omega)]
  rfl
end Go.Proofs.YtpadflhffiiglaaGreat

/- Right orders are read back as they were: a plain law. -/
namespace Go.Proofs.YtpadflhffiiglaaGreat
open Go.RowKit

theorem rd8 (x : Int) (h : I64 x) : rdNum (leB 8 x) = x := by
  rw [rdNum, rdB_leB, show (256 : Int) ^ 8 = 18446744073709551616 from rfl]
  unfold I64 at h
  unfold wrap64
  omega
theorem rd1 (x : Int) (h0 : 0 ≤ x) (h1 : x < 256) : rdNum (leB 1 x) = x := by
  rw [rdNum, rdB_leB, show (256 : Int) ^ 1 = 256 from rfl]
  unfold wrap64
  omega
theorem num8 (x : Int) (h : I64 x) (r : List UInt8) : numR 8 (leB 8 x ++ r, false) = (x, (r, false)) := by rw [numR_app _ _ _ _ (by simp), rd8 x h]
theorem num1 (x : Int) (h0 : 0 ≤ x) (h1 : x < 256) (r : List UInt8) : numR 1 (leB 1 x ++ r, false) = (x, (r, false)) := by rw [numR_app _ _ _ _ (by simp), rd1 x h0 h1]
theorem pl8 (v : V2) (h : IV v) (r : List UInt8) : plR (leB 8 v.1 ++ (leB 8 v.2 ++ r), false) = (v, (r, false)) := by
  unfold plR
  rw [num8 _ h.1]
  simp only
  rw [num8 _ h.2]
theorem ps8 (p : List V2) (h : ∀ x ∈ p, IV x) (r : List UInt8) : psR p.length (leF (fV p) ++ r, false) = (p, (r, false)) := by
  induction p with
  | nil => simp [psR, leF, fV]
  | cons v p ih =>
    have e : leF (fV (v :: p)) ++ r = leB 8 v.1 ++ (leB 8 v.2 ++ (leF (fV p) ++ r)) := by simp [leF, fV]
    rw [e, List.length_cons, psR_go _ _ rfl, pl8 v (h v (by simp))]
    simp only
    rw [ih (fun x hx => h x (by simp [hx]))]
theorem sh8 (s : Shp) (hr : rightS s = true) (hi : I64 s.r) (hp : ∀ x ∈ s.p, IV x) (r : List UInt8) : shapeR (leS s ++ r, false) = (s, (r, false)) := by
  obtain ⟨k, ra, p⟩ := s
  simp only at hi hp
  unfold rightS at hr
  simp only at hr
  by_cases h1 : k = 1
  · subst h1
    rw [if_pos rfl] at hr
    simp only [Bool.and_eq_true, decide_eq_true_eq] at hr
    have hp0 : p = [] := List.length_eq_zero_iff.mp hr.1.1
    subst hp0
    have e : leS ⟨1, ra, []⟩ ++ r = leB 1 1 ++ (leB 8 ra ++ r) := by simp [leS, leF]
    rw [e]
    unfold shapeR
    rw [num1 1 (by omega) (by omega), if_pos rfl]
    simp only
    rw [num8 _ hi]
  · rw [if_neg h1] at hr
    split at hr
    · cases hr
    · rename_i h2
      simp only [not_or] at h2
      obtain ⟨hk, hra, hlo, hhi⟩ := h2
      have hk : k = 2 := by omega
      have hra : ra = 0 := by omega
      subst hk hra
      have e : leS ⟨2, 0, p⟩ ++ r = leB 1 2 ++ (leB 1 (p.length : Int) ++ (leF (fV p) ++ r)) := by simp [leS]
      rw [e]
      unfold shapeR
      rw [num1 2 (by omega) (by omega), if_neg (by simp)]
      simp only
      rw [num1 _ (by omega) (by omega)]
      simp only [Int.toNat_natCast]
      rw [ps8 p hp]
section
attribute [local irreducible] numR plR shapeR
end
end Go.Proofs.YtpadflhffiiglaaGreat

/- Worlds are read as functions; what is laid of a world is read back: a plain law. -/
namespace Go.Proofs.YtpadflhffiiglaaGreat
open Go.RowKit

def bdyR (s : St) : Bdy × St :=
  let i := numR 8 s; let p := plR i.2; let v := plR p.2; let a := numR 8 v.2; let sp := numR 8 a.2; let d := numR 8 sp.2; let sh := shapeR d.2
  (⟨i.1, p.1, v.1, a.1, sp.1, d.1, sh.1⟩, sh.2)
def jntR (s : St) : Jnt × St :=
  let i := numR 8 s; let a := numR 8 i.2; let b := numR 8 a.2; let p := plR b.2; let v := plR p.2; let l := numR 8 v.2
  (⟨i.1, a.1, b.1, p.1, v.1, l.1⟩, l.2)
def cntR (s : St) : Cnt × St :=
  let a := numR 8 s; let b := numR 8 a.2; let k := numR 8 b.2; let n := numR 8 k.2; let t := numR 8 n.2
  (⟨a.1, b.1, k.1, n.1, t.1⟩, t.2)
def sevR {α : Type} (f : St → α × St) : Nat → St → List α × St
  | 0, s => ([], s)
  | n + 1, s => if s.2 = true then ([], s) else ((f s).1 :: (sevR f n (f s).2).1, (sevR f n (f s).2).2)
theorem sevR_go {α : Type} (f : St → α × St) (n : Nat) (s : St) (h : s.2 = false) : sevR f (n + 1) s = ((f s).1 :: (sevR f n (f s).2).1, (sevR f n (f s).2).2) := by simp only [sevR, h, Bool.false_eq_true, if_false]
def worldR (l : List UInt8) : Wld × St :=
  let t := numR 8 (l, false); let nb := numR 8 t.2; let nj := numR 8 nb.2; let g := plR nj.2
  let cb := countR 1024 g.2; let bs := sevR bdyR cb.1.toNat cb.2
  let cj := countR 1024 bs.2; let js := sevR jntR cj.1.toNat cj.2
  let cc := numR 4 js.2; let cs := sevR cntR cc.1.toNat cc.2
  (⟨t.1, nb.1, nj.1, g.1, bs.1, js.1, cs.1⟩, cs.2)
/-- Numbers fit, shapes may be. -/
structure FitB (b : Bdy) : Prop where
  id : I64 b.id
  pos : IV b.pos
  vel : IV b.vel
  angle : I64 b.angle
  spin : I64 b.spin
  density : I64 b.density
  sh : rightS b.shape = true
  sr : I64 b.shape.r
  sp : ∀ x ∈ b.shape.p, IV x
structure FitJ (j : Jnt) : Prop where
  id : I64 j.id
  a : I64 j.a
  b : I64 j.b
  at_ : IV j.at_
  to_ : IV j.to_
  len : I64 j.len
structure FitC (c : Cnt) : Prop where
  a : I64 c.a
  b : I64 c.b
  key : I64 c.key
  n : I64 c.n
  t : I64 c.t
structure FitW (W : Wld) : Prop where
  tick : I64 W.tick
  nb : I64 W.nb
  nj : I64 W.nj
  grav : IV W.grav
  b : ∀ x ∈ W.bodies, FitB x
  j : ∀ x ∈ W.joints, FitJ x
  c : ∀ x ∈ W.contacts, FitC x
  bl : W.bodies.length ≤ 1024
  jl : W.joints.length ≤ 1024
  cl : W.contacts.length < 4294967296
section
attribute [local irreducible] numR plR shapeR
theorem bdyR_fwd (b : Bdy) (h : FitB b) (r : List UInt8) : bdyR (leBd b ++ r, false) = (b, (r, false)) := by
  obtain ⟨i, ⟨px, py⟩, ⟨vx, vy⟩, an, sp, de, sh⟩ := b
  have e : leBd ⟨i, (px, py), (vx, vy), an, sp, de, sh⟩ ++ r = leB 8 i ++ (leB 8 px ++ (leB 8 py ++ (leB 8 vx ++ (leB 8 vy ++ (leB 8 an ++ (leB 8 sp ++ (leB 8 de ++ (leS sh ++ r)))))))) := by simp [leBd, leF, fV]
  rw [e]
  unfold bdyR
  simp only [num8 i h.id, pl8 (px, py) h.pos, pl8 (vx, vy) h.vel, num8 an h.angle, num8 sp h.spin, num8 de h.density, sh8 sh h.sh h.sr h.sp]
theorem jntR_fwd (j : Jnt) (h : FitJ j) (r : List UInt8) : jntR (leJt j ++ r, false) = (j, (r, false)) := by
  obtain ⟨i, a, b, ⟨px, py⟩, ⟨vx, vy⟩, le⟩ := j
  have e : leJt ⟨i, a, b, (px, py), (vx, vy), le⟩ ++ r = leB 8 i ++ (leB 8 a ++ (leB 8 b ++ (leB 8 px ++ (leB 8 py ++ (leB 8 vx ++ (leB 8 vy ++ (leB 8 le ++ r))))))) := by simp [leJt, leF, fV]
  rw [e]
  unfold jntR
  simp only [num8 i h.id, num8 a h.a, num8 b h.b, pl8 (px, py) h.at_, pl8 (vx, vy) h.to_, num8 le h.len]
theorem cntR_fwd (c : Cnt) (h : FitC c) (r : List UInt8) : cntR (leCt c ++ r, false) = (c, (r, false)) := by
  obtain ⟨a, b, k, n, t⟩ := c
  have e : leCt ⟨a, b, k, n, t⟩ ++ r = leB 8 a ++ (leB 8 b ++ (leB 8 k ++ (leB 8 n ++ (leB 8 t ++ r)))) := by simp [leCt, leF]
  rw [e]
  unfold cntR
  simp only [num8 a h.a, num8 b h.b, num8 k h.key, num8 n h.n, num8 t h.t]
theorem sevR_fwd {α : Type} (f : St → α × St) (enc : α → List UInt8) (l : List α) (h : ∀ x ∈ l, ∀ r, f (enc x ++ r, false) = (x, (r, false))) (r : List UInt8) : sevR f l.length (l.flatMap enc ++ r, false) = (l, (r, false)) := by
  induction l with
  | nil => simp [sevR]
  | cons x l ih =>
    have e : f ((x :: l).flatMap enc ++ r, false) = (x, (l.flatMap enc ++ r, false)) := by
      rw [List.flatMap_cons, List.append_assoc]; exact h x (by simp) _
    rw [List.length_cons, sevR_go _ _ _ rfl, e]
    simp only
    rw [ih (fun y hy => h y (by simp [hy]))]
theorem count2 (m : Int) (n : Nat) (hn : (n : Int) ≤ m) (hm : n < 65536) (r : List UInt8) : countR m (leB 2 (n : Int) ++ r, false) = ((n : Int), (r, false)) := by
  have h2 : numR 2 (leB 2 (n : Int) ++ r, false) = ((n : Int), (r, false)) := by
    rw [numR_app _ _ _ _ (by simp), rdNum, rdB_leB, show (256 : Int) ^ 2 = 65536 from rfl, IntWalk.wrap64_in _ (by omega)]
    congr 1
    omega
  unfold countR
  rw [h2, if_neg (by simp only; omega)]
theorem num4 (n : Nat) (hm : n < 4294967296) (r : List UInt8) : numR 4 (leB 4 (n : Int) ++ r, false) = ((n : Int), (r, false)) := by
  rw [numR_app _ _ _ _ (by simp), rdNum, rdB_leB, show (256 : Int) ^ 4 = 4294967296 from rfl, IntWalk.wrap64_in _ (by omega)]
  congr 1
  omega
theorem worldR_fwd (W : Wld) (h : FitW W) (r : List UInt8) : worldR (leW W ++ r) = (W, (r, false)) := by
  obtain ⟨tk, nb, nj, ⟨gx, gy⟩, bs, js, cs⟩ := W
  have e : leW ⟨tk, nb, nj, (gx, gy), bs, js, cs⟩ ++ r = leB 8 tk ++ (leB 8 nb ++ (leB 8 nj ++ (leB 8 gx ++ (leB 8 gy ++ (leB 2 (bs.length : Int) ++ (bs.flatMap leBd ++ (leB 2 (js.length : Int) ++ (js.flatMap leJt ++ (leB 4 (cs.length : Int) ++ (cs.flatMap leCt ++ r)))))))))) := by
    simp [leW, leW3, leW2, leW1, leW0, leF, fV]
  rw [e]
  have hb := h.bl
  have hj := h.jl
  have hc := h.cl
  simp only at hb hj hc
  unfold worldR
  simp only [num8 tk h.tick, num8 nb h.nb, num8 nj h.nj, pl8 (gx, gy) h.grav, count2 1024 bs.length (by omega) (by omega), Int.toNat_natCast, sevR_fwd bdyR leBd bs (fun x hx r => bdyR_fwd x (h.b x hx) r), count2 1024 js.length (by omega) (by omega), sevR_fwd jntR leJt js (fun x hx r => jntR_fwd x (h.j x hx) r), num4 cs.length hc, sevR_fwd cntR leCt cs (fun x hx r => cntR_fwd x (h.c x hx) r)]
end
/-- Worlds that fit have different bytes if they are not the same. -/
theorem leW_inj {X Y : Wld} (hx : FitW X) (hy : FitW Y) (h : leW X = leW Y) : X = Y := by
  have h1 := worldR_fwd X hx []
  have h2 := worldR_fwd Y hy []
  rw [h, h2] at h1
  exact (Prod.mk.inj h1).1.symm
end Go.Proofs.YtpadflhffiiglaaGreat
