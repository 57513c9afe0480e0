/- Words and walks that SF rests on: MapZ. -/
import Derived.Test.YtbiadpkglcdihaaGreatWSF28
import Derived.Lib.SlKeysI
/- A map from ints to ints as a list, in memory, and a range over it. -/
namespace Go.Proofs.YtbiadpkglcdihaaGreat
open Go.RowKit

abbrev Zm := List (Nat × Nat)
def zget (es : Zm) (s : Nat) : Option Nat := (es.find? fun p => p.1 == s).map (·.2)
def zdel (es : Zm) (s : Nat) : Zm := es.filter fun p => !(p.1 == s)
def zput (es : Zm) (s : Nat) (i : Nat) : Zm := zdel es s ++ [(s, i)]

theorem find_zdel_other {es : Zm} {s k : Nat} (h : k ≠ s) : (zdel es s).find? (fun p => p.1 == k) = es.find? (fun p => p.1 == k) := by
  unfold zdel
  induction es with
  | nil => rfl
  | cons p es ih =>
    by_cases hp : p.1 = s
    · have hk : (p.1 == k) = false := by rw [hp]; simpa using fun e => h e.symm
      rw [List.filter_cons_of_neg (by simp [hp]), List.find?_cons_of_neg (by simp [hk]), ih]
    · rw [List.filter_cons_of_pos (by simp [hp])]
      by_cases hk : p.1 = k
      · rw [List.find?_cons_of_pos (by simp [hk]), List.find?_cons_of_pos (by simp [hk])]
      · rw [List.find?_cons_of_neg (by simp [hk]), List.find?_cons_of_neg (by simp [hk]), ih]
theorem zget_del_same (es : Zm) (s : Nat) : zget (zdel es s) s = none := by
  unfold zget zdel
  rw [List.find?_eq_none.2 (fun p hp => by simpa using (List.mem_filter.1 hp).2)]; rfl
theorem zget_del_other {es : Zm} {s k : Nat} (h : k ≠ s) : zget (zdel es s) k = zget es k := by
  unfold zget; rw [find_zdel_other h]
theorem zget_put_same (es : Zm) (s : Nat) (i : Nat) : zget (zput es s i) s = some i := by
  have h := zget_del_same es s
  unfold zget at h ⊢
  unfold zput
  rw [List.find?_append]
  simp only [Option.map_eq_none_iff] at h
  rw [h]; simp
theorem zget_put_other {es : Zm} {s k : Nat} (h : k ≠ s) (i : Nat) : zget (zput es s i) k = zget es k := by
  rw [← zget_del_other (es := es) h]
  unfold zget zput
  rw [List.find?_append]
  have : [(s, i)].find? (fun p => p.1 == k) = none := by simp; exact fun e => h e.symm
  rw [this]; simp
theorem zdel_keys (es : Zm) (s : Nat) : ((zdel es s).map (·.1)) = (es.map (·.1)).filter fun k => !(k == s) := by
  unfold zdel; rw [List.filter_map]; rfl
theorem zodup_del {es : Zm} (h : (es.map (·.1)).Nodup) (s : Nat) : ((zdel es s).map (·.1)).Nodup := by rw [zdel_keys]; exact h.filter _
theorem zodup_put {es : Zm} (h : (es.map (·.1)).Nodup) (s : Nat) (i : Nat) : ((zput es s i).map (·.1)).Nodup := by
  unfold zput
  rw [List.map_append, List.nodup_append]
  refine ⟨zodup_del h s, by simp, ?_⟩
  intro a ha b hb
  rw [zdel_keys] at ha
  have h1 := (List.mem_filter.1 ha).2
  simp at hb h1
  rw [hb]; exact h1
theorem zget_some_mem {es : Zm} {s : Nat} {i : Nat} (h : zget es s = some i) : (s, i) ∈ es := by
  unfold zget at h
  obtain ⟨p, hp, rfl⟩ := Option.map_eq_some_iff.1 h
  have h1 := List.mem_of_find?_eq_some hp
  have h2 := List.find?_some hp
  simp at h2
  rw [← h2]; exact h1
theorem mem_zget {es : Zm} (hn : (es.map (·.1)).Nodup) {s : Nat} {i : Nat} (h : (s, i) ∈ es) : zget es s = some i := by
  induction es with
  | nil => cases h
  | cons p es ih =>
    unfold zget
    rw [List.map_cons, List.nodup_cons] at hn
    rcases List.mem_cons.1 h with rfl | h'
    · rw [List.find?_cons_of_pos (by simp)]; rfl
    · have hne : p.1 ≠ s := fun e => hn.1 (e ▸ List.mem_map.2 ⟨(s, i), h', rfl⟩)
      rw [List.find?_cons_of_neg (by simpa using hne)]
      exact ih hn.2 h'
theorem length_zdel {es : Zm} (hn : (es.map (·.1)).Nodup) (s : Nat) : (zdel es s).length + (if (zget es s).isSome then 1 else 0) = es.length := by
  induction es with
  | nil => simp [zdel, zget]
  | cons p es ih =>
    rw [List.map_cons, List.nodup_cons] at hn
    have ih := ih hn.2
    by_cases hp : p.1 = s
    · have hno : zget es s = none := by
        rcases h : zget es s with _ | i
        · rfl
        · exact absurd (List.mem_map.2 ⟨(s, i), zget_some_mem h, rfl⟩) (hp ▸ hn.1)
      have h1 : zdel (p :: es) s = zdel es s := by unfold zdel; rw [List.filter_cons_of_neg (by simp [hp])]
      have h2 : zget (p :: es) s = some p.2 := by unfold zget; rw [List.find?_cons_of_pos (by simp [hp])]; rfl
      rw [h1, h2]
      rw [hno] at ih
      simp at ih ⊢
      exact ih
    · have h1 : zdel (p :: es) s = p :: zdel es s := by unfold zdel; rw [List.filter_cons_of_pos (by simp [hp])]
      have h2 : zget (p :: es) s = zget es s := by unfold zget; rw [List.find?_cons_of_neg (by simpa using hp)]
      rw [h1, h2]
      simp only [List.length_cons]
      omega

/-- What the map's datum says, in these words. -/
structure ReadsZ (D : DataW Unit) (es : Zm) : Prop where
  nodup : (es.map (·.1)).Nodup
  at_ : ∀ (k : Nat) z, D.atKey (.int .i64 (k : Int)) z = ((zget es k).map fun i => DataW.lit (.int .i64 (i : Int))).getD z
  has : ∀ k : Nat, Maps.has D (.int .i64 (k : Int)) = (zget es k).isSome
  size : Maps.size D = es.length
  tidy : Maps.Tidy D
  wf : ∀ p ∈ es, p.2 ≤ 4611686018427387904
  pos : ∀ x : Int, Maps.has D (.int .i64 x) = true → 0 ≤ x
theorem ReadsZ.empty : ReadsZ (.map []) [] := ⟨by simp, fun _ _ => rfl, fun _ => rfl, rfl, Maps.tidy_empty, by simp, fun x h => by cases h⟩
theorem ReadsZ.put {D : DataW Unit} {es : Zm} (h : ReadsZ D es) (s : Nat) (i : Nat) (hs0 : s ≤ 4611686018427387904) (hi : i ≤ 4611686018427387904) : ReadsZ (D.put (.int .i64 (s : Int)) (.lit (.int .i64 (i : Int)))) (zput es s i) := by
  have hk := keyNat s hs0
  refine ⟨zodup_put h.nodup s i, fun k z => ?_, fun k => ?_, ?_, h.tidy.put hk _, ?_, fun x hx => ?_⟩
  · by_cases hks : k = s
    · subst hks; rw [Maps.atKey_put_same h.tidy.isMap hk, zget_put_same]; rfl
    · rw [Maps.atKey_put_other (nat_ne hks), zget_put_other hks, h.at_]
  · by_cases hks : k = s
    · subst hks; rw [Maps.has_put_same h.tidy.isMap hk, zget_put_same]; rfl
    · rw [Maps.has_put_other (nat_ne hks), zget_put_other hks, h.has]
  · rw [Maps.size_put h.tidy, h.has, h.size]
    have := length_zdel h.nodup s
    unfold zput
    rw [List.length_append]
    cases hs : (zget es s).isSome <;> rw [hs] at this <;> simp at this ⊢ <;> omega
  · intro p hp
    unfold zput at hp
    rcases List.mem_append.1 hp with hp | hp
    · exact h.wf p (List.mem_filter.1 hp).1
    · obtain rfl : p = (s, i) := by simpa using hp
      exact hi
  · by_cases hks : x = (s : Int)
    · omega
    · rw [Maps.has_put_other (int_ne hks)] at hx; exact h.pos x hx
def MapZt (w : World) (b : Nat) (es : Zm) : Prop := ∃ D : DataW Unit, w.ownsMap Tryz.prog 3 (plainElem Tryz.prog 3) b es.length D ∧ ReadsZ D es
theorem MapZt.of {w : World} {b n : Nat} {es : Zm} {D : DataW Unit} (h : w.ownsMap Tryz.prog 3 (plainElem Tryz.prog 3) b n D) (hr : ReadsZ D es) : MapZt w b es := by
  refine ⟨D, ?_, hr⟩
  have hsz := hr.size
  obtain ⟨xs, clock, hb, F, hs, hD⟩ := h
  refine ⟨xs, clock, hb, F, ?_, hD⟩
  rw [hD, Maps.size_eq, length_read] at hsz
  omega
theorem MapZt.nodup {w : World} {b : Nat} {es : Zm} (h : MapZt w b es) : (es.map (·.1)).Nodup := let ⟨_, _, hr⟩ := h; hr.nodup
theorem MapZt.lt {w : World} {b : Nat} {es : Zm} (h : MapZt w b es) : b < w.heap.size := let ⟨_, h1, _⟩ := h; h1.lt
theorem MapZt.block {w w' : World} {b : Nat} {es : Zm} (h : MapZt w b es) (hc : w'.heap[b]? = w.heap[b]?) : MapZt w' b es := by
  obtain ⟨D, ⟨xs, clock, hb, r⟩, hr⟩ := h
  exact ⟨D, ⟨xs, clock, hc.trans hb, r⟩, hr⟩
theorem MapZt.chg {S : List Nat} {w w' : World} {b : Nat} {es : Zm} (h : MapZt w b es) (hc : Chg S w w') (hn : b ∉ S) : MapZt w' b es := h.block (hc.block b h.lt hn)
theorem MapZt.k {w w' : World} {b : Nat} {es : Zm} (h : MapZt w b es) (hc : Chg [] w w') : MapZt w' b es := h.chg hc (by simp)
theorem MapZt.set {w : World} {b : Nat} {es : Zm} (h : MapZt w b es) (p : Addr) (u : Value) (hp : b ≠ p.block) : MapZt (w.setCell p u) b es := by
  obtain ⟨D, h1, hr⟩ := h
  exact ⟨D, h1.setCell hp u, hr⟩
theorem MapZt.alloc {w : World} {b : Nat} {es : Zm} (h : MapZt w b es) (o : Obj) : MapZt (w.alloc o) b es := h.k ((Chg.refl _ _).alloc o)
theorem MapZt.grown {w w' : World} {row : Option Nat} {b : Nat} {es : Zm} (h : MapZt w b es) (hg : w.grownBy w' row) (hn : some b ≠ row) : MapZt w' b es := h.block (hg.block b h.lt hn)
theorem MapZt.new (w : World) : MapZt (w.alloc (.map #[] 0)) w.heap.size [] := ⟨.map [], World.ownsMap_made w _ _ _, ReadsZ.empty⟩
theorem MapZt.look {w : World} {b : Nat} {es : Zm} (h : MapZt w b es) (k : Nat) (hk : k ≤ 4611686018427387904) :
    (Instr.lookup 62 (.map (some b)) (.int .i64 (k : Int)) false).run Tryz.prog w = .ok (.int .i64 (((zget es k).getD 0 : Nat) : Int)) w := by
  obtain ⟨D, hown, hr⟩ := h
  obtain ⟨c, hrun, hc, -⟩ := hown.lookup_int intKeyed undMapII undInt (zeroInt w) (keyInt (wfNat hk))
  rw [hr.at_] at hc
  rw [hrun]
  rcases hn : zget es k with _ | i
  · rw [hn] at hc; simp at hc; simp [← hc]
  · rw [hn] at hc; simp at hc; simp [← hc]
theorem wpPutZ {w : World} {ops : Array Oper} {rest : List Oper} {o : Oper} {a : Act} {Q : Exit → Act → World → Prop} (hg : o.guard = none) (hdst : o.dst = none) (m x v : Operand) (hop : o.op = Op.mapUpdate 62 m x v)
    (b : Nat) (es : Zm) (s i : Nat) (hm : a.eval m = .map (some b)) (hx : a.eval x = .int .i64 (s : Int)) (hv : a.eval v = .int .i64 (i : Int)) (h : MapZt w b es) (hs : s ≤ 4611686018427387904) (hi : i ≤ 4611686018427387904) (hn : es.length ≤ 10000000000000)
    (hK : ∀ w', MapZt w' b (zput es s i) → w.grownBy w' (some b) → wpList Tryz.prog ops Q rest a w') : wpList Tryz.prog ops Q (o :: rest) a w := by
  obtain ⟨D, hown, hr⟩ := h
  refine wpList_mapUpdate_own w hg m x v _ hop 3 3 intKeyed undMapII _ b _ D hm hown (by unfold maxLen; omega) _ _ _ hx hv (keyInt (wfNat hs)) (.lit (.int .i64 (i : Int))) [] (plainElem_int undInt (wfNat hi)) fun w' h1 h2 => ?_
  have e : a.put o.dst undef = a := by rw [hdst]; rfl
  rw [e]
  exact hK w' (MapZt.of h1 (hr.put s i hs hi)) h2
/-- The range at r over the map at b, with 'rest' still to come. -/
def MapZRange (w : World) (b r : Nat) (es rest : Zm) : Prop :=
  ∃ (D : DataW Unit) (left : Lit → Bool) (cnt : Nat), w.ranges Tryz.prog 3 (plainElem Tryz.prog 3) b r es.length D left cnt ∧ ReadsZ D es ∧ (rest.map (·.1)).Nodup ∧ (∀ p ∈ rest, p ∈ es) ∧ (∀ k : Nat, left (.int .i64 (k : Int)) = (zget rest k).isSome) ∧ ∀ x : Int, left (.int .i64 x) = true → 0 ≤ x
theorem MapZRange.map {w : World} {b r : Nat} {es rest : Zm} (h : MapZRange w b r es rest) : MapZt w b es := by
  obtain ⟨D, left, cnt, h1, h2, _⟩ := h
  exact ⟨D, h1.owns, h2⟩
theorem MapZRange.lt {w : World} {b r : Nat} {es rest : Zm} (h : MapZRange w b r es rest) : r < w.heap.size := by
  obtain ⟨D, left, cnt, h1, h2, _⟩ := h
  exact h1.lt
theorem MapZRange.sub {w : World} {b r : Nat} {es rest : Zm} (h : MapZRange w b r es rest) : ∀ p ∈ rest, p ∈ es := let ⟨_, _, _, _, _, _, h, _, _⟩ := h; h
theorem MapZRange.nodup {w : World} {b r : Nat} {es rest : Zm} (h : MapZRange w b r es rest) : (rest.map (·.1)).Nodup := let ⟨_, _, _, _, _, h, _, _, _⟩ := h; h
theorem sameKey_nat (a b : Nat) : (Lit.int .i64 (a : Int)).sameKey (.int .i64 (b : Int)) = (a == b) := by
  by_cases h : a = b
  · subst h
    simp [Lit.sameKey]
  · rw [Maps.sameKey_ne (nat_ne h)]; simp; exact h
theorem zget_zdel_some (es : Zm) (s k : Nat) : (zget (zdel es s) k).isSome = ((zget es k).isSome && !(k == s)) := by
  by_cases h : k = s
  · subst h; rw [zget_del_same]; simp
  · rw [zget_del_other h]; simp [h]
theorem wpRangeZ {w : World} {ops : Array Oper} {rest : List Oper} {o : Oper} {a : Act} {Q : Exit → Act → World → Prop} (hg : o.guard = none) (m : Operand) (hop : o.op = Op.range 62 m)
    (b : Nat) (es : Zm) (hm : a.eval m = .map (some b)) (h : MapZt w b es)
    (hK : ∀ w', MapZRange w' b w.heap.size es es → Chg [] w w' → wpList Tryz.prog ops Q rest (a.put o.dst (.pointer (some ⟨w.heap.size, 0, none⟩))) w') : wpList Tryz.prog ops Q (o :: rest) a w := by
  obtain ⟨D, hown, hr⟩ := h
  refine wpList_range_own w hg m _ hop 3 3 intKeyed undMapII _ b _ D hm hown fun w' h1 h2 _ => ?_
  exact hK w' ⟨D, _, _, h1, hr, hr.nodup, fun _ hp => hp, fun k => hr.has k, hr.pos⟩ ((Chg.refl [] w).grown h2 (by simp))
theorem wpNextZ {w : World} {ops : Array Oper} {rest : List Oper} {o : Oper} {a : Act} {Q : Exit → Act → World → Prop} (hg : o.guard = none) (it : Operand) (hop : o.op = Op.next it false)
    (b r : Nat) (es left : Zm) (hit : a.eval it = .pointer (some ⟨r, 0, none⟩)) (h : MapZRange w b r es left)
    (hDone : left = [] → wpList Tryz.prog ops Q rest (a.put o.dst (.tuple #[.bool false])) w)
    (hMore : ∀ (k : Nat) (i : Nat) (w' : World), (k, i) ∈ left → MapZRange w' b r es (zdel left k) → Chg [r] w w' → w'.rangeLeft b r < w.rangeLeft b r →
      (Instr.entry (.pointer (some ⟨r, 0, none⟩))).run Tryz.prog w' = .ok (.tuple #[.int .i64 (k : Int), .int .i64 (i : Int)]) w' → wpList Tryz.prog ops Q rest (a.put o.dst (.tuple #[.bool true, .int .i64 (k : Int), .int .i64 (i : Int)])) w') :
    wpList Tryz.prog ops Q (o :: rest) a w := by
  obtain ⟨D, lf, cnt, hrg, hr, hnd, hsub, hleft, hpos⟩ := h
  refine wpList_next_ranges w hg it hop 3 intKeyed (plainElem Tryz.prog 3) (fun x : Int => Value.int .i64 x) (fun c : Int => Value.int .i64 c)
    (fun key kl hk => by obtain ⟨x, ex, _, _⟩ := Maps.keyOf_i64 undInt hk; exact ⟨x, ex⟩) (fun v y hv => by obtain ⟨c, rfl, _⟩ := plainElem_int_inv undInt hv; exact ⟨c, rfl⟩)
    b r _ D lf cnt hit hrg (fun _ hl => hDone ?_) (fun x c kl y w' cnt' hkey hlk hv hat hrg' hlt hgr hsz hen => ?_)
  · rcases left with _ | ⟨p, l⟩
    · rfl
    · exfalso
      have := hleft p.1
      rw [hl] at this
      have h2 : zget (p :: l) p.1 = some p.2 := by unfold zget; rw [List.find?_cons_of_pos (by simp)]; rfl
      rw [h2] at this
      simp at this
  · obtain ⟨x', ex, rfl, _⟩ := Maps.keyOf_i64 undInt hkey
    obtain rfl : x = x' := by injection ex
    obtain ⟨c', ec, rfl, hwc⟩ := plainElem_int_inv undInt hv
    cases ec
    have hx0 := hpos x hlk
    obtain ⟨k, rfl⟩ : ∃ k : Nat, x = (k : Int) := ⟨x.toNat, by omega⟩
    have hsome := hleft k
    rw [hlk] at hsome
    obtain ⟨i, hi⟩ := Option.isSome_iff_exists.1 hsome.symm
    have hmem := zget_some_mem hi
    have hes : zget es k = some i := mem_zget hr.nodup (hsub _ hmem)
    have hci : c = (i : Int) := by
      have := hat .nil
      rw [hr.at_, hes] at this
      simp at this
      exact this.symm
    subst hci
    refine hMore k i w' hmem ⟨D, _, cnt', hrg', hr, zodup_del hnd k, fun p hp => hsub p (List.mem_filter.1 hp).1, fun k' => ?_, fun y hy => ?_⟩ ((Chg.refl [r] w).grown hgr (by simp)) ?_ hen
    · rw [hleft, zget_zdel_some, sameKey_nat]
    · exact hpos y (by simp at hy; exact hy.1)
    · rw [hrg'.left_eq, hrg.left_eq]; exact hlt
end Go.Proofs.YtbiadpkglcdihaaGreat
