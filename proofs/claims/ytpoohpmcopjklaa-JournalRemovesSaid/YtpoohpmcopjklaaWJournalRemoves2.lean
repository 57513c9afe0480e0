/- Words and walks that JournalRemoves rests on, part 2. -/
import Derived.Test.YtpoohpmcopjklaaWJournalRemoves1
import Derived.Deep.Cut
import Derived.Shelf.SlMaps.Clone
import Derived.Lib.SliceRun
/- A range over such a map. -/
namespace Go.Proofs.Ytpoohpmcopjklaa
open Go.RowKit

/-- The range at r over the map at b, with 'rest' still to come. -/
def MapRange (w : World) (b r : Nat) (es rest : Nm) : Prop :=
  ∃ (D : DataW Unit) (left : Lit → Bool) (cnt : Nat), w.ranges Try.prog 9 (plainElem Try.prog 3) b r es.length D left cnt ∧ ReadsN D es ∧ (rest.map (·.1)).Nodup ∧ (∀ p ∈ rest, p ∈ es) ∧ ∀ k, left (.string k) = (nget rest k).isSome
theorem MapRange.map {w : World} {b r : Nat} {es rest : Nm} (h : MapRange w b r es rest) : MapAt w b es := by
  obtain ⟨D, left, cnt, h1, h2, _⟩ := h
  exact ⟨D, h1.owns, h2⟩
theorem MapRange.lt {w : World} {b r : Nat} {es rest : Nm} (h : MapRange w b r es rest) : r < w.heap.size := by
  obtain ⟨D, left, cnt, h1, h2, _⟩ := h
  exact h1.lt
theorem MapRange.sub {w : World} {b r : Nat} {es rest : Nm} (h : MapRange w b r es rest) : ∀ p ∈ rest, p ∈ es := let ⟨_, _, _, _, _, _, h, _⟩ := h; h
theorem MapRange.nodup {w : World} {b r : Nat} {es rest : Nm} (h : MapRange w b r es rest) : (rest.map (·.1)).Nodup := let ⟨_, _, _, _, _, h, _, _⟩ := h; h
theorem sameKey_str (a b : List UInt8) : (Lit.string a).sameKey (.string b) = (a == b) := by
  by_cases h : a = b
  · subst h
    have := Maps.has_put_same (H := Unit) (D := .map []) Maps.isMap_empty (k := .string a) trivial (.lit (.bool true))
    have h2 : Maps.has ((DataW.map ([] : List (Lit × DataW Unit))).put (.string a) (.lit (.bool true))) (.string a) = (Lit.string a).sameKey (.string a) := by
      show ([(Lit.string a, DataW.lit (.bool true))] : List (Lit × DataW Unit)).any (fun p => p.1.sameKey (.string a)) = _
      simp
    rw [← h2, this]; simp
  · rw [Maps.sameKey_ne (str_ne h)]; simp; exact h
theorem nget_ndel_some (es : Nm) (s k : List UInt8) : (nget (ndel es s) k).isSome = ((nget es k).isSome && !(k == s)) := by
  by_cases h : k = s
  · subst h; rw [nget_del_same]; simp
  · rw [nget_del_other h]; simp [h]
theorem strB_ofData (x : ByteArray) : strB x.data.toList = x := by simp [strB]

theorem wpRangeM {w : World} {ops : Array Oper} {rest : List Oper} {o : Oper} {a : Act} {Q : Exit → Act → World → Prop} (hg : o.guard = none) (m : Operand) (hop : o.op = Op.range 81 m)
    (b : Nat) (es : Nm) (hm : a.eval m = .map (some b)) (h : MapAt w b es)
    (hK : ∀ w', MapRange w' b w.heap.size es es → Chg [] w w' → wpList Try.prog ops Q rest (a.put o.dst (.pointer (some ⟨w.heap.size, 0, none⟩))) w') : wpList Try.prog ops Q (o :: rest) a w := by
  obtain ⟨D, hown, hr⟩ := h
  refine wpList_range_own w hg m _ hop 9 3 strKeyed undMapN _ b _ D hm hown fun w' h1 h2 _ => ?_
  exact hK w' ⟨D, _, _, h1, hr, hr.nodup, fun _ hp => hp, fun k => hr.has k⟩ ((Chg.refl [] w).grown h2 (by simp))
theorem wpNextM {w : World} {ops : Array Oper} {rest : List Oper} {o : Oper} {a : Act} {Q : Exit → Act → World → Prop} (hg : o.guard = none) (it : Operand) (hop : o.op = Op.next it false)
    (b r : Nat) (es left : Nm) (hit : a.eval it = .pointer (some ⟨r, 0, none⟩)) (h : MapRange w b r es left)
    (hDone : left = [] → wpList Try.prog ops Q rest (a.put o.dst (.tuple #[.bool false])) w)
    (hMore : ∀ (k : List UInt8) (i : Nat) (w' : World), (k, i) ∈ left → MapRange w' b r es (ndel left k) → Chg [r] w w' → w'.rangeLeft b r < w.rangeLeft b r →
      (Instr.entry (.pointer (some ⟨r, 0, none⟩))).run Try.prog w' = .ok (.tuple #[.string (strB k), .int .i64 (i : Int)]) w' → k.length ≤ 9223372036854775807 → wpList Try.prog ops Q rest (a.put o.dst (.tuple #[.bool true, .string (strB k), .int .i64 (i : Int)])) w') :
    wpList Try.prog ops Q (o :: rest) a w := by
  obtain ⟨D, lf, cnt, hrg, hr, hnd, hsub, hleft⟩ := h
  refine wpList_next_ranges w hg it hop 9 strKeyed (plainElem Try.prog 3) (fun s : ByteArray => Value.string s) (fun c : Int => Value.int .i64 c)
    (fun key kl hk => by obtain ⟨s, rfl, _, _⟩ := WideMaps.string_of_keyOf undString hk; exact ⟨s, rfl⟩) (fun v y hv => by obtain ⟨c, rfl, _⟩ := plainElem_int_inv undInt hv; exact ⟨c, rfl⟩)
    b r _ D lf cnt hit hrg (fun _ hl => hDone ?_) (fun x c kl y w' cnt' hkey hlk hv hat hrg' hlt hgr hsz hen => ?_)
  · rcases left with _ | ⟨p, l⟩
    · rfl
    · exfalso
      have := hleft p.1
      rw [hl] at this
      have h2 : nget (p :: l) p.1 = some p.2 := by unfold nget; rw [List.find?_cons_of_pos (by simp)]; rfl
      rw [h2] at this
      simp at this
  · obtain ⟨s, es', rfl, hsl⟩ := WideMaps.string_of_keyOf undString hkey
    cases es'
    obtain ⟨c', ec, rfl, hwc⟩ := plainElem_int_inv undInt hv
    cases ec
    obtain ⟨k, hk⟩ : ∃ k, x = strB k := ⟨x.data.toList, (strB_ofData x).symm⟩
    subst hk
    rw [strB_list] at hlk hat hrg' 
    have hsome := hleft k
    rw [hlk] at hsome
    obtain ⟨i, hi⟩ := Option.isSome_iff_exists.1 hsome.symm
    have hmem := nget_some_mem hi
    have hes : nget es k = some i := mem_nget hr.nodup (hsub _ hmem)
    have hci : c = (i : Int) := by
      have := hat .nil
      rw [hr.at_, hes] at this
      simp at this
      exact this.symm
    subst hci
    refine hMore k i w' hmem ⟨D, _, cnt', hrg', hr, nodup_del hnd k, fun p hp => hsub p (List.mem_filter.1 hp).1, fun k' => ?_⟩ ((Chg.refl [r] w).grown hgr (by simp)) ?_ hen ?_
    · rw [hleft, nget_ndel_some, sameKey_str]
    · rw [hrg'.left_eq, hrg.left_eq]; exact hlt
    · rw [strB_size] at hsl; unfold maxLen at hsl; omega
end Go.Proofs.Ytpoohpmcopjklaa

/- Disk.Size. -/
namespace Go.Proofs.Ytpoohpmcopjklaa
open Go.RowKit

def lenF (d : Dsk) (p : List UInt8 × Nat) : Nat := (d.files.getD p.2 ([], 0)).1.length
def sumF (d : Dsk) (es : Nm) : Nat := (es.map (lenF d)).sum
theorem sizeD_eq (d : Dsk) : sizeD d = sumF d d.names := rfl
theorem sumF_ndel (d : Dsk) : ∀ {es : Nm} {k : List UInt8} {i : Nat}, (es.map (·.1)).Nodup → (k, i) ∈ es → sumF d es = sumF d (ndel es k) + lenF d (k, i)
  | [], _, _, _, h => by cases h
  | p :: es, k, i, hn, h => by
    rw [List.map_cons, List.nodup_cons] at hn
    rcases List.mem_cons.1 h with rfl | h'
    · have h1 : ndel ((k, i) :: es) k = ndel es k := by unfold ndel; rw [List.filter_cons_of_neg (by simp)]
      have h2 : ndel es k = es := by
        unfold ndel
        rw [List.filter_eq_self]
        intro q hq
        have : q.1 ≠ k := fun e => hn.1 (e ▸ List.mem_map.2 ⟨q, hq, rfl⟩)
        simpa using this
      rw [h1, h2]
      simp [sumF]; omega
    · have hne : p.1 ≠ k := fun e => hn.1 (e ▸ List.mem_map.2 ⟨(k, i), h', rfl⟩)
      have h1 : ndel (p :: es) k = p :: ndel es k := by unfold ndel; rw [List.filter_cons_of_pos (by simpa using hne)]
      have ih := sumF_ndel d (es := es) hn.2 h'
      rw [h1]
      simp only [sumF, List.map_cons, List.sum_cons] at ih ⊢
      omega
theorem lenF_le {d : Dsk} (h : GoodD d) (p : List UInt8 × Nat) : lenF d p ≤ 4294967296 := by
  unfold lenF
  by_cases hp : p.2 < d.files.length
  · rw [List.getD_eq_getElem?_getD, List.getElem?_eq_getElem hp]
    exact (h.files _ (List.getElem_mem hp)).2.2
  · rw [List.getD_eq_getElem?_getD, List.getElem?_eq_none (by omega)]; simp
theorem sumF_le {d : Dsk} (h : GoodD d) (es : Nm) : sumF d es ≤ es.length * 4294967296 := by
  induction es with
  | nil => simp [sumF]
  | cons p es ih =>
    have := lenF_le h p
    simp only [sumF, List.map_cons, List.sum_cons, List.length_cons] at ih ⊢
    omega

variable {w : World} {fp : List Nat} {b : Nat} {fv cv : Value} {nb sb : Nat} {hs : List HF} {d : Dsk}

theorem DkP.slice {w : World} (h : DkP w fp b fv cv nb sb hs d) (hp : 0 < hs.length) : ∃ g c, fv = .slice (some ⟨g, 0, none⟩) hs.length c := by
  rcases h.files.2 with ⟨rfl, hz⟩ | ⟨g, cap, cur, rfl, _⟩
  · omega
  · exact ⟨g, cap, rfl⟩
theorem OwB.form {w : World} {base : Nat} {v : Value} {l : List UInt8} (h : OwB w base v l) : ∃ ao c, v = .slice ao l.length c := by
  rcases h.2 with ⟨rfl, hz⟩ | ⟨g, cap, cur, rfl, _⟩
  · exact ⟨none, 0, by rw [hz]⟩
  · exact ⟨_, cap, rfl⟩
theorem DkP.file {w : World} {g c : Nat} (h : DkP w fp b (.slice (some ⟨g, 0, none⟩) hs.length c) cv nb sb hs d) {i : Nat} (hi : i < hs.length) :
    ∃ ao c', hs[i].1 = .slice ao hs[i].2.1.length c' ∧ w.cell? ⟨g, i * 2, none⟩ = some (.slice ao hs[i].2.1.length c') ∧ w.cell? ⟨g, i * 2 + 1, none⟩ = some (.int .i64 (hs[i].2.2 : Int)) ∧ d.files[i]? = some hs[i].2 := by
  obtain ⟨ao, c', e⟩ := (h.bytes _ (List.getElem_mem hi)).form
  have hg := fileCells_get hs i hi
  refine ⟨ao, c', e, ?_, ?_, ?_⟩
  · rw [World.ownsRow.cellAt h.files _ (by omega), hg.1, e]
  · rw [World.ownsRow.cellAt h.files _ (by omega), hg.2]
  · rw [← h.same, List.getElem?_map, List.getElem?_eq_getElem hi]; rfl

set_option maxHeartbeats 1000000 in
theorem Size_any (h : DkP w fp b fv cv nb sb hs d) : Calls Try.prog 35 #[.pointer (some ⟨b, 0, none⟩)] w fun e w' => e = .returned (.int .i64 (sizeD d : Int)) ∧ Chg [] w w' := by
  have hg := h.good
  have q1 := h.box.cell 1
  have q2 := h.box.cell 2
  simp [boxCells] at q1 q2
  have hm := h.names
  have Q1 := hd q1
  have HM := hd hm
  have hbig : sumF d d.names ≤ 4611686018427387904 := by
    have h1 := sumF_le hg d.names
    have h2 := hg.nnames
    have h3 := hg.ops
    omega
  obtain ⟨T, hT⟩ : ∃ T, sizeD d = T := ⟨_, rfl⟩
  rw [hT]
  rw [sizeD_eq] at hT
  rw [hT] at hbig
  have HT := hd hT
  have H := hd h
  clear hT h q1
  go_enter Try.func35, Try.ntmps35
  go_wp2_with (at_range; refine wpRangeM rfl _ rfl nb _ rfl hm ?_; intro w1 hr1 hc1)
  have hlt1 := hr1.lt
  clear hm q2
  go_frame
  go_loopw [3, 5] (fun n _ wr => ∃ (t : Nat) (rest : Nm), n = .int .i64 (t : Int) ∧ t + sumF d rest = T ∧ MapRange wr nb w.heap.size d.names rest ∧ Chg [] w wr)
    (fun _ _ wr => wr.rangeLeft nb w.heap.size)
  case atStart => exact ⟨0, d.names, rfl, by rw [HT.out]; simp, hr1, hc1⟩
  case round =>
    obtain ⟨t, rest, rfl, ht, hr, hc⟩ := hrel
    have Ht := hd ht
    have h0 := H.out.k hc
    have q1 := hc.cellS Q1.out
    clear ht
    go_wp2_with (first
      | (at_next; refine wpNextM rfl _ rfl nb w.heap.size d.names rest rfl hr ?_ ?_)
      | fail)
    · rintro rfl
      have hTt : T = t := by have := Ht.out; simp [sumF] at this; omega
      subst hTt
      go_wp2_with fail
      go_ret
      exact ⟨rfl, hc⟩
    · intro k i w2 hmem hr2 hc2 hlt hen _
      have hcw : Chg [] w w2 := hc.trans hc2 (by simp)
      have hes := hr.sub _ hmem
      have hi : i < hs.length := by rw [H.out.len]; exact H.out.good.named _ hes
      have hi' : (i : Int) < (hs.length : Int) := by omega
      obtain ⟨g, c, rfl⟩ := H.out.slice (by omega)
      obtain ⟨ao, c', -, q3, -, q5⟩ := (H.out.k hcw).file hi
      have q1 := hcw.cellS Q1.out
      have hl : lenF d (k, i) = hs[i].2.1.length := by
        unfold lenF; rw [List.getD_eq_getElem?_getD]; simp only; rw [q5]; rfl
      have hsum := sumF_ndel d hr.nodup hmem
      rw [hl] at hsum
      generalize hs[i].2.1.length = n at *
      have htn : t + n + sumF d (ndel rest k) = T := by have := Ht.out; omega
      have HTN := hd htn
      have hov : ¬ 9223372036854775807 < (t : Int) + (n : Int) := by omega
      clear q5 hl hsum htn h0 Ht
      go_wp2_with fail
      go_roundw
      case rel => exact ⟨t + n, ndel rest k, by go_num, HTN.out, hr2, hcw⟩
      case measure => exact hlt
end Go.Proofs.Ytpoohpmcopjklaa

/- A file of the disk turned. -/
namespace Go.Proofs.Ytpoohpmcopjklaa
open Go.RowKit

variable {w w' : World} {fp : List Nat} {b : Nat} {fv cv : Value} {nb sb : Nat} {hs : List HF} {d : Dsk}

theorem GoodD.putF (h : GoodD d) (i : Nat) (f : List UInt8 × Nat) (hf : f.2 ≤ f.1.length ∧ (f.1.length : Int) ≤ d.room ∧ f.1.length ≤ 4294967296) : GoodD (setF d i f) := by
  have ⟨a0, a1, a2, a3, a4, a5, a6, a7, a8, a9, a10⟩ := h
  unfold setF
  refine { h with named := ?_, sured := ?_, turned := ?_, idx := ?_, files := ?_, nfiles := ?_ } <;> simp only [List.length_set]
  · exact a1
  · exact a2
  · exact a3
  · exact a4
  · intro x hx
    rcases List.mem_or_eq_of_mem_set hx with hx | rfl
    · exact a5 x hx
    · exact hf
  · exact a7
theorem map_set2 (hs : List HF) (i : Nat) (x : HF) : (hs.set i x).map (·.2) = (hs.map (·.2)).set i x.2 := by rw [List.map_set]
theorem pw_get {α : Type} {R : α → α → Prop} {l : List α} (h : l.Pairwise R) (hsym : ∀ a b, R a b → R b a) {i j : Nat} (hi : i < l.length) (hj : j < l.length) (hne : i ≠ j) : R l[i] l[j] := by
  rw [List.pairwise_iff_getElem] at h
  by_cases hlt : i < j
  · exact h i j hi hj hlt
  · exact hsym _ _ (h j i hj hi (by omega))
theorem pw_set {α : Type} {R : α → α → Prop} {l : List α} (h : l.Pairwise R) (hsym : ∀ a b, R a b → R b a) {i : Nat} {x : α} (hx : ∀ j (hj : j < l.length), j ≠ i → R x l[j]) : (l.set i x).Pairwise R := by
  rw [List.pairwise_iff_getElem] at h ⊢
  intro p q hp hq hpq
  simp only [List.length_set] at hp hq
  simp only [List.getElem_set]
  split
  · rename_i e
    subst e
    rw [if_neg (by omega)]
    exact hx q hq (by omega)
  · rename_i e
    split
    · rename_i e2
      subst e2
      exact hsym _ _ (hx p hp (by omega))
    · exact h p q hp hq hpq
def ApartV (f g : HF) : Prop := ∀ k, f.1.ownBlock = some k → g.1.ownBlock ≠ some k
theorem apartV_symm (f g : HF) (h : ApartV f g) : ApartV g f := fun k hk hk' => h k hk' hk

/-- How much of file i is sure. -/
theorem DkP.sureSet {g c : Nat} (h : DkP w fp b (.slice (some ⟨g, 0, none⟩) hs.length c) cv nb sb hs d) {i : Nat} (hi : i < hs.length) (n : Nat) (hn : n ≤ hs[i].2.1.length) :
    DkP (w.setCell ⟨g, i * 2 + 1, none⟩ (.int .i64 (n : Int))) fp b (.slice (some ⟨g, 0, none⟩) hs.length c) cv nb sb (hs.set i (hs[i].1, hs[i].2.1, n)) (setF d i (hs[i].2.1, n)) := by
  have hst := World.ownsRow.stored h.files (i * 2 + 1) (.int .i64 (n : Int))
  have hfi : d.files[i]? = some hs[i].2 := by rw [← h.same, List.getElem?_map, List.getElem?_eq_getElem hi]; rfl
  have hmem : hs[i].2 ∈ d.files := List.mem_of_getElem? hfi
  have hc : Chg [g] w (w.setCell ⟨g, i * 2 + 1, none⟩ (.int .i64 (n : Int))) := (Chg.refl _ _).setCell _ _ (by simp)
  have hbg : g ≠ b := by have := ownsRow_apart h.files h.box (by decide); simpa [Value.ownBlock] using this
  exact
  { box := h.box.chg hc (by simpa using fun e => hbg e.symm)
    names := h.names.chg hc (by have := h.names.apartRow h.files; simpa [Value.ownBlock] using fun e : nb = g => this (by simp [Value.ownBlock, e]))
    sure := h.sure.chg hc (by have := h.sure.apartRow h.files; simpa [Value.ownBlock] using fun e : sb = g => this (by simp [Value.ownBlock, e]))
    files := by
      rw [fileCells_set_sure hi, List.length_set]
      exact hst.1
    same := by rw [map_set2, h.same]; rfl
    changes := ownsRow_chg h.changes hc fun k hk => by have := ownsRow_ne2 h.changes h.files (by decide) k hk; simpa [Value.ownBlock] using fun e : k = g => this (by simp [Value.ownBlock, e])
    bytes := fun f hf => by
      have hk : ∀ f ∈ hs, OwB (w.setCell ⟨g, i * 2 + 1, none⟩ (.int .i64 (n : Int))) 0 f.1 f.2.1 := fun f hf => OwB.chg (h.bytes f hf) hc fun k hk => by
        have := ownsRow_ne2 (h.bytes f hf) h.files (by decide) k hk; simpa [Value.ownBlock] using fun e : k = g => this (by simp [Value.ownBlock, e])
      rcases List.mem_or_eq_of_mem_set hf with hf | rfl
      · exact hk f hf
      · exact hk hs[i] (List.getElem_mem hi)
    apart := pw_set (R := ApartV) h.apart apartV_symm fun j hj hne => pw_get (R := ApartV) h.apart apartV_symm hi hj (fun e => hne e.symm)
    ne := h.ne
    fpb := h.fpb
    fpn := h.fpn
    fps := h.fps
    fpf := h.fpf
    fpc := h.fpc
    fph := fun f hf k hk => by
      rcases List.mem_or_eq_of_mem_set hf with hf | rfl
      · exact h.fph f hf k hk
      · exact h.fph _ (List.getElem_mem hi) k hk
    fpl := fun k hk => Nat.lt_of_lt_of_le (h.fpl k hk) hc.size
    good := h.good.putF i _ ⟨hn, (h.good.files _ hmem).2⟩ }
/-- The bytes of file i. -/
theorem DkP.byteSet {g c : Nat} (h : DkP w fp b (.slice (some ⟨g, 0, none⟩) hs.length c) cv nb sb hs d) {i : Nat} (hi : i < hs.length) {v' : Value} {l' : List UInt8}
    (hc : Chg hs[i].1.ownBlock.toList w w') (hv : OwB w' 0 v' l') (hm : Moved w hs[i].1 v') (hg : GoodD (setF d i (l', hs[i].2.2))) :
    DkP (w'.setCell ⟨g, i * 2, none⟩ v') (v'.ownBlock.toList ++ fp) b (.slice (some ⟨g, 0, none⟩) hs.length c) cv nb sb (hs.set i (v', l', hs[i].2.2)) (setF d i (l', hs[i].2.2)) := by
  have hwi := h.bytes _ (List.getElem_mem hi)
  have hbg : g ≠ b := by have := ownsRow_apart h.files h.box (by decide); simpa [Value.ownBlock] using this
  have hib : b ∉ hs[i].1.ownBlock.toList := by simpa using ownsRow_apart hwi h.box (by decide)
  have hig : ∀ k, (Value.slice (some ⟨g, 0, none⟩) hs.length c).ownBlock = some k → k ∉ hs[i].1.ownBlock.toList := fun k hk => by simpa using ownsRow_ne2 h.files hwi (by decide) k hk
  have hbox : Blk w' b (boxCells (.slice (some ⟨g, 0, none⟩) hs.length c) cv nb sb d) 85 := h.box.chg hc hib
  have hfiles := ownsRow_chg h.files hc hig
  have hst := World.ownsRow.stored hfiles (i * 2) v'
  have hv2 : OwB (w'.setCell ⟨g, i * 2, none⟩ v') 0 v' l' := ownsRow_setCell_other hv (a := ⟨g, i * 2, none⟩) (fun e => ownsRow_ne2 hv hfiles (by decide) g e rfl) _
  have hset : ∀ {base size n : Nat} {v : Value} {xs : List Value} {e : TypeId}, e ≠ 94 → w'.ownsRow base e size v n xs → (w'.setCell ⟨g, i * 2, none⟩ v').ownsRow base e size v n xs := fun he h1 =>
    ownsRow_setCell_other h1 (a := ⟨g, i * 2, none⟩) (fun e => ownsRow_ne2 h1 hfiles he g e rfl) _
  have hoth : ∀ f ∈ hs, f.1.ownBlock.toList ≠ hs[i].1.ownBlock.toList ∨ f.1.ownBlock = none → OwB (w'.setCell ⟨g, i * 2, none⟩ v') 0 f.1 f.2.1 := fun f hf hx => hset (by decide) (OwB.chg (h.bytes f hf) hc fun k hk => by
    rcases hx with hx | hx
    · rw [hk] at hx; intro e; rw [Option.mem_toList] at e; exact hx (by rw [e])
    · rw [hk] at hx; cases hx)
  have hap : ∀ j (hj : j < hs.length), j ≠ i → ApartV (v', l', hs[i].2.2) hs[j] := fun j hj hne k hk hk' => by
    rcases hm with e | e
    · exact pw_get (R := ApartV) h.apart apartV_symm hi hj (fun e => hne e.symm) k (e ▸ hk) hk'
    · have := e k hk
      have := (World.ownsRow.lt (h.bytes _ (List.getElem_mem hj)) k hk').2
      omega
  exact
  { box := hbox.other (fun e => hbg e.symm) _
    names := (h.names.chg hc (by simpa using h.names.apartRow hwi)).set _ _ (fun e => h.names.apartRow h.files (by simp only [Value.ownBlock]; exact congrArg some e.symm))
    sure := (h.sure.chg hc (by simpa using h.sure.apartRow hwi)).set _ _ (fun e => h.sure.apartRow h.files (by simp only [Value.ownBlock]; exact congrArg some e.symm))
    files := by
      rw [fileCells_set_eq hi, List.length_set]
      exact hst.1
    same := by rw [map_set2, h.same]; rfl
    changes := hset (by decide) (ownsRow_chg h.changes hc fun k hk => by simpa using ownsRow_ne2 h.changes hwi (by decide) k hk)
    bytes := fun f hf => by
      obtain ⟨j, hj, rfl⟩ := List.getElem_of_mem hf
      simp only [List.length_set] at hj
      rw [List.getElem_set]
      split
      · exact hv2
      · rename_i hne
        refine hoth _ (List.getElem_mem hj) ?_
        rcases hb : hs[j].1.ownBlock with _ | k
        · exact .inr rfl
        · left
          intro e
          have := pw_get (R := ApartV) h.apart apartV_symm hj hi (fun e => hne e.symm) k hb
          rcases hb2 : hs[i].1.ownBlock with _ | k2
          · rw [hb2] at e; simp at e
          · rw [hb2] at e this
            simp at e
            exact this (by rw [e])
    apart := pw_set (R := ApartV) h.apart apartV_symm hap
    ne := h.ne
    fpb := by simp [h.fpb]
    fpn := by simp [h.fpn]
    fps := by simp [h.fps]
    fpf := fun k hk => by simp [h.fpf k hk]
    fpc := fun k hk => by simp [h.fpc k hk]
    fph := fun f hf k hk => by
      rcases List.mem_or_eq_of_mem_set hf with hf | rfl
      · simp [h.fph f hf k hk]
      · have hk : v'.ownBlock = some k := hk
        simp [hk]
    fpl := fun k hk => by
      rw [size_set]
      rcases List.mem_append.1 hk with hk | hk
      · exact (World.ownsRow.lt hv k (by simpa using hk)).2
      · exact Nat.lt_of_lt_of_le (h.fpl k hk) hc.size
    good := hg }
end Go.Proofs.Ytpoohpmcopjklaa

/- slices.Clone of bytes, maps.Clone of names. -/
namespace Go.Proofs.Ytpoohpmcopjklaa
open Go.RowKit

set_option maxHeartbeats 400000 in
theorem CloneB_any (w : World) (v : Value) (l : List UInt8) (hv : Bs w v l) (hl : l.length ≤ 140737488355328) :
    Calls Try.prog 53 #[v] w fun e w' => ∃ ao c, e = .returned (.slice ao l.length c) ∧ OwB w' w.heap.size (.slice ao l.length c) l ∧ Chg [] w w' := by
  obtain ⟨-, ao, cap, b, off, rfl, -, -, hn, -, -⟩ := id hv
  rcases ao with _ | a
  · obtain ⟨h0, rfl⟩ := hn rfl
    obtain rfl : l = [] := List.length_eq_zero_iff.1 h0
    clear hn h0 hv hl
    have hq := fun w => Lib.run_eql_slice_nil (P := Try.prog) w 30 5 none 0 0 0 0 undBytes
    go_enter Try.func53, Try.ntmps53
    go_wp2_with fail
    refine bodyPost_ret (v := .slice none 0 0) ?_ rfl ⟨none, 0, rfl, OwB.nil _ _, Chg.refl _ _⟩
    simp only [results]; go_simp
  · have hB : OwB (w.alloc (.cells #[] 5)) w.heap.size (.slice (some ⟨w.heap.size, 0, none⟩) 0 0) [] := World.ownsRow_lit w #[] 0 (Nat.le_refl _) (by decide) rfl
    have hv1 := hv.alloc (.cells #[] 5)
    clear hn hv
    have hq := fun w => Lib.run_eql_slice_nil (P := Try.prog) w 30 5 (some a) l.length cap 0 0 undBytes
    go_enter Try.func53, Try.ntmps53
    go_wp2_with (at_builtin; refine wpAppB rfl _ _ rfl w.heap.size _ _ rfl hB _ _ rfl hv1 (by simpa using hl) (by simp) ?_; intro ao1 c1 w1 h1 h2 h3)
    have hc : Chg [] w w1 := ((Chg.refl [] w).alloc _).app hB h2 (Nat.le_refl _)
    simp only [List.nil_append, List.length_nil, Nat.zero_add] at h1 ⊢
    refine bodyPost_ret (v := .slice ao1 l.length c1) ?_ rfl ⟨ao1, c1, rfl, h1, hc⟩
    simp only [results]; go_simp

set_option maxHeartbeats 2000000 in
set_option maxRecDepth 8000 in
theorem CloneM_any (w : World) (b : Nat) (es : Nm) (h : MapAt w b es) :
    Calls Try.prog 55 #[.map (some b)] w fun e w' => e = .returned (.map (some w.heap.size)) ∧ MapAt w' w.heap.size es ∧ Chg [] w w' := by
  obtain ⟨D, ⟨xs, clock, hb, F, hs, hD⟩, hr⟩ := h
  have hfin : MapAt (w.alloc (.map xs clock)) w.heap.size es := ⟨D, ⟨xs, clock, (MapKept.heap_alloc w _).1, F, hs, hD⟩, hr⟩
  have hc : Chg [] w (w.alloc (.map xs clock)) := (Chg.refl [] w).alloc _
  clear F hs hD hr
  have hq := fun w => run_eql_map_nil_sl (P := Try.prog) w 81 _ _ (some b) undMapN
  have hcon : Try.prog.concrete 81 = true := by kernel_rfl
  go_enter Try.func55, Try.ntmps55
  go_wp2
  rw [run_callFunc_extern Try.func75 (by kernel_rfl) (by kernel_rfl) (by kernel_rfl) (e := Extern.MapsClone.clone) (by kernel_rfl), run_maps_clone_sl w 81 hb]
  simp only [Result.andThen]
  rw [Oper.upon_value]
  go_wp2
  rw [run_typeAssert_map_sl _ 81 _ _ _ _ undMapN]
  simp only [Result.andThen]
  rw [Oper.upon_value]
  go_wp2
  go_ret
  exact ⟨rfl, hfin, hc⟩
end Go.Proofs.Ytpoohpmcopjklaa

/- Disk.Sync, DirSync, Read. -/
namespace Go.Proofs.Ytpoohpmcopjklaa
open Go.RowKit

variable {w w' : World} {fp : List Nat} {b : Nat} {fv cv : Value} {nb sb : Nat} {hs : List HF} {d : Dsk}

theorem files_get {w : World} (h : DkP w fp b fv cv nb sb hs d) {i : Nat} (hi : i < hs.length) : d.files.getD i ([], 0) = hs[i].2 := by
  rw [List.getD_eq_getElem?_getD, ← h.same, List.getElem?_map, List.getElem?_eq_getElem hi]; rfl

set_option maxHeartbeats 1000000 in
theorem Sync_any (h : Dk w fp b d) (s : List UInt8) (hsl : s.length ≤ 140737488355328) (hops : d.ops < 1073741824) :
    Calls Try.prog 36 #[.pointer (some ⟨b, 0, none⟩), .string (strB s)] w fun e w' => e = .returned (.int .i64 (syncE d s)) ∧ DkOut w fp b (syncD d s) w' := by
  obtain ⟨fv, cv, nb, sb, hs, h⟩ := h
  obtain ⟨CE, hCE⟩ : ∃ x, syncE d s = x := ⟨_, rfl⟩
  obtain ⟨CD, hCD⟩ : ∃ x, syncD d s = x := ⟨_, rfl⟩
  rw [hCE, hCD]
  have hCE2 := hCE
  unfold syncE at hCE2
  unfold syncD at hCD
  rw [hCE] at hCD
  clear hCE
  go_enter Try.func36, Try.ntmps36
  go_wp2_with fail
  refine (op_any h hops).mono ?_
  rintro e w1 ⟨rfl, h1, hc1, hz1⟩
  have hcf : Chg fp w w1 := hc1.mono (by simp only [List.mem_singleton]; rintro x rfl _; exact h.fpb)
  clear hc1 hz1 h
  by_cases hE : opE d = 0
  case neg =>
    rw [if_pos hE] at hCE2
    rw [if_pos (by rw [← hCE2]; exact hE)] at hCD
    subst hCD
    subst hCE2
    have hE' : (opE d == 0) = false := by simpa using hE
    clear hE
    go_wp2_with fail
    go_ret
    exact ⟨rfl, DkOut.same ⟨_, _, _, _, _, h1⟩ hcf⟩
  rw [if_neg (by simpa using hE)] at hCE2
  rw [hE]
  clear hE
  have hfind := find_any h1 s hsl
  have H1 := hd h1
  have HCF := hd hcf
  clear h1 hcf
  rcases hi : nget d.names s with _ | i
  · rw [show nget (opD d).names s = none from hi] at hfind
    rw [hi, if_pos (by rfl)] at hCE2
    subst hCE2
    rw [if_pos (by decide)] at hCD
    subst hCD
    go_wp2_with fail
    refine (hfind).mono ?_
    rintro e w2 ⟨rfl, rfl⟩
    go_wp2_with fail
    go_ret
    exact ⟨rfl, DkOut.same ⟨_, _, _, _, _, H1.out⟩ HCF.out⟩
  · rw [show nget (opD d).names s = some i from hi] at hfind
    rw [hi, if_neg (by simp)] at hCE2
    subst hCE2
    rw [if_neg (by decide), hi] at hCD
    have HCD := hd hCD
    clear hCD
    go_wp2_with fail
    refine (hfind).mono ?_
    rintro e w2 ⟨rfl, g, c, rfl, hlt, rfl⟩
    obtain ⟨ao, c', hv, q0, q1, -⟩ := H1.out.file hlt
    have f1 := World.ownsRow.frozenAt H1.out.files (i * 2 + 1)
    have hfin := H1.out.sureSet hlt _ (Nat.le_refl _)
    have hcd : setF (opD d) i (hs[i].2.1, hs[i].2.1.length) = CD := by
      rw [← HCD.out]
      show _ = setF (opD d) i ((d.files.getD i ([], 0)).1, (d.files.getD i ([], 0)).1.length)
      rw [show d.files.getD i ([], 0) = hs[i].2 from files_get H1.out hlt]
    rw [hcd] at hfin
    have hch : Chg fp w2 (w2.setCell ⟨g, i * 2 + 1, none⟩ (.int .i64 (hs[i].2.1.length : Int))) := (Chg.refl _ _).setCell _ _ (fun _ => H1.out.fpf g rfl)
    have FIN := hd (DkOut.same ⟨_, _, _, _, _, hfin⟩ (HCF.out.trans hch (fun _ h _ => h)))
    clear hcd hch hfin hv
    generalize hs[i].2.1.length = n at *
    go_wp2_with fail
    go_ret
    exact ⟨rfl, FIN.out⟩

def ReadOut (w : World) (fp : List Nat) (b : Nat) (d : Dsk) (s : List UInt8) (e : Ending) (w' : World) : Prop :=
  ∃ ao n c, e = .returned (.tuple #[.slice ao n c, .int .i64 (syncE d s)]) ∧ OwB w' w.heap.size (.slice ao n c) (if syncE d s = 0 then bytesD d s else []) ∧ Dk w' fp b (opD d) ∧ Chg [b] w w'

set_option maxHeartbeats 1000000 in
theorem Read_any (h : Dk w fp b d) (s : List UInt8) (hsl : s.length ≤ 140737488355328) (hops : d.ops < 1073741824) :
    Calls Try.prog 19 #[.pointer (some ⟨b, 0, none⟩), .string (strB s)] w (ReadOut w fp b d s) := by
  obtain ⟨fv, cv, nb, sb, hs, h⟩ := h
  obtain ⟨CE, hCE⟩ : ∃ x, syncE d s = x := ⟨_, rfl⟩
  have hbad : ∀ (e : Ending) (w' : World), CE ≠ 0 → DkP w' fp b fv cv nb sb hs (opD d) → Chg [b] w w' → e = .returned (.tuple #[.slice none 0 0, .int .i64 CE]) → ReadOut w fp b d s e w' := by
    intro e w' hne h1 h2 he
    unfold ReadOut
    rw [hCE]
    exact ⟨none, 0, 0, he, by rw [if_neg hne]; exact OwB.nil _ _, ⟨_, _, _, _, _, h1⟩, h2⟩
  have hgood : ∀ (e : Ending) (w' : World), CE = 0 → DkP w' fp b fv cv nb sb hs (opD d) → Chg [b] w w' → ∀ ao n c, OwB w' w.heap.size (.slice ao n c) (bytesD d s) → e = .returned (.tuple #[.slice ao n c, .int .i64 CE]) → ReadOut w fp b d s e w' := by
    intro e w' hz h1 h2 ao n c h3 he
    unfold ReadOut
    rw [hCE]
    exact ⟨ao, n, c, he, by rw [if_pos hz]; exact h3, ⟨_, _, _, _, _, h1⟩, h2⟩
  have HBAD := hd hbad
  have HGOOD := hd hgood
  clear hbad hgood
  unfold syncE at hCE
  go_enter Try.func19, Try.ntmps19
  go_wp2_with fail
  refine (op_any h hops).mono ?_
  rintro e w1 ⟨rfl, h1, hc1, hz1⟩
  clear h
  by_cases hE : opE d = 0
  case neg =>
    rw [if_pos hE] at hCE
    subst hCE
    have hE' : (opE d == 0) = false := by simpa using hE
    have HE := hd hE
    clear hE
    have H1 := hd h1
    clear h1
    go_wp2_with fail
    refine bodyPost_ret (v := .tuple #[.slice none 0 0, .int .i64 (opE d)]) ?_ rfl ?_
    · simp only [results]; go_simp
    · exact HBAD.out _ _ HE.out H1.out hc1 rfl
  rw [if_neg (by simpa using hE)] at hCE
  rw [hE]
  clear hE
  have hfind := find_any h1 s hsl
  have H1 := hd h1
  clear h1
  rcases hi : nget d.names s with _ | i
  · rw [show nget (opD d).names s = none from hi] at hfind
    rw [hi, if_pos (by rfl)] at hCE
    subst hCE
    go_wp2_with fail
    refine (hfind).mono ?_
    rintro e w2 ⟨rfl, rfl⟩
    go_wp2_with fail
    refine bodyPost_ret (v := .tuple #[.slice none 0 0, .int .i64 4]) ?_ rfl ?_
    · simp only [results]; go_simp
    · exact HBAD.out _ _ (by decide) H1.out hc1 rfl
  · rw [show nget (opD d).names s = some i from hi] at hfind
    rw [hi, if_neg (by simp)] at hCE
    subst hCE
    go_wp2_with fail
    refine (hfind).mono ?_
    rintro e w2 ⟨rfl, g, c, rfl, hlt, rfl⟩
    obtain ⟨ao, c', hv, q0, q1, -⟩ := H1.out.file hlt
    have hby := H1.out.bytes _ (List.getElem_mem hlt)
    rw [hv] at hby
    have hbd : bytesD d s = hs[i].2.1 := by unfold bytesD; rw [hi]; show (d.files.getD i ([], 0)).1 = _; rw [show d.files.getD i ([], 0) = hs[i].2 from files_get H1.out hlt]
    have hll := (H1.out.good.files _ (List.mem_of_getElem? (H1.out.file hlt).choose_spec.choose_spec.2.2.2)).2.2
    have HBD := hd hbd
    have hbs := hby.bs
    have hz := hc1.size
    clear hby hv hbd q1 hi hfind
    generalize hs[i].2.1 = l at *
    clear hlt
    go_wp2_with fail
    refine (CloneB_any _ _ l hbs (by omega)).mono ?_
    rintro e w3 ⟨ao3, c3, rfl, hb3, hc3⟩
    have H3 := hd (H1.out.k hc3)
    have hcc := hc1.trans hc3 (by simp)
    go_wp2_with fail
    refine bodyPost_ret (v := .tuple #[.slice ao3 l.length c3, .int .i64 0]) ?_ rfl ?_
    · simp only [results]; go_simp
    · exact HGOOD.out _ _ (by trivial) H3.out hcc ao3 l.length c3 (by rw [HBD.out]; exact hb3.mono hz) rfl

set_option maxHeartbeats 1000000 in
theorem DirSync_any (h : Dk w fp b d) (hops : d.ops < 1073741824) :
    Calls Try.prog 37 #[.pointer (some ⟨b, 0, none⟩)] w fun e w' => e = .returned (.int .i64 (opE d)) ∧ DkOut w fp b (dirSyncD d) w' := by
  obtain ⟨fv, cv, nb, sb, hs, h⟩ := h
  obtain ⟨CD, hCD⟩ : ∃ x, dirSyncD d = x := ⟨_, rfl⟩
  rw [hCD]
  unfold dirSyncD at hCD
  go_enter Try.func37, Try.ntmps37
  go_wp2_with fail
  refine (op_any h hops).mono ?_
  rintro e w1 ⟨rfl, h1, hc1, hz1⟩
  have hcf : Chg fp w w1 := hc1.mono (by simp only [List.mem_singleton]; rintro x rfl _; exact h.fpb)
  clear hc1 hz1 h
  by_cases hE : opE d = 0
  case neg =>
    rw [if_pos hE] at hCD
    subst hCD
    have hE' : (opE d == 0) = false := by simpa using hE
    have HD := hd (DkOut.same ⟨_, _, _, _, _, h1⟩ hcf)
    clear hE h1 hcf
    go_wp2_with fail
    go_ret
    exact ⟨rfl, HD.out⟩
  rw [if_neg (by simpa using hE)] at hCD
  rw [hE]
  have HE := hd hE
  clear hE
  have HCD := hd hCD
  clear hCD
  have q2 := h1.box.cell 2
  simp [boxCells] at q2
  have hm : MapAt w1 nb d.names := h1.names
  have H1 := hd h1
  have HCF := hd hcf
  clear h1 hcf
  go_wp2_with fail
  refine (CloneM_any w1 nb d.names hm).mono ?_
  rintro e w2 ⟨rfl, hm2, hc2⟩
  have hz := hc2.size
  have H2 := hd (H1.out.k hc2)
  have HCF2 := hd (HCF.out.trans hc2 (by simp))
  have hbx := H2.out.box
  have q3 := hbx.cell 3
  have f3 := hbx.free 3
  have hb2 := hbx.set 3 (.map (some w1.heap.size))
  have q4 := hb2.cell 4
  have f4 := hb2.free 4
  simp [boxCells] at q3 q4
  have FIN : DkOut w fp b CD ((w2.setCell ⟨b, 3, none⟩ (.map (some w1.heap.size))).setCell ⟨b, 4, none⟩ (.slice none 0 0)) := by
    have hgood : GoodD CD := by
      rw [← HCD.out]
      have hg := H1.out.good
      refine { hg with sured := hg.named, turned := by simp, idx := by simp, nchanges := ?_, clens := by simp }
      simpa [opD] using hg.nnames
    have hch : Chg [b] w2 ((w2.setCell ⟨b, 3, none⟩ (.map (some w1.heap.size))).setCell ⟨b, 4, none⟩ (.slice none 0 0)) := ((Chg.refl _ _).setCell _ _ (by simp)).setCell _ _ (by simp)
    have D := H2.out
    refine DkOut.mk (fp' := w1.heap.size :: fp) ⟨fv, .slice none 0 0, nb, w1.heap.size, hs, ?_⟩ (HCF2.out.trans hch (by simp only [List.mem_singleton]; rintro x rfl _; exact H1.out.fpb)) ?_
    · rw [← HCD.out] at hgood ⊢
      exact
      { box := hb2.set 4 _
        names := (D.names.set _ _ (D.names.apart D.box)).set _ _ (D.names.apart D.box)
        sure := (hm2.set _ _ (hm2.apart D.box)).set _ _ (hm2.apart D.box)
        files := ownsRow_chg D.files hch fun k hk => by have := ownsRow_apart D.files D.box (by decide); rw [hk] at this; simpa using this
        same := D.same
        changes := World.ownsRow_nil _ _ _ _
        bytes := fun f hf => OwB.chg (D.bytes f hf) hch fun k hk => by have := ownsRow_apart (D.bytes f hf) D.box (by decide); rw [hk] at this; simpa using this
        apart := D.apart
        ne := fun e => by have := H1.out.names.lt; omega
        fpb := by simp [D.fpb]
        fpn := by simp [D.fpn]
        fps := by simp
        fpf := fun k hk => by simp [D.fpf k hk]
        fpc := by simp [Value.ownBlock]
        fph := fun f hf k hk => by simp [D.fph f hf k hk]
        fpl := fun k hk => by
          rw [size_set, size_set]
          rcases List.mem_cons.1 hk with rfl | hk
          · exact hm2.lt
          · exact D.fpl k hk
        good := hgood }
    · intro k hk
      rcases List.mem_cons.1 hk with rfl | hk
      · exact .inr HCF.out.size
      · exact .inl hk
  have HFIN := hd FIN
  clear FIN hm2 hc2 hbx hm
  go_wp2_with fail
  go_ret
  exact ⟨by rw [HE.out]; rfl, HFIN.out⟩
end Go.Proofs.Ytpoohpmcopjklaa

/- Disk.Append, Bend. -/
namespace Go.Proofs.Ytpoohpmcopjklaa
open Go.RowKit

variable {w w' : World} {fp : List Nat} {b : Nat} {fv cv : Value} {nb sb : Nat} {hs : List HF} {d : Dsk}

set_option maxHeartbeats 2000000 in
theorem Append_any (h : Dk w fp b d) (s : List UInt8) (hsl : s.length ≤ 140737488355328) (hops : d.ops < 1073741824) (v : Value) (l : List UInt8) (hl : Bs w v l) (hll : l.length ≤ 4294967296)
    (hvf : 0 < l.length → ∀ k, v.ownBlock = some k → k ∉ fp) (hroom : (bytesD d s).length + l.length ≤ 4294967296 ∨ d.room ≤ 4294967296) :
    Calls Try.prog 26 #[.pointer (some ⟨b, 0, none⟩), .string (strB s), v] w fun e w' => e = .returned (.int .i64 (appendE d s l)) ∧ DkOut w fp b (appendD d s l) w' := by
  obtain ⟨fv, cv, nb, sb, hs, h⟩ := h
  obtain ⟨aov, capv, bv, ofv, rfl, -⟩ := hl.open
  obtain ⟨CE, hCE⟩ : ∃ x, appendE d s l = x := ⟨_, rfl⟩
  obtain ⟨CD, hCD⟩ : ∃ x, appendD d s l = x := ⟨_, rfl⟩
  rw [hCE, hCD]
  have hCE2 := hCE
  unfold appendE at hCE2
  unfold appendD at hCD
  rw [hCE] at hCD
  clear hCE
  go_enter Try.func26, Try.ntmps26
  go_wp2_with fail
  refine (op_any h hops).mono ?_
  rintro e w1 ⟨rfl, h1, hc1, hz1⟩
  have hl1 := hl.keep hc1 (fun hp k hk => by simpa using fun e => hvf hp k hk (by rw [e]; exact h.fpb))
  have hcf : Chg fp w w1 := hc1.mono (by simp only [List.mem_singleton]; rintro x rfl _; exact h.fpb)
  clear hc1 hz1 h hl
  by_cases hE : opE d = 0
  case neg =>
    rw [if_pos hE] at hCE2
    rw [if_pos (by rw [← hCE2]; exact hE)] at hCD
    subst hCD
    subst hCE2
    have hE' : (opE d == 0) = false := by simpa using hE
    have HD := hd (DkOut.same ⟨_, _, _, _, _, h1⟩ hcf)
    clear hE h1 hcf hl1
    go_wp2_with fail
    go_ret
    exact ⟨rfl, HD.out⟩
  rw [if_neg (by simpa using hE)] at hCE2
  rw [hE]
  clear hE
  have hfind := find_any h1 s hsl
  have H1 := hd h1
  have HCF := hd hcf
  have HL1 := hd hl1
  clear h1 hcf hl1
  rcases hi : nget d.names s with _ | i
  · rw [show nget (opD d).names s = none from hi] at hfind
    rw [hi, if_pos (by rfl)] at hCE2
    subst hCE2
    rw [if_pos (by decide)] at hCD
    subst hCD
    go_wp2_with fail
    refine (hfind).mono ?_
    rintro e w2 ⟨rfl, rfl⟩
    go_wp2_with fail
    go_ret
    exact ⟨rfl, DkOut.same ⟨_, _, _, _, _, H1.out⟩ HCF.out⟩
  · rw [show nget (opD d).names s = some i from hi] at hfind
    rw [hi, if_neg (by simp)] at hCE2
    rw [hi] at hCD
    have hbd : bytesD d s = (d.files.getD i ([], 0)).1 := by unfold bytesD; rw [hi]
    have hLT : (bytesD d s).length ≤ sizeD d := by
      have hn : (d.names.map (·.1)).Nodup := let ⟨_, _, hr⟩ := H1.out.names; hr.nodup
      have := sumF_ndel d hn (nget_some_mem hi)
      rw [sizeD_eq, this, hbd]
      show _ ≤ _ + (d.files.getD i ([], 0)).1.length
      omega
    have HBD := hd hbd
    have HCD := hd hCD
    have HCE := hd hCE2
    clear hCD hCE2 hbd hi
    go_wp2_with fail
    refine (hfind).mono ?_
    rintro e w2 ⟨rfl, g, c, rfl, hlt, rfl⟩
    clear hfind
    have hsz : sizeD (opD d) ≤ 4611686018427387904 := by
      have hg := H1.out.good
      have h1 := sumF_le hg (opD d).names
      have h2 := hg.nnames
      have h3 := hg.ops
      rw [sizeD_eq]
      omega
    have hrm := H1.out.good.room
    have hrm' : (opD d).room = d.room := rfl
    rw [hrm'] at hrm
    have hszd : sizeD (opD d) = sizeD d := rfl
    rw [hszd] at hsz
    have HS := hd (fun wx (hx : Chg [] w2 wx) => Size_any (H1.out.k hx))
    rw [hszd] at HS
    have q0 := H1.out.box.cell 0
    simp [boxCells] at q0
    rw [hrm'] at q0
    have Q0 := hd q0
    clear q0
    clear hszd hrm'
    generalize sizeD d = T at *
    go_upto_region 7 with (fail)
    have hwr : IntKind.i64.wrap ((T : Int) + (l.length : Int)) = (T : Int) + (l.length : Int) := by rw [IntKind.wrap_i64]; omega
    refine anyH_start (n := 11) (L := #[false, false, false, false, false, false, false, false, false, false, false]) (by kernel_rfl) (by kernel_rfl) (S := (fun wx => Chg [] w2 wx)) ((Chg.refl _ _).drew) (fun hHeld => ?_)
    refine anyH_take (i := 0) (d := 26) (L' := #[true, false, false, false, false, false, false, false, false, false, false]) (v := ?v5) rfl rfl (by kernel_rfl) (fun _ _ _ h => h) (by rfl) ?hy5 (by assumption) ?rest5
    case hy5 => (intro wx hSw; (try dsimp only at hSw); (have t0 := Chg.cellS hSw Q0.out); go_simp; (try with_reducible rfl))
    simp only [Act.put, List.setIfInBounds_toArray, List.set_cons_zero, List.set_cons_succ]
    refine anyH_take (i := 2) (d := 28) (L' := #[true, false, true, false, false, false, false, false, false, false, false]) (v := ?v6) rfl rfl (by kernel_rfl) (fun _ _ _ h => h) (by rfl) ?hy6 (by assumption) ?rest6
    case hy6 => (intro wx hSw; (try dsimp only at hSw); (have t0 := Chg.cellS hSw Q0.out); go_simp; (try with_reducible rfl))
    simp only [Act.put, List.setIfInBounds_toArray, List.set_cons_zero, List.set_cons_succ]
    refine anyH_take (i := 3) (d := 29) (L' := #[true, false, true, true, false, false, false, false, false, false, false]) (v := ?v7) rfl rfl (by kernel_rfl) (fun _ _ _ h => h) (by rfl) ?hy7 (by assumption) ?rest7
    case hy7 => (intro wx hSw; (try dsimp only at hSw); (have t0 := Chg.cellS hSw Q0.out); go_simp; (try with_reducible rfl))
    simp only [Act.put, List.setIfInBounds_toArray, List.set_cons_zero, List.set_cons_succ]
    refine anyH_take (i := 5) (d := 31) (L' := #[true, false, true, true, false, true, false, false, false, false, false]) (v := ?v8) rfl rfl (by kernel_rfl) (fun _ _ _ h => h) (by rfl) ?hy8 (by assumption) ?rest8
    case hy8 => (intro wx hSw; (try dsimp only at hSw); (have t0 := Chg.cellS hSw Q0.out); go_simp; (try with_reducible rfl))
    simp only [Act.put, List.setIfInBounds_toArray, List.set_cons_zero, List.set_cons_succ]
    refine anyH_take (i := 6) (d := 32) (L' := #[true, false, true, true, false, true, true, false, false, false, false]) (v := ?v9) rfl rfl (by kernel_rfl) (fun _ _ _ h => h) (by rfl) ?hy9 (by assumption) ?rest9
    case hy9 => (intro wx hSw; (try dsimp only at hSw); (have t0 := Chg.cellS hSw Q0.out); go_simp; (try with_reducible rfl))
    simp only [Act.put, List.setIfInBounds_toArray, List.set_cons_zero, List.set_cons_succ]
    refine anyH_take (i := 7) (d := 33) (L' := #[true, false, true, true, false, true, true, true, false, false, false]) (v := ?v10) rfl rfl (by kernel_rfl) (fun _ _ _ h => h) (by rfl) ?hy10 (by assumption) ?rest10
    case hy10 => (intro wx hSw; (try dsimp only at hSw); (have t0 := Chg.cellS hSw Q0.out); go_simp; (try with_reducible rfl))
    simp only [Act.put, List.setIfInBounds_toArray, List.set_cons_zero, List.set_cons_succ]
    refine anyH_take (i := 8) (d := 34) (L' := #[true, false, true, true, false, true, true, true, true, false, false]) (v := ?v11) rfl rfl (by kernel_rfl) (fun _ _ _ h => h) (by rfl) ?hy11 (by assumption) ?rest11
    case hy11 => (intro wx hSw; (try dsimp only at hSw); (have t0 := Chg.cellS hSw Q0.out); go_simp; (try with_reducible rfl))
    simp only [Act.put, List.setIfInBounds_toArray, List.set_cons_zero, List.set_cons_succ]
    refine anyH_run (i := 1) (L' := #[true, true, true, true, false, true, true, true, true, false, false]) rfl (by kernel_rfl) (by rfl) (fun KK hKK => ?_)
    go_simp
    (refine (HS.out _ hHeld).mono ?_; rintro e w3 ⟨rfl, hc3⟩; have hm3 := Chg.k hHeld hc3; clear hc3; (try go_simp))
    refine hKK.out _ _ (by assumption) (fun hHeld => ?_)
    clear hKK KK
    try simp only [Act.put, List.setIfInBounds_toArray, List.set_cons_zero, List.set_cons_succ]
    refine anyH_run (i := 4) (L' := #[true, true, true, true, true, true, true, true, true, false, false]) rfl (by kernel_rfl) (by rfl) (fun KK hKK => ?_)
    go_simp
    (skip)
    refine hKK.out _ _ (by assumption) (fun hHeld => ?_)
    clear hKK KK
    try simp only [Act.put, List.setIfInBounds_toArray, List.set_cons_zero, List.set_cons_succ]
    refine anyH_run (i := 9) (L' := #[true, true, true, true, true, true, true, true, true, true, false]) rfl (by kernel_rfl) (by rfl) (fun KK hKK => ?_)
    go_simp
    (skip)
    refine hKK.out _ _ (by assumption) (fun hHeld => ?_)
    clear hKK KK
    try simp only [Act.put, List.setIfInBounds_toArray, List.set_cons_zero, List.set_cons_succ]
    refine anyH_run (i := 10) (L' := #[true, true, true, true, true, true, true, true, true, true, true]) rfl (by kernel_rfl) (by rfl) (fun KK hKK => ?_)
    go_simp
    (skip)
    refine hKK.out _ _ (by assumption) (fun hHeld => ?_)
    clear hKK KK
    try simp only [Act.put, List.setIfInBounds_toArray, List.set_cons_zero, List.set_cons_succ]
    refine wpAnyH_done (by kernel_rfl) ?_ _
    clear HS Q0
    try rw [hwr]
    by_cases hbig : d.room < (T : Int) + (l.length : Int)
    · have hx := HCE.out
      rw [if_pos hbig] at hx
      subst hx
      have hy := HCD.out
      rw [if_pos (by decide)] at hy
      subst hy
      have FIN := hd (DkOut.same ⟨_, _, _, _, _, H1.out.k hm3⟩ (HCF.out.trans hm3 (by simp)))
      clear hm3
      go_wp2_with fail
      go_ret
      exact ⟨rfl, FIN.out⟩
    · have hx := HCE.out
      rw [if_neg hbig] at hx
      subst hx
      have hy := HCD.out
      rw [if_neg (by decide)] at hy
      have HY := hd hy
      clear hy HCE HCD
      go_upto_region 9 with (fail)
      have H3 := hd (H1.out.k hm3)
      have HCF3 := hd (HCF.out.trans hm3 (by simp))
      have hl3 := HL1.out.k hm3
      obtain ⟨ao, c', hv, q0, q1, hfi⟩ := H3.out.file hlt
      have hby := H3.out.bytes _ (List.getElem_mem hlt)
      rw [hv] at hby
      have hgf := H3.out.good.files _ (List.mem_of_getElem? hfi)
      have hbl : bytesD d s = hs[i].2.1 := by rw [HBD.out, show d.files.getD i ([], 0) = hs[i].2 from files_get H3.out hlt]
      have hcd : setF (opD d) i (hs[i].2.1 ++ l, hs[i].2.2) = CD := by
        rw [← HY.out, show d.files.getD i ([], 0) = hs[i].2 from files_get H3.out hlt]
      rw [hbl] at hLT hroom
      have hnew : (hs[i].2.1.length + l.length : Nat) ≤ 4294967296 ∧ ((hs[i].2.1.length + l.length : Nat) : Int) ≤ d.room := by omega
      have hgood : GoodD (setF (opD d) i (hs[i].2.1 ++ l, hs[i].2.2)) := H3.out.good.putF i _ ⟨by rw [List.length_append]; have := hgf.1; omega, by rw [List.length_append]; exact hnew.2, by rw [List.length_append]; exact hnew.1⟩
      have HBS := hd (fun (w4 : World) (v' : Value) (hc : Chg hs[i].1.ownBlock.toList w3 w4) (hv : OwB w4 0 v' (hs[i].2.1 ++ l)) (hm : Moved w3 hs[i].1 v') => H3.out.byteSet hlt hc hv hm hgood)
      rw [hcd, hv] at HBS
      have hgn := ownsRow_ne2 hby H3.out.files (by decide)
      have HRF := hd H3.out.files
      have hne : (Value.slice (some ⟨g, 0, none⟩) hs.length c).ownBlock ≠ (Value.slice ao hs[i].2.1.length c').ownBlock := fun e => hgn g (by rw [← e]; rfl) rfl
      have hcap : hs[i].2.1.length + l.length ≤ 140737488355328 := by omega
      have hjlt : i * 2 < hs.length * 2 := by omega
      have hcx := (fileCells_get hs i hlt).1
      have HCX := hd hcx
      have HFN := hd (H3.out.fpf g rfl)
      have hfy : ∀ k, (Value.slice ao hs[i].2.1.length c').ownBlock = some k → k ∈ fp := fun k hk => H3.out.fph _ (List.getElem_mem hlt) k (by rw [hv]; exact hk)
      have HFY := hd hfy
      clear hfi hgf hbl hcd hLT hroom hnew hgood q1 hgn hcx hfy H1 HCF HL1 hm3
      go_wp2_with (at_builtin; refine wpAppB rfl _ _ rfl 0 _ _ rfl hby _ l rfl hl3 hcap (Nat.zero_le _) ?_; intro ao4 c4 w4 hr4 hg4 hm4; have hrow4 := World.ownsRow.kept HRF.out hg4 (.inr hne); have q4 := World.ownsRow.cellAt hrow4 (i * 2) hjlt; rw [HCX.out] at q4; have f4 := World.ownsRow.frozenAt hrow4 (i * 2))
      have hfin := HBS.out w4 _ (Chg.ofGrown hg4) hr4 hm4
      have hch : Chg fp w3 (w4.setCell ⟨g, i * 2, none⟩ (.slice ao4 (hs[i].2.1.length + l.length) c4)) := ((Chg.refl _ _).grown hg4 (fun k hk _ => HFY.out k hk)).setCell _ _ (fun _ => HFN.out)
      have FIN := hd (DkOut.mk ⟨_, _, _, _, _, hfin⟩ (HCF3.out.trans hch (fun _ h _ => h)) ((Gr.refl fp w).trans (Gr.cons hm4 HFY.out) HCF3.out.size))
      go_ret
      exact ⟨rfl, FIN.out⟩
end Go.Proofs.Ytpoohpmcopjklaa

/- turn, change, name. -/
namespace Go.Proofs.Ytpoohpmcopjklaa
open Go.RowKit

theorem strB_nil : strB [] = ByteArray.empty := rfl
theorem strB_beq (a b : List UInt8) : (strB a == strB b) = (a == b) := by
  show (a.toArray == b.toArray) = _
  simp
theorem strB_empty {s : List UInt8} (h : s ≠ []) : (strB s == ByteArray.empty) = false := by
  rw [← strB_nil, strB_beq]; simpa using h

set_option maxHeartbeats 400000 in
theorem turn_any (w : World) (nb : Nat) (es : Nm) (c : List UInt8 × List UInt8 × Nat) (h : MapAt w nb es) (h1 : c.1.length ≤ 140737488355328) (h2 : c.2.1.length ≤ 140737488355328) (hi : c.2.2 ≤ 4611686018427387904) (hn : es.length ≤ 10000000000) :
    Calls Try.prog 56 #[.map (some nb), .agg #[.string (strB c.1), .string (strB c.2.1), .int .i64 (c.2.2 : Int)]] w fun e w' => e = .returned (.tuple #[]) ∧ MapAt w' nb (turnD es c) ∧ Chg [nb] w w' := by
  obtain ⟨g, s, i⟩ := c
  dsimp only at h1 h2 hi ⊢
  have hnd : (es.map (·.1)).Nodup := let ⟨_, _, hr⟩ := h; hr.nodup
  have hlen : (ndel es g).length ≤ 10000000000 := Nat.le_trans (List.length_filter_le _ _) hn
  go_enter Try.func56, Try.ntmps56
  have kx := Blk.new w #[.string (strB g), .string (strB s), .int .i64 (i : Int)] 99
  have hm := h.alloc (.cells #[.string (strB g), .string (strB s), .int .i64 (i : Int)] 99)
  have hc := (Chg.refl [nb] w).alloc (.cells #[.string (strB g), .string (strB s), .int .i64 (i : Int)] 99)
  by_cases hg : g = []
  · subst hg
    by_cases hs : s = []
    · subst hs
      go_wp2_with fail
      go_end0
      exact ⟨rfl, by simp [turnD, *], hc⟩
    · have s1 := strB_empty hs
      have s2 : (s == []) = false := by simpa using hs
      go_wp2_with (refine wpPut rfl _ _ _ rfl nb _ s i rfl rfl rfl hm h2 hi (by omega) ?_; intro w2 hm2 hg2)
      go_end0
      exact ⟨rfl, by simp [turnD, *], hc.grown hg2 (by simp)⟩
  · have g1 := strB_empty hg
    have g2 : (g == []) = false := by simpa using hg
    by_cases hs : s = []
    · subst hs
      go_wp2_with (at_delete; refine wpDel rfl _ _ rfl nb _ g rfl rfl hm h1 ?_; intro w2 hm2 hg2; have kx2 := kx.grown hg2 (fun e => hm.apart kx (by injection e)); have r0 := kx2.cell 0; have r1 := kx2.cell 1; have r2 := kx2.cell 2; simp at r0 r1 r2)
      go_end0
      exact ⟨rfl, by simp [turnD, *], hc.grown hg2 (by simp)⟩
    · have s1 := strB_empty hs
      have s2 : (s == []) = false := by simpa using hs
      go_wp2_with (first | (at_delete; refine wpDel rfl _ _ rfl nb _ g rfl rfl hm h1 ?_; intro w2 hm2 hg2; have kx2 := kx.grown hg2 (fun e => hm.apart kx (by injection e)); have r0 := kx2.cell 0; have r1 := kx2.cell 1; have r2 := kx2.cell 2; simp at r0 r1 r2) | (refine wpPut rfl _ _ _ rfl nb _ s i rfl rfl rfl hm2 h2 hi (by omega) ?_; intro w3 hm3 hg3))
      go_end0
      exact ⟨rfl, by simp [turnD, *], (hc.grown hg2 (by simp)).grown hg3 (by simp)⟩
end Go.Proofs.Ytpoohpmcopjklaa

/- Disk.change. -/
namespace Go.Proofs.Ytpoohpmcopjklaa
open Go.RowKit

variable {w : World} {fp : List Nat} {b : Nat} {fv cv : Value} {nb sb : Nat} {hs : List HF} {d : Dsk}

theorem change_fin {w2 W w7 : World} {es : Nm} {g s : List UInt8} {i : Nat} {cv' : Value} (D : DkP w2 fp b fv cv nb sb hs { d with names := es }) (hcf : Chg fp w w2) (hA : Chg [] w2 W)
    (hr7 : w7.ownsRow 0 99 3 cv' (d.changes.length + 1) (chCells d.changes ++ [.string (strB g), .string (strB s), .int .i64 (i : Int)])) (hg7 : W.grownBy w7 cv.ownBlock) (hm7 : Moved W cv cv')
    (hg : GoodD { d with names := es, changes := d.changes ++ [(g, s, i)] }) (hS8 : Chg (b :: cv.ownBlock.toList) w2 (w7.setCell ⟨b, 4, none⟩ cv')) :
    DkOut w fp b { d with names := es, changes := d.changes ++ [(g, s, i)] } (w7.setCell ⟨b, 4, none⟩ cv') := by
  have hsz := hcf.size
  have hszA := hA.size
  refine DkOut.mk ⟨_, _, _, _, _, DkP.changed (D.k hA) (cs := d.changes ++ [(g, s, i)]) hg7 ?_ hg⟩ ?_ ?_
  · rw [chCells_app, List.length_append]; exact hr7
  · refine hcf.trans hS8 fun x hx _ => ?_
    rcases List.mem_cons.1 hx with rfl | hx
    · exact D.fpb
    · exact D.fpc x (by simpa using hx)
  · exact (Gr.refl fp w).trans (Gr.cons hm7 D.fpc) (by omega)

set_option maxHeartbeats 1000000 in
theorem change_any (h : DkP w fp b fv cv nb sb hs d) (g s : List UInt8) (i : Nat) (h1 : g.length ≤ 140737488355328) (h2 : s.length ≤ 140737488355328) (hi : i ≤ d.files.length) (hi' : s ≠ [] → i < d.files.length)
    (hb1 : (d.names.length : Int) + 1 ≤ d.ops) (hb2 : (d.sure.length + d.changes.length : Int) + 1 ≤ d.ops) :
    Calls Try.prog 62 #[.pointer (some ⟨b, 0, none⟩), .agg #[.string (strB g), .string (strB s), .int .i64 (i : Int)]] w fun e w' =>
      e = .returned (.tuple #[]) ∧ DkOut w fp b (changeD d (g, s, i)) w' := by
  have hg := h.good
  have ho := hg.ops
  have hnf := hg.nfiles
  have hnd : (d.names.map (·.1)).Nodup := let ⟨_, _, hr⟩ := h.names; hr.nodup
  have hg1 : GoodD { d with names := turnD d.names (g, s, i) } := by
    refine { hg with named := fun p hp => ?_, nnames := ?_ }
    · rcases mem_turnD hp with hp | ⟨hne, rfl⟩
      · exact hg.named p hp
      · exact hi' hne
    · have := length_turn hnd (g, s, i)
      show ((turnD d.names (g, s, i)).length : Int) ≤ d.ops
      omega
  have hg2 : GoodD (changeD d (g, s, i)) := by
    refine { hg1 with turned := fun c hc => ?_, idx := fun c hc => ?_, nchanges := ?_, clens := fun c hc => ?_ }
    · rcases List.mem_append.1 hc with hc | hc
      · exact hg.turned c hc
      · obtain rfl : c = (g, s, i) := by simpa using hc
        exact hi'
    · rcases List.mem_append.1 hc with hc | hc
      · exact hg.idx c hc
      · obtain rfl : c = (g, s, i) := by simpa using hc
        exact hi
    · show (d.sure.length : Int) + ((d.changes ++ [(g, s, i)]).length : Int) ≤ d.ops
      simp only [List.length_append, List.length_cons, List.length_nil]
      omega
    · rcases List.mem_append.1 hc with hc | hc
      · exact hg.clens c hc
      · obtain rfl : c = (g, s, i) := by simpa using hc
        exact ⟨h1, h2⟩
  have HG1 := hd hg1
  have HG2 := hd hg2
  clear hg hg1 hg2 hnd
  have hc := Chg.refl [] w
  have hblt := h.box.lt
  have hcvlt := fun k hk => (World.ownsRow.lt h.changes k hk).2
  go_enter Try.func62, Try.ntmps62
  go_upto_region 1 with (fail)
  have hcb1 := (Chg.refl [] w).alloc (.cells #[.string (strB g), .string (strB s), .int .i64 (i : Int)] 99)
  have kx := Blk.new w #[.string (strB g), .string (strB s), .int .i64 (i : Int)] 99
  replace h := h.k hcb1
  replace hc := hc.k hcb1
  generalize w.alloc (.cells #[.string (strB g), .string (strB s), .int .i64 (i : Int)] 99) = w0 at *
  clear hcb1
  have q0 := kx.cell 0
  have q1 := kx.cell 1
  have q2 := kx.cell 2
  have q3 := h.box.cell 2
  simp [boxCells] at q0 q1 q2 q3
  have Q0 := hd q0
  have Q1 := hd q1
  have Q2 := hd q2
  have Q3 := hd q3
  have HM := hd h.names
  clear q0 q1 q2 q3
  have N1 : w.heap.size ∉ [nb] := by simpa using fun e => h.names.apart kx e.symm
  have N2 : b ∉ [nb] := by simpa using fun e => h.names.apart h.box e.symm
  refine anyH_start (n := 6) (L := #[false, false, false, false, false, false]) (by kernel_rfl) (by kernel_rfl) (S := (fun wx => Chg [nb] w0 wx)) ((Chg.refl _ _).drew) (fun hHeld => ?_)
  refine anyH_take (i := 0) (d := 4) (L' := #[true, false, false, false, false, false]) (v := ?v3) rfl rfl (by kernel_rfl) (fun _ _ _ h => h) (by rfl) ?hy3 (by assumption) ?rest3
  case hy3 => (intro wx hSw; (try dsimp only at hSw); (have t0 := hSw.cellT Q0.out N1; have t1 := hSw.cellT Q1.out N1; have t2 := hSw.cellT Q2.out N1; have t3 := hSw.cellT Q3.out N2); go_simp; (try with_reducible rfl))
  simp only [Act.put, List.setIfInBounds_toArray, List.set_cons_zero, List.set_cons_succ]
  refine anyH_take (i := 1) (d := 5) (L' := #[true, true, false, false, false, false]) (v := ?v4) rfl rfl (by kernel_rfl) (fun _ _ _ h => h) (by rfl) ?hy4 (by assumption) ?rest4
  case hy4 => (intro wx hSw; (try dsimp only at hSw); (have t0 := hSw.cellT Q0.out N1; have t1 := hSw.cellT Q1.out N1; have t2 := hSw.cellT Q2.out N1; have t3 := hSw.cellT Q3.out N2); go_simp; (try with_reducible rfl))
  simp only [Act.put, List.setIfInBounds_toArray, List.set_cons_zero, List.set_cons_succ]
  refine anyH_take (i := 2) (d := 6) (L' := #[true, true, true, false, false, false]) (v := ?v5) rfl rfl (by kernel_rfl) (fun _ _ _ h => h) (by rfl) ?hy5 (by assumption) ?rest5
  case hy5 => (intro wx hSw; (try dsimp only at hSw); (have t0 := hSw.cellT Q0.out N1; have t1 := hSw.cellT Q1.out N1; have t2 := hSw.cellT Q2.out N1; have t3 := hSw.cellT Q3.out N2); go_simp; (try with_reducible rfl))
  simp only [Act.put, List.setIfInBounds_toArray, List.set_cons_zero, List.set_cons_succ]
  refine anyH_take (i := 3) (d := 7) (L' := #[true, true, true, true, false, false]) (v := ?v6) rfl rfl (by kernel_rfl) (fun _ _ _ h => h) (by rfl) ?hy6 (by assumption) ?rest6
  case hy6 => (intro wx hSw; (try dsimp only at hSw); (have t0 := hSw.cellT Q0.out N1; have t1 := hSw.cellT Q1.out N1; have t2 := hSw.cellT Q2.out N1; have t3 := hSw.cellT Q3.out N2); go_simp; (try with_reducible rfl))
  simp only [Act.put, List.setIfInBounds_toArray, List.set_cons_zero, List.set_cons_succ]
  refine anyH_take (i := 4) (d := 8) (L' := #[true, true, true, true, true, false]) (v := ?v7) rfl rfl (by kernel_rfl) (fun _ _ _ h => h) (by rfl) ?hy7 (by assumption) ?rest7
  case hy7 => (intro wx hSw; (try dsimp only at hSw); (have t0 := hSw.cellT Q0.out N1; have t1 := hSw.cellT Q1.out N1; have t2 := hSw.cellT Q2.out N1; have t3 := hSw.cellT Q3.out N2); go_simp; (try with_reducible rfl))
  simp only [Act.put, List.setIfInBounds_toArray, List.set_cons_zero, List.set_cons_succ]
  refine anyH_run (i := 5) (L' := #[true, true, true, true, true, true]) rfl (by kernel_rfl) (by rfl) (fun KK hKK => ?_)
  go_simp
  (refine (turn_any _ nb d.names (g, s, i) (HM.out.k (Chg.refl _ _).drew) h1 h2 (by show i ≤ _; omega) (by omega)).mono ?_; rintro e w2 ⟨rfl, hm2, hc2⟩; have hcc := (Chg.refl [nb] w0).drew.trans hc2 (by simp); clear hc2; try go_simp)
  refine hKK.out _ _ (by assumption) (fun hHeld => ?_)
  clear hKK KK
  try simp only [Act.put, List.setIfInBounds_toArray, List.set_cons_zero, List.set_cons_succ]
  refine wpAnyH_done (by kernel_rfl) ?_ _
  have D2 := h.named hcc hm2 HG1.out
  have hcf : Chg fp w w2 := (hc.mono (S' := fp) (by simp)).trans hcc (by simp only [List.mem_singleton]; rintro x rfl _; exact h.fpn)
  have kx2 := kx.chg hcc N1
  have q0 := kx2.cell 0
  have q1 := kx2.cell 1
  have q2 := kx2.cell 2
  have q3 := D2.box.cell 4
  simp [boxCells] at q0 q1 q2 q3
  replace Q0 := hd q0
  replace Q1 := hd q1
  replace Q2 := hd q2
  have hlt := D2.box.lt
  have HC := hd D2.changes
  have HD := hd D2
  have HCF := hd hcf
  have N1 : w.heap.size ∉ b :: cv.ownBlock.toList := by
    intro hx
    rcases List.mem_cons.1 hx with e | e
    · omega
    · rw [Option.mem_toList] at e; have := hcvlt _ e; omega
  clear q0 q1 q2 D2 hcf hm2 hcc kx kx2 h HM N2 Q3
  go_upto_region 2 with (fail)
  refine anyH_start (n := 11) (L := #[false, false, false, false, false, false, false, false, false, false, false]) (by kernel_rfl) (by kernel_rfl) (S := (fun wx => Chg (b :: cv.ownBlock.toList) w2 wx)) ((Chg.refl _ _).drew) (fun hHeld => ?_)
  refine anyH_take (i := 0) (d := 10) (L' := #[true, false, false, false, false, false, false, false, false, false, false]) (v := ?v11) rfl rfl (by kernel_rfl) (fun _ _ _ h => h) (by rfl) ?hy11 (by assumption) ?rest11
  case hy11 => (intro wx hSw; (try dsimp only at hSw); (have t0 := hSw.cellT Q0.out N1; have t1 := hSw.cellT Q1.out N1; have t2 := hSw.cellT Q2.out N1); go_simp; (try with_reducible rfl))
  simp only [Act.put, List.setIfInBounds_toArray, List.set_cons_zero, List.set_cons_succ]
  refine anyH_take (i := 1) (d := 11) (L' := #[true, true, false, false, false, false, false, false, false, false, false]) (v := ?v12) rfl rfl (by kernel_rfl) (fun _ _ _ h => h) (by rfl) ?hy12 (by assumption) ?rest12
  case hy12 => (intro wx hSw; (try dsimp only at hSw); (have t0 := hSw.cellT Q0.out N1; have t1 := hSw.cellT Q1.out N1; have t2 := hSw.cellT Q2.out N1); go_simp; (try with_reducible rfl))
  simp only [Act.put, List.setIfInBounds_toArray, List.set_cons_zero, List.set_cons_succ]
  refine anyH_take (i := 2) (d := 12) (L' := #[true, true, true, false, false, false, false, false, false, false, false]) (v := ?v13) rfl rfl (by kernel_rfl) (fun _ _ _ h => h) (by rfl) ?hy13 (by assumption) ?rest13
  case hy13 => (intro wx hSw; (try dsimp only at hSw); (have t0 := hSw.cellT Q0.out N1; have t1 := hSw.cellT Q1.out N1; have t2 := hSw.cellT Q2.out N1); go_simp; (try with_reducible rfl))
  simp only [Act.put, List.setIfInBounds_toArray, List.set_cons_zero, List.set_cons_succ]
  refine anyH_take (i := 3) (d := 13) (L' := #[true, true, true, true, false, false, false, false, false, false, false]) (v := ?v14) rfl rfl (by kernel_rfl) (fun _ _ _ h => h) (by rfl) ?hy14 (by assumption) ?rest14
  case hy14 => (intro wx hSw; (try dsimp only at hSw); (have t0 := hSw.cellT Q0.out N1; have t1 := hSw.cellT Q1.out N1; have t2 := hSw.cellT Q2.out N1); go_simp; (try with_reducible rfl))
  simp only [Act.put, List.setIfInBounds_toArray, List.set_cons_zero, List.set_cons_succ]
  refine anyH_take (i := 5) (d := 15) (L' := #[true, true, true, true, false, true, false, false, false, false, false]) (v := ?v15) rfl rfl (by kernel_rfl) (fun _ _ _ h => h) (by rfl) ?hy15 (by assumption) ?rest15
  case hy15 => (intro wx hSw; (try dsimp only at hSw); (have t0 := hSw.cellT Q0.out N1; have t1 := hSw.cellT Q1.out N1; have t2 := hSw.cellT Q2.out N1); go_simp; (try with_reducible rfl))
  simp only [Act.put, List.setIfInBounds_toArray, List.set_cons_zero, List.set_cons_succ]
  refine anyH_run2 (i := 4) (j := 6) (L1 := #[true, true, true, true, true, true, false, false, false, false, false]) (L2 := #[true, true, true, true, false, true, true, false, false, false, false]) rfl rfl (by kernel_rfl) (by rfl) (by rfl) (fun KK hKK => ?_) (fun KK hKK => ?_)
  · go_simp
    (skip)
    refine hKK.out _ _ (by assumption) (fun hHeld => ?_)
    clear hKK KK
    try simp only [Act.put, List.setIfInBounds_toArray, List.set_cons_zero, List.set_cons_succ]
    refine anyH_run (i := 6) (L' := #[true, true, true, true, true, true, true, false, false, false, false]) rfl (by kernel_rfl) (by rfl) (fun KK hKK => ?_)
    go_simp
    (have hm6 := hHeld.alloc (.cells #[.string (strB g), .string (strB s), .int .i64 (i : Int)] 99))
    refine hKK.out _ _ (by assumption) (fun hHeld => ?_)
    clear hKK KK
    try simp only [Act.put, List.setIfInBounds_toArray, List.set_cons_zero, List.set_cons_succ]
    refine anyH_run (i := 7) (L' := #[true, true, true, true, true, true, true, true, false, false, false]) rfl (by kernel_rfl) (by rfl) (fun KK hKK => ?_)
    (have hmA := ((Chg.refl [] w2).alloc (.cells #[.string (strB g), .string (strB s), .int .i64 (i : Int)] 99)).drew; refine wp_appT rowCh _ _ rfl 0 cv d.changes.length (chCells d.changes) rfl (ownsRow_k HC.out hmA) _ 1 [.string (strB g), .string (strB s), .int .i64 (i : Int)] rfl (Rd.keep (Rd.lit w2 3 1 _ _ _ rfl rfl (by decide)) ((Chg.refl [] _).drew) (by simp)) (by simp [Value.oneCell']) (by omega) (by omega) (Nat.zero_le _) ?_; intro ao7 c7 w7 hr7 hg7 hm7; have DA := HD.out.k hmA; have bx7 := DA.box.grown hg7 (ownsRow_apart DA.changes DA.box (by decide)); have f7 := bx7.free 4; have q7 := bx7.cell 4; simp [boxCells] at q7; have hS7 : Chg (b :: cv.ownBlock.toList) w2 w7 := (hmA.mono (S' := b :: cv.ownBlock.toList) (by simp)).grown hg7 (by intro k hk _; simp [hk]); have P7 := hd (And.intro hr7 (And.intro hg7 hm7)); have HS7 := hd hS7; clear hr7 hg7 hm7 hmA DA bx7 hS7; (try have hS7 := HS7.out))
    refine hKK.out _ _ (by assumption) (fun hHeld => ?_)
    clear hKK KK
    try simp only [Act.put, List.setIfInBounds_toArray, List.set_cons_zero, List.set_cons_succ]
    refine anyH_take (i := 8) (d := 18) (L' := #[true, true, true, true, true, true, true, true, true, false, false]) (v := ?v18) rfl rfl (by kernel_rfl) (fun _ _ _ h => h) (by rfl) ?hy18 (by assumption) ?rest18
    case hy18 => (intro wx hSw; (try dsimp only at hSw); (have t0 := hSw.cellT Q0.out N1; have t1 := hSw.cellT Q1.out N1; have t2 := hSw.cellT Q2.out N1); go_simp; (try with_reducible rfl))
    simp only [Act.put, List.setIfInBounds_toArray, List.set_cons_zero, List.set_cons_succ]
    refine anyH_take (i := 9) (d := 19) (L' := #[true, true, true, true, true, true, true, true, true, true, false]) (v := ?v19) rfl rfl (by kernel_rfl) (fun _ _ _ h => h) (by rfl) ?hy19 (by assumption) ?rest19
    case hy19 => (intro wx hSw; (try dsimp only at hSw); (have t0 := hSw.cellT Q0.out N1; have t1 := hSw.cellT Q1.out N1; have t2 := hSw.cellT Q2.out N1); go_simp; (try with_reducible rfl))
    simp only [Act.put, List.setIfInBounds_toArray, List.set_cons_zero, List.set_cons_succ]
    refine anyH_run (i := 10) (L' := #[true, true, true, true, true, true, true, true, true, true, true]) rfl (by kernel_rfl) (by rfl) (fun KK hKK => ?_)
    go_simp
    (have hS8 : Chg (b :: cv.ownBlock.toList) w2 (w7.setCell ⟨b, 4, none⟩ (.slice ao7 (d.changes.length + 1) c7)) := HS7.out.setCell _ _ (by simp))
    refine hKK.out _ _ (by assumption) (fun hHeld => ?_)
    clear hKK KK
    try simp only [Act.put, List.setIfInBounds_toArray, List.set_cons_zero, List.set_cons_succ]
    refine wpAnyH_done (by kernel_rfl) ?_ _
    clear hHeld; (try clear hS7); go_wp2_with fail; go_end0; exact ⟨rfl, change_fin HD.out HCF.out (((Chg.refl [] w2).alloc (.cells #[.string (strB g), .string (strB s), .int .i64 (i : Int)] 99)).drew) P7.out.1 P7.out.2.1 P7.out.2.2 HG2.out hS8⟩
  · go_simp
    (have hm6 := hHeld.alloc (.cells #[.string (strB g), .string (strB s), .int .i64 (i : Int)] 99))
    refine hKK.out _ _ (by assumption) (fun hHeld => ?_)
    clear hKK KK
    try simp only [Act.put, List.setIfInBounds_toArray, List.set_cons_zero, List.set_cons_succ]
    refine anyH_run (i := 4) (L' := #[true, true, true, true, true, true, true, false, false, false, false]) rfl (by kernel_rfl) (by rfl) (fun KK hKK => ?_)
    go_simp
    (skip)
    refine hKK.out _ _ (by assumption) (fun hHeld => ?_)
    clear hKK KK
    try simp only [Act.put, List.setIfInBounds_toArray, List.set_cons_zero, List.set_cons_succ]
    refine anyH_run (i := 7) (L' := #[true, true, true, true, true, true, true, true, false, false, false]) rfl (by kernel_rfl) (by rfl) (fun KK hKK => ?_)
    (have hmA := ((Chg.refl [] w2).alloc (.cells #[.string (strB g), .string (strB s), .int .i64 (i : Int)] 99)).drew; refine wp_appT rowCh _ _ rfl 0 cv d.changes.length (chCells d.changes) rfl (ownsRow_k HC.out hmA) _ 1 [.string (strB g), .string (strB s), .int .i64 (i : Int)] rfl (Rd.keep (Rd.lit w2 3 1 _ _ _ rfl rfl (by decide)) ((Chg.refl [] _).drew) (by simp)) (by simp [Value.oneCell']) (by omega) (by omega) (Nat.zero_le _) ?_; intro ao7 c7 w7 hr7 hg7 hm7; have DA := HD.out.k hmA; have bx7 := DA.box.grown hg7 (ownsRow_apart DA.changes DA.box (by decide)); have f7 := bx7.free 4; have q7 := bx7.cell 4; simp [boxCells] at q7; have hS7 : Chg (b :: cv.ownBlock.toList) w2 w7 := (hmA.mono (S' := b :: cv.ownBlock.toList) (by simp)).grown hg7 (by intro k hk _; simp [hk]); have P7 := hd (And.intro hr7 (And.intro hg7 hm7)); have HS7 := hd hS7; clear hr7 hg7 hm7 hmA DA bx7 hS7; (try have hS7 := HS7.out))
    refine hKK.out _ _ (by assumption) (fun hHeld => ?_)
    clear hKK KK
    try simp only [Act.put, List.setIfInBounds_toArray, List.set_cons_zero, List.set_cons_succ]
    refine anyH_take (i := 8) (d := 18) (L' := #[true, true, true, true, true, true, true, true, true, false, false]) (v := ?v24) rfl rfl (by kernel_rfl) (fun _ _ _ h => h) (by rfl) ?hy24 (by assumption) ?rest24
    case hy24 => (intro wx hSw; (try dsimp only at hSw); (have t0 := hSw.cellT Q0.out N1; have t1 := hSw.cellT Q1.out N1; have t2 := hSw.cellT Q2.out N1); go_simp; (try with_reducible rfl))
    simp only [Act.put, List.setIfInBounds_toArray, List.set_cons_zero, List.set_cons_succ]
    refine anyH_take (i := 9) (d := 19) (L' := #[true, true, true, true, true, true, true, true, true, true, false]) (v := ?v25) rfl rfl (by kernel_rfl) (fun _ _ _ h => h) (by rfl) ?hy25 (by assumption) ?rest25
    case hy25 => (intro wx hSw; (try dsimp only at hSw); (have t0 := hSw.cellT Q0.out N1; have t1 := hSw.cellT Q1.out N1; have t2 := hSw.cellT Q2.out N1); go_simp; (try with_reducible rfl))
    simp only [Act.put, List.setIfInBounds_toArray, List.set_cons_zero, List.set_cons_succ]
    refine anyH_run (i := 10) (L' := #[true, true, true, true, true, true, true, true, true, true, true]) rfl (by kernel_rfl) (by rfl) (fun KK hKK => ?_)
    go_simp
    (have hS8 : Chg (b :: cv.ownBlock.toList) w2 (w7.setCell ⟨b, 4, none⟩ (.slice ao7 (d.changes.length + 1) c7)) := HS7.out.setCell _ _ (by simp))
    refine hKK.out _ _ (by assumption) (fun hHeld => ?_)
    clear hKK KK
    try simp only [Act.put, List.setIfInBounds_toArray, List.set_cons_zero, List.set_cons_succ]
    refine wpAnyH_done (by kernel_rfl) ?_ _
    clear hHeld; (try clear hS7); go_wp2_with fail; go_end0; exact ⟨rfl, change_fin HD.out HCF.out (((Chg.refl [] w2).alloc (.cells #[.string (strB g), .string (strB s), .int .i64 (i : Int)] 99)).drew) P7.out.1 P7.out.2.1 P7.out.2.2 HG2.out hS8⟩
end Go.Proofs.Ytpoohpmcopjklaa

/- disk.name. -/
namespace Go.Proofs.Ytpoohpmcopjklaa
open Go.RowKit

theorem Bs.cell {w : World} {b off n c : Nat} {l : List UInt8} (h : Bs w (.slice (some ⟨b, off, none⟩) n c) l) (j : Nat) (hj : j < l.length) : w.cell? ⟨b, off + j, none⟩ = some (.int .u8 (n8 l[j])) := by
  obtain ⟨b', off', cap, e, -, hcell⟩ := Rd.cells h (by omega)
  simp only [Value.slice.injEq, Option.some.injEq, Addr.mk.injEq, and_true] at e
  obtain ⟨⟨rfl, rfl⟩, -, -⟩ := e
  have := hcell j (.int .u8 (n8 l[j])) (by rw [List.getElem?_map, List.getElem?_eq_getElem hj]; rfl)
  by_cases h0 : j = 0
  · subst h0; simpa [Addr.add] using this
  · simpa [Addr.add, h0] using this

set_option maxHeartbeats 1000000 in
theorem name_any (w : World) (s : List UInt8) (hs : s.length ≤ 140737488355328) : Calls Try.prog 61 #[.string (strB s)] w fun e w' => e = .returned (.bool (nameD s)) ∧ Chg [] w w' := by
  have hsz : (strB s).size = s.length := strB_size s
  have hdl : (strB s).data.toList = s := strB_list s
  have hsl : (strB s).size ≤ 140737488355328 := by rw [hsz]; exact hs
  have Hdl := hd hdl
  have Hsz := hd hsz
  clear hdl hsz
  have hE : s ≠ [] → (strB s == ByteArray.empty) = false := strB_empty
  obtain ⟨N, hN⟩ : ∃ N, nameD s = N := ⟨_, rfl⟩
  have HN := hd hN
  rw [hN]
  clear hN
  go_enter Try.func61, Try.ntmps61
  go_upto_region 1 with (fail)
  go_wp2_with (refine wpOfStr rfl _ rfl _ rfl hsl ?_; intro g c w1 hb1 hg1 hc1; rw [Hdl.out, Hsz.out] at hb1; rw [Hsz.out])
  subst hg1
  have hm1 : s.length ≤ 140737488355328 := hs
  go_loopw [4, 8] (fun _ i wr => ∃ k : Nat, k ≤ s.length ∧ i = .int .i64 k ∧ (s.take k).all signD = true ∧ wr = w1) (fun _ i _ => s.length - (intOf i).toNat)
  case atStart => exact ⟨0, by omega, rfl, by simp, rfl⟩
  case round =>
    obtain ⟨k, hk, rfl, hall, rfl⟩ := hrel
    by_cases hlt : k < s.length
    · have hc := hb1.cell k hlt
      have hT : (s.take (k + 1)).all signD = ((s.take k).all signD && signD s[k]) := by
        rw [List.take_succ_eq_append_getElem hlt, List.all_append]; simp
      rw [hall, Bool.true_and] at hT
      have hbad : signD s[k] = false → N = false := by
        intro h
        rw [← HN.out]
        unfold nameD
        have : s.all signD = false := by
          rw [List.all_eq_false]; exact ⟨s[k], List.getElem_mem hlt, by simp [h]⟩
        rw [this]; rfl
      have hsg : signD s[k] = ((decide (97 ≤ n8 s[k]) && decide (n8 s[k] ≤ 122)) || (decide (48 ≤ n8 s[k]) && decide (n8 s[k] ≤ 57)) || n8 s[k] == 45) := by
        unfold signD n8
        rw [Bool.eq_iff_iff]
        simp
        omega
      have HT := hd hT
      have HB := hd hbad
      have HSG := hd hsg
      clear hT hbad hsg hall
      rw [Nat.zero_add] at hc
      generalize n8 s[k] = z at *
      generalize signD s[k] = sg at *
      by_cases h1 : z < 97
      · by_cases h3 : z < 48
        · by_cases h5 : z = 45
          · have h5' : (z == 45) = true := by simpa using h5
            have hs' : sg = true := by rw [HSG.out, h5']; simp
            go_wp2_with fail
            go_roundw
            case rel => exact ⟨k + 1, by omega, by go_num, by rw [HT.out, hs'], by trivial⟩
            case measure => simp [intOf]; omega
          · have h5' : (z == 45) = false := by simpa using h5
            have hs' : sg = false := by rw [HSG.out, h5']; simp <;> omega
            go_wp2_with fail
            go_ret
            have hbN := HB.out hs'
            subst hbN
            exact ⟨rfl, hc1⟩
        · by_cases h4 : 57 < z
          · by_cases h5 : z = 45
            · have h5' : (z == 45) = true := by simpa using h5
              have hs' : sg = true := by rw [HSG.out, h5']; simp
              go_wp2_with fail
              go_roundw
              case rel => exact ⟨k + 1, by omega, by go_num, by rw [HT.out, hs'], by trivial⟩
              case measure => simp [intOf]; omega
            · have h5' : (z == 45) = false := by simpa using h5
              have hs' : sg = false := by rw [HSG.out, h5']; simp <;> omega
              go_wp2_with fail
              go_ret
              have hbN := HB.out hs'
              subst hbN
              exact ⟨rfl, hc1⟩
          · have hs' : sg = true := by rw [HSG.out]; simp <;> omega
            go_wp2_with fail
            go_roundw
            case rel => exact ⟨k + 1, by omega, by go_num, by rw [HT.out, hs'], by trivial⟩
            case measure => simp [intOf]; omega
      · by_cases h2 : 122 < z
        · have h3 : ¬ z < 48 := by omega
          have h4 : 57 < z := by omega
          have h5' : (z == 45) = false := by simp; omega
          have hs' : sg = false := by rw [HSG.out, h5']; simp <;> omega
          go_wp2_with fail
          go_ret
          have hbN := HB.out hs'
          subst hbN
          exact ⟨rfl, hc1⟩
        · have hs' : sg = true := by rw [HSG.out]; simp <;> omega
          go_wp2_with fail
          go_roundw
          case rel => exact ⟨k + 1, by omega, by go_num, by rw [HT.out, hs'], by trivial⟩
          case measure => simp [intOf]; omega
    · obtain rfl : k = s.length := by omega
      rw [List.take_length] at hall
      have hN : N = (decide (s ≠ []) && decide (s.length ≤ 24)) := by rw [← HN.out]; unfold nameD; rw [hall, Bool.true_and]
      have HN' := hd hN
      clear hN hall
      by_cases h0 : s = []
      · have h0N : N = false := by rw [HN'.out]; simp [h0]
        subst h0
        go_wp2_with fail
        go_ret
        subst h0N
        exact ⟨rfl, hc1⟩
      · have h0e := hE h0
        have h0e' : (s == []) = false := by simpa using h0
        by_cases h24 : s.length ≤ 24
        · have h0N : N = true := by rw [HN'.out]; simp [h0, h24]
          have h24' : (s.length : Int) ≤ 24 := by omega
          go_wp2_with fail
          go_ret
          subst h0N
          exact ⟨rfl, hc1⟩
        · have h0N : N = false := by rw [HN'.out]; simp [h24]
          have h24' : ¬ (s.length : Int) ≤ 24 := by omega
          go_wp2_with fail
          go_ret
          subst h0N
          exact ⟨rfl, hc1⟩
end Go.Proofs.Ytpoohpmcopjklaa

/- Disk.Create. -/
namespace Go.Proofs.Ytpoohpmcopjklaa
open Go.RowKit

variable {w : World} {fp : List Nat} {b : Nat} {fv cv : Value} {nb sb : Nat} {hs : List HF} {d : Dsk}

/-- The row of files has grown by an empty one. -/
theorem DkP.filed {w w' : World} {fp : List Nat} {b : Nat} {fv cv : Value} {nb sb : Nat} {hs : List HF} {d : Dsk} (h : DkP w fp b fv cv nb sb hs d) {fv' : Value}
    (hgw : w.grownBy w' fv.ownBlock) (hrow : w'.ownsRow 0 94 2 fv' (hs.length + 1) (fileCells hs ++ [.slice none 0 0, .int .i64 0])) (hg : GoodD { d with files := d.files ++ [([], 0)] }) :
    DkP (w'.setCell ⟨b, 1, none⟩ fv') (fv'.ownBlock.toList ++ fp) b fv' cv nb sb (hs ++ [(.slice none 0 0, [], 0)]) { d with files := d.files ++ [([], 0)] } := by
  have hc := Chg.ofGrown hgw
  have hbox : Blk w' b (boxCells fv cv nb sb d) 85 := h.box.grown hgw (ownsRow_apart h.files h.box (by decide))
  exact
  { box := hbox.set 1 fv'
    names := (h.names.grown hgw fun e => h.names.apartRow h.files e.symm).set _ _ (h.names.apart h.box)
    sure := (h.sure.grown hgw fun e => h.sure.apartRow h.files e.symm).set _ _ (h.sure.apart h.box)
    files := by
      rw [fileCells_app, List.length_append]
      exact ownsRow_set hrow hbox (by decide) 1 _
    same := by rw [List.map_append, h.same]; rfl
    changes := ownsRow_set (ownsRow_chg h.changes hc fun k hk => by simpa using ownsRow_ne2 h.changes h.files (by decide) k hk) hbox (by decide) 1 _
    bytes := fun f hf => by
      rcases List.mem_append.1 hf with hf | hf
      · exact ownsRow_set (ownsRow_chg (h.bytes f hf) hc fun k hk => by simpa using ownsRow_ne2 (h.bytes f hf) h.files (by decide) k hk) hbox (by decide) 1 _
      · obtain rfl : f = (.slice none 0 0, [], 0) := by simpa using hf
        exact OwB.nil _ _
    apart := by
      rw [List.pairwise_append]
      refine ⟨h.apart, by simp, fun f _ g hg k _ => ?_⟩
      obtain rfl : g = (.slice none 0 0, [], 0) := by simpa using hg
      simp [Value.ownBlock]
    ne := h.ne
    fpb := by simp [h.fpb]
    fpn := by simp [h.fpn]
    fps := by simp [h.fps]
    fpf := fun k hk => by simp [hk]
    fpc := fun k hk => by simp [h.fpc k hk]
    fph := fun f hf k hk => by
      rcases List.mem_append.1 hf with hf | hf
      · simp [h.fph f hf k hk]
      · obtain rfl : f = (.slice none 0 0, [], 0) := by simpa using hf
        simp [Value.ownBlock] at hk
    fpl := fun k hk => by
      rw [size_set]
      rcases List.mem_append.1 hk with hk | hk
      · exact (World.ownsRow.lt hrow k (by simpa using hk)).2
      · exact Nat.lt_of_lt_of_le (h.fpl k hk) hc.size
    good := hg }
theorem GoodD.filed {d : Dsk} (h : GoodD d) (ho : d.ops < 1073741824) : GoodD { opD d with files := d.files ++ [([], 0)] } := by
  have ⟨a0, a1, a2, a3, a4, a5, a6, a7, a8, a9, a10⟩ := h
  refine { h.op ho with named := fun p hp => ?_, sured := fun p hp => ?_, turned := fun c hc hne => ?_, idx := fun c hc => ?_, files := fun f hf => ?_, nfiles := ?_ }
  · have := a1 p hp; simp; omega
  · have := a2 p hp; simp; omega
  · have := a3 c hc hne; simp; omega
  · have := a4 c hc; simp; omega
  · rcases List.mem_append.1 hf with hf | hf
    · exact a5 f hf
    · obtain rfl : f = ([], 0) := by simpa using hf
      exact ⟨Nat.le_refl _, by show (0 : Int) ≤ d.room; exact a0.1, by simp⟩
  · show ((d.files ++ [(([] : List UInt8), 0)]).length : Int) ≤ d.ops + 1
    simp; omega

set_option maxHeartbeats 2000000 in
theorem Create_any (h : Dk w fp b d) (s : List UInt8) (hsl : s.length ≤ 140737488355328) (hops : d.ops < 1073741824) :
    Calls Try.prog 32 #[.pointer (some ⟨b, 0, none⟩), .string (strB s)] w fun e w' => e = .returned (.int .i64 (createE d s)) ∧ DkOut w fp b (createD d s) w' := by
  obtain ⟨fv, cv, nb, sb, hs, h⟩ := h
  have hg := h.good
  obtain ⟨CE, hCE⟩ : ∃ x, createE d s = x := ⟨_, rfl⟩
  obtain ⟨CD, hCD⟩ : ∃ x, createD d s = x := ⟨_, rfl⟩
  rw [hCE, hCD]
  have HG := hd hg
  have hCE2 := hCE
  unfold createE at hCE2
  unfold createD at hCD
  rw [hCE] at hCD
  clear hCE
  go_enter Try.func32, Try.ntmps32
  go_wp2_with fail
  refine (op_any h hops).mono ?_
  rintro e w1 ⟨rfl, h1, hc1, hz1⟩
  have hcf : Chg fp w w1 := hc1.mono (by simp only [List.mem_singleton]; rintro x rfl _; exact h.fpb)
  clear hc1 hz1 h
  by_cases hE : opE d = 0
  case neg =>
    rw [if_pos hE] at hCE2
    rw [if_pos (by rw [← hCE2]; exact hE)] at hCD
    subst hCD
    subst hCE2
    have hE' : (opE d == 0) = false := by simpa using hE
    clear hE
    go_wp2_with fail
    go_ret
    exact ⟨rfl, DkOut.same ⟨_, _, _, _, _, h1⟩ hcf⟩
  rw [if_neg (by simpa using hE)] at hCE2
  have q2 := h1.box.cell 2
  simp [boxCells] at q2
  have hm : MapAt w1 nb d.names := h1.names
  rw [hE]
  clear hE
  generalize hr : nget d.names s = r at hCE2
  go_upto_region 5 with (at_lookup; refine wpLook rfl _ _ rfl nb _ s rfl rfl hm hsl ?_; rw [hr])
  clear q2 hr
  have hnl := hg.nnames
  have hfl := hg.nfiles
  have hol := hg.ops
  clear hg
  have H1 := hd h1
  have HM := hd hm
  have HCF := hd hcf
  clear h1 hm hcf
  go_wp2_with fail
  refine (name_any w1 s hsl).mono ?_
  rintro e w2 ⟨rfl, hc2⟩
  have h2 := H1.out.k hc2
  have hm2 := HM.out.k hc2
  have hcf2 := HCF.out.trans hc2 (by simp)
  clear hc2 H1 HM HCF
  have q2 := h2.box.cell 2
  simp [boxCells] at q2
  have h20 : Dk w2 fp b (opD d) := ⟨_, _, _, _, _, h2⟩
  cases hn : nameD s
  case false =>
    rw [if_pos (by simp [hn])] at hCE2
    subst hCE2
    rw [if_pos (by decide)] at hCD
    subst hCD
    have H2 := hd (DkOut.same h20 hcf2)
    clear h2 h20 hm2 hcf2 q2
    go_wp2_with fail
    go_ret
    exact ⟨rfl, H2.out⟩
  rw [if_neg (by simp [hn])] at hCE2
  cases r with
  | some i =>
    rw [if_pos (by rfl)] at hCE2
    subst hCE2
    rw [if_pos (by decide)] at hCD
    subst hCD
    have H2 := hd (DkOut.same h20 hcf2)
    clear h2 h20 hm2 hcf2 q2
    go_wp2_with fail
    go_ret
    exact ⟨rfl, H2.out⟩
  | none =>
    rw [if_neg (by decide)] at hCE2
    by_cases h64 : 64 ≤ d.names.length
    · rw [if_pos h64] at hCE2
      subst hCE2
      rw [if_pos (by decide)] at hCD
      subst hCD
      have H2 := hd (DkOut.same h20 hcf2)
      have h64' : (64 : Int) ≤ (d.names.length : Int) := by omega
      clear h2 h20 hcf2
      go_wp2_with (at_len; refine wpLenM rfl _ rfl nb _ rfl hm2 ?_)
      go_ret
      exact ⟨rfl, H2.out⟩
    · rw [if_neg h64] at hCE2
      subst hCE2
      rw [if_neg (by decide)] at hCD
      have h64' : ¬ (64 : Int) ≤ (d.names.length : Int) := by omega
      have HGF := hd (HG.out.filed hops)
      have hfl' : hs.length = d.files.length := h2.len
      have hfi : (hs.length : Int) ≤ d.ops := by omega
      have HFL := hd hfl'
      have HCD := hd hCD
      clear hfl' hCD
      go_upto_region 11 with (at_len; refine wpLenM rfl _ rfl nb _ rfl hm2 ?_)
      have q1 := h2.box.cell 1
      simp [boxCells] at q1
      have hA := (Chg.refl [] w2).alloc (.cells #[.slice none 0 0, .int .i64 0] 94)
      have hrow := ownsRow_k h2.files hA
      have hbA := (h2.box.alloc (.cells #[.slice none 0 0, .int .i64 0] 94))
      have hap := ownsRow_apart hrow hbA (by decide)
      have H2 := hd h2
      have HCF2 := hd hcf2
      have HM2 := hd hm2
      clear h2 hcf2 hm2 h20 q2
      go_upto_region 12 with (at_builtin; refine wpApp rowFile rfl _ _ rfl 0 fv hs.length (fileCells hs) rfl hrow _ 1 [.slice none 0 0, .int .i64 0] rfl (Rd.lit w2 2 1 _ _ _ rfl rfl (by decide)) (by simp [Value.oneCell']) (by omega) (by omega) (Nat.zero_le _) ?_; intro ao3 c3 w3 hr3 hg3 hm3 _; have hb3 := hbA.grown hg3 hap; have q3 := hb3.cell 1; have f3 := hb3.free 1; simp [boxCells] at q3)
      have HD4 := hd (DkP.filed (H2.out.k hA) hg3 hr3 HGF.out)
      have hcf4 : Chg fp w (w3.setCell ⟨b, 1, none⟩ (.slice ao3 (hs.length + 1) c3)) := (((HCF2.out.trans hA (by simp))).grown hg3 (fun k hk _ => H2.out.fpf k hk)).setCell _ _ (fun _ => H2.out.fpb)
      have hgr : Gr fp w ((Value.slice ao3 (hs.length + 1) c3).ownBlock.toList ++ fp) := (Gr.refl fp w).trans (Gr.cons hm3 H2.out.fpf) (HCF2.out.trans hA (by simp)).size
      have HCF4 := hd hcf4
      have HGR := hd hgr
      clear hcf4 hgr hr3 hg3 hm3 hb3 f3 q3 hA hrow hbA hap q1 HCF2 HM2 H2
      generalize w3.setCell ⟨b, 1, none⟩ (.slice ao3 (hs.length + 1) c3) = w4 at *
      have q1 := HD4.out.box.cell 1
      simp [boxCells] at q1
      have hx1 : (hs.length : Int) = (d.files.length : Int) := by rw [HFL.out]
      go_wp2_with fail
      refine (change_any HD4.out [] s d.files.length (by simp) hsl (by simp [opD]) (by simp [opD]) (by show (d.names.length : Int) + 1 ≤ d.ops + 1; omega) (by show (d.sure.length + d.changes.length : Int) + 1 ≤ d.ops + 1; have := HG.out.nchanges; omega)).mono ?_
      rintro e w5 ⟨rfl, h5⟩
      have H5 := hd (h5.chain HCF4.out HGR.out)
      clear h5
      go_wp2_with fail
      go_ret
      exact ⟨rfl, by rw [← HCD.out]; exact H5.out⟩
end Go.Proofs.Ytpoohpmcopjklaa

/- names.digits. -/
namespace Go.Proofs.Ytpoohpmcopjklaa
open Go.RowKit

def hexB (k : Nat) : UInt8 := UInt8.ofNat (if k < 10 then 48 + k else 87 + k)
def digV : Array Value := #[.int .u8 48, .int .u8 49, .int .u8 50, .int .u8 51, .int .u8 52, .int .u8 53, .int .u8 54, .int .u8 55, .int .u8 56, .int .u8 57, .int .u8 97, .int .u8 98, .int .u8 99, .int .u8 100, .int .u8 101, .int .u8 102]
set_option maxHeartbeats 400000 in
theorem digits_any (w : World) : Calls Try.prog 73 #[] w fun e w' => e = .returned (.agg digV) ∧ Chg [] w w' := by
  go_enter Try.func73, Try.ntmps73
  go_wp2_with fail
  refine bodyPost_ret (v := .agg digV) ?_ rfl ⟨rfl, (Chg.refl _ _).alloc _⟩
  simp only [results]
  go_simp
  rfl
end Go.Proofs.Ytpoohpmcopjklaa

/- names.Segment. -/
namespace Go.Proofs.Ytpoohpmcopjklaa
open Go.RowKit

def nibB (n j : Nat) : UInt8 := hexB (n / 2 ^ (60 - 4 * j) % 16)
def hexS (c : UInt8) (n j : Nat) : List UInt8 := c :: (List.range j).map (nibB n)
def segB (n : Nat) : List UInt8 := hexS 106 n 16
theorem hexS_length (c : UInt8) (n j : Nat) : (hexS c n j).length = j + 1 := by simp [hexS]
theorem hexS_succ (c : UInt8) (n j : Nat) : hexS c n (j + 1) = hexS c n j ++ [nibB n j] := by simp [hexS, List.range_succ]
theorem digV_get : ∀ k, k < 16 → digV[k]? = some (.int .u8 (n8 (hexB k))) := by
  intro k hk
  match k, hk with
  | 0, _ => rfl
  | 1, _ => rfl
  | 2, _ => rfl
  | 3, _ => rfl
  | 4, _ => rfl
  | 5, _ => rfl
  | 6, _ => rfl
  | 7, _ => rfl
  | 8, _ => rfl
  | 9, _ => rfl
  | 10, _ => rfl
  | 11, _ => rfl
  | 12, _ => rfl
  | 13, _ => rfl
  | 14, _ => rfl
  | 15, _ => rfl
  | k + 16, h => exact absurd h (by omega)
theorem signD_hex (k : Nat) (hk : k < 16) : signD (hexB k) = true := by
  match k, hk with
  | 0, _ => rfl
  | 1, _ => rfl
  | 2, _ => rfl
  | 3, _ => rfl
  | 4, _ => rfl
  | 5, _ => rfl
  | 6, _ => rfl
  | 7, _ => rfl
  | 8, _ => rfl
  | 9, _ => rfl
  | 10, _ => rfl
  | 11, _ => rfl
  | 12, _ => rfl
  | 13, _ => rfl
  | 14, _ => rfl
  | 15, _ => rfl
  | k + 16, h => exact absurd h (by omega)
theorem nameD_seg (n : Nat) : nameD (segB n) = true := by
  unfold nameD
  have h1 : (segB n).all signD = true := by
    rw [List.all_eq_true]
    intro x hx
    rcases List.mem_cons.1 hx with rfl | hx
    · rfl
    · obtain ⟨j, _, rfl⟩ := List.mem_map.1 hx
      exact signD_hex _ (Nat.mod_lt _ (by decide))
  rw [h1]
  simp [segB, hexS]
theorem and15 (x : Int) : bits .and .i64 x 15 = x % 16 := and_mask x 4 (by decide)

theorem idx_dig (W : World) : ∀ k : Nat, k < 16 → (Instr.index 132 (.agg digV) (.int .i64 (k : Int))).run Try.prog W = .ok (.int .u8 (n8 (hexB k))) W
  | 0, _ => by kernel_rfl
  | 1, _ => by kernel_rfl
  | 2, _ => by kernel_rfl
  | 3, _ => by kernel_rfl
  | 4, _ => by kernel_rfl
  | 5, _ => by kernel_rfl
  | 6, _ => by kernel_rfl
  | 7, _ => by kernel_rfl
  | 8, _ => by kernel_rfl
  | 9, _ => by kernel_rfl
  | 10, _ => by kernel_rfl
  | 11, _ => by kernel_rfl
  | 12, _ => by kernel_rfl
  | 13, _ => by kernel_rfl
  | 14, _ => by kernel_rfl
  | 15, _ => by kernel_rfl
  | k + 16, h => absurd h (by omega)

set_option maxHeartbeats 1000000 in
theorem nname_any (w : World) (c : UInt8) (n : Nat) (_hn : n ≤ 4611686018427387904) : Calls Try.prog 50 #[.int .u8 (n8 c), .int .i64 (n : Int)] w fun e w' => e = .returned (.string (strB (hexS c n 16))) ∧ Chg [] w w' := by
  have hone := OwB.one w w.heap.size c (n8 c) rfl (Nat.le_refl _)
  go_enter Try.func50, Try.ntmps50
  go_wp2_with fail
  go_loopw [5, 6] (fun t5 t6 wr => ∃ (j : Nat) (ao : Option Addr) (cp : Nat), j ≤ 16 ∧ t6 = .int .i64 (60 - 4 * (j : Int)) ∧ t5 = .slice ao (j + 1) cp ∧ OwB wr w.heap.size (.slice ao (j + 1) cp) (hexS c n j) ∧ Chg [] w wr)
    (fun _ t6 _ => (intOf t6 + 4).toNat)
  case atStart => exact ⟨0, _, _, by omega, rfl, rfl, hone, (Chg.refl _ _).alloc _⟩
  case round =>
    obtain ⟨j, ao, cp, hj, rfl, rfl, hb, hch⟩ := hrel
    by_cases hlt : j < 16
    · have h60 : 0 ≤ 60 - 4 * (j : Int) := by omega
      go_upto_region 5 with (fail)
      obtain ⟨k, hk⟩ : ∃ k, k = n / 2 ^ (60 - 4 * j) % 16 := ⟨_, rfl⟩
      have hk16 : k < 16 := by rw [hk]; exact Nat.mod_lt _ (by decide)
      have hs := hexS_succ c n j
      have hnb : nibB n j = hexB k := by unfold nibB; rw [hk]
      rw [hnb] at hs
      have hX : (n : Int) / 2 ^ (60 - 4 * (j : Int)).toNat % 16 = (k : Int) := by
        rw [hk, show (60 - 4 * (j : Int)).toNat = 60 - 4 * j by omega]
        simp
      have hix := fun W => idx_dig W k hk16
      have HB := hd hb
      have HCH := hd hch
      have HS := hd hs
      have HH := hd (hexS_length c n j)
      clear hb hch hs hnb hk
      refine anyH_start (n := 10) (L := #[false, false, false, false, false, false, false, false, false, false]) (by kernel_rfl) (by kernel_rfl) (S := (fun wx => True)) trivial (fun hHeld => ?_)
      refine anyH_take (i := 0) (d := 13) (L' := #[true, false, false, false, false, false, false, false, false, false]) (v := ?v2) rfl rfl (by kernel_rfl) (fun _ _ _ h => h) (by rfl) ?hy2 (by assumption) ?rest2
      case hy2 => (intro wx hSw; (try dsimp only at hSw); (skip); go_simp; (try with_reducible rfl))
      simp only [Act.put, List.setIfInBounds_toArray, List.set_cons_zero, List.set_cons_succ]
      refine anyH_take (i := 2) (d := 15) (L' := #[true, false, true, false, false, false, false, false, false, false]) (v := ?v3) rfl rfl (by kernel_rfl) (fun _ _ _ h => h) (by rfl) ?hy3 (by assumption) ?rest3
      case hy3 => (intro wx hSw; (try dsimp only at hSw); (skip); go_simp; (try with_reducible rfl))
      simp only [Act.put, List.setIfInBounds_toArray, List.set_cons_zero, List.set_cons_succ]
      refine anyH_take (i := 3) (d := 16) (L' := #[true, false, true, true, false, false, false, false, false, false]) (v := ?v4) rfl rfl (by kernel_rfl) (fun _ _ _ h => h) (by rfl) ?hy4 (by assumption) ?rest4
      case hy4 => (intro wx hSw; (try dsimp only at hSw); (skip); go_simp; (try with_reducible rfl))
      simp only [Act.put, List.setIfInBounds_toArray, List.set_cons_zero, List.set_cons_succ]
      refine anyH_take (i := 4) (d := 17) (L' := #[true, false, true, true, true, false, false, false, false, false]) (v := ?v5) rfl rfl (by kernel_rfl) (fun _ _ _ h => h) (by rfl) ?hy5 (by assumption) ?rest5
      case hy5 => (intro wx hSw; (try dsimp only at hSw); (skip); go_simp; (try with_reducible rfl))
      simp only [Act.put, List.setIfInBounds_toArray, List.set_cons_zero, List.set_cons_succ]
      refine anyH_take (i := 5) (d := 18) (L' := #[true, false, true, true, true, true, false, false, false, false]) (v := ?v6) rfl rfl (by kernel_rfl) (fun _ _ _ h => h) (by rfl) ?hy6 (by assumption) ?rest6
      case hy6 => (intro wx hSw; (try dsimp only at hSw); (skip); go_simp; (try with_reducible rfl))
      simp only [Act.put, List.setIfInBounds_toArray, List.set_cons_zero, List.set_cons_succ]
      refine anyH_run (i := 1) (L' := #[true, true, true, true, true, true, false, false, false, false]) rfl (by kernel_rfl) (by rfl) (fun KK hKK => ?_)
      go_simp
      (refine (digits_any _).mono ?_; rintro e w2 ⟨rfl, hc2⟩; have hb2 := HB.out.k ((Chg.refl [] wr).drew.k hc2); have hch2 := HCH.out.k ((Chg.refl [] wr).drew.k hc2); clear hc2; (try go_simp))
      refine hKK.out _ _ (by assumption) (fun hHeld => ?_)
      clear hKK KK
      try simp only [Act.put, List.setIfInBounds_toArray, List.set_cons_zero, List.set_cons_succ]
      refine anyH_run (i := 6) (L' := #[true, true, true, true, true, true, true, false, false, false]) rfl (by kernel_rfl) (by rfl) (fun KK hKK => ?_)
      go_simp
      (rw [and15, hX, hix]; go_simp)
      refine hKK.out _ _ (by assumption) (fun hHeld => ?_)
      clear hKK KK
      try simp only [Act.put, List.setIfInBounds_toArray, List.set_cons_zero, List.set_cons_succ]
      refine anyH_run (i := 7) (L' := #[true, true, true, true, true, true, true, true, false, false]) rfl (by kernel_rfl) (by rfl) (fun KK hKK => ?_)
      go_simp
      (have hone3 := OwB.one w2 w.heap.size (hexB k) _ rfl hch2.size)
      refine hKK.out _ _ (by assumption) (fun hHeld => ?_)
      clear hKK KK
      try simp only [Act.put, List.setIfInBounds_toArray, List.set_cons_zero, List.set_cons_succ]
      refine anyH_run (i := 8) (L' := #[true, true, true, true, true, true, true, true, true, false]) rfl (by kernel_rfl) (by rfl) (fun KK hKK => ?_)
      (refine wp_appB _ _ rfl w.heap.size _ _ rfl (hb2.alloc _) _ _ rfl hone3.bs (by rw [HH.out]; simp; omega) (by simp; have := hch2.size; omega) ?_; intro ao3 c3 w3 hr3 hg3 hm3; have hch3 := (hch2.alloc _).app (hb2.alloc _) hg3 (Nat.le_refl _); rw [← HS.out, HH.out] at hr3; rw [HH.out]; have HR3 := hd hr3; have HC3 := hd hch3; clear hr3 hch3 hg3 hm3 hone3 hb2 hch2)
      refine hKK.out _ _ (by assumption) (fun hHeld => ?_)
      clear hKK KK
      try simp only [Act.put, List.setIfInBounds_toArray, List.set_cons_zero, List.set_cons_succ]
      refine anyH_run (i := 9) (L' := #[true, true, true, true, true, true, true, true, true, true]) rfl (by kernel_rfl) (by rfl) (fun KK hKK => ?_)
      go_simp
      (skip)
      refine hKK.out _ _ (by assumption) (fun hHeld => ?_)
      clear hKK KK
      try simp only [Act.put, List.setIfInBounds_toArray, List.set_cons_zero, List.set_cons_succ]
      refine wpAnyH_done (by kernel_rfl) ?_ _
      go_wp2_with fail
      go_roundw
      case rel => exact ⟨j + 1, ao3, c3, by omega, by go_num, rfl, HR3.out, HC3.out⟩
      case measure => simp [intOf]; omega
    · obtain rfl : j = 16 := by omega
      go_upto_region 6 with (fail)
      have hbs := hb.bs
      clear hb
      go_wp2_with (refine wpStr rfl _ rfl _ _ rfl hbs ?_)
      go_ret
      exact ⟨rfl, hch⟩
theorem Segment_any (w : World) (n : Nat) (hn : n ≤ 4611686018427387904) : Calls Try.prog 18 #[.int .i64 (n : Int)] w fun e w' => e = .returned (.string (strB (segB n))) ∧ Chg [] w w' := by
  go_enter Try.func18, Try.ntmps18
  go_wp2_with fail
  refine (nname_any w 106 n hn).mono ?_
  rintro e w1 ⟨rfl, h1⟩
  go_wp2_with fail
  go_ret
  exact ⟨rfl, h1⟩
end Go.Proofs.Ytpoohpmcopjklaa

/- journal.first of two steps. -/
namespace Go.Proofs.Ytpoohpmcopjklaa
open Go.RowKit

def StepA (sb : Nat) (F2 : Value) (J : World → Prop) (Post : Ending → World → Prop) (e : Ending) (w1 : World) : Prop :=
  ∃ z : Int, e = .returned (.int .i64 z) ∧ ((z ≠ 0 ∧ Post (.returned (.int .i64 z)) w1) ∨ (z = 0 ∧ J w1 ∧ w1.cell? ⟨sb, 1, none⟩ = some F2))
def StepB (Post : Ending → World → Prop) (e : Ending) (w1 : World) : Prop := ∃ z : Int, e = .returned (.int .i64 z) ∧ Post (.returned (.int .i64 z)) w1

set_option maxHeartbeats 1000000 in
theorem firstB_any (w : World) (sb : Nat) (p q r : Addr) (h0 : w.cell? ⟨sb, 0, none⟩ = some (.func (.func 46) #[] #[.pointer (some p), .pointer (some q)])) (J : World → Prop) (Post : Ending → World → Prop)
    (H1 : Calls Try.prog 46 #[.pointer (some p), .pointer (some q)] w (StepA sb (.func (.func 37) #[.pointer (some r)] #[]) J Post)) (H2 : ∀ w1, J w1 → Calls Try.prog 37 #[.pointer (some r)] w1 (StepB Post)) :
    Calls Try.prog 45 #[.slice (some ⟨sb, 0, none⟩) 2 2] w Post := by
  have HH1 := hd H1
  have HH2 := hd H2
  clear H1 H2
  go_enter Try.func45, Try.ntmps45
  go_wp2_with fail
  go_loopw [4, 5, 8] (fun _ _ i wr => ∃ k : Nat, k ≤ 2 ∧ i = .int .i64 k ∧ ((k = 0 ∧ wr = w) ∨ (k = 1 ∧ J wr ∧ wr.cell? ⟨sb, 1, none⟩ = some (.func (.func 37) #[.pointer (some r)] #[])) ∨ (k = 2 ∧ Post (.returned (.int .i64 0)) wr))) (fun _ _ i _ => 2 - (intOf i).toNat)
  case atStart => exact ⟨0, by omega, rfl, .inl ⟨rfl, rfl⟩⟩
  case round =>
    obtain ⟨k, hk, rfl, hst⟩ := hrel
    rcases hst with ⟨rfl, rfl⟩ | ⟨rfl, hJ, h1⟩ | ⟨rfl, hP⟩
    · go_wp2_with fail
      refine (HH1.out).mono ?_
      rintro e w1 ⟨z, rfl, hz⟩
      rcases hz with ⟨hz, hP⟩ | ⟨rfl, hJ, h1⟩
      · have hz' : (z == 0) = false := by simpa using hz
        go_wp2_with fail
        exact hP
      · go_wp2_with fail
        go_roundw
        case rel => exact ⟨1, by omega, by go_num, .inr (.inl ⟨rfl, hJ, h1⟩)⟩
        case measure => simp [intOf]
    · go_wp2_with fail
      refine (HH2.out _ hJ).mono ?_
      rintro e w1 ⟨z, rfl, hP⟩
      by_cases hz : z = 0
      · subst hz
        go_wp2_with fail
        go_roundw
        case rel => exact ⟨2, by omega, by go_num, .inr (.inr ⟨rfl, hP⟩)⟩
        case measure => simp [intOf]
      · have hz' : (z == 0) = false := by simpa using hz
        go_wp2_with fail
        exact hP
    · go_wp2_with fail
      exact hP

set_option maxHeartbeats 1000000 in
theorem firstW_any (w : World) (sb : Nat) (p q r s : Addr) (h0 : w.cell? ⟨sb, 0, none⟩ = some (.func (.func 47) #[] #[.pointer (some p), .pointer (some q), .pointer (some r), .pointer (some s)])) (J : World → Prop) (Post : Ending → World → Prop)
    (H1 : Calls Try.prog 47 #[.pointer (some p), .pointer (some q), .pointer (some r), .pointer (some s)] w (StepA sb (.func (.func 49) #[] #[.pointer (some p), .pointer (some q)]) J Post)) (H2 : ∀ w1, J w1 → Calls Try.prog 49 #[.pointer (some p), .pointer (some q)] w1 (StepB Post)) :
    Calls Try.prog 45 #[.slice (some ⟨sb, 0, none⟩) 2 2] w Post := by
  have HH1 := hd H1
  have HH2 := hd H2
  clear H1 H2
  go_enter Try.func45, Try.ntmps45
  go_wp2_with fail
  go_loopw [4, 5, 8] (fun _ _ i wr => ∃ k : Nat, k ≤ 2 ∧ i = .int .i64 k ∧ ((k = 0 ∧ wr = w) ∨ (k = 1 ∧ J wr ∧ wr.cell? ⟨sb, 1, none⟩ = some (.func (.func 49) #[] #[.pointer (some p), .pointer (some q)])) ∨ (k = 2 ∧ Post (.returned (.int .i64 0)) wr))) (fun _ _ i _ => 2 - (intOf i).toNat)
  case atStart => exact ⟨0, by omega, rfl, .inl ⟨rfl, rfl⟩⟩
  case round =>
    obtain ⟨k, hk, rfl, hst⟩ := hrel
    rcases hst with ⟨rfl, rfl⟩ | ⟨rfl, hJ, h1⟩ | ⟨rfl, hP⟩
    · go_wp2_with fail
      refine (HH1.out).mono ?_
      rintro e w1 ⟨z, rfl, hz⟩
      rcases hz with ⟨hz, hP⟩ | ⟨rfl, hJ, h1⟩
      · have hz' : (z == 0) = false := by simpa using hz
        go_wp2_with fail
        exact hP
      · go_wp2_with fail
        go_roundw
        case rel => exact ⟨1, by omega, by go_num, .inr (.inl ⟨rfl, hJ, h1⟩)⟩
        case measure => simp [intOf]
    · go_wp2_with fail
      refine (HH2.out _ hJ).mono ?_
      rintro e w1 ⟨z, rfl, hP⟩
      by_cases hz : z = 0
      · subst hz
        go_wp2_with fail
        go_roundw
        case rel => exact ⟨2, by omega, by go_num, .inr (.inr ⟨rfl, hP⟩)⟩
        case measure => simp [intOf]
      · have hz' : (z == 0) = false := by simpa using hz
        go_wp2_with fail
        exact hP
    · go_wp2_with fail
      exact hP
end Go.Proofs.Ytpoohpmcopjklaa

/- A disk that the call made itself. -/
namespace Go.Proofs.Ytpoohpmcopjklaa
open Go.RowKit

theorem DkOut.chg {w w' : World} {fp : List Nat} {b : Nat} {d : Dsk} (h : DkOut w fp b d w') : Chg fp w w' := let ⟨_, _, h, _⟩ := h; h
theorem Dk.fpl {w : World} {fp : List Nat} {b : Nat} {d : Dsk} (h : Dk w fp b d) : ∀ k ∈ fp, k < w.heap.size := let ⟨_, _, _, _, _, h⟩ := h; h.fpl
/-- In w there is a disk d at b, all of whose blocks came up behind w0; nothing of w0 has turned. -/
def DS (w0 w : World) (b : Nat) (d : Dsk) : Prop := ∃ fp, Dk w fp b d ∧ Chg [] w0 w ∧ ∀ k ∈ fp, w0.heap.size ≤ k
theorem DkOut.ds {w0 w w' : World} {fp : List Nat} {b : Nat} {d' : Dsk} (h : DkOut w fp b d' w') (hc : Chg [] w0 w) (hf : ∀ k ∈ fp, w0.heap.size ≤ k) : DS w0 w' b d' := by
  obtain ⟨fp', h1, h2, h3⟩ := h
  have hz := hc.size
  refine ⟨fp', h1, hc.trans h2 (fun x hx hl => by have := hf x hx; omega), fun k hk => ?_⟩
  rcases h3 k hk with h | h
  · exact hf k h
  · omega
theorem DS.chg {w0 w : World} {b : Nat} {d : Dsk} (h : DS w0 w b d) : Chg [] w0 w := let ⟨_, _, h, _⟩ := h; h
theorem DS.k {w0 w w' : World} {b : Nat} {d : Dsk} (h : DS w0 w b d) (hc : Chg [] w w') : DS w0 w' b d :=
  let ⟨fp, h1, h2, h3⟩ := h; ⟨fp, h1.k hc, h2.k hc, h3⟩
theorem DS.new {w w' : World} {d : Dsk} {b : Nat} {fp : List Nat} (h1 : Dk w' fp b d) (h2 : Chg [] w w') (h3 : ∀ k ∈ fp, w.heap.size ≤ k) : DS w w' b d := ⟨fp, h1, h2, h3⟩
theorem DS.same {w0 w w' : World} {fp : List Nat} {b : Nat} {d d' : Dsk} (h : Dk w' fp b d') (hw : Dk w fp b d) (hc : Chg [] w0 w) (hf : ∀ k ∈ fp, w0.heap.size ≤ k) (hb : Chg [b] w w') : DS w0 w' b d' := by
  have hz := hc.size
  refine ⟨fp, h, hc.trans hb (fun x hx hl => ?_), hf⟩
  obtain rfl : x = b := by simpa using hx
  obtain ⟨_, _, _, _, _, hp⟩ := hw
  have := hf x hp.fpb
  omega

end Go.Proofs.Ytpoohpmcopjklaa

/- journal.Begin. -/
namespace Go.Proofs.Ytpoohpmcopjklaa
open Go.RowKit

variable {w w' : World} {fp : List Nat} {b : Nat} {d : Dsk}

theorem segB_length (n : Nat) : (segB n).length = 17 := hexS_length _ _ _
theorem GoodD.create {d : Dsk} (_ : GoodD d) (s : List UInt8) : (createD d s).ops = d.ops + 1 := by
  unfold createD; split <;> rfl

set_option maxHeartbeats 1000000 in
theorem begin1_any (h : Dk w fp b d) (seq : Nat) (hseq : seq ≤ 4611686018427387904) (hops : d.ops < 1073741824) (p q : Addr) (hp : w.cell? p = some (.pointer (some ⟨b, 0, none⟩))) (hq : w.cell? q = some (.int .i64 (seq : Int))) (hpf : p.block ∉ fp) (hqf : q.block ∉ fp) :
    Calls Try.prog 46 #[.pointer (some p), .pointer (some q)] w fun e w' => e = .returned (.int .i64 (createE d (segB seq))) ∧ DkOut w fp b (createD d (segB seq)) w' := by
  have H := hd h
  have Q0 := hd hp
  have Q1 := hd hq
  clear h hp hq
  go_enter Try.func46, Try.ntmps46
  go_upto_region 1 with (fail)
  refine anyH_start (n := 5) (L := #[false, false, false, false, false]) (by kernel_rfl) (by kernel_rfl) (S := (fun wx => Chg fp w wx)) ((Chg.refl _ _).drew) (fun hHeld => ?_)
  refine anyH_take (i := 0) (d := 3) (L' := #[true, false, false, false, false]) (v := ?v2) rfl rfl (by kernel_rfl) (fun _ _ _ h => h) (by rfl) ?hy2 (by assumption) ?rest2
  case hy2 => (intro wx hSw; (try dsimp only at hSw); (have t0 := hSw.cellT Q0.out hpf; have t1 := hSw.cellT Q1.out hqf); go_simp; (try with_reducible rfl))
  simp only [Act.put, List.setIfInBounds_toArray, List.set_cons_zero, List.set_cons_succ]
  refine anyH_take (i := 1) (d := 4) (L' := #[true, true, false, false, false]) (v := ?v3) rfl rfl (by kernel_rfl) (fun _ _ _ h => h) (by rfl) ?hy3 (by assumption) ?rest3
  case hy3 => (intro wx hSw; (try dsimp only at hSw); (have t0 := hSw.cellT Q0.out hpf; have t1 := hSw.cellT Q1.out hqf); go_simp; (try with_reducible rfl))
  simp only [Act.put, List.setIfInBounds_toArray, List.set_cons_zero, List.set_cons_succ]
  refine anyH_run (i := 2) (L' := #[true, true, true, false, false]) rfl (by kernel_rfl) (by rfl) (fun KK hKK => ?_)
  go_simp
  (refine (Segment_any _ seq hseq).mono ?_; rintro e w2 ⟨rfl, hc2⟩; have hc0 := (Chg.refl [] w).drew.k hc2; have hcf : Chg fp w w2 := hc0.mono (by simp); clear hc2; (try go_simp))
  refine hKK.out _ _ (by assumption) (fun hHeld => ?_)
  clear hKK KK
  try simp only [Act.put, List.setIfInBounds_toArray, List.set_cons_zero, List.set_cons_succ]
  refine anyH_run (i := 3) (L' := #[true, true, true, true, false]) rfl (by kernel_rfl) (by rfl) (fun KK hKK => ?_)
  go_simp
  (refine (Create_any (H.out.k hc0) (segB seq) (by rw [segB_length]; decide) hops).mono ?_; rintro e w3 ⟨rfl, h3⟩; have H3 := hd (h3.after hcf); have hcf3 : Chg fp w w3 := H3.out.chg; clear h3 hc0; (try go_simp))
  refine hKK.out _ _ (by assumption) (fun hHeld => ?_)
  clear hKK KK
  try simp only [Act.put, List.setIfInBounds_toArray, List.set_cons_zero, List.set_cons_succ]
  refine anyH_run (i := 4) (L' := #[true, true, true, true, true]) rfl (by kernel_rfl) (by rfl) (fun KK hKK => ?_)
  go_simp
  (skip)
  refine hKK.out _ _ (by assumption) (fun hHeld => ?_)
  clear hKK KK
  try simp only [Act.put, List.setIfInBounds_toArray, List.set_cons_zero, List.set_cons_succ]
  refine wpAnyH_done (by kernel_rfl) ?_ _
  go_wp2_with fail
  go_ret
  exact ⟨rfl, H3.out⟩

def beginE (d : Dsk) (s : List UInt8) : Int := if createE d s = 0 then opE (createD d s) else createE d s
def beginD (d : Dsk) (s : List UInt8) : Dsk := if createE d s = 0 then dirSyncD (createD d s) else createD d s

set_option maxHeartbeats 1000000 in
theorem Begin_any (h : Dk w fp b d) (seq : Nat) (hseq : seq ≤ 4611686018427387904) (hops : d.ops < 1073741000) :
    Calls Try.prog 15 #[.pointer (some ⟨b, 0, none⟩), .int .i64 (seq : Int)] w fun e w' => e = .returned (.int .i64 (beginE d (segB seq))) ∧ DkOut w fp b (beginD d (segB seq)) w' := by
  have hfl := h.fpl
  have H := hd h
  have HFL := hd hfl
  clear h hfl
  go_enter Try.func15, Try.ntmps15
  go_wp2_with fail
  have hA := (((Chg.refl [] w).alloc (.cells #[.pointer (some ⟨b, 0, none⟩)] 26)).alloc (.cells #[.int .i64 (seq : Int)] 3))
  have hk1 := (Blk.new w #[.pointer (some ⟨b, 0, none⟩)] 26).alloc (.cells #[.int .i64 (seq : Int)] 3)
  have hk2 := Blk.new (w.alloc (.cells #[.pointer (some ⟨b, 0, none⟩)] 26)) #[.int .i64 (seq : Int)] 3
  have e1 : (w.alloc (.cells #[.pointer (some ⟨b, 0, none⟩)] 26)).heap.size = w.heap.size + 1 := by simp
  rw [e1] at hk2
  have e2 : ((w.alloc (.cells #[.pointer (some ⟨b, 0, none⟩)] 26)).alloc (.cells #[.int .i64 (seq : Int)] 3)).heap.size = w.heap.size + 1 + 1 := by simp
  generalize (w.alloc (.cells #[.pointer (some ⟨b, 0, none⟩)] 26)).alloc (.cells #[.int .i64 (seq : Int)] 3) = wA at *
  have hA3 := hA.alloc (.cells #[.func (.func 46) #[] #[.pointer (some ⟨w.heap.size, 0, none⟩), .pointer (some ⟨w.heap.size + 1, 0, none⟩)], .func (.func 37) #[.pointer (some ⟨b, 0, none⟩)] #[]] 64)
  have hk3 := Blk.new wA #[.func (.func 46) #[] #[.pointer (some ⟨w.heap.size, 0, none⟩), .pointer (some ⟨w.heap.size + 1, 0, none⟩)], .func (.func 37) #[.pointer (some ⟨b, 0, none⟩)] #[]] 64
  replace hk1 := hk1.alloc (.cells #[.func (.func 46) #[] #[.pointer (some ⟨w.heap.size, 0, none⟩), .pointer (some ⟨w.heap.size + 1, 0, none⟩)], .func (.func 37) #[.pointer (some ⟨b, 0, none⟩)] #[]] 64)
  replace hk2 := hk2.alloc (.cells #[.func (.func 46) #[] #[.pointer (some ⟨w.heap.size, 0, none⟩), .pointer (some ⟨w.heap.size + 1, 0, none⟩)], .func (.func 37) #[.pointer (some ⟨b, 0, none⟩)] #[]] 64)
  rw [e2] at hk3
  generalize wA.alloc (.cells #[.func (.func 46) #[] #[.pointer (some ⟨w.heap.size, 0, none⟩), .pointer (some ⟨w.heap.size + 1, 0, none⟩)], .func (.func 37) #[.pointer (some ⟨b, 0, none⟩)] #[]] 64) = wB at *
  have hBf : Chg fp w wB := hA3.mono (by simp)
  have n0 : w.heap.size ∉ fp := fun h => by have := HFL.out _ h; omega
  have n1 : w.heap.size + 1 ∉ fp := fun h => by have := HFL.out _ h; omega
  have n2 : w.heap.size + 1 + 1 ∉ fp := fun h => by have := HFL.out _ h; omega
  have q0 := hk1.cell 0
  have q1 := hk2.cell 0
  have q2 := hk3.cell 0
  have q3 := hk3.cell 1
  simp at q0 q1 q2 q3
  have Q3 := hd q3
  refine (firstB_any wB (w.heap.size + 1 + 1) ⟨w.heap.size, 0, none⟩ ⟨w.heap.size + 1, 0, none⟩ ⟨b, 0, none⟩ q2 (fun w1 => createE d (segB seq) = 0 ∧ DkOut w fp b (createD d (segB seq)) w1)
    (fun e w' => e = .returned (.int .i64 (beginE d (segB seq))) ∧ DkOut w fp b (beginD d (segB seq)) w') ?_ ?_).mono ?_
  · refine (begin1_any (H.out.k hA3) seq hseq (by omega) _ _ q0 q1 n0 n1).mono ?_
    rintro e w1 ⟨rfl, h1⟩
    refine ⟨_, rfl, ?_⟩
    by_cases hz : createE d (segB seq) = 0
    · exact .inr ⟨hz, ⟨hz, h1.after hBf⟩, h1.chg.cellT Q3.out n2⟩
    · exact .inl ⟨hz, by unfold beginE; rw [if_neg hz], by unfold beginD; rw [if_neg hz]; exact h1.after hBf⟩
  · rintro w1 ⟨hz, fp1, hdk, hch, hgr⟩
    refine (DirSync_any hdk (by rw [GoodD.create H.out.good]; omega)).mono ?_
    rintro e w2 ⟨rfl, h2⟩
    exact ⟨_, rfl, by unfold beginE; rw [if_pos hz], by unfold beginD; rw [if_pos hz]; exact h2.chain hch hgr⟩
  · rintro e w1 ⟨rfl, h1⟩
    have H1 := hd h1
    clear h1 q0 q1 q2 q3 hk1 hk2 hk3 hA hA3 hBf n0 n1 n2
    go_wp2_with fail
    go_ret
    exact ⟨rfl, H1.out⟩
end Go.Proofs.Ytpoohpmcopjklaa
