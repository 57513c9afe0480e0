/- Words and walks that DiskNames rests on, part 2. -/
import Derived.Test.YtpoohpmcopjklaaWDiskNames1
import Derived.Deep.Cut
import Derived.Shelf.SlMaps.Clone
import Derived.Lib.SliceRun
import Derived.Carry
/- A range over such a map. -/
namespace Go.Proofs.Ytpoohpmcopjklaa
open Go.RowKit

/-- The range at r over the map at b, with 'rest' still to come. -/
def MapRange (w : World) (b r : Nat) (es rest : Nm) : Prop :=
  ∃ (D : DataW Unit) (left : Lit → Bool) (cnt : Nat), w.ranges Try.prog 9 (plainElem Try.prog 3) b r es.length D left cnt ∧ ReadsN D es ∧ (rest.map (·.1)).Nodup ∧ (∀ p ∈ rest, p ∈ es) ∧ ∀ k, left (.string k) = (nget rest k).isSome
theorem MapRange.map {w : World} {b r : Nat} {es rest : Nm} (h : MapRange w b r es rest) : MapAt w b es := by
  obtain ⟨D, left, cnt, h1, h2, _⟩ := h
  exact ⟨D, h1.owns, h2⟩
theorem MapRange.lt {w : World} {b r : Nat} {es rest : Nm} (h : MapRange w b r es rest) : r < w.heap.size := by
  obtain ⟨D, left, cnt, h1, h2, _⟩ := h
  exact h1.lt
theorem MapRange.sub {w : World} {b r : Nat} {es rest : Nm} (h : MapRange w b r es rest) : ∀ p ∈ rest, p ∈ es := let ⟨_, _, _, _, _, _, h, _⟩ := h; h
theorem MapRange.nodup {w : World} {b r : Nat} {es rest : Nm} (h : MapRange w b r es rest) : (rest.map (·.1)).Nodup := let ⟨_, _, _, _, _, h, _, _⟩ := h; h
theorem sameKey_str (a b : List UInt8) : (Lit.string a).sameKey (.string b) = (a == b) := by
  by_cases h : a = b
  · subst h
    have := Maps.has_put_same (H := Unit) (D := .map []) Maps.isMap_empty (k := .string a) trivial (.lit (.bool true))
    have h2 : Maps.has ((DataW.map ([] : List (Lit × DataW Unit))).put (.string a) (.lit (.bool true))) (.string a) = (Lit.string a).sameKey (.string a) := by
      show ([(Lit.string a, DataW.lit (.bool true))] : List (Lit × DataW Unit)).any (fun p => p.1.sameKey (.string a)) = _
      simp
    rw [← h2, this]; simp
  · rw [Maps.sameKey_ne (str_ne h)]; simp; exact h
theorem nget_ndel_some (es : Nm) (s k : List UInt8) : (nget (ndel es s) k).isSome = ((nget es k).isSome && !(k == s)) := by
  by_cases h : k = s
  · subst h; rw [nget_del_same]; simp
  · rw [nget_del_other h]; simp [h]
theorem strB_ofData (x : ByteArray) : strB x.data.toList = x := by simp [strB]

theorem wpRangeM {w : World} {ops : Array Oper} {rest : List Oper} {o : Oper} {a : Act} {Q : Exit → Act → World → Prop} (hg : o.guard = none) (m : Operand) (hop : o.op = Op.range 81 m)
    (b : Nat) (es : Nm) (hm : a.eval m = .map (some b)) (h : MapAt w b es)
    (hK : ∀ w', MapRange w' b w.heap.size es es → Chg [] w w' → wpList Try.prog ops Q rest (a.put o.dst (.pointer (some ⟨w.heap.size, 0, none⟩))) w') : wpList Try.prog ops Q (o :: rest) a w := by
  obtain ⟨D, hown, hr⟩ := h
  refine wpList_range_own w hg m _ hop 9 3 strKeyed undMapN _ b _ D hm hown fun w' h1 h2 _ => ?_
  exact hK w' ⟨D, _, _, h1, hr, hr.nodup, fun _ hp => hp, fun k => hr.has k⟩ ((Chg.refl [] w).grown h2 (by simp))
theorem wpNextM {w : World} {ops : Array Oper} {rest : List Oper} {o : Oper} {a : Act} {Q : Exit → Act → World → Prop} (hg : o.guard = none) (it : Operand) (hop : o.op = Op.next it false)
    (b r : Nat) (es left : Nm) (hit : a.eval it = .pointer (some ⟨r, 0, none⟩)) (h : MapRange w b r es left)
    (hDone : left = [] → wpList Try.prog ops Q rest (a.put o.dst (.tuple #[.bool false])) w)
    (hMore : ∀ (k : List UInt8) (i : Nat) (w' : World), (k, i) ∈ left → MapRange w' b r es (ndel left k) → Chg [r] w w' → w'.rangeLeft b r < w.rangeLeft b r →
      (Instr.entry (.pointer (some ⟨r, 0, none⟩))).run Try.prog w' = .ok (.tuple #[.string (strB k), .int .i64 (i : Int)]) w' → k.length ≤ 9223372036854775807 → wpList Try.prog ops Q rest (a.put o.dst (.tuple #[.bool true, .string (strB k), .int .i64 (i : Int)])) w') :
    wpList Try.prog ops Q (o :: rest) a w := by
  obtain ⟨D, lf, cnt, hrg, hr, hnd, hsub, hleft⟩ := h
  refine wpList_next_ranges w hg it hop 9 strKeyed (plainElem Try.prog 3) (fun s : ByteArray => Value.string s) (fun c : Int => Value.int .i64 c)
    (fun key kl hk => by obtain ⟨s, rfl, _, _⟩ := WideMaps.string_of_keyOf undString hk; exact ⟨s, rfl⟩) (fun v y hv => by obtain ⟨c, rfl, _⟩ := plainElem_int_inv undInt hv; exact ⟨c, rfl⟩)
    b r _ D lf cnt hit hrg (fun _ hl => hDone ?_) (fun x c kl y w' cnt' hkey hlk hv hat hrg' hlt hgr hsz hen => ?_)
  · rcases left with _ | ⟨p, l⟩
    · rfl
    · exfalso
      have := hleft p.1
      rw [hl] at this
      have h2 : nget (p :: l) p.1 = some p.2 := by unfold nget; rw [List.find?_cons_of_pos (by simp)]; rfl
      rw [h2] at this
      simp at this
  · obtain ⟨s, es', rfl, hsl⟩ := WideMaps.string_of_keyOf undString hkey
    cases es'
    obtain ⟨c', ec, rfl, hwc⟩ := plainElem_int_inv undInt hv
    cases ec
    obtain ⟨k, hk⟩ : ∃ k, x = strB k := ⟨x.data.toList, (strB_ofData x).symm⟩
    subst hk
    rw [strB_list] at hlk hat hrg' 
    have hsome := hleft k
    rw [hlk] at hsome
    obtain ⟨i, hi⟩ := Option.isSome_iff_exists.1 hsome.symm
    have hmem := nget_some_mem hi
    have hes : nget es k = some i := mem_nget hr.nodup (hsub _ hmem)
    have hci : c = (i : Int) := by
      have := hat .nil
      rw [hr.at_, hes] at this
      simp at this
      exact this.symm
    subst hci
    refine hMore k i w' hmem ⟨D, _, cnt', hrg', hr, nodup_del hnd k, fun p hp => hsub p (List.mem_filter.1 hp).1, fun k' => ?_⟩ ((Chg.refl [r] w).grown hgr (by simp)) ?_ hen ?_
    · rw [hleft, nget_ndel_some, sameKey_str]
    · rw [hrg'.left_eq, hrg.left_eq]; exact hlt
    · rw [strB_size] at hsl; unfold maxLen at hsl; omega
end Go.Proofs.Ytpoohpmcopjklaa

/- Disk.Size. -/
namespace Go.Proofs.Ytpoohpmcopjklaa
open Go.RowKit

def lenF (d : Dsk) (p : List UInt8 × Nat) : Nat := (d.files.getD p.2 ([], 0)).1.length
def sumF (d : Dsk) (es : Nm) : Nat := (es.map (lenF d)).sum
theorem sizeD_eq (d : Dsk) : sizeD d = sumF d d.names := rfl
theorem sumF_ndel (d : Dsk) : ∀ {es : Nm} {k : List UInt8} {i : Nat}, (es.map (·.1)).Nodup → (k, i) ∈ es → sumF d es = sumF d (ndel es k) + lenF d (k, i)
  | [], _, _, _, h => by cases h
  | p :: es, k, i, hn, h => by
    rw [List.map_cons, List.nodup_cons] at hn
    rcases List.mem_cons.1 h with rfl | h'
    · have h1 : ndel ((k, i) :: es) k = ndel es k := by unfold ndel; rw [List.filter_cons_of_neg (by simp)]
      have h2 : ndel es k = es := by
        unfold ndel
        rw [List.filter_eq_self]
        intro q hq
        have : q.1 ≠ k := fun e => hn.1 (e ▸ List.mem_map.2 ⟨q, hq, rfl⟩)
        simpa using this
      rw [h1, h2]
      simp [sumF]; omega
    · have hne : p.1 ≠ k := fun e => hn.1 (e ▸ List.mem_map.2 ⟨(k, i), h', rfl⟩)
      have h1 : ndel (p :: es) k = p :: ndel es k := by unfold ndel; rw [List.filter_cons_of_pos (by simpa using hne)]
      have ih := sumF_ndel d (es := es) hn.2 h'
      rw [h1]
      simp only [sumF, List.map_cons, List.sum_cons] at ih ⊢
      omega
theorem lenF_le {d : Dsk} (h : GoodD d) (p : List UInt8 × Nat) : lenF d p ≤ 4294967296 := by
  unfold lenF
  by_cases hp : p.2 < d.files.length
  · rw [List.getD_eq_getElem?_getD, List.getElem?_eq_getElem hp]
    exact (h.files _ (List.getElem_mem hp)).2.2
  · rw [List.getD_eq_getElem?_getD, List.getElem?_eq_none (by omega)]; simp
theorem sumF_le {d : Dsk} (h : GoodD d) (es : Nm) : sumF d es ≤ es.length * 4294967296 := by
  induction es with
  | nil => simp [sumF]
  | cons p es ih =>
    have := lenF_le h p
    simp only [sumF, List.map_cons, List.sum_cons, List.length_cons] at ih ⊢
    omega

variable {w : World} {fp : List Nat} {b : Nat} {fv cv : Value} {nb sb : Nat} {hs : List HF} {d : Dsk}

theorem DkP.slice {w : World} (h : DkP w fp b fv cv nb sb hs d) (hp : 0 < hs.length) : ∃ g c, fv = .slice (some ⟨g, 0, none⟩) hs.length c := by
  rcases h.files.2 with ⟨rfl, hz⟩ | ⟨g, cap, cur, rfl, _⟩
  · omega
  · exact ⟨g, cap, rfl⟩
theorem OwB.form {w : World} {base : Nat} {v : Value} {l : List UInt8} (h : OwB w base v l) : ∃ ao c, v = .slice ao l.length c := by
  rcases h.2 with ⟨rfl, hz⟩ | ⟨g, cap, cur, rfl, _⟩
  · exact ⟨none, 0, by rw [hz]⟩
  · exact ⟨_, cap, rfl⟩
theorem DkP.file {w : World} {g c : Nat} (h : DkP w fp b (.slice (some ⟨g, 0, none⟩) hs.length c) cv nb sb hs d) {i : Nat} (hi : i < hs.length) :
    ∃ ao c', hs[i].1 = .slice ao hs[i].2.1.length c' ∧ w.cell? ⟨g, i * 2, none⟩ = some (.slice ao hs[i].2.1.length c') ∧ w.cell? ⟨g, i * 2 + 1, none⟩ = some (.int .i64 (hs[i].2.2 : Int)) ∧ d.files[i]? = some hs[i].2 := by
  obtain ⟨ao, c', e⟩ := (h.bytes _ (List.getElem_mem hi)).form
  have hg := fileCells_get hs i hi
  refine ⟨ao, c', e, ?_, ?_, ?_⟩
  · rw [World.ownsRow.cellAt h.files _ (by omega), hg.1, e]
  · rw [World.ownsRow.cellAt h.files _ (by omega), hg.2]
  · rw [← h.same, List.getElem?_map, List.getElem?_eq_getElem hi]; rfl

set_option maxHeartbeats 1000000 in
theorem Size_any (h : DkP w fp b fv cv nb sb hs d) : Calls Try.prog 35 #[.pointer (some ⟨b, 0, none⟩)] w fun e w' => e = .returned (.int .i64 (sizeD d : Int)) ∧ Chg [] w w' := by
  have hg := h.good
  have q1 := h.box.cell 1
  have q2 := h.box.cell 2
  simp [boxCells] at q1 q2
  have hm := h.names
  have Q1 := hd q1
  have HM := hd hm
  have hbig : sumF d d.names ≤ 4611686018427387904 := by
    have h1 := sumF_le hg d.names
    have h2 := hg.nnames
    have h3 := hg.ops
    omega
  obtain ⟨T, hT⟩ : ∃ T, sizeD d = T := ⟨_, rfl⟩
  rw [hT]
  rw [sizeD_eq] at hT
  rw [hT] at hbig
  have HT := hd hT
  have H := hd h
  clear hT h q1
  go_enter Try.func35, Try.ntmps35
  go_wp2_with (at_range; refine wpRangeM rfl _ rfl nb _ rfl hm ?_; intro w1 hr1 hc1)
  have hlt1 := hr1.lt
  clear hm q2
  go_frame
  go_loopw [3, 5] (fun n _ wr => ∃ (t : Nat) (rest : Nm), n = .int .i64 (t : Int) ∧ t + sumF d rest = T ∧ MapRange wr nb w.heap.size d.names rest ∧ Chg [] w wr)
    (fun _ _ wr => wr.rangeLeft nb w.heap.size)
  case atStart => exact ⟨0, d.names, rfl, by rw [HT.out]; simp, hr1, hc1⟩
  case round =>
    obtain ⟨t, rest, rfl, ht, hr, hc⟩ := hrel
    have Ht := hd ht
    have h0 := H.out.k hc
    have q1 := hc.cellS Q1.out
    clear ht
    go_wp2_with (first
      | (at_next; refine wpNextM rfl _ rfl nb w.heap.size d.names rest rfl hr ?_ ?_)
      | fail)
    · rintro rfl
      have hTt : T = t := by have := Ht.out; simp [sumF] at this; omega
      subst hTt
      go_wp2_with fail
      go_ret
      exact ⟨rfl, hc⟩
    · intro k i w2 hmem hr2 hc2 hlt hen _
      have hcw : Chg [] w w2 := hc.trans hc2 (by simp)
      have hes := hr.sub _ hmem
      have hi : i < hs.length := by rw [H.out.len]; exact H.out.good.named _ hes
      have hi' : (i : Int) < (hs.length : Int) := by omega
      obtain ⟨g, c, rfl⟩ := H.out.slice (by omega)
      obtain ⟨ao, c', -, q3, -, q5⟩ := (H.out.k hcw).file hi
      have q1 := hcw.cellS Q1.out
      have hl : lenF d (k, i) = hs[i].2.1.length := by
        unfold lenF; rw [List.getD_eq_getElem?_getD]; simp only; rw [q5]; rfl
      have hsum := sumF_ndel d hr.nodup hmem
      rw [hl] at hsum
      generalize hs[i].2.1.length = n at *
      have htn : t + n + sumF d (ndel rest k) = T := by have := Ht.out; omega
      have HTN := hd htn
      have hov : ¬ 9223372036854775807 < (t : Int) + (n : Int) := by omega
      clear q5 hl hsum htn h0 Ht
      go_wp2_with fail
      go_roundw
      case rel => exact ⟨t + n, ndel rest k, by go_num, HTN.out, hr2, hcw⟩
      case measure => exact hlt
end Go.Proofs.Ytpoohpmcopjklaa

/- A file of the disk turned. -/
namespace Go.Proofs.Ytpoohpmcopjklaa
open Go.RowKit

variable {w w' : World} {fp : List Nat} {b : Nat} {fv cv : Value} {nb sb : Nat} {hs : List HF} {d : Dsk}

theorem GoodD.putF (h : GoodD d) (i : Nat) (f : List UInt8 × Nat) (hf : f.2 ≤ f.1.length ∧ (f.1.length : Int) ≤ d.room ∧ f.1.length ≤ 4294967296) : GoodD (setF d i f) := by
  have ⟨a0, a1, a2, a3, a4, a5, a6, a7, a8, a9, a10⟩ := h
  unfold setF
  refine { h with named := ?_, sured := ?_, turned := ?_, idx := ?_, files := ?_, nfiles := ?_ } <;> simp only [List.length_set]
  · exact a1
  · exact a2
  · exact a3
  · exact a4
  · intro x hx
    rcases List.mem_or_eq_of_mem_set hx with hx | rfl
    · exact a5 x hx
    · exact hf
  · exact a7
theorem map_set2 (hs : List HF) (i : Nat) (x : HF) : (hs.set i x).map (·.2) = (hs.map (·.2)).set i x.2 := by rw [List.map_set]
theorem pw_get {α : Type} {R : α → α → Prop} {l : List α} (h : l.Pairwise R) (hsym : ∀ a b, R a b → R b a) {i j : Nat} (hi : i < l.length) (hj : j < l.length) (hne : i ≠ j) : R l[i] l[j] := by
  rw [List.pairwise_iff_getElem] at h
  by_cases hlt : i < j
  · exact h i j hi hj hlt
  · exact hsym _ _ (h j i hj hi (by omega))
theorem pw_set {α : Type} {R : α → α → Prop} {l : List α} (h : l.Pairwise R) (hsym : ∀ a b, R a b → R b a) {i : Nat} {x : α} (hx : ∀ j (hj : j < l.length), j ≠ i → R x l[j]) : (l.set i x).Pairwise R := by
  rw [List.pairwise_iff_getElem] at h ⊢
  intro p q hp hq hpq
  simp only [List.length_set] at hp hq
  simp only [List.getElem_set]
  split
  · rename_i e
    subst e
    rw [if_neg (by omega)]
    exact hx q hq (by omega)
  · rename_i e
    split
    · rename_i e2
      subst e2
      exact hsym _ _ (hx p hp (by omega))
    · exact h p q hp hq hpq
def ApartV (f g : HF) : Prop := ∀ k, f.1.ownBlock = some k → g.1.ownBlock ≠ some k
theorem apartV_symm (f g : HF) (h : ApartV f g) : ApartV g f := fun k hk hk' => h k hk' hk

/-- How much of file i is sure. -/
theorem DkP.sureSet {g c : Nat} (h : DkP w fp b (.slice (some ⟨g, 0, none⟩) hs.length c) cv nb sb hs d) {i : Nat} (hi : i < hs.length) (n : Nat) (hn : n ≤ hs[i].2.1.length) :
    DkP (w.setCell ⟨g, i * 2 + 1, none⟩ (.int .i64 (n : Int))) fp b (.slice (some ⟨g, 0, none⟩) hs.length c) cv nb sb (hs.set i (hs[i].1, hs[i].2.1, n)) (setF d i (hs[i].2.1, n)) := by
  have hst := World.ownsRow.stored h.files (i * 2 + 1) (.int .i64 (n : Int))
  have hfi : d.files[i]? = some hs[i].2 := by rw [← h.same, List.getElem?_map, List.getElem?_eq_getElem hi]; rfl
  have hmem : hs[i].2 ∈ d.files := List.mem_of_getElem? hfi
  have hc : Chg [g] w (w.setCell ⟨g, i * 2 + 1, none⟩ (.int .i64 (n : Int))) := (Chg.refl _ _).setCell _ _ (by simp)
  have hbg : g ≠ b := by have := ownsRow_apart h.files h.box (by decide); simpa [Value.ownBlock] using this
  exact
  { box := h.box.chg hc (by simpa using fun e => hbg e.symm)
    names := h.names.chg hc (by have := h.names.apartRow h.files; simpa [Value.ownBlock] using fun e : nb = g => this (by simp [Value.ownBlock, e]))
    sure := h.sure.chg hc (by have := h.sure.apartRow h.files; simpa [Value.ownBlock] using fun e : sb = g => this (by simp [Value.ownBlock, e]))
    files := by
      rw [fileCells_set_sure hi, List.length_set]
      exact hst.1
    same := by rw [map_set2, h.same]; rfl
    changes := ownsRow_chg h.changes hc fun k hk => by have := ownsRow_ne2 h.changes h.files (by decide) k hk; simpa [Value.ownBlock] using fun e : k = g => this (by simp [Value.ownBlock, e])
    bytes := fun f hf => by
      have hk : ∀ f ∈ hs, OwB (w.setCell ⟨g, i * 2 + 1, none⟩ (.int .i64 (n : Int))) 0 f.1 f.2.1 := fun f hf => OwB.chg (h.bytes f hf) hc fun k hk => by
        have := ownsRow_ne2 (h.bytes f hf) h.files (by decide) k hk; simpa [Value.ownBlock] using fun e : k = g => this (by simp [Value.ownBlock, e])
      rcases List.mem_or_eq_of_mem_set hf with hf | rfl
      · exact hk f hf
      · exact hk hs[i] (List.getElem_mem hi)
    apart := pw_set (R := ApartV) h.apart apartV_symm fun j hj hne => pw_get (R := ApartV) h.apart apartV_symm hi hj (fun e => hne e.symm)
    ne := h.ne
    fpb := h.fpb
    fpn := h.fpn
    fps := h.fps
    fpf := h.fpf
    fpc := h.fpc
    fph := fun f hf k hk => by
      rcases List.mem_or_eq_of_mem_set hf with hf | rfl
      · exact h.fph f hf k hk
      · exact h.fph _ (List.getElem_mem hi) k hk
    fpl := fun k hk => Nat.lt_of_lt_of_le (h.fpl k hk) hc.size
    good := h.good.putF i _ ⟨hn, (h.good.files _ hmem).2⟩ }
/-- The bytes of file i. -/
theorem DkP.byteSet {g c : Nat} (h : DkP w fp b (.slice (some ⟨g, 0, none⟩) hs.length c) cv nb sb hs d) {i : Nat} (hi : i < hs.length) {v' : Value} {l' : List UInt8}
    (hc : Chg hs[i].1.ownBlock.toList w w') (hv : OwB w' 0 v' l') (hm : Moved w hs[i].1 v') (hg : GoodD (setF d i (l', hs[i].2.2))) :
    DkP (w'.setCell ⟨g, i * 2, none⟩ v') (v'.ownBlock.toList ++ fp) b (.slice (some ⟨g, 0, none⟩) hs.length c) cv nb sb (hs.set i (v', l', hs[i].2.2)) (setF d i (l', hs[i].2.2)) := by
  have hwi := h.bytes _ (List.getElem_mem hi)
  have hbg : g ≠ b := by have := ownsRow_apart h.files h.box (by decide); simpa [Value.ownBlock] using this
  have hib : b ∉ hs[i].1.ownBlock.toList := by simpa using ownsRow_apart hwi h.box (by decide)
  have hig : ∀ k, (Value.slice (some ⟨g, 0, none⟩) hs.length c).ownBlock = some k → k ∉ hs[i].1.ownBlock.toList := fun k hk => by simpa using ownsRow_ne2 h.files hwi (by decide) k hk
  have hbox : Blk w' b (boxCells (.slice (some ⟨g, 0, none⟩) hs.length c) cv nb sb d) 85 := h.box.chg hc hib
  have hfiles := ownsRow_chg h.files hc hig
  have hst := World.ownsRow.stored hfiles (i * 2) v'
  have hv2 : OwB (w'.setCell ⟨g, i * 2, none⟩ v') 0 v' l' := ownsRow_setCell_other hv (a := ⟨g, i * 2, none⟩) (fun e => ownsRow_ne2 hv hfiles (by decide) g e rfl) _
  have hset : ∀ {base size n : Nat} {v : Value} {xs : List Value} {e : TypeId}, e ≠ 94 → w'.ownsRow base e size v n xs → (w'.setCell ⟨g, i * 2, none⟩ v').ownsRow base e size v n xs := fun he h1 =>
    ownsRow_setCell_other h1 (a := ⟨g, i * 2, none⟩) (fun e => ownsRow_ne2 h1 hfiles he g e rfl) _
  have hoth : ∀ f ∈ hs, f.1.ownBlock.toList ≠ hs[i].1.ownBlock.toList ∨ f.1.ownBlock = none → OwB (w'.setCell ⟨g, i * 2, none⟩ v') 0 f.1 f.2.1 := fun f hf hx => hset (by decide) (OwB.chg (h.bytes f hf) hc fun k hk => by
    rcases hx with hx | hx
    · rw [hk] at hx; intro e; rw [Option.mem_toList] at e; exact hx (by rw [e])
    · rw [hk] at hx; cases hx)
  have hap : ∀ j (hj : j < hs.length), j ≠ i → ApartV (v', l', hs[i].2.2) hs[j] := fun j hj hne k hk hk' => by
    rcases hm with e | e
    · exact pw_get (R := ApartV) h.apart apartV_symm hi hj (fun e => hne e.symm) k (e ▸ hk) hk'
    · have := e k hk
      have := (World.ownsRow.lt (h.bytes _ (List.getElem_mem hj)) k hk').2
      omega
  exact
  { box := hbox.other (fun e => hbg e.symm) _
    names := (h.names.chg hc (by simpa using h.names.apartRow hwi)).set _ _ (fun e => h.names.apartRow h.files (by simp only [Value.ownBlock]; exact congrArg some e.symm))
    sure := (h.sure.chg hc (by simpa using h.sure.apartRow hwi)).set _ _ (fun e => h.sure.apartRow h.files (by simp only [Value.ownBlock]; exact congrArg some e.symm))
    files := by
      rw [fileCells_set_eq hi, List.length_set]
      exact hst.1
    same := by rw [map_set2, h.same]; rfl
    changes := hset (by decide) (ownsRow_chg h.changes hc fun k hk => by simpa using ownsRow_ne2 h.changes hwi (by decide) k hk)
    bytes := fun f hf => by
      obtain ⟨j, hj, rfl⟩ := List.getElem_of_mem hf
      simp only [List.length_set] at hj
      rw [List.getElem_set]
      split
      · exact hv2
      · rename_i hne
        refine hoth _ (List.getElem_mem hj) ?_
        rcases hb : hs[j].1.ownBlock with _ | k
        · exact .inr rfl
        · left
          intro e
          have := pw_get (R := ApartV) h.apart apartV_symm hj hi (fun e => hne e.symm) k hb
          rcases hb2 : hs[i].1.ownBlock with _ | k2
          · rw [hb2] at e; simp at e
          · rw [hb2] at e this
            simp at e
            exact this (by rw [e])
    apart := pw_set (R := ApartV) h.apart apartV_symm hap
    ne := h.ne
    fpb := by simp [h.fpb]
    fpn := by simp [h.fpn]
    fps := by simp [h.fps]
    fpf := fun k hk => by simp [h.fpf k hk]
    fpc := fun k hk => by simp [h.fpc k hk]
    fph := fun f hf k hk => by
      rcases List.mem_or_eq_of_mem_set hf with hf | rfl
      · simp [h.fph f hf k hk]
      · have hk : v'.ownBlock = some k := hk
        simp [hk]
    fpl := fun k hk => by
      rw [size_set]
      rcases List.mem_append.1 hk with hk | hk
      · exact (World.ownsRow.lt hv k (by simpa using hk)).2
      · exact Nat.lt_of_lt_of_le (h.fpl k hk) hc.size
    good := hg }
end Go.Proofs.Ytpoohpmcopjklaa

/- slices.Clone of bytes, maps.Clone of names. -/
namespace Go.Proofs.Ytpoohpmcopjklaa
open Go.RowKit

set_option maxHeartbeats 400000 in
theorem CloneB_any (w : World) (v : Value) (l : List UInt8) (hv : Bs w v l) (hl : l.length ≤ 140737488355328) :
    Calls Try.prog 53 #[v] w fun e w' => ∃ ao c, e = .returned (.slice ao l.length c) ∧ OwB w' w.heap.size (.slice ao l.length c) l ∧ Chg [] w w' := by
  obtain ⟨-, ao, cap, b, off, rfl, -, -, hn, -, -⟩ := id hv
  rcases ao with _ | a
  · obtain ⟨h0, rfl⟩ := hn rfl
    obtain rfl : l = [] := List.length_eq_zero_iff.1 h0
    clear hn h0 hv hl
    have hq := fun w => Lib.run_eql_slice_nil (P := Try.prog) w 30 5 none 0 0 0 0 undBytes
    go_enter Try.func53, Try.ntmps53
    go_wp2_with fail
    refine bodyPost_ret (v := .slice none 0 0) ?_ rfl ⟨none, 0, rfl, OwB.nil _ _, Chg.refl _ _⟩
    simp only [results]; go_simp
  · have hB : OwB (w.alloc (.cells #[] 5)) w.heap.size (.slice (some ⟨w.heap.size, 0, none⟩) 0 0) [] := World.ownsRow_lit w #[] 0 (Nat.le_refl _) (by decide) rfl
    have hv1 := hv.alloc (.cells #[] 5)
    clear hn hv
    have hq := fun w => Lib.run_eql_slice_nil (P := Try.prog) w 30 5 (some a) l.length cap 0 0 undBytes
    go_enter Try.func53, Try.ntmps53
    go_wp2_with (at_builtin; refine wpAppB rfl _ _ rfl w.heap.size _ _ rfl hB _ _ rfl hv1 (by simpa using hl) (by simp) ?_; intro ao1 c1 w1 h1 h2 h3)
    have hc : Chg [] w w1 := ((Chg.refl [] w).alloc _).app hB h2 (Nat.le_refl _)
    simp only [List.nil_append, List.length_nil, Nat.zero_add] at h1 ⊢
    refine bodyPost_ret (v := .slice ao1 l.length c1) ?_ rfl ⟨ao1, c1, rfl, h1, hc⟩
    simp only [results]; go_simp

set_option maxHeartbeats 2000000 in
set_option maxRecDepth 8000 in
theorem CloneM_any (w : World) (b : Nat) (es : Nm) (h : MapAt w b es) :
    Calls Try.prog 55 #[.map (some b)] w fun e w' => e = .returned (.map (some w.heap.size)) ∧ MapAt w' w.heap.size es ∧ Chg [] w w' := by
  obtain ⟨D, ⟨xs, clock, hb, F, hs, hD⟩, hr⟩ := h
  have hfin : MapAt (w.alloc (.map xs clock)) w.heap.size es := ⟨D, ⟨xs, clock, (MapKept.heap_alloc w _).1, F, hs, hD⟩, hr⟩
  have hc : Chg [] w (w.alloc (.map xs clock)) := (Chg.refl [] w).alloc _
  clear F hs hD hr
  have hq := fun w => run_eql_map_nil_sl (P := Try.prog) w 81 _ _ (some b) undMapN
  have hcon : Try.prog.concrete 81 = true := by kernel_rfl
  go_enter Try.func55, Try.ntmps55
  go_wp2
  rw [run_callFunc_extern Try.func75 (by kernel_rfl) (by kernel_rfl) (by kernel_rfl) (e := Extern.MapsClone.clone) (by kernel_rfl), run_maps_clone_sl w 81 hb]
  simp only [Result.andThen]
  rw [Oper.upon_value]
  go_wp2
  rw [run_typeAssert_map_sl _ 81 _ _ _ _ undMapN]
  simp only [Result.andThen]
  rw [Oper.upon_value]
  go_wp2
  go_ret
  exact ⟨rfl, hfin, hc⟩
end Go.Proofs.Ytpoohpmcopjklaa

/- m[k] = v at a key that is there, while m is ranged over. -/
namespace Go.Proofs.Ytpoohpmcopjklaa
open Go.RowKit
open Go.ChangeMaps Go.MapKept
open Go.WideElems (Fit rd rg pl rd_val elemAt)
open Go.Maps (Keyed)

section
variable {P : Program} {k : TypeId} {w : World} {b : Nat} {es : Array MapEntry} {clock : Nat} {R : Value → Option (DataW Unit × List MemPlace)}

theorem run_store_there {t e : TypeId} (K : Keyed P k) (ht : P.underlying t = some (.map k e)) (hb : w.heap[b]? = some (.map es clock)) {key val : Value} {kl : Lit} (hkey : keyOf P k key = some kl) {j : Nat} {e0 : MapEntry}
    (h1 : (Instr.findKey k key es.toList).run P w = .ok (some (j, e0.val)) w) (h2 : es.toList[j]? = some e0) (h3 : e0.key = key) :
    (Instr.mapUpdate t (.map (some b)) key val).run P w = .ok () (setBlock w b (.map (es.modify j (fun e' => { e' with key := key, val := val })) clock)) := by
  have hj : es[j]? = some e0 := by simpa using h2
  simp [Instr.mapUpdate, run_underlying ht, MapKept.run_getObj_map hb, K.check w false hkey, h1, hj, h3, K.stays w hkey, MapKept.run_setObj_map _ hb, Result.andThen, setBlock]
theorem ranges_store {t e : TypeId} {r n cnt : Nat} {D : DataW Unit} {left : Lit → Bool} (h : w.ranges P k R b r n D left cnt) (K : Keyed P k) (ht : P.underlying t = some (.map k e)) {key val : Value} {kl : Lit} (hkey : keyOf P k key = some kl)
    (hin : Maps.has D kl = true) {d : DataW Unit} {ps : List MemPlace} (hv : R val = some (d, ps)) (hn : n < maxLen) :
    ∃ w', (Instr.mapUpdate t (.map (some b)) key val).run P w = .ok () w' ∧ w'.ranges P k R b r n (D.put kl d) left cnt ∧ w.mapTurned w' b := by
  have hne := h.ne
  obtain ⟨es, clock, since, seen, c0, hb, F, hs, rfl, hr, hold, hcnt, hl1, hl2, hsc, hsk⟩ := h
  rcases K.find w hkey es.toList F.keys with ⟨h1, h2⟩ | ⟨j, e0, h1, h2, h3⟩
  · exfalso
    rw [Maps.has_eq, List.any_eq_true] at hin
    obtain ⟨p, hp, hs⟩ := hin
    obtain ⟨x, hx, rfl⟩ := List.mem_map.1 (mem_sorted.1 hp)
    obtain ⟨y, hy⟩ := F.reads x hx
    have e1 : (rg P k R x).1 = kl := by
      by_cases he : (rg P k R x).1 = kl
      · exact he
      · rw [Maps.sameKey_ne he] at hs; cases hs
    rw [WideElems.rg_of hy] at e1
    exact h2 x hx (K.inj (e1 ▸ WideElems.rd_key hy) hkey)
  · have hrun := run_store_there (w := w) K ht hb (val := val) hkey h1 h2 h3
    obtain ⟨es', clock', hrun', F', hput, -⟩ := Maps.fit_store (R' := R) K ht hb F (Nat.lt_of_le_of_lt hs hn) (fun _ _ _ _ hz => hz) hkey hv
    have heq : es' = es.modify j (fun e' => { e' with key := key, val := val }) ∧ clock' = clock := by
      have := hrun'.symm.trans hrun
      simp only [Result.ok.injEq, true_and] at this
      have h5 := congrArg (fun W : World => W.heap[b]?) this
      simp only [heap_setBlock_same hb] at h5
      simpa using h5
    obtain ⟨rfl, rfl⟩ := heq
    have hlist : (es.modify j (fun e' => { e' with key := key, val := val })).toList = es.toList.set j { e0 with key := key, val := val } := by
      rw [Array.toList_modify]
      apply List.ext_getElem?
      intro i
      rw [List.getElem?_modify, List.getElem?_set]
      by_cases hij : j = i
      · subst hij
        rw [h2]
        have : j < es.toList.length := (List.getElem?_eq_some_iff.1 h2).1
        simp
        simpa using this
      · simp [hij]
    have hk0 : (WideElems.rg P k R e0).1 = kl := by
      obtain ⟨y, hy⟩ := F.reads e0 (List.mem_of_getElem? h2)
      have m1 := WideElems.rd_key hy
      rw [h3, hkey] at m1
      rw [WideElems.rg_of hy]
      exact (Option.some.inj m1).symm
    have hk1 : (WideElems.rg P k R { e0 with key := key, val := val }).1 = kl := by rw [WideElems.rg_of (WideElems.rd_mk hkey hv)]
    have hme := List.mem_of_getElem? h2
    have who : ∀ x ∈ es.toList.set j { e0 with key := key, val := val }, x = { e0 with key := key, val := val } ∨ x ∈ es.toList := fun x hx => (List.mem_or_eq_of_mem_set hx).symm
    refine ⟨_, hrun, ⟨_, _, since, seen, c0, heap_setBlock_same hb _, F', by simpa using hs, by rw [DataW.put_eq, hput], (heap_setBlock_other hb _ hne).trans hr, fun x hx => ?_, ?_, fun x hx => ?_, fun x0 hx0 => ?_, hsc, hsk⟩, ⟨es, _, _, _, hb, rfl⟩⟩
    · rw [hlist] at hx
      rcases who x hx with rfl | hx
      · exact hold e0 hme
      · exact hold x hx
    · have e1 : ∀ a : Array MapEntry, (leftOf a seen).size = (a.toList.filter fun e => !seen.contains e.born).length := fun a => by
        unfold leftOf
        rw [← Array.toList_filter, Array.length_toList]
      rw [e1] at hcnt ⊢
      rw [hlist, ← hcnt, ← List.countP_eq_length_filter, ← List.countP_eq_length_filter]
      have e2 : ∀ l : List MapEntry, l.countP (fun e => !seen.contains e.born) = (l.map (·.born)).countP (fun z => !seen.contains z) := fun l => by rw [List.countP_map]; rfl
      rw [e2, e2, List.map_set]
      congr 1
      apply List.ext_getElem?
      intro i
      rw [List.getElem?_set]
      by_cases hij : j = i
      · subst hij
        have : j < (es.toList.map (·.born)).length := by rw [List.length_map]; exact (List.getElem?_eq_some_iff.1 h2).1
        rw [if_pos rfl, if_pos this, List.getElem?_map, h2]
        rfl
      · rw [if_neg hij]
    · rw [hlist] at hx
      rcases who x hx with rfl | hx
      · rw [hk1, ← hk0]; exact hl1 e0 hme
      · exact hl1 x hx
    · obtain ⟨x, hx, rfl⟩ := hl2 x0 hx0
      rw [hlist]
      obtain ⟨i, hi, rfl⟩ := List.getElem_of_mem hx
      by_cases hij : j = i
      · subst hij
        have he : es.toList[j] = e0 := by rw [List.getElem?_eq_getElem hi] at h2; exact Option.some.inj h2
        exact ⟨_, List.mem_set hi _, by rw [hk1, he, hk0]⟩
      · exact ⟨es.toList[i], by rw [List.mem_iff_getElem?]; exact ⟨i, by rw [List.getElem?_set_ne hij, List.getElem?_eq_getElem hi]⟩, rfl⟩
end
theorem MapRange.chg {S : List Nat} {w w' : World} {b r : Nat} {es rest : Nm} (h : MapRange w b r es rest) (hc : Chg S w w') (hb : b ∉ S) (hr : r ∉ S) : MapRange w' b r es rest ∧ w'.rangeLeft b r = w.rangeLeft b r := by
  have hlt1 := h.map.lt
  have hlt2 := h.lt
  obtain ⟨D, lf, cnt, hrg, hR, hnd, hsub, hleft⟩ := h
  have hrg2 : w'.ranges Try.prog 9 (plainElem Try.prog 3) b r es.length D lf cnt := by
    obtain ⟨xs, clock, since, seen, c0, h1, F, hs, hD, h2, rest⟩ := hrg
    exact ⟨xs, clock, since, seen, c0, (hc.block b hlt1 hb).trans h1, F, hs, hD, (hc.block r hlt2 hr).trans h2, rest⟩
  exact ⟨⟨D, lf, cnt, hrg2, hR, hnd, hsub, hleft⟩, by rw [hrg2.left_eq, hrg.left_eq]⟩
theorem nget_mem_isSome {es : Nm} {s : List UInt8} {i : Nat} (h : (s, i) ∈ es) : (nget es s).isSome := by
  rcases hn : nget es s with _ | j
  · exfalso
    unfold nget at hn
    rw [Option.map_eq_none_iff, List.find?_eq_none] at hn
    exact hn _ h (by simp)
  · rfl
/-- The same map, told in another order. -/
theorem MapAt.congr {w : World} {b : Nat} {es es' : Nm} (h : MapAt w b es) (hn : (es'.map (·.1)).Nodup) (hl : es'.length = es.length) (hg : ∀ k, nget es' k = nget es k) : MapAt w b es' := by
  obtain ⟨D, h1, hr⟩ := h
  rw [← hl] at h1
  refine ⟨D, h1, ⟨hn, fun k z => by rw [hg]; exact hr.at_ k z, fun k => by rw [hg]; exact hr.has k, by rw [hl]; exact hr.size, hr.tidy, fun p hp => ?_⟩⟩
  have := mem_nget hn (s := p.1) (i := p.2) hp
  rw [hg] at this
  exact hr.wf _ (nget_some_mem this)
/-- 'm[k] = v' at a key that is there: the range goes on. -/
theorem wpPutR {w : World} {o : Oper} {a : Act} {K : Act → World → Prop} {Q : Exit → Act → World → Prop} (hdst : o.dst = none) (m x v : Operand) (hop : o.op = Op.mapUpdate 81 m x v)
    (b r : Nat) (es rest : Nm) (s : List UInt8) (i : Nat) (hm : a.eval m = .map (some b)) (hx : a.eval x = .string (strB s)) (hv : a.eval v = .int .i64 (i : Int)) (h : MapRange w b r es rest) (hin : (nget es s).isSome) (hs : s.length ≤ 9223372036854775807) (hi : i ≤ 4611686018427387904) (hn : es.length ≤ 10000000000000)
    (hno : nget rest s = none) (hK : ∀ w', MapRange w' b r (nput es s i) rest → w.grownBy w' (some b) → (nput es s i).length = es.length → w'.rangeLeft b r = w.rangeLeft b r → K a w') : o.wp Try.prog a w K Q := by
  obtain ⟨D, lf, cnt, hrg, hr, hnd, hsub, hleft⟩ := h
  obtain ⟨w', hrun, h1, h2⟩ := ranges_store hrg strKeyed undMapN (keyStr' s hs) (by rw [hr.has]; exact hin) (plainElem_int undInt (wfNat hi)) (by unfold maxLen; omega)
  have hsz : (nput es s i).length = es.length := by
    have h3 := length_ndel hr.nodup s
    rw [if_pos hin] at h3
    unfold nput
    rw [List.length_append]
    simp only [List.length_cons, List.length_nil]
    omega
  unfold Oper.wp
  simp [execOp, hop, hm, hx, hv, hrun, Result.andThen]
  have e : a.put o.dst undef = a := by rw [hdst]; rfl
  show K (a.put o.dst undef) w'
  rw [e]
  refine hK w' ⟨_, lf, cnt, by rw [hsz]; exact h1, hr.put s i hi, hnd, fun p hp => ?_, hleft⟩ h2.grown hsz (by rw [h1.left_eq, hrg.left_eq])
  unfold nput
  refine List.mem_append.2 (.inl (List.mem_filter.2 ⟨hsub p hp, ?_⟩))
  have : p.1 ≠ s := fun e => by
    have := nget_mem_isSome (es := rest) (s := s) (i := p.2) (by rw [← e]; exact hp)
    rw [hno] at this
    cases this
  simpa using this
end Go.Proofs.Ytpoohpmcopjklaa

/- Maps of a call's own with int keys, as functions. -/
namespace Go.Proofs.Ytpoohpmcopjklaa
open Go.RowKit

theorem intKeyed : Maps.Keyed Try.prog 3 := Maps.int_keyed undInt
theorem undMapII : Try.prog.underlying 54 = some (.map 3 3) := by kernel_rfl
theorem undMapIB : Try.prog.underlying 138 = some (.map 3 4) := by kernel_rfl
theorem undBool : Try.prog.underlying 4 = some .bool := by kernel_rfl
theorem zeroBool (w : World) : (zeroValue 4).run Try.prog w = .ok (.bool false) w := by kernel_rfl
/-- Block b is a map from ints that says f, and z where it holds nothing; at most n entries. -/
def MapF (w : World) (et : TypeId) (b n : Nat) (z : Lit) (f : Int → Lit) : Prop :=
  ∃ D : DataW Unit, w.ownsMap Try.prog 3 (plainElem Try.prog et) b n D ∧ Maps.IsMap D ∧ ∀ i : Int, D.atKey (.int .i64 i) (.lit z) = .lit (f i)
theorem MapF.lt {w : World} {et : TypeId} {b n : Nat} {z : Lit} {f : Int → Lit} (h : MapF w et b n z f) : b < w.heap.size := let ⟨_, h1, _⟩ := h; h1.lt
theorem MapF.block {w w' : World} {et : TypeId} {b n : Nat} {z : Lit} {f : Int → Lit} (h : MapF w et b n z f) (hc : w'.heap[b]? = w.heap[b]?) : MapF w' et b n z f := by
  obtain ⟨D, ⟨xs, clock, hb, r⟩, hr⟩ := h
  exact ⟨D, ⟨xs, clock, hc.trans hb, r⟩, hr⟩
theorem MapF.chg {S : List Nat} {w w' : World} {et : TypeId} {b n : Nat} {z : Lit} {f : Int → Lit} (h : MapF w et b n z f) (hc : Chg S w w') (hn : b ∉ S) : MapF w' et b n z f := h.block (hc.block b h.lt hn)
theorem MapF.k {w w' : World} {et : TypeId} {b n : Nat} {z : Lit} {f : Int → Lit} (h : MapF w et b n z f) (hc : Chg [] w w') : MapF w' et b n z f := h.chg hc (by simp)
theorem MapF.heap {w : World} {et : TypeId} {b n : Nat} {z : Lit} {f : Int → Lit} (h : MapF w et b n z f) : ∃ xs c, w.heap[b]? = some (.map xs c) := by
  obtain ⟨_, ⟨xs, c, hb, _⟩, _⟩ := h; exact ⟨xs, c, hb⟩
theorem MapF.apartRow {w : World} {et : TypeId} {b n : Nat} {z : Lit} {f : Int → Lit} (h : MapF w et b n z f) {base : Nat} {e : TypeId} {size m : Nat} {v : Value} {xs : List Value} (hr : w.ownsRow base e size v m xs) : v.ownBlock ≠ some b := by
  intro he
  obtain ⟨ys, c, hx⟩ := h.heap
  rcases hr.2 with ⟨rfl, _⟩ | ⟨g, cap, cur, rfl, _, hg, _⟩
  · simp [Value.ownBlock] at he
  · simp only [Value.ownBlock, Option.some.injEq] at he
    subst he
    rw [hx] at hg
    simp at hg
theorem MapF.grown {w w' : World} {row : Option Nat} {et : TypeId} {b n : Nat} {z : Lit} {f : Int → Lit} (h : MapF w et b n z f) (hg : w.grownBy w' row) (hn : some b ≠ row) : MapF w' et b n z f := h.block (hg.block b h.lt hn)
theorem MapF.alloc {w : World} {et : TypeId} {b n : Nat} {z : Lit} {f : Int → Lit} (h : MapF w et b n z f) (o : Obj) : MapF (w.alloc o) et b n z f := h.k ((Chg.refl _ _).alloc o)
theorem MapF.new (w : World) (et : TypeId) (z : Lit) : MapF (w.alloc (.map #[] 0)) et w.heap.size 0 z (fun _ => z) := ⟨.map [], World.ownsMap_made w _ _ _, Maps.isMap_empty, fun _ => rfl⟩
theorem keyInt {i : Int} (h : (Lit.int .i64 i).wf = true) : keyOf Try.prog 3 (.int .i64 i) = some (.int .i64 i) := Maps.keyOf_int_mk undInt h
theorem int_ne {a b : Int} (h : a ≠ b) : (Lit.int .i64 a) ≠ Lit.int .i64 b := fun e => h (by injection e)
/-- 'm[k]' of ints. -/
theorem run_lookII {w : World} {b n : Nat} {f : Int → Lit} (h : MapF w 3 b n (.int .i64 0) f) {i : Int} (hi : (Lit.int .i64 i).wf = true) :
    ∃ c, (Instr.lookup 54 (.map (some b)) (.int .i64 i) false).run Try.prog w = .ok (.int .i64 c) w ∧ f i = .int .i64 c := by
  obtain ⟨D, hown, -, hat⟩ := h
  obtain ⟨c, hrun, hc, -⟩ := hown.lookup_int intKeyed undMapII undInt (zeroInt w) (keyInt hi)
  refine ⟨c, hrun, ?_⟩
  rw [hat] at hc
  simpa using hc
/-- 'm[k] = v' of ints, of bools. -/
theorem run_putF {w : World} {t et : TypeId} {b n : Nat} {z : Lit} {f : Int → Lit} (ht : Try.prog.underlying t = some (.map 3 et)) (h : MapF w et b n z f) (hn : n < maxLen) {i : Int} (hi : (Lit.int .i64 i).wf = true) {v : Value} {l : Lit} (hv : plainElem (H := Unit) Try.prog et v = some (.lit l, [])) :
    ∃ w', (Instr.mapUpdate t (.map (some b)) (.int .i64 i) v).run Try.prog w = .ok () w' ∧ MapF w' et b (n + 1) z (fun j => if j = i then l else f j) ∧ w.grownBy w' (some b) := by
  obtain ⟨D, hown, hm, hat⟩ := h
  obtain ⟨w', hrun, h1, h2⟩ := hown.update intKeyed ht hn (keyInt hi) hv
  refine ⟨w', hrun, ⟨_, h1, hm.put _ _, fun j => ?_⟩, h2⟩
  by_cases hj : j = i
  · subst hj; rw [Maps.atKey_put_same hm (intKeyed.key (keyInt hi))]; simp
  · simp only [if_neg hj]; rw [Maps.atKey_put_other (int_ne hj), hat]
theorem wpPutF {w : World} {ops : Array Oper} {rest : List Oper} {o : Oper} {a : Act} {Q : Exit → Act → World → Prop} (hg : o.guard = none) (hdst : o.dst = none) (m x v : Operand) (t et : TypeId) (hop : o.op = Op.mapUpdate t m x v) (ht : Try.prog.underlying t = some (.map 3 et))
    (b n : Nat) (z : Lit) (f : Int → Lit) (h : MapF w et b n z f) (hm : a.eval m = .map (some b)) (hn : n < maxLen) (i : Int) (hi : (Lit.int .i64 i).wf = true) (val : Value) (l : Lit) (hx : a.eval x = .int .i64 i) (hv : a.eval v = val) (hp : plainElem (H := Unit) Try.prog et val = some (.lit l, []))
    (hK : ∀ w', MapF w' et b (n + 1) z (fun j => if j = i then l else f j) → w.grownBy w' (some b) → wpList Try.prog ops Q rest a w') : wpList Try.prog ops Q (o :: rest) a w := by
  refine wpList_plain hg fun K' hK' => ?_
  obtain ⟨w', hrun, h1, h2⟩ := run_putF ht h hn hi hp
  unfold Oper.wp
  simp [execOp, hop, hm, hx, hv, hrun, Result.andThen]
  have e : a.put o.dst undef = a := by rw [hdst]; rfl
  exact hK' (a.put o.dst undef) w' (by rw [e]; exact hK w' h1 h2)
/-- 'm[k]' of bools. -/
theorem run_lookIB {w : World} {b n : Nat} {f : Int → Lit} (h : MapF w 4 b n (.bool false) f) {i : Int} (hi : (Lit.int .i64 i).wf = true) {x : Bool} (hx : f i = .bool x) :
    (Instr.lookup 138 (.map (some b)) (.int .i64 i) false).run Try.prog w = .ok (.bool x) w := by
  obtain ⟨D, hown, -, hat⟩ := h
  obtain ⟨v, ps, hrun, hv⟩ := hown.lookup intKeyed undMapIB (zeroBool w) (plainElem_bool undBool false) (keyInt hi)
  rw [hat, hx] at hv
  have : v = .bool x := by
    unfold plainElem at hv
    rw [undBool] at hv
    cases v <;> simp at hv
    rw [hv.1]
  rw [hrun, this]
end Go.Proofs.Ytpoohpmcopjklaa

/- A crash, as plain data. -/
namespace Go.Proofs.Ytpoohpmcopjklaa

def namedN (es : Nm) (j : Nat) : Bool := es.any fun p => p.2 == j
/-- The new index of file i. -/
def atN (es : Nm) (i : Nat) : Nat := ((List.range i).filter (namedN es)).length
def keepF (es : Nm) (fs : List (List UInt8 × Nat)) (n : Nat) : List (List UInt8 × Nat) := ((List.range n).filter (namedN es)).map fun i => ((fs.getD i ([], 0)).1, (fs.getD i ([], 0)).1.length)
def movedN (es : Nm) : Nm := es.map fun p => (p.1, atN es p.2)
def settleD (d : Dsk) : Dsk :=
  { d with files := keepF d.names d.files d.files.length, names := movedN d.names, sure := movedN d.names, changes := [], off := false, down := -1, fail := -1 }
def cutF : List (List UInt8 × Nat) → List Int → List (List UInt8 × Nat)
  | [], _ => []
  | f :: l, kept =>
    if f.2 < f.1.length then (f.1.take (f.2 + (min (max (kept.headD 0) 0) ((f.1.length : Int) - f.2)).toNat), f.2) :: cutF l kept.tail else f :: cutF l kept
def crashD (d : Dsk) (n : Int) (kept : List Int) : Dsk :=
  settleD { d with files := cutF d.files kept, names := (d.changes.take (min (max n 0) d.changes.length).toNat).foldl turnD d.sure }

theorem atN_le (es : Nm) (i : Nat) : atN es i ≤ i := by
  unfold atN; exact Nat.le_trans (List.length_filter_le _ _) (by simp)
theorem keepF_length (es : Nm) (fs : List (List UInt8 × Nat)) (n : Nat) : (keepF es fs n).length = atN es n := by simp [keepF, atN]
theorem atN_succ (es : Nm) (i : Nat) : atN es (i + 1) = atN es i + (if namedN es i then 1 else 0) := by
  unfold atN; rw [List.range_succ, List.filter_append]; by_cases h : namedN es i <;> simp [h]
theorem atN_mono (es : Nm) {i j : Nat} (h : i ≤ j) : atN es i ≤ atN es j := by
  induction j with
  | zero => simp at h; subst h; exact Nat.le_refl _
  | succ j ih =>
    by_cases hj : i = j + 1
    · subst hj; exact Nat.le_refl _
    · rw [atN_succ]; have := ih (by omega); omega
theorem atN_lt {es : Nm} {i n : Nat} (h : i < n) (hn : namedN es i = true) : atN es i < atN es n := by
  have h1 := atN_mono es (show i + 1 ≤ n by omega)
  rw [atN_succ, if_pos hn] at h1
  omega
theorem keepF_succ (es : Nm) (fs : List (List UInt8 × Nat)) (n : Nat) : keepF es fs (n + 1) = keepF es fs n ++ (if namedN es n then [((fs.getD n ([], 0)).1, (fs.getD n ([], 0)).1.length)] else []) := by
  unfold keepF; rw [List.range_succ, List.filter_append, List.map_append]; by_cases h : namedN es n <;> simp [h]
theorem named_of_mem {es : Nm} {p : List UInt8 × Nat} (h : p ∈ es) : namedN es p.2 = true := by
  unfold namedN; rw [List.any_eq_true]; exact ⟨p, h, by simp⟩
theorem cutF_length : ∀ (l : List (List UInt8 × Nat)) (kept : List Int), (cutF l kept).length = l.length
  | [], _ => rfl
  | f :: l, kept => by
    unfold cutF
    split <;> simp [cutF_length l]
theorem cutF_files {P : List UInt8 × Nat → Prop} (hP : ∀ (f : List UInt8 × Nat) (k : Nat), P f → f.2 < f.1.length → P (f.1.take (f.2 + k), f.2)) : ∀ (l : List (List UInt8 × Nat)) (kept : List Int), (∀ f ∈ l, P f) → ∀ f ∈ cutF l kept, P f
  | [], _, _, f, hf => by simp [cutF] at hf
  | g :: l, kept, h, f, hf => by
    unfold cutF at hf
    split at hf
    · rename_i hlt
      rcases List.mem_cons.1 hf with rfl | hf
      · exact hP g _ (h g (by simp)) hlt
      · exact cutF_files hP l _ (fun x hx => h x (by simp [hx])) f hf
    · rcases List.mem_cons.1 hf with rfl | hf
      · exact h f (by simp)
      · exact cutF_files hP l _ (fun x hx => h x (by simp [hx])) f hf
theorem foldl_turn (es : Nm) (cs : List (List UInt8 × List UInt8 × Nat)) : (es.map (·.1)).Nodup → ((cs.foldl turnD es).map (·.1)).Nodup ∧ (cs.foldl turnD es).length ≤ es.length + cs.length ∧
    ∀ p ∈ cs.foldl turnD es, p ∈ es ∨ ∃ c ∈ cs, c.2.1 ≠ [] ∧ p = (c.2.1, c.2.2) := by
  induction cs generalizing es with
  | nil => intro h; exact ⟨h, by simp, fun p hp => .inl hp⟩
  | cons c cs ih =>
    intro h
    obtain ⟨h1, h2, h3⟩ := ih (turnD es c) (nodup_turn h c)
    have h4 := length_turn h c
    refine ⟨h1, by simp only [List.foldl_cons, List.length_cons]; omega, fun p hp => ?_⟩
    rcases h3 p hp with hp | ⟨c', hc', hx⟩
    · rcases mem_turnD hp with hp | hx
      · exact .inl hp
      · exact .inr ⟨c, by simp, hx⟩
    · exact .inr ⟨c', by simp [hc'], hx⟩
theorem GoodD.settle {d : Dsk} (h : GoodD d) (hf : ∀ f ∈ d.files, (f.1.length : Int) ≤ d.room ∧ f.1.length ≤ 4294967296) : GoodD (settleD d) := by
  have hl : (settleD d).files.length = atN d.names d.files.length := keepF_length _ _ _
  have hle := atN_le d.names d.files.length
  have hnm : ∀ p ∈ movedN d.names, p.2 < (settleD d).files.length := by
    intro p hp
    obtain ⟨q, hq, rfl⟩ := List.mem_map.1 hp
    rw [hl]
    exact atN_lt (h.named q hq) (named_of_mem hq)
  refine ⟨h.room, hnm, hnm, by simp [settleD], by simp [settleD], fun f hf' => ?_, h.ops, ?_, ?_, ?_, by simp [settleD]⟩
  · obtain ⟨i, hi, rfl⟩ := List.mem_map.1 hf'
    have hi2 : i < d.files.length := by simpa using (List.mem_filter.1 hi).1
    have hg : d.files.getD i ([], 0) = d.files[i] := by rw [List.getD_eq_getElem?_getD, List.getElem?_eq_getElem hi2]; rfl
    rw [hg]
    exact ⟨Nat.le_refl _, hf d.files[i] (List.getElem_mem hi2)⟩
  · rw [hl]; have := h.nfiles; show (_ : Int) ≤ d.ops; omega
  · show ((movedN d.names).length : Int) ≤ d.ops; unfold movedN; rw [List.length_map]; exact h.nnames
  · show ((movedN d.names).length : Int) + (([] : List (List UInt8 × List UInt8 × Nat)).length : Int) ≤ d.ops
    unfold movedN; rw [List.length_map]; simpa using h.nnames
theorem GoodD.cut {d : Dsk} (h : GoodD d) (hn : (d.sure.map (·.1)).Nodup) (kept : List Int) (m : Nat) : GoodD { d with files := cutF d.files kept, names := (d.changes.take m).foldl turnD d.sure } := by
  have hl := cutF_length d.files kept
  obtain ⟨-, h2, h3⟩ := foldl_turn d.sure (d.changes.take m) hn
  have hc := h.nchanges
  have hm : (d.changes.take m).length ≤ d.changes.length := by rw [List.length_take]; omega
  refine { h with named := fun p hp => ?_, sured := ?_, turned := ?_, idx := ?_, files := ?_, nfiles := ?_, nnames := ?_ } <;> simp only [hl]
  · rcases h3 p hp with hp | ⟨c, hc, hne, rfl⟩
    · exact h.sured p hp
    · exact h.turned c (List.mem_of_mem_take hc) hne
  · exact h.sured
  · exact h.turned
  · exact h.idx
  · exact cutF_files (P := fun f => f.2 ≤ f.1.length ∧ (f.1.length : Int) ≤ d.room ∧ f.1.length ≤ 4294967296) (fun f k hf hlt => by simp only [List.length_take]; omega) d.files kept h.files
  · exact h.nfiles
  · omega
theorem moved_nodup {es : Nm} (h : (es.map (·.1)).Nodup) : ((movedN es).map (·.1)).Nodup := by
  unfold movedN; rw [List.map_map]; exact h
theorem nget_moved {es : Nm} (k : List UInt8) : nget (movedN es) k = (nget es k).map (atN es) := by
  unfold nget movedN
  rw [List.find?_map, Option.map_map, Option.map_map]
  rfl
def restK : List (List UInt8 × Nat) → List Int → List Int
  | [], kept => kept
  | f :: l, kept => if f.2 < f.1.length then restK l kept.tail else restK l kept
def cutOne (f : List UInt8 × Nat) (kept : List Int) : List UInt8 × Nat := (f.1.take (f.2 + (min (max (kept.headD 0) 0) ((f.1.length : Int) - f.2)).toNat), f.2)
theorem cutF_snoc (f : List UInt8 × Nat) : ∀ (l : List (List UInt8 × Nat)) (kept : List Int), cutF (l ++ [f]) kept = cutF l kept ++ [if f.2 < f.1.length then cutOne f (restK l kept) else f] ∧ restK (l ++ [f]) kept = if f.2 < f.1.length then (restK l kept).tail else restK l kept
  | [], kept => by
    by_cases h : f.2 < f.1.length <;> simp [cutF, restK, cutOne, h]
  | g :: l, kept => by
    by_cases h : g.2 < g.1.length
    · have ih := cutF_snoc f l kept.tail
      simp only [List.cons_append, cutF, restK, if_pos h, ih.1, ih.2]
      exact ⟨trivial, trivial⟩
    · have ih := cutF_snoc f l kept
      simp only [List.cons_append, cutF, restK, if_neg h, ih.1, ih.2]
      exact ⟨trivial, trivial⟩
def filesAt (fs : List (List UInt8 × Nat)) (kept : List Int) (k : Nat) : List (List UInt8 × Nat) := cutF (fs.take k) kept ++ fs.drop k
def keptAt (fs : List (List UInt8 × Nat)) (kept : List Int) (k : Nat) : List Int := restK (fs.take k) kept
theorem filesAt_zero (fs : List (List UInt8 × Nat)) (kept : List Int) : filesAt fs kept 0 = fs := by simp [filesAt, cutF]
theorem keptAt_zero (fs : List (List UInt8 × Nat)) (kept : List Int) : keptAt fs kept 0 = kept := by simp [keptAt, restK]
theorem filesAt_all (fs : List (List UInt8 × Nat)) (kept : List Int) : filesAt fs kept fs.length = cutF fs kept := by simp [filesAt]
theorem filesAt_length (fs : List (List UInt8 × Nat)) (kept : List Int) (k : Nat) : (filesAt fs kept k).length = fs.length := by
  unfold filesAt; rw [List.length_append, cutF_length, ← List.length_append, List.take_append_drop]
theorem filesAt_get (fs : List (List UInt8 × Nat)) (kept : List Int) (k : Nat) (h : k < fs.length) : (filesAt fs kept k)[k]? = some fs[k] := by
  unfold filesAt
  rw [List.getElem?_append_right (by rw [cutF_length, List.length_take]; omega), cutF_length, List.length_take, Nat.min_eq_left (by omega), Nat.sub_self, List.getElem?_drop, Nat.add_zero, List.getElem?_eq_getElem h]
theorem filesAt_succ (fs : List (List UInt8 × Nat)) (kept : List Int) (k : Nat) (h : k < fs.length) :
    filesAt fs kept (k + 1) = (filesAt fs kept k).set k (if fs[k].2 < fs[k].1.length then cutOne fs[k] (keptAt fs kept k) else fs[k]) ∧
    keptAt fs kept (k + 1) = if fs[k].2 < fs[k].1.length then (keptAt fs kept k).tail else keptAt fs kept k := by
  have e : fs.take (k + 1) = fs.take k ++ [fs[k]] := by rw [List.take_succ_eq_append_getElem h]
  have hs := cutF_snoc fs[k] (fs.take k) kept
  unfold filesAt keptAt
  rw [e, hs.1, hs.2]
  refine ⟨?_, rfl⟩
  have hl : (cutF (fs.take k) kept).length = k := by rw [cutF_length, List.length_take]; omega
  rw [List.set_append_right k _ (by omega), hl, Nat.sub_self, List.append_assoc]
  congr 1
  rw [List.drop_eq_getElem_cons h]
  rfl
theorem GoodD.withFiles {d : Dsk} (h : GoodD d) (fs : List (List UInt8 × Nat)) (hl : fs.length = d.files.length) (hf : ∀ f ∈ fs, f.2 ≤ f.1.length ∧ (f.1.length : Int) ≤ d.room ∧ f.1.length ≤ 4294967296) : GoodD { d with files := fs } := by
  refine { h with named := ?_, sured := ?_, turned := ?_, idx := ?_, files := hf, nfiles := ?_ } <;> simp only [hl]
  · exact h.named
  · exact h.sured
  · exact h.turned
  · exact h.idx
  · exact h.nfiles
theorem GoodD.partCut {d : Dsk} (h : GoodD d) (kept : List Int) (k : Nat) : GoodD { d with files := filesAt d.files kept k } := by
  refine h.withFiles _ (filesAt_length _ _ _) fun f hf => ?_
  unfold filesAt at hf
  rcases List.mem_append.1 hf with hf | hf
  · exact cutF_files (P := fun f => f.2 ≤ f.1.length ∧ (f.1.length : Int) ≤ d.room ∧ f.1.length ≤ 4294967296) (fun f k hf hlt => by simp only [List.length_take]; omega) _ kept (fun f hf => h.files f (List.mem_of_mem_take hf)) f hf
  · exact h.files f (List.mem_of_mem_drop hf)
end Go.Proofs.Ytpoohpmcopjklaa

/- Disk.settle. -/
namespace Go.Proofs.Ytpoohpmcopjklaa
open Go.RowKit

variable {w : World} {fp : List Nat} {b : Nat} {fv cv : Value} {nb sb : Nat} {hs : List HF} {d : Dsk}

def keepH (es : Nm) (hs : List HF) (n : Nat) : List HF := ((List.range n).filter (namedN es)).map fun i => ((hs.getD i (.slice none 0 0, [], 0)).1, (hs.getD i (.slice none 0 0, [], 0)).2.1, (hs.getD i (.slice none 0 0, [], 0)).2.1.length)
theorem keepH_length (es : Nm) (hs : List HF) (n : Nat) : (keepH es hs n).length = atN es n := by simp [keepH, atN]
theorem keepH_succ (es : Nm) (hs : List HF) (n : Nat) (h : n < hs.length) : keepH es hs (n + 1) = keepH es hs n ++ (if namedN es n then [(hs[n].1, hs[n].2.1, hs[n].2.1.length)] else []) := by
  have e : hs.getD n (.slice none 0 0, [], 0) = hs[n] := by rw [List.getD_eq_getElem?_getD, List.getElem?_eq_getElem h]; rfl
  unfold keepH; rw [List.range_succ, List.filter_append, List.map_append]; by_cases h : namedN es n <;> simp [h, e, -List.getD_eq_getElem?_getD]
theorem keepH_same (es : Nm) (hs : List HF) (n : Nat) : (keepH es hs n).map (·.2) = keepF es (hs.map (·.2)) n := by
  unfold keepH keepF
  rw [List.map_map]
  apply List.map_congr_left
  intro i _
  simp only [Function.comp, List.getD_eq_getElem?_getD, List.getElem?_map]
  cases hs[i]? <;> rfl
theorem keepH_mem {es : Nm} {hs : List HF} {n : Nat} (hn : n ≤ hs.length) {f : HF} (h : f ∈ keepH es hs n) : ∃ g ∈ hs, f = (g.1, g.2.1, g.2.1.length) := by
  obtain ⟨i, hi, rfl⟩ := List.mem_map.1 h
  have hi2 : i < hs.length := by have := List.mem_range.1 (List.mem_filter.1 hi).1; omega
  refine ⟨hs[i], List.getElem_mem hi2, ?_⟩
  rw [List.getD_eq_getElem?_getD, List.getElem?_eq_getElem hi2]; rfl
theorem keepH_apart {es : Nm} {hs : List HF} {n : Nat} (hn : n ≤ hs.length) (h : hs.Pairwise ApartV) : (keepH es hs n).Pairwise ApartV := by
  unfold keepH
  rw [List.pairwise_map]
  refine List.Pairwise.imp_of_mem ?_ ((List.pairwise_lt_range (n := n)).filter _)
  intro i j hi hj hij
  have hi2 : i < hs.length := by have := List.mem_range.1 (List.mem_filter.1 hi).1; omega
  have hj2 : j < hs.length := by have := List.mem_range.1 (List.mem_filter.1 hj).1; omega
  rw [List.getD_eq_getElem?_getD, List.getElem?_eq_getElem hi2, List.getD_eq_getElem?_getD, List.getElem?_eq_getElem hj2]
  exact pw_get h apartV_symm hi2 hj2 (by omega)
/-- What the map 'at' says behind file k. -/
def atF (es : Nm) (k : Nat) (j : Int) : Lit := .int .i64 (if 0 ≤ j ∧ j < k ∧ namedN es j.toNat = true then (atN es j.toNat : Int) else 0)
theorem atF_zero (es : Nm) : atF es 0 = fun _ => Lit.int .i64 0 := by funext j; unfold atF; rw [if_neg (by omega)]
theorem atF_succ (es : Nm) (k : Nat) : atF es (k + 1) = if namedN es k = true then (fun j => if j = (k : Int) then Lit.int .i64 (atN es k : Int) else atF es k j) else atF es k := by
  by_cases hk : namedN es k = true
  · rw [if_pos hk]
    funext j
    unfold atF
    by_cases hj : j = (k : Int)
    · subst hj
      have : (k : Int) < ((k + 1 : Nat) : Int) := by omega
      simp [hk]
      omega
    · rw [if_neg hj]
      have : (j < ((k + 1 : Nat) : Int)) ↔ j < (k : Int) := by omega
      simp only [this]
  · rw [if_neg hk]
    funext j
    unfold atF
    by_cases hj : j = (k : Int)
    · subst hj
      have : ¬ (namedN es ((k : Int)).toNat = true) := by simpa using hk
      rw [if_neg (fun h => this h.2.2), if_neg (fun h => this h.2.2)]
    · have : (j < ((k + 1 : Nat) : Int)) ↔ j < (k : Int) := by omega
      simp only [this]
theorem atF_at (es : Nm) (k i : Nat) (hi : i < k) (hn : namedN es i = true) : atF es k (i : Int) = .int .i64 (atN es i : Int) := by
  unfold atF; rw [if_pos ⟨by omega, by omega, by simpa using hn⟩]; simp

/-- What the names say while they are turned. -/
def HalfN (es0 rest es : Nm) : Prop := (es.map (·.1)).Nodup ∧ es.length = es0.length ∧ (∀ p ∈ rest, p ∈ es0) ∧ ∀ k, nget es k = if (nget rest k).isSome then nget es0 k else (nget es0 k).map (atN es0)
theorem HalfN.start {es : Nm} (h : (es.map (·.1)).Nodup) : HalfN es es es := ⟨h, rfl, fun _ hp => hp, fun k => by rcases hk : nget es k with _ | i <;> simp⟩
theorem HalfN.step {es0 rest es : Nm} (h : HalfN es0 rest es) (hn : (es0.map (·.1)).Nodup) (_hr : (rest.map (·.1)).Nodup) {k : List UInt8} {i : Nat} (hm : (k, i) ∈ rest) (hl : (nput es k (atN es0 i)).length = es.length) : HalfN es0 (ndel rest k) (nput es k (atN es0 i)) := by
  obtain ⟨h1, h2, h3, h4⟩ := h
  refine ⟨nodup_put h1 _ _, by rw [hl, h2], fun p hp => h3 p (List.mem_filter.1 hp).1, fun j => ?_⟩
  by_cases hj : j = k
  · subst hj
    rw [nget_put_same, nget_del_same, mem_nget hn (h3 _ hm)]; simp
  · rw [nget_put_other hj, nget_del_other hj, h4]
theorem HalfN.done {es0 es : Nm} (h : HalfN es0 [] es) (k : List UInt8) : nget (movedN es0) k = nget es k := by
  rw [nget_moved, h.2.2.2 k, nget_nil]; simp
theorem GoodD.moved {d : Dsk} (h : GoodD d) : GoodD { d with names := movedN d.names } := by
  refine { h with named := fun p hp => ?_, nnames := ?_ }
  · obtain ⟨q, hq, rfl⟩ := List.mem_map.1 hp
    exact Nat.lt_of_le_of_lt (atN_le _ _) (h.named q hq)
  · show ((movedN d.names).length : Int) ≤ d.ops
    unfold movedN; rw [List.length_map]; exact h.nnames

theorem settle_fin {wr wC : World} {L : List HF} {ao2 : Option Addr} {c2 : Nat} (D : DkP wC fp b fv cv nb sb hs { d with names := movedN d.names })
    (row : wC.ownsRow w.heap.size 94 2 (.slice ao2 L.length c2) L.length (fileCells L)) (HG : GoodD d) (HML : ∀ f ∈ L, ∃ g ∈ hs, f = (g.1, g.2.1, g.2.1.length))
    (HSM : L.map (·.2) = keepF d.names (hs.map (·.2)) hs.length) (HAP : L.Pairwise ApartV) (hsame : hs.map (·.2) = d.files) (hlt : nb < wr.heap.size) (hmc : MapAt wC wr.heap.size (movedN d.names)) (hcy : Chg [nb] w wr) (hcc : Chg [] wr wC) :
    DkOut w fp b (settleD d) ((((((wC.setCell ⟨b, 1, none⟩ (.slice ao2 L.length c2)).setCell ⟨b, 3, none⟩ (.map (some wr.heap.size))).setCell ⟨b, 4, none⟩ (.slice none 0 0)).setCell ⟨b, 8, none⟩ (.bool false)).setCell ⟨b, 6, none⟩ (.int .i64 (-1))).setCell ⟨b, 7, none⟩ (.int .i64 (-1))) := by
  have hbox : Blk ((((((wC.setCell ⟨b, 1, none⟩ (.slice ao2 L.length c2)).setCell ⟨b, 3, none⟩ (.map (some wr.heap.size))).setCell ⟨b, 4, none⟩ (.slice none 0 0)).setCell ⟨b, 8, none⟩ (.bool false)).setCell ⟨b, 6, none⟩ (.int .i64 (-1))).setCell ⟨b, 7, none⟩ (.int .i64 (-1))) b
      (boxCells (.slice ao2 L.length c2) (.slice none 0 0) nb wr.heap.size (settleD d)) 85 :=
    (((((D.box.set 1 _).set 3 _).set 4 _).set 8 _).set 6 _).set 7 _
  have hch : Chg [b] wC ((((((wC.setCell ⟨b, 1, none⟩ (.slice ao2 L.length c2)).setCell ⟨b, 3, none⟩ (.map (some wr.heap.size))).setCell ⟨b, 4, none⟩ (.slice none 0 0)).setCell ⟨b, 8, none⟩ (.bool false)).setCell ⟨b, 6, none⟩ (.int .i64 (-1))).setCell ⟨b, 7, none⟩ (.int .i64 (-1))) :=
    ((((((Chg.refl _ _).setCell _ _ (by simp)).setCell _ _ (by simp)).setCell _ _ (by simp)).setCell _ _ (by simp)).setCell _ _ (by simp)).setCell _ _ (by simp)
  generalize ((((((wC.setCell ⟨b, 1, none⟩ (.slice ao2 L.length c2)).setCell ⟨b, 3, none⟩ (.map (some wr.heap.size))).setCell ⟨b, 4, none⟩ (.slice none 0 0)).setCell ⟨b, 8, none⟩ (.bool false)).setCell ⟨b, 6, none⟩ (.int .i64 (-1))).setCell ⟨b, 7, none⟩ (.int .i64 (-1))) = W at *
  have hrb := ownsRow_apart row D.box (by decide)
  have hcf : Chg fp w W := ((hcy.mono (S' := fp) (by simp only [List.mem_singleton]; rintro x rfl _; exact D.fpn)).trans hcc (by simp)).trans hch (by simp only [List.mem_singleton]; rintro x rfl _; exact D.fpb)
  refine DkOut.mk (fp' := (Value.slice ao2 L.length c2).ownBlock.toList ++ wr.heap.size :: fp) ⟨.slice ao2 L.length c2, .slice none 0 0, nb, wr.heap.size, L, ?_⟩ hcf ?_
  · exact
    { box := hbox
      names := D.names.chg hch (by simpa using D.names.apart D.box)
      sure := hmc.chg hch (by simpa using hmc.apart D.box)
      files := ownsRow_mono (ownsRow_chg row hch fun k hk => by rw [hk] at hrb; simpa using hrb) (Nat.zero_le _)
      same := by rw [HSM, hsame]; show _ = keepF d.names d.files d.files.length; rw [← hsame, List.length_map]
      changes := World.ownsRow_nil _ _ _ _
      bytes := fun f hf => by
        obtain ⟨g, hg, rfl⟩ := HML f hf
        exact OwB.chg (D.bytes g hg) hch fun k hk => by have := ownsRow_apart (D.bytes g hg) D.box (by decide); rw [hk] at this; simpa using this
      apart := HAP
      ne := by omega
      fpb := by simp [D.fpb]
      fpn := by simp [D.fpn]
      fps := by simp
      fpf := fun k hk => by simp [hk]
      fpc := by simp [Value.ownBlock]
      fph := fun f hf k hk => by
        obtain ⟨g, hg, rfl⟩ := HML f hf
        simp [D.fph g hg k hk]
      fpl := fun k hk => by
        refine Nat.lt_of_lt_of_le ?_ hch.size
        rcases List.mem_append.1 hk with hk | hk
        · exact (World.ownsRow.lt row k (by simpa using hk)).2
        · rcases List.mem_cons.1 hk with rfl | hk
          · exact hmc.lt
          · exact D.fpl k hk
      good := HG.settle (fun f hf => (HG.files f hf).2) }
  · intro k hk
    rcases List.mem_append.1 hk with hk | hk
    · exact .inr (World.ownsRow.lt row k (by simpa using hk)).1
    · rcases List.mem_cons.1 hk with rfl | hk
      · exact .inr hcy.size
      · exact .inl hk

set_option maxRecDepth 100000 in
set_option maxHeartbeats 2000000 in
theorem settle_any (h : DkP w fp b fv cv nb sb hs d) : Calls Try.prog 57 #[.pointer (some ⟨b, 0, none⟩)] w fun e w' => e = .returned (.tuple #[]) ∧ DkOut w fp b (settleD d) w' := by
  have hmm := @run_makeMap Try.prog
  have H := hd h
  have m3 := MapF.new w 3 (.int .i64 0)
  have m4 := MapF.new (w.alloc (.map #[] 0)) 4 (.bool false)
  have e1 : (w.alloc (.map #[] 0)).heap.size = w.heap.size + 1 := by simp
  rw [e1] at m4
  have hcA : Chg [] w ((w.alloc (.map #[] 0)).alloc (.map #[] 0)) := ((Chg.refl [] w).alloc _).alloc _
  replace m3 := m3.k ((Chg.refl [] _).alloc (.map #[] 0))
  clear e1 h
  go_enter Try.func57, Try.ntmps57
  go_upto_region 3 with (fail)
  have hzA2 : ((w.alloc (.map #[] 0)).alloc (.map #[] 0)).heap.size = w.heap.size + 2 := by simp
  generalize (w.alloc (.map #[] 0)).alloc (.map #[] 0) = wA at *
  have q2 := (H.out.k hcA).box.cell 2
  simp [boxCells] at q2
  have hN := (H.out.k hcA).names
  have hzA := hcA.size
  go_wp2_with (at_range; refine wpRangeM rfl _ rfl nb _ rfl hN ?_; intro w1 hr1 hc1)
  have hR : w.heap.size + 2 ≤ wA.heap.size := by omega
  have HZA := hd hzA2
  clear hzA2
  replace m3 := m3.k hc1
  replace m4 := m4.k hc1
  have hc01 := hcA.k hc1
  have hg := H.out.good
  obtain ⟨aof, cf, rfl⟩ : ∃ ao c, fv = .slice ao hs.length c := by
    rcases H.out.files.2 with ⟨rfl, hz⟩ | ⟨g, cap, cur, rfl, _⟩
    · exact ⟨none, 0, by rw [hz]⟩
    · exact ⟨_, cap, rfl⟩
  have hnl : (d.names.length : Int) ≤ d.ops := hg.nnames
  have hfl : (hs.length : Int) ≤ d.ops := by rw [H.out.len]; exact hg.nfiles
  have hol : d.ops ≤ 1073741824 := hg.ops.2
  have hnb : nb < w.heap.size := H.out.names.lt
  have HG := hd hg
  clear hmm hN q2 hc1 hg
  go_frame
  go_loopw [6] (fun _ wr => ∃ (rest : Nm) (n : Nat) (f : Int → Lit), MapRange wr nb wA.heap.size d.names rest ∧ MapF wr 4 (w.heap.size + 1) n (.bool false) f ∧ MapF wr 3 w.heap.size 0 (.int .i64 0) (fun _ => .int .i64 0) ∧ n + rest.length ≤ d.names.length ∧
      (∀ p ∈ d.names, p ∈ rest ∨ f (p.2 : Nat) = .bool true) ∧ (∀ j : Nat, f j = .bool true → namedN d.names j = true) ∧ (∀ j : Nat, f j = .bool true ∨ f j = .bool false) ∧ Chg [] w wr)
    (fun _ wr => wr.rangeLeft nb wA.heap.size)
  case atStart => exact ⟨d.names, 0, _, hr1, m4, m3, by omega, fun p hp => .inl hp, fun j h => absurd h (by simp), fun j => .inr rfl, hc01⟩
  case round =>
    obtain ⟨rest, n, f, hr, hm4, hm3, hn, g1, g2, g3, hc⟩ := hrel
    have G1 := hd g1
    have G2 := hd g2
    have G3 := hd g3
    clear g1 g2 g3
    go_wp2_with (at_next; refine wpNextM rfl _ rfl nb wA.heap.size d.names rest rfl hr ?_ ?_)
    · rintro rfl
      have hf : ∀ j : Nat, f j = .bool (namedN d.names j) := fun j => by
        rcases G3.out j with h1 | h1
        · rw [h1, G2.out j h1]
        · by_cases hj : namedN d.names j = true
          · exfalso
            unfold namedN at hj
            rw [List.any_eq_true] at hj
            obtain ⟨p, hp, hpj⟩ := hj
            have hpj : p.2 = j := by simpa using hpj
            rcases G1.out p hp with h2 | h2
            · cases h2
            · rw [hpj, h1] at h2; cases h2
          · rw [h1]; simpa using hj
      have HF := hd hf
      have hn4 : n ≤ 1073741824 := by have := hnl; simp only [List.length_nil] at hn; omega
      clear hf G1 G2 G3 hn hr hr1 m3 m4 hc01
      have q1 := (H.out.k hc).box.cell 1
      simp [boxCells] at q1
      have hm30 : MapF wr 3 w.heap.size 0 (.int .i64 0) (atF d.names 0) := by rw [atF_zero]; exact hm3
      clear hm3
      go_wp2_with fail
      go_loopw [2, 7, 8, 29] (fun t2 _ _ t29 wx => ∃ (k n3 : Nat) (ao : Option Addr) (c : Nat), k ≤ hs.length ∧ t29 = .int .i64 k ∧ t2 = .slice ao (keepH d.names hs k).length c ∧
          wx.ownsRow w.heap.size 94 2 (.slice ao (keepH d.names hs k).length c) (keepH d.names hs k).length (fileCells (keepH d.names hs k)) ∧
          MapF wx 4 (w.heap.size + 1) n (.bool false) f ∧ n3 ≤ k ∧ MapF wx 3 w.heap.size n3 (.int .i64 0) (atF d.names k) ∧ Chg [] w wx)
        (fun _ _ _ t29 _ => hs.length - (intOf t29).toNat)
      case atStart => exact ⟨0, 0, none, 0, by omega, rfl, rfl, World.ownsRow_nil _ _ _ _, hm4, by omega, hm30, hc⟩
      case round =>
        obtain ⟨k, n3, ao2, c2, hk, rfl, rfl, hrow, hm4', hn3, hm3', hcx⟩ := hrel
        by_cases hlt : k < hs.length
        · obtain ⟨g, cg, e⟩ := H.out.slice (by omega)
          simp only [Value.slice.injEq, true_and] at e
          obtain ⟨rfl, rfl⟩ := e
          obtain ⟨aok, ck, hv, c0, c1, -⟩ := (H.out.k hcx).file hlt
          have hlti : (k : Int) < (hs.length : Int) := by omega
          have hks := keepH_succ d.names hs k hlt
          have has := atF_succ d.names k
          have hle : (keepH d.names hs k).length ≤ k := by rw [keepH_length]; exact atN_le _ _
          have hat : atN d.names k = (keepH d.names hs k).length := (keepH_length _ _ _).symm
          have hxl : hs[k].2.1.length ≤ 4294967296 := by
            have := (HG.out.files hs[k].2 (by rw [← H.out.same]; exact List.mem_map.2 ⟨_, List.getElem_mem hlt, rfl⟩)).2.2
            exact this
          rw [hat] at has
          generalize hs[k]'hlt = X at *
          obtain ⟨Xv, Xb, Xs⟩ := X
          simp only at hv c0 c1 hks hxl
          subst hv
          generalize atF d.names k = A at *
          have HKS := hd hks
          have HAS := hd has
          generalize keepH d.names hs k = L at *
          have hiw : (Lit.int .i64 (k : Int)).wf = true := wfNat (by omega)
          have hlw : (Lit.int .i64 (L.length : Int)).wf = true := wfNat (by omega)
          have hlt3 := hm3'.lt
          clear hks has hat hm4 hm30 q1
          go_upto_region 10 with (fail)
          have kx := Blk.new wr #[.slice aok Xb.length ck, .int .i64 (Xs : Int)] 94
          have hcb := (Chg.refl [] wr).alloc (.cells #[.slice aok Xb.length ck, .int .i64 (Xs : Int)] 94)
          replace hcx := hcx.k hcb
          replace hm4' := hm4'.k hcb
          replace hm3' := hm3'.k hcb
          replace hrow := ownsRow_k hrow hcb
          have hzq := hcb.size
          clear hcb
          generalize wr.alloc (.cells #[.slice aok Xb.length ck, .int .i64 (Xs : Int)] 94) = wq at *
          have hlk := run_lookIB hm4' hiw (HF.out k)
          by_cases hnm : namedN d.names k = true
          · rw [hnm] at hlk
            have hn3m : n3 < maxLen := by unfold maxLen; omega
            have hks := HKS.out
            rw [if_pos hnm] at hks
            have has := HAS.out
            rw [if_pos hnm] at has
            replace HKS := hd hks
            replace HAS := hd has
            clear hks has c0 c1
            go_upto_region 12 with (at_mapUpdate; refine wpPutF rfl rfl _ _ _ 54 3 rfl undMapII w.heap.size n3 _ _ hm3' rfl hn3m (k : Int) hiw (.int .i64 (L.length : Int)) (.int .i64 (L.length : Int)) rfl rfl (plainElem_int undInt hlw) ?_; intro w3 hm33 hg3)
            have kx3 := kx.grown hg3 (by intro e; injection e with e; omega)
            have q0 := kx3.cell 0
            have q1 := kx3.cell 1
            simp at q0 q1
            have row3 := World.ownsRow.kept hrow hg3 (.inr (hm3'.apartRow hrow))
            have m43 := hm4'.grown hg3 (by simp)
            have hc3 := hcx.grown hg3 (by rintro _ ⟨rfl⟩; omega)
            have row4 := World.ownsRow.alloc row3 (.cells #[.slice aok Xb.length ck, .int .i64 (Xb.length : Int)] 94)
            have hz3 := hc3.size
            clear kx kx3 hm3' hm4' hrow hlk hg3
            go_wp2_with (at_builtin; refine wpApp rowFile rfl _ _ rfl w.heap.size _ L.length (fileCells L) rfl row4 _ 1 [.slice aok Xb.length ck, .int .i64 (Xb.length : Int)] rfl (Rd.lit w3 2 1 _ _ _ rfl rfl (by decide)) (by simp [Value.oneCell']) (by omega) (by omega) (by simp; omega) ?_; intro ao5 c5 w5 hr5 hg5 hm5 _)
            go_roundw
            case rel =>
              have hl1 : (keepH d.names hs (k + 1)).length = L.length + 1 := by rw [HKS.out]; simp
              refine ⟨k + 1, n3 + 1, ao5, c5, by omega, by go_num, by rw [hl1], ?_, (m43.alloc _).grown hg5 (fun e => (m43.alloc _).apartRow row4 e.symm), by omega, ?_, (hc3.alloc _).ownGrow row4 hg5 (Nat.le_refl _)⟩
              · rw [hl1, HKS.out, fileCells_app]; exact hr5
              · rw [HAS.out]; exact (hm33.alloc _).grown hg5 (fun e => (hm33.alloc _).apartRow row4 e.symm)
            case measure => simp [intOf]; omega
          · have hnm' : namedN d.names k = false := by simpa using hnm
            rw [hnm'] at hlk
            have hks := HKS.out
            rw [if_neg hnm, List.append_nil] at hks
            have has := HAS.out
            rw [if_neg hnm] at has
            replace HKS := hd hks
            replace HAS := hd has
            clear hks has c0 c1 hnm hnm'
            go_wp2_with fail
            go_roundw
            case rel => exact ⟨k + 1, n3, ao2, c2, by omega, by go_num, by rw [HKS.out], by rw [HKS.out]; exact hrow, hm4', by omega, by rw [HAS.out]; exact hm3', hcx⟩
            case measure => simp [intOf]; omega
        · obtain rfl : k = hs.length := by omega
          obtain ⟨wB, hwB⟩ : ∃ wB, wB = wr := ⟨_, rfl⟩
          subst hwB
          have ha0 := hm3'.lt
          have hN3 := (H.out.k hcx).names
          have q2 := (H.out.k hcx).box.cell 2
          simp [boxCells] at q2
          have hml := fun f hf => keepH_mem (es := d.names) (Nat.le_refl hs.length) (f := f) hf
          have hsm := keepH_same d.names hs hs.length
          have hap := keepH_apart (es := d.names) (Nat.le_refl hs.length) H.out.apart
          have hll : (keepH d.names hs hs.length).length ≤ hs.length := by rw [keepH_length]; exact atN_le _ _
          generalize keepH d.names hs hs.length = L at *
          have hA : ∀ p ∈ d.names, atF d.names hs.length (p.2 : Nat) = .int .i64 (atN d.names p.2 : Int) := fun p hp => atF_at _ _ _ (by rw [H.out.len]; exact HG.out.named p hp) (named_of_mem hp)
          generalize atF d.names hs.length = A at *
          have HA := hd hA
          have HML := hd hml
          have HSM := hd hsm
          have HAP := hd hap
          have hrb : ∀ j, (Value.slice ao2 L.length c2).ownBlock = some j → j < wB.heap.size := fun j hj => (World.ownsRow.lt hrow j hj).2
          have HRB := hd hrb
          clear hrb hA hm4' HF hm4 hm30 q1 hml hsm hap hlt hc hcA hzA HZA hR
          go_wp2_with (at_range; refine wpRangeM rfl _ rfl nb _ rfl hN3 ?_; intro w4 hr4 hc4)
          replace hm3' := hm3'.k hc4
          replace hrow := ownsRow_k hrow hc4
          have hc4' := hcx.k hc4
          have hzx := hcx.size
          clear hN3 q2 hc4 hcx
          go_loopw [9, 10] (fun _ _ wy => ∃ (rest es : Nm), MapRange wy nb wB.heap.size es rest ∧ HalfN d.names rest es ∧ wy.ownsRow w.heap.size 94 2 (.slice ao2 L.length c2) L.length (fileCells L) ∧ MapF wy 3 w.heap.size n3 (.int .i64 0) A ∧ Chg [nb] w wy)
            (fun _ _ wy => wy.rangeLeft nb wB.heap.size)
          case atStart => exact ⟨d.names, d.names, hr4, HalfN.start H.out.names.nodup, hrow, hm3', hc4'.mono (by simp)⟩
          case round =>
            obtain ⟨rest, es, hr, hhalf, hrow, hm3', hcy⟩ := hrel
            have HH := hd hhalf
            clear hhalf
            go_wp2_with (at_next; refine wpNextM rfl _ rfl nb wB.heap.size es rest rfl hr ?_ ?_)
            · rintro rfl
              have hm := hr.map.congr (moved_nodup H.out.names.nodup) (by unfold movedN; rw [List.length_map]; exact HH.out.2.1.symm) (fun k => HH.out.done k)
              have hD := H.out.named hcy hm HG.out.moved
              have q2 := hD.box.cell 2
              simp [boxCells] at q2
              have HD := hd hD
              have HROW := hd hrow
              have HCY := hd hcy
              have hmlt := hm.lt
              clear hr hm3' hr4 hc4' hrow hcy hD
              go_wp2_with fail
              refine (CloneM_any _ nb (movedN d.names) hm).mono ?_
              rintro e wC ⟨rfl, hmc, hcc⟩
              have D := HD.out.k hcc
              have row := ownsRow_k HROW.out hcc
              have FIN := settle_fin D row HG.out HML.out HSM.out HAP.out H.out.same hmlt hmc HCY.out hcc
              have f1 := D.box.free 1
              have b1 := D.box.set 1 (.slice ao2 L.length c2)
              have q1 := D.box.cell 1
              have f3 := b1.free 3
              have b3 := b1.set 3 (.map (some wr.heap.size))
              have q3 := b1.cell 3
              have f4 := b3.free 4
              have b4 := b3.set 4 (.slice none 0 0)
              have q4 := b3.cell 4
              have f8 := b4.free 8
              have b8 := b4.set 8 (.bool false)
              have q8 := b4.cell 8
              have f6 := b8.free 6
              have b6 := b8.set 6 (.int .i64 (-1))
              have q6 := b8.cell 6
              have f7 := b6.free 7
              have q7 := b6.cell 7
              simp [boxCells] at q1 q3 q4 q8 q6 q7
              have HFIN := hd FIN
              clear FIN D row hm hmc hcc b1 b3 b4 b8 b6 hmlt q2 hn3 hk hll hnl hfl hol
              go_wp2_with fail
              go_end0
              exact ⟨rfl, HFIN.out⟩
            · intro k i w2 hmem hr2 hc2 hlt2 hen hkl
              have hcw : Chg [nb] w w2 := hcy.trans hc2 (by simp; omega)
              have hm2 := hm3'.chg hc2 (by simp; omega)
              have hrow2 := ownsRow_chg hrow hc2 (fun j hj => by have := HRB.out j hj; simp; omega)
              have hes := hr.sub _ hmem
              have hn0 := HH.out.2.2.1 _ hmem
              have hil := HG.out.named _ hn0
              have hin := nget_mem_isSome hes
              have hno := nget_del_same rest k
              have hst := fun hl => HH.out.step H.out.names.nodup hr.nodup hmem hl
              have hAi := HA.out _ hn0
              have hale := atN_le d.names i
              simp only at hAi hil
              rw [← H.out.len] at hil
              have hesl : es.length ≤ 1073741824 := by have := HH.out.2.1; omega
              generalize atN d.names i = m at *
              have hiw : (Lit.int .i64 (i : Int)).wf = true := wfNat (by omega)
              have hlk : ∀ wx, Chg [nb] w2 wx → (Instr.lookup 54 (.map (some w.heap.size)) (.int .i64 (i : Int)) false).run Try.prog wx = .ok (.int .i64 (m : Int)) wx := fun wx hx => by
                obtain ⟨c, h1, h2⟩ := run_lookII (hm2.chg hx (by simp; omega)) hiw
                rw [hAi] at h2
                simp only [Lit.int.injEq, true_and] at h2
                rw [h1, h2]
              have q2 := hcw.cellT (H.out.box.cell 2) (by simpa using fun e => H.out.names.apart H.out.box e.symm)
              simp [boxCells] at q2
              have NB : b ∉ [nb] := by simpa using fun e => H.out.names.apart H.out.box e.symm
              have hr2' := (hr2.chg ((Chg.refl [] w2).drew) (by simp) (by simp)).1
              have hz2 := (hr2.chg ((Chg.refl [] w2).drew) (by simp) (by simp)).2
              have HLK := hd hlk
              have Q2 := hd q2
              have HR2 := hd hr2'
              have HST := hd hst
              have HM2 := hd hm2
              have HROW2 := hd hrow2
              have HCW := hd hcw
              have HLT := hd hlt2
              have HZ2 := hd hz2
              have HIN := hd hin
              have HNO := hd hno
              clear hlk q2 hr2' hst hm2 hrow2 hcw hr hr2 hc2 hes hn0 hmem hcy hrow hm3' hlt2 hz2 hAi hin hno hr4 hc4'
              go_upto_region 17 with (fail)
              refine anyH_start (n := 9) (L := #[false, false, false, false, false, false, false, false, false]) (by kernel_rfl) (by kernel_rfl) (S := (fun wx => Chg [nb] w2 wx)) ((Chg.refl _ _).drew) (fun hHeld => ?_)
              refine anyH_take (i := 0) (d := 61) (L' := #[true, false, false, false, false, false, false, false, false]) (v := ?v4) rfl rfl (by kernel_rfl) (fun _ _ _ h => h) (by rfl) ?hy4 (by assumption) ?rest4
              case hy4 => (intro wx hSw; (try dsimp only at hSw); (have t2 := hSw.cellT Q2.out NB); go_simp; (try with_reducible rfl))
              simp only [Act.put, List.setIfInBounds_toArray, List.set_cons_zero, List.set_cons_succ]
              refine anyH_take (i := 1) (d := 62) (L' := #[true, true, false, false, false, false, false, false, false]) (v := ?v5) rfl rfl (by kernel_rfl) (fun _ _ _ h => h) (by rfl) ?hy5 (by assumption) ?rest5
              case hy5 => (intro wx hSw; (try dsimp only at hSw); (have t2 := hSw.cellT Q2.out NB); go_simp; (try with_reducible rfl))
              simp only [Act.put, List.setIfInBounds_toArray, List.set_cons_zero, List.set_cons_succ]
              refine anyH_take (i := 2) (d := 63) (L' := #[true, true, true, false, false, false, false, false, false]) (v := ?v6) rfl rfl (by kernel_rfl) (fun _ _ _ h => h) (by rfl) ?hy6 (by assumption) ?rest6
              case hy6 => (intro wx hSw; (try dsimp only at hSw); (have t2 := hSw.cellT Q2.out NB); go_simp; (try with_reducible rfl))
              simp only [Act.put, List.setIfInBounds_toArray, List.set_cons_zero, List.set_cons_succ]
              refine anyH_take (i := 3) (d := 64) (L' := #[true, true, true, true, false, false, false, false, false]) (v := ?v7) rfl rfl (by kernel_rfl) (fun _ _ _ h => h) (by rfl) ?hy7 (by assumption) ?rest7
              case hy7 => (intro wx hSw; (try dsimp only at hSw); (have t2 := hSw.cellT Q2.out NB); go_simp; (try with_reducible rfl))
              simp only [Act.put, List.setIfInBounds_toArray, List.set_cons_zero, List.set_cons_succ]
              refine anyH_take (i := 4) (d := 65) (L' := #[true, true, true, true, true, false, false, false, false]) (v := ?v8) rfl rfl (by kernel_rfl) (fun _ _ _ h => h) (by rfl) ?hy8 (by assumption) ?rest8
              case hy8 => (intro wx hSw; (try dsimp only at hSw); (have t2 := hSw.cellT Q2.out NB); go_simp; (try with_reducible rfl))
              simp only [Act.put, List.setIfInBounds_toArray, List.set_cons_zero, List.set_cons_succ]
              refine anyH_take (i := 5) (d := 66) (L' := #[true, true, true, true, true, true, false, false, false]) (v := ?v9) rfl rfl (by kernel_rfl) (fun _ _ _ h => h) (by rfl) ?hy9 (by assumption) ?rest9
              case hy9 => (intro wx hSw; (try dsimp only at hSw); (have t2 := hSw.cellT Q2.out NB); go_simp; (try with_reducible rfl))
              simp only [Act.put, List.setIfInBounds_toArray, List.set_cons_zero, List.set_cons_succ]
              refine anyH_take (i := 6) (d := 67) (L' := #[true, true, true, true, true, true, true, false, false]) (v := ?v10) rfl rfl (by kernel_rfl) (fun _ _ _ h => h) (by rfl) ?hy10 (by assumption) ?rest10
              case hy10 => (intro wx hSw; (try dsimp only at hSw); (have t2 := hSw.cellT Q2.out NB); go_simp; (try with_reducible rfl))
              simp only [Act.put, List.setIfInBounds_toArray, List.set_cons_zero, List.set_cons_succ]
              refine anyH_take (i := 7) (d := 68) (L' := #[true, true, true, true, true, true, true, true, false]) (v := ?v11) rfl rfl (by kernel_rfl) (fun _ _ _ h => h) (by rfl) ?hy11 (by assumption) ?rest11
              case hy11 => (intro wx hSw; (try dsimp only at hSw); (have t7 := HLK.out _ hSw); go_simp; (try with_reducible rfl))
              simp only [Act.put, List.setIfInBounds_toArray, List.set_cons_zero, List.set_cons_succ]
              refine anyH_run (i := 8) (L' := #[true, true, true, true, true, true, true, true, true]) rfl (by kernel_rfl) (by rfl) (fun KK hKK => ?_)
              (refine wpPutR rfl _ _ _ rfl nb wB.heap.size es (ndel rest k) k m rfl rfl rfl HR2.out HIN.out hkl (by omega) (by omega) HNO.out ?_; intro w6 hr6 hg6 hl6 hz6; have hc6 : Chg [nb] w2 w6 := (Chg.refl [nb] w2).drew.grown hg6 (by rintro _ ⟨rfl⟩ _; simp))
              refine hKK.out _ _ (by assumption) (fun hHeld => ?_)
              clear hKK KK
              try simp only [Act.put, List.setIfInBounds_toArray, List.set_cons_zero, List.set_cons_succ]
              refine wpAnyH_done (by kernel_rfl) ?_ _
              go_roundw
              case rel =>
                (repeat apply Exists.intro)
                exact ⟨⟨ndel rest k, nput es k m, hr6, HST.out hl6, ownsRow_chg HROW2.out hc6 (fun j hj => by have := (World.ownsRow.lt HROW2.out j hj).1; simp; omega), HM2.out.chg hc6 (by simp; omega), HCW.out.trans hc6 (by simp)⟩, rfl⟩
              case measure => rw [hz6, HZ2.out]; exact HLT.out
    · intro k i w2 hmem hr2 hc2 hlt hen _
      have hcw : Chg [] w w2 := hc.trans hc2 (by simp; omega)
      have hm42 := hm4.chg hc2 (by simp; omega)
      have hm32 := hm3.chg hc2 (by simp; omega)
      have hes := hr.sub _ hmem
      have hlen : (ndel rest k).length + 1 ≤ rest.length := by
        have h1 := length_ndel hr.nodup k
        rw [mem_nget hr.nodup hmem] at h1
        simp at h1
        omega
      have hiw : (Lit.int .i64 (i : Int)).wf = true := wfNat (by have := HG.out.named _ hes; have := HG.out.nfiles; simp only at *; omega)
      have hnm : n < maxLen := by unfold maxLen; omega
      have hrw : ∀ w3, w2.grownBy w3 (some (w.heap.size + 1)) → MapRange w3 nb wA.heap.size d.names (ndel rest k) ∧ w3.rangeLeft nb wA.heap.size = w2.rangeLeft nb wA.heap.size := fun w3 hg3 => hr2.chg (Chg.ofGrown hg3) (by simp; omega) (by simp; omega)
      have HRW := hd hrw
      have hm32' : ∀ w3, w2.grownBy w3 (some (w.heap.size + 1)) → MapF w3 3 w.heap.size 0 (.int .i64 0) (fun _ => .int .i64 0) := fun w3 hg3 => hm32.grown hg3 (by simp)
      have HM3 := hd hm32'
      have HES := hd hes
      have HNDR := hd hr.nodup
      have HSUBR := hd hr.sub
      have HMEM := hd hmem
      clear hrw hm32' hm32 hr hr2 hm4 hm3 hr1 m3 m4 hc01 hc2 hes hmem
      go_wp2_with (at_mapUpdate; refine wpPutF rfl rfl _ _ _ _ 4 rfl undMapIB (w.heap.size + 1) n _ f hm42 rfl hnm (i : Int) hiw (.bool true) (.bool true) rfl rfl (plainElem_bool undBool true) ?_; intro w3 hm43 hg3)
      go_roundw
      case rel =>
        refine ⟨ndel rest k, n + 1, _, (HRW.out w3 hg3).1, hm43, HM3.out w3 hg3, by omega, fun p hp => ?_, fun j hj => ?_, fun j => ?_, hcw.grown hg3 (by rintro _ ⟨rfl⟩; omega)⟩
        · by_cases hpk : p.1 = k
          · right
            have h1 := mem_nget (H.out.names.nodup) (s := p.1) (i := p.2) hp
            have h2 := mem_nget (H.out.names.nodup) HES.out
            rw [hpk, h2] at h1
            simp at h1
            rw [if_pos (by rw [h1])]
          · rcases G1.out p hp with h1 | h1
            · left; exact List.mem_filter.2 ⟨h1, by simpa using hpk⟩
            · right; split
              · rfl
              · exact h1
        · split at hj
          · rename_i e
            have e' : j = i := by omega
            subst e'
            exact named_of_mem HES.out
          · exact G2.out j hj
        · split
          · exact .inl rfl
          · exact G3.out j
      case measure => rw [(HRW.out w3 hg3).2]; exact hlt
end Go.Proofs.Ytpoohpmcopjklaa

/- turn, change, name. -/
namespace Go.Proofs.Ytpoohpmcopjklaa
open Go.RowKit

theorem strB_nil : strB [] = ByteArray.empty := rfl
theorem strB_beq (a b : List UInt8) : (strB a == strB b) = (a == b) := by
  show (a.toArray == b.toArray) = _
  simp
theorem strB_empty {s : List UInt8} (h : s ≠ []) : (strB s == ByteArray.empty) = false := by
  rw [← strB_nil, strB_beq]; simpa using h

set_option maxHeartbeats 400000 in
theorem turn_any (w : World) (nb : Nat) (es : Nm) (c : List UInt8 × List UInt8 × Nat) (h : MapAt w nb es) (h1 : c.1.length ≤ 140737488355328) (h2 : c.2.1.length ≤ 140737488355328) (hi : c.2.2 ≤ 4611686018427387904) (hn : es.length ≤ 10000000000) :
    Calls Try.prog 56 #[.map (some nb), .agg #[.string (strB c.1), .string (strB c.2.1), .int .i64 (c.2.2 : Int)]] w fun e w' => e = .returned (.tuple #[]) ∧ MapAt w' nb (turnD es c) ∧ Chg [nb] w w' := by
  obtain ⟨g, s, i⟩ := c
  dsimp only at h1 h2 hi ⊢
  have hnd : (es.map (·.1)).Nodup := let ⟨_, _, hr⟩ := h; hr.nodup
  have hlen : (ndel es g).length ≤ 10000000000 := Nat.le_trans (List.length_filter_le _ _) hn
  go_enter Try.func56, Try.ntmps56
  have kx := Blk.new w #[.string (strB g), .string (strB s), .int .i64 (i : Int)] 99
  have hm := h.alloc (.cells #[.string (strB g), .string (strB s), .int .i64 (i : Int)] 99)
  have hc := (Chg.refl [nb] w).alloc (.cells #[.string (strB g), .string (strB s), .int .i64 (i : Int)] 99)
  by_cases hg : g = []
  · subst hg
    by_cases hs : s = []
    · subst hs
      go_wp2_with fail
      go_end0
      exact ⟨rfl, by simp [turnD, *], hc⟩
    · have s1 := strB_empty hs
      have s2 : (s == []) = false := by simpa using hs
      go_wp2_with (refine wpPut rfl _ _ _ rfl nb _ s i rfl rfl rfl hm h2 hi (by omega) ?_; intro w2 hm2 hg2)
      go_end0
      exact ⟨rfl, by simp [turnD, *], hc.grown hg2 (by simp)⟩
  · have g1 := strB_empty hg
    have g2 : (g == []) = false := by simpa using hg
    by_cases hs : s = []
    · subst hs
      go_wp2_with (at_delete; refine wpDel rfl _ _ rfl nb _ g rfl rfl hm h1 ?_; intro w2 hm2 hg2; have kx2 := kx.grown hg2 (fun e => hm.apart kx (by injection e)); have r0 := kx2.cell 0; have r1 := kx2.cell 1; have r2 := kx2.cell 2; simp at r0 r1 r2)
      go_end0
      exact ⟨rfl, by simp [turnD, *], hc.grown hg2 (by simp)⟩
    · have s1 := strB_empty hs
      have s2 : (s == []) = false := by simpa using hs
      go_wp2_with (first | (at_delete; refine wpDel rfl _ _ rfl nb _ g rfl rfl hm h1 ?_; intro w2 hm2 hg2; have kx2 := kx.grown hg2 (fun e => hm.apart kx (by injection e)); have r0 := kx2.cell 0; have r1 := kx2.cell 1; have r2 := kx2.cell 2; simp at r0 r1 r2) | (refine wpPut rfl _ _ _ rfl nb _ s i rfl rfl rfl hm2 h2 hi (by omega) ?_; intro w3 hm3 hg3))
      go_end0
      exact ⟨rfl, by simp [turnD, *], (hc.grown hg2 (by simp)).grown hg3 (by simp)⟩
end Go.Proofs.Ytpoohpmcopjklaa
