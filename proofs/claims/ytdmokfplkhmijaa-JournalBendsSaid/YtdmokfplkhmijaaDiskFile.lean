/- A file of the disk turned. -/
import Derived.Test.YtdmokfplkhmijaaDiskSize
namespace Go.Proofs.Ytdmokfplkhmijaa
open Go.RowKit

variable {w w' : World} {fp : List Nat} {b : Nat} {fv cv : Value} {nb sb : Nat} {hs : List HF} {d : Dsk}

theorem GoodD.putF (h : GoodD d) (i : Nat) (f : List UInt8 × Nat) (hf : f.2 ≤ f.1.length ∧ (f.1.length : Int) ≤ d.room ∧ f.1.length ≤ 4294967296) : GoodD (setF d i f) := by
  have ⟨a0, a1, a2, a3, a4, a5, a6, a7, a8, a9, a10⟩ := h
  unfold setF
  refine { h with named := ?_, sured := ?_, turned := ?_, idx := ?_, files := ?_, nfiles := ?_ } <;> simp only [List.length_set]
  · exact a1
  · exact a2
  · exact a3
  · exact a4
  · intro x hx
    rcases List.mem_or_eq_of_mem_set hx with hx | rfl
    · exact a5 x hx
    · exact hf
  · exact a7
theorem map_set2 (hs : List HF) (i : Nat) (x : HF) : (hs.set i x).map (·.2) = (hs.map (·.2)).set i x.2 := by rw [List.map_set]
theorem pw_get {α : Type} {R : α → α → Prop} {l : List α} (h : l.Pairwise R) (hsym : ∀ a b, R a b → R b a) {i j : Nat} (hi : i < l.length) (hj : j < l.length) (hne : i ≠ j) : R l[i] l[j] := by
  rw [List.pairwise_iff_getElem] at h
  by_cases hlt : i < j
  · exact h i j hi hj hlt
  · exact hsym _ _ (h j i hj hi (by omega))
theorem pw_set {α : Type} {R : α → α → Prop} {l : List α} (h : l.Pairwise R) (hsym : ∀ a b, R a b → R b a) {i : Nat} {x : α} (hx : ∀ j (hj : j < l.length), j ≠ i → R x l[j]) : (l.set i x).Pairwise R := by
  rw [List.pairwise_iff_getElem] at h ⊢
  intro p q hp hq hpq
  simp only [List.length_set] at hp hq
  simp only [List.getElem_set]
  split
  · rename_i e
    subst e
    rw [if_neg (by omega)]
    exact hx q hq (by omega)
  · rename_i e
    split
    · rename_i e2
      subst e2
      exact hsym _ _ (hx p hp (by omega))
    · exact h p q hp hq hpq
def ApartV (f g : HF) : Prop := ∀ k, f.1.ownBlock = some k → g.1.ownBlock ≠ some k
theorem apartV_symm (f g : HF) (h : ApartV f g) : ApartV g f := fun k hk hk' => h k hk' hk

/-- How much of file i is sure. -/
theorem DkP.sureSet {g c : Nat} (h : DkP w fp b (.slice (some ⟨g, 0, none⟩) hs.length c) cv nb sb hs d) {i : Nat} (hi : i < hs.length) (n : Nat) (hn : n ≤ hs[i].2.1.length) :
    DkP (w.setCell ⟨g, i * 2 + 1, none⟩ (.int .i64 (n : Int))) fp b (.slice (some ⟨g, 0, none⟩) hs.length c) cv nb sb (hs.set i (hs[i].1, hs[i].2.1, n)) (setF d i (hs[i].2.1, n)) := by
  have hst := World.ownsRow.stored h.files (i * 2 + 1) (.int .i64 (n : Int))
  have hfi : d.files[i]? = some hs[i].2 := by rw [← h.same, List.getElem?_map, List.getElem?_eq_getElem hi]; rfl
  have hmem : hs[i].2 ∈ d.files := List.mem_of_getElem? hfi
  have hc : Chg [g] w (w.setCell ⟨g, i * 2 + 1, none⟩ (.int .i64 (n : Int))) := (Chg.refl _ _).setCell _ _ (by simp)
  have hbg : g ≠ b := by have := ownsRow_apart h.files h.box (by decide); simpa [Value.ownBlock] using this
  exact
  { box := h.box.chg hc (by simpa using fun e => hbg e.symm)
    names := h.names.chg hc (by have := h.names.apartRow h.files; simpa [Value.ownBlock] using fun e : nb = g => this (by simp [Value.ownBlock, e]))
    sure := h.sure.chg hc (by have := h.sure.apartRow h.files; simpa [Value.ownBlock] using fun e : sb = g => this (by simp [Value.ownBlock, e]))
    files := by
      rw [fileCells_set_sure hi, List.length_set]
      exact hst.1
    same := by rw [map_set2, h.same]; rfl
    changes := ownsRow_chg h.changes hc fun k hk => by have := ownsRow_ne2 h.changes h.files (by decide) k hk; simpa [Value.ownBlock] using fun e : k = g => this (by simp [Value.ownBlock, e])
    bytes := fun f hf => by
      have hk : ∀ f ∈ hs, OwB (w.setCell ⟨g, i * 2 + 1, none⟩ (.int .i64 (n : Int))) 0 f.1 f.2.1 := fun f hf => OwB.chg (h.bytes f hf) hc fun k hk => by
        have := ownsRow_ne2 (h.bytes f hf) h.files (by decide) k hk; simpa [Value.ownBlock] using fun e : k = g => this (by simp [Value.ownBlock, e])
      rcases List.mem_or_eq_of_mem_set hf with hf | rfl
      · exact hk f hf
      · exact hk hs[i] (List.getElem_mem hi)
    apart := pw_set (R := ApartV) h.apart apartV_symm fun j hj hne => pw_get (R := ApartV) h.apart apartV_symm hi hj (fun e => hne e.symm)
    ne := h.ne
    fpb := h.fpb
    fpn := h.fpn
    fps := h.fps
    fpf := h.fpf
    fpc := h.fpc
    fph := fun f hf k hk => by
      rcases List.mem_or_eq_of_mem_set hf with hf | rfl
      · exact h.fph f hf k hk
      · exact h.fph _ (List.getElem_mem hi) k hk
    fpl := fun k hk => Nat.lt_of_lt_of_le (h.fpl k hk) hc.size
    good := h.good.putF i _ ⟨hn, (h.good.files _ hmem).2⟩ }
/-- The bytes of file i. -/
theorem DkP.byteSet {g c : Nat} (h : DkP w fp b (.slice (some ⟨g, 0, none⟩) hs.length c) cv nb sb hs d) {i : Nat} (hi : i < hs.length) {v' : Value} {l' : List UInt8}
    (hc : Chg hs[i].1.ownBlock.toList w w') (hv : OwB w' 0 v' l') (hm : Moved w hs[i].1 v') (hg : GoodD (setF d i (l', hs[i].2.2))) :
    DkP (w'.setCell ⟨g, i * 2, none⟩ v') (v'.ownBlock.toList ++ fp) b (.slice (some ⟨g, 0, none⟩) hs.length c) cv nb sb (hs.set i (v', l', hs[i].2.2)) (setF d i (l', hs[i].2.2)) := by
  have hwi := h.bytes _ (List.getElem_mem hi)
  have hbg : g ≠ b := by have := ownsRow_apart h.files h.box (by decide); simpa [Value.ownBlock] using this
  have hib : b ∉ hs[i].1.ownBlock.toList := by simpa using ownsRow_apart hwi h.box (by decide)
  have hig : ∀ k, (Value.slice (some ⟨g, 0, none⟩) hs.length c).ownBlock = some k → k ∉ hs[i].1.ownBlock.toList := fun k hk => by simpa using ownsRow_ne2 h.files hwi (by decide) k hk
  have hbox : Blk w' b (boxCells (.slice (some ⟨g, 0, none⟩) hs.length c) cv nb sb d) 85 := h.box.chg hc hib
  have hfiles := ownsRow_chg h.files hc hig
  have hst := World.ownsRow.stored hfiles (i * 2) v'
  have hv2 : OwB (w'.setCell ⟨g, i * 2, none⟩ v') 0 v' l' := ownsRow_setCell_other hv (a := ⟨g, i * 2, none⟩) (fun e => ownsRow_ne2 hv hfiles (by decide) g e rfl) _
  have hset : ∀ {base size n : Nat} {v : Value} {xs : List Value} {e : TypeId}, e ≠ 94 → w'.ownsRow base e size v n xs → (w'.setCell ⟨g, i * 2, none⟩ v').ownsRow base e size v n xs := fun he h1 =>
    ownsRow_setCell_other h1 (a := ⟨g, i * 2, none⟩) (fun e => ownsRow_ne2 h1 hfiles he g e rfl) _
  have hoth : ∀ f ∈ hs, f.1.ownBlock.toList ≠ hs[i].1.ownBlock.toList ∨ f.1.ownBlock = none → OwB (w'.setCell ⟨g, i * 2, none⟩ v') 0 f.1 f.2.1 := fun f hf hx => hset (by decide) (OwB.chg (h.bytes f hf) hc fun k hk => by
    rcases hx with hx | hx
    · rw [hk] at hx; intro e; rw [Option.mem_toList] at e; exact hx (by rw [e])
    · rw [hk] at hx; cases hx)
  have hap : ∀ j (hj : j < hs.length), j ≠ i → ApartV (v', l', hs[i].2.2) hs[j] := fun j hj hne k hk hk' => by
    rcases hm with e | e
    · exact pw_get (R := ApartV) h.apart apartV_symm hi hj (fun e => hne e.symm) k (e ▸ hk) hk'
    · have := e k hk
      have := (World.ownsRow.lt (h.bytes _ (List.getElem_mem hj)) k hk').2
      omega
  exact
  { box := hbox.other (fun e => hbg e.symm) _
    names := (h.names.chg hc (by simpa using h.names.apartRow hwi)).set _ _ (fun e => h.names.apartRow h.files (by simp only [Value.ownBlock]; exact congrArg some e.symm))
    sure := (h.sure.chg hc (by simpa using h.sure.apartRow hwi)).set _ _ (fun e => h.sure.apartRow h.files (by simp only [Value.ownBlock]; exact congrArg some e.symm))
    files := by
      rw [fileCells_set_eq hi, List.length_set]
      exact hst.1
    same := by rw [map_set2, h.same]; rfl
    changes := hset (by decide) (ownsRow_chg h.changes hc fun k hk => by simpa using ownsRow_ne2 h.changes hwi (by decide) k hk)
    bytes := fun f hf => by
      obtain ⟨j, hj, rfl⟩ := List.getElem_of_mem hf
      simp only [List.length_set] at hj
      rw [List.getElem_set]
      split
      · exact hv2
      · rename_i hne
        refine hoth _ (List.getElem_mem hj) ?_
        rcases hb : hs[j].1.ownBlock with _ | k
        · exact .inr rfl
        · left
          intro e
          have := pw_get (R := ApartV) h.apart apartV_symm hj hi (fun e => hne e.symm) k hb
          rcases hb2 : hs[i].1.ownBlock with _ | k2
          · rw [hb2] at e; simp at e
          · rw [hb2] at e this
            simp at e
            exact this (by rw [e])
    apart := pw_set (R := ApartV) h.apart apartV_symm hap
    ne := h.ne
    fpb := by simp [h.fpb]
    fpn := by simp [h.fpn]
    fps := by simp [h.fps]
    fpf := fun k hk => by simp [h.fpf k hk]
    fpc := fun k hk => by simp [h.fpc k hk]
    fph := fun f hf k hk => by
      rcases List.mem_or_eq_of_mem_set hf with hf | rfl
      · simp [h.fph f hf k hk]
      · have hk : v'.ownBlock = some k := hk
        simp [hk]
    fpl := fun k hk => by
      rw [size_set]
      rcases List.mem_append.1 hk with hk | hk
      · exact (World.ownsRow.lt hv k (by simpa using hk)).2
      · exact Nat.lt_of_lt_of_le (h.fpl k hk) hc.size
    good := hg }
end Go.Proofs.Ytdmokfplkhmijaa
