/- Reading arguments with depth: structs and slices of structs. -/
import Derived.Test.YtdmokfplkhmijaaLawKit
import Derived.Test.YtdmokfplkhmijaaKitB
import Derived.ChangeOld
namespace Go.Proofs.Ytdmokfplkhmijaa
open Go.RowKit Go.ChangeShapes Go.WideShapes

/-- v is a slice whose elements, of 'size' cells each, read as l. -/
def Rds {α : Type} (E : World → α → List Value → Prop) (size : Nat) (w : World) (v : Value) (l : List α) : Prop :=
  ∃ css : List (List Value), css.length = l.length ∧ (∀ i (h : i < l.length) (h' : i < css.length), E w l[i] css[i] ∧ css[i].length = size) ∧ Rd w size v l.length css.flatten
theorem Rds.form {α : Type} {E : World → α → List Value → Prop} {size : Nat} {w : World} {v : Value} {l : List α} (h : Rds E size w v l) : ∃ ao c, v = .slice ao l.length c := by
  obtain ⟨_, _, _, _, ao, cap, b, off, rfl, _⟩ := h
  exact ⟨ao, cap, rfl⟩
theorem Rds.k {α : Type} {E : World → α → List Value → Prop} {size : Nat} {w w' : World} {v : Value} {l : List α} (h : Rds E size w v l) (hE : ∀ a c, E w a c → E w' a c) (hc : Chg [] w w') : Rds E size w' v l := by
  obtain ⟨css, h1, h2, h3⟩ := h
  exact ⟨css, h1, fun i h h' => ⟨hE _ _ (h2 i h h').1, (h2 i h h').2⟩, Rd.keep h3 hc (by simp)⟩
theorem flatten_get {css : List (List Value)} {size : Nat} (h : ∀ i (h' : i < css.length), css[i].length = size) (i j : Nat) (hi : i < css.length) (hj : j < size) : css.flatten[i * size + j]? = css[i][j]? := by
  induction css generalizing i with
  | nil => simp at hi
  | cons c css ih =>
    have h0 : c.length = size := h 0 (by simp)
    cases i with
    | zero => simp only [List.flatten_cons, Nat.zero_mul, Nat.zero_add, List.getElem_cons_zero]; rw [List.getElem?_append_left (by omega)]
    | succ i =>
      simp only [List.flatten_cons, List.getElem_cons_succ]
      rw [List.getElem?_append_right (by rw [h0]; rw [Nat.succ_mul]; omega), h0, show (i + 1) * size + j - size = i * size + j by rw [Nat.succ_mul]; omega]
      exact ih (fun k hk => h (k + 1) (by simpa using hk)) i (by simpa using hi)
theorem flatten_len {css : List (List Value)} {size : Nat} (h : ∀ c ∈ css, c.length = size) : css.flatten.length = css.length * size := by
  induction css with
  | nil => simp
  | cons c css ih => simp only [List.flatten_cons, List.length_append, List.length_cons]; rw [h c (by simp), ih (fun x hx => h x (by simp [hx])), Nat.succ_mul]; omega
/-- The cells of element i. -/
theorem Rds.at {α : Type} {E : World → α → List Value → Prop} {size : Nat} {w : World} {v : Value} {l : List α} (h : Rds E size w v l) (hl : 0 < l.length) : ∃ b off cap, v = .slice (some ⟨b, off, none⟩) l.length cap ∧ l.length ≤ cap ∧ cap ≤ maxLen ∧
    ∀ i (hi : i < l.length), ∃ c, E w l[i] c ∧ c.length = size ∧ ∀ j, j < size → w.cell? ⟨b, off + i * size + j, none⟩ = c[j]? := by
  obtain ⟨css, h1, h2, h0, ao, cap, b, off, rfl, h3, h4, h5, h6, h7⟩ := h
  obtain rfl := h6 hl
  refine ⟨b, off, cap, rfl, h3, h4, fun i hi => ⟨css[i]'(by omega), (h2 i hi (by omega)).1, (h2 i hi (by omega)).2, fun j hj => ?_⟩⟩
  have hg := flatten_get (size := size) (fun i h' => (h2 i (by omega) h').2) i j (by omega) hj
  have hlen : j < (css[i]'(by omega)).length := by rw [(h2 i hi (by omega)).2]; exact hj
  rw [List.getElem?_eq_getElem hlen] at hg ⊢
  rw [Nat.add_assoc]
  exact h7 _ _ hg

section
variable {H : Type} {enc : TypeId × Value → H} {P : Program} {w : World} {base : Nat} {spare : Nat → Bool} {held : Bool}
/-- A slice that is read, whatever its elements. -/
theorem trod_rdsW {α : Type} {t e : TypeId} {size fuel : Nat} {cs : List Value} {x : DataW H × List MemPlace} (E : World → α → List Value → Prop) (Pw : DataW H → Prop) (ht : P.underlying t = some (.slice e)) (hC : P.cellsOf e = size) (hpos : 0 < size)
    (hP : ∀ es sp, x.1 = .slice es sp → ∀ y ∈ es, Pw y)
    (hE : ∀ n cs x, DataW.trod enc P w base spare held n e cs = some x → Pw x.1 → cs.length = size → ∃ a : α, E w a cs) (h : DataW.trod enc P w base spare held fuel t cs = some x) : ∃ v l, cs = [v] ∧ Rds E size w v l ∧ ((x.1 = .nil ∧ l = []) ∨ ∃ es sp, x.1 = .slice es sp ∧ es.length = l.length) := by
  rcases DataW.trod_slice ht h with ⟨rfl, rfl⟩ | ⟨a, len, cap, elems, rest, n, _, rfl, rfl, hb, hl, hm, hlen, hel, -, -⟩
  · exact ⟨_, [], rfl, ⟨[], rfl, by simp, by simp, none, 0, 0, 0, rfl, by simp, by simp [maxLen], by simp, by simp, by simp⟩, .inl ⟨rfl, rfl⟩⟩
  · have each : ∀ i, i < len → ∃ c, w.cells? base (a.add (i * size)) size = some c ∧ ∃ y : α, E w y c := by
      intro i hi
      have h1 := hel i hi
      rw [hC, List.getElem?_eq_getElem (by omega), Option.bind_eq_some_iff] at h1
      obtain ⟨c, hc, hy⟩ := h1
      exact ⟨c, hc, hE n c _ hy (hP _ _ rfl _ (List.mem_map.2 ⟨_, List.getElem_mem (by omega), rfl⟩)) (World.cells?_some hc).2.1⟩
    have hsp : 0 < len → a.spot = none := by
      intro hp
      obtain ⟨c, hc, -⟩ := each 0 hp
      have h0 := (World.cells?_some hc).2.2
      rw [Nat.zero_mul] at h0
      have hcl := (World.cells?_some hc).2.1
      have h00 := h0 0 (by omega)
      have := spot_none (h00.trans (List.getElem?_eq_getElem (by omega)))
      cases a; simpa [Addr.add] using this
    obtain ⟨f, hf⟩ : ∃ f : Nat → List Value × Option α, ∀ i, i < len → w.cells? base (a.add (i * size)) size = some (f i).1 ∧ ∃ y, (f i).2 = some y ∧ E w y (f i).1 := by
      refine ⟨fun i => if hi : i < len then (Classical.choose (each i hi), some (Classical.choose (Classical.choose_spec (each i hi)).2)) else ([], none), fun i hi => ?_⟩
      simp only [dif_pos hi]
      exact ⟨(Classical.choose_spec (each i hi)).1, _, rfl, Classical.choose_spec (Classical.choose_spec (each i hi)).2⟩
    obtain ⟨g, hg⟩ : ∃ l : List α, l.length = len ∧ ∀ i (h : i < l.length), (f i).2 = some l[i] := by
      have : ∀ k, k ≤ len → ∃ l : List α, l.length = k ∧ ∀ i (h : i < l.length), (f i).2 = some l[i] := by
        intro k
        induction k with
        | zero => intro _; exact ⟨[], rfl, by simp⟩
        | succ k ih =>
          intro hk
          obtain ⟨l, hl1, hl2⟩ := ih (by omega)
          obtain ⟨-, y, hy, -⟩ := hf k (by omega)
          refine ⟨l ++ [y], by simp [hl1], fun i hi => ?_⟩
          by_cases hik : i < l.length
          · rw [List.getElem_append_left hik]; exact hl2 i hik
          · have : i = k := by simp at hi; omega
            subst this
            rw [List.getElem_append_right (by omega)]
            simpa using hy
      exact this len (Nat.le_refl _)
    obtain ⟨hgl, hg⟩ := hg
    have hcl : ∀ i, i < len → (f i).1.length = size := fun i hi => (World.cells?_some (hf i hi).1).2.1
    refine ⟨_, g, rfl, ⟨(List.range len).map fun i => (f i).1, by simp [hgl], fun i hi h' => ?_, ?_, some a, cap, a.block, a.off, by rw [hgl], by omega, hm, by simp, fun hp => ?_, fun j u hu => ?_⟩, .inr ⟨_, _, rfl, by simp [hlen, hgl]⟩⟩
    · simp only [List.getElem_map, List.getElem_range]
      obtain ⟨-, y, hy, hE'⟩ := hf i (by omega)
      have := hg i hi
      rw [hy] at this
      simp only [Option.some.injEq] at this
      subst this
      exact ⟨hE', hcl i (by omega)⟩
    · rw [flatten_len (size := size) (by intro c hc; obtain ⟨i, hi, rfl⟩ := List.mem_map.1 hc; exact hcl i (by simpa using hi)), hgl]; simp
    · have := hsp (by omega)
      cases a; simp at this; subst this; rfl
    · have hj : j < len * size := by
        have h1 := (List.getElem?_eq_some_iff.1 hu).1
        rw [flatten_len (size := size) (by intro c hc; obtain ⟨i, hi, rfl⟩ := List.mem_map.1 hc; exact hcl i (by simpa using hi))] at h1
        simpa using h1
      have hi : j / size < len := (Nat.div_lt_iff_lt_mul hpos).2 hj
      have hr : j % size < size := Nat.mod_lt _ hpos
      have hjd : j = j / size * size + j % size := by rw [Nat.mul_comm]; exact (Nat.div_add_mod j size).symm
      have hfl := flatten_get (css := (List.range len).map fun i => (f i).1) (size := size) (fun i h' => by simp at h' ⊢; exact hcl i h') (j / size) (j % size) (by simpa using hi) hr
      rw [← hjd, hu] at hfl
      simp only [List.getElem_map, List.getElem_range] at hfl
      have h0 := (World.cells?_some (hf _ hi).1).2.2 (j % size) hr
      rw [← hfl] at h0
      have hsp' := hsp (Nat.lt_of_le_of_lt (Nat.zero_le _) hi)
      have e : ∀ k1 k2, (a.add k1).add k2 = ⟨a.block, a.off + (k1 + k2), none⟩ := by
        intro k1 k2
        obtain ⟨b, o, s⟩ := a
        simp at hsp'
        subst hsp'
        unfold Addr.add
        by_cases h1 : k1 = 0 <;> by_cases h2 : k2 = 0 <;> simp [h1, h2, Nat.add_assoc]
      rw [e, ← hjd] at h0
      exact h0
theorem trod_i64 {t : TypeId} {fuel : Nat} {cs : List Value} {x : DataW H × List MemPlace} (ht : P.underlying t = some (.int .i64)) (h : DataW.trod enc P w base spare held fuel t cs = some x) : ∃ n, cs = [.int .i64 n] ∧ -9223372036854775808 ≤ n ∧ n ≤ 9223372036854775807 := by
  obtain ⟨n, rfl, _, hw⟩ := DataW.trod_int ht h
  exact ⟨n, rfl, wf_i64 hw⟩
def EByte (_ : World) (x : UInt8) (c : List Value) : Prop := c = [vb x]
theorem rds_bs {v : Value} {l : List UInt8} (h : Rds EByte 1 w v l) : Bs w v l := by
  obtain ⟨css, h1, h2, h3⟩ := h
  have : css.flatten = l.map vb := by
    have hcss : css = l.map fun x => [vb x] := by
      apply List.ext_getElem
      · simp [h1]
      · intro i a b
        simp only [List.getElem_map]
        exact (h2 i (by simpa using b) a).1
    rw [hcss]
    clear h1 h2 h3 hcss
    induction l with
    | nil => rfl
    | cons x l ih => simp only [List.map_cons, List.flatten_cons, ih]; rfl
  unfold Bs
  rw [← this]; exact h3
/-- A slice that is read, whatever its elements. -/
theorem trod_rds {α : Type} {t e : TypeId} {size fuel : Nat} {cs : List Value} {x : DataW H × List MemPlace} (E : World → α → List Value → Prop) (ht : P.underlying t = some (.slice e)) (hC : P.cellsOf e = size) (hpos : 0 < size)
    (hE : ∀ n cs x, DataW.trod enc P w base spare held n e cs = some x → cs.length = size → ∃ a : α, E w a cs) (h : DataW.trod enc P w base spare held fuel t cs = some x) : ∃ v l, cs = [v] ∧ Rds E size w v l := by
  obtain ⟨v, l, h1, h2, -⟩ := trod_rdsW E (fun _ => True) ht hC hpos (fun _ _ _ _ _ => trivial) (fun n cs x hx _ hl => hE n cs x hx hl) h
  exact ⟨v, l, h1, h2⟩
end
/-- A slice of bytes that is read. -/
theorem trod_bytes {H : Type} {enc : TypeId × Value → H} {w : World} {base : Nat} {spare : Nat → Bool} {held : Bool} {fuel : Nat} {cs : List Value} {x : DataW H × List MemPlace} (h : DataW.trod enc Try.prog w base spare held fuel 30 cs = some x) : ∃ v l, cs = [v] ∧ Bs w v l := by
  obtain ⟨v, l, h1, h2⟩ := trod_rds (size := 1) EByte undBytes (by kernel_rfl) (by decide) (fun n cs x hx _ => by
    obtain ⟨z, rfl, _, hw⟩ := DataW.trod_int undByte hx
    have hb := wf_u8 hw
    exact ⟨UInt8.ofNat z.toNat, by unfold EByte vb; rw [n8_of z hb.1 hb.2]⟩) h
  exact ⟨v, l, h1, rds_bs h2⟩
/-- .. with how long it is. -/
theorem trod_bytesW {H : Type} {enc : TypeId × Value → H} {w : World} {base : Nat} {spare : Nat → Bool} {held : Bool} {fuel : Nat} {cs : List Value} {x : DataW H × List MemPlace} (h : DataW.trod enc Try.prog w base spare held fuel 30 cs = some x)
    (hw : ∀ m ∈ x.1.weights Try.prog 30, m ≤ reachBytes) : ∃ v l, cs = [v] ∧ Bs w v l ∧ l.length ≤ 140737488351232 := by
  obtain ⟨v, l, h1, h2, h3⟩ := trod_rdsW (size := 1) EByte (fun _ => True) undBytes (by kernel_rfl) (by decide) (fun _ _ _ _ _ => trivial) (fun n cs x hx _ _ => by
    obtain ⟨z, rfl, _, hw⟩ := DataW.trod_int undByte hx
    have hb := wf_u8 hw
    exact ⟨UInt8.ofNat z.toNat, by unfold EByte vb; rw [n8_of z hb.1 hb.2]⟩) h
  refine ⟨v, l, h1, rds_bs h2, ?_⟩
  rcases h3 with ⟨-, rfl⟩ | ⟨es, sp, he, hl⟩
  · simp
  · have := hw ((es.length + sp.length) * Try.prog.bytesOf 5) (by rw [he]; simp [DataW.weights])
    rw [show Try.prog.bytesOf 5 = 1 by kernel_rfl] at this
    have hr : reachBytes = 140737488351232 := by decide
    omega
end Go.Proofs.Ytdmokfplkhmijaa
