/- Words and walks that SC rests on: Cks, Clean, SaveML. -/
import Derived.Test.YtbiadpkglcdihaaGreatWSC11
import Derived.Test.YtbiadpkglcdihaaGreatWSC19
import Derived.Test.YtbiadpkglcdihaaGreatWSC12
import Derived.Test.YtbiadpkglcdihaaGreatWSC14
import Derived.Deep.Cut
import Derived.Test.YtbiadpkglcdihaaGreatWSC1
import Derived.Test.YtbiadpkglcdihaaGreatWSC20
/- A disk of several checkpoints, as plain data; save.Clean's plain form. -/
namespace Go.Proofs.YtbiadpkglcdihaaGreat
open Go.RowKit

theorem chk_back : ∀ n, n < 128 → ((chkB n).getLast?, (chkB n).dropLast.getLast?) = (some (nibB n 15), some (nibB n 14)) := fun n _ => by simp [chkB, hexS, List.range_succ]
theorem nib_inj : ∀ n : Fin 128, ∀ m : Fin 128, nibB n.1 15 = nibB m.1 15 → nibB n.1 14 = nibB m.1 14 → n = m := by decide +kernel
theorem chk_inj (n : Nat) (hn : n < 128) (m : Nat) (hm : m < 128) (h : chkB n = chkB m) : n = m := by
  have h1 := chk_back n hn
  rw [h, chk_back m hm] at h1
  injection h1 with h2 h3
  injection h2 with h2
  injection h3 with h3
  exact congrArg Fin.val (nib_inj ⟨n, hn⟩ ⟨m, hm⟩ h2.symm h3.symm)
/-- The disk's names are the checkpoints of L (number, bytes, file), each sure. -/
structure CkN (room : Int) (L : List (Nat × List UInt8 × Nat)) (d : Dsk) : Prop where
  q : Quiet d
  room : d.room = room
  names : d.names = L.map fun x => (chkB x.1, x.2.2)
  file : ∀ x ∈ L, x.2.2 < d.files.length ∧ d.files.getD x.2.2 ([], 0) = (x.2.1, x.2.1.length)
  nd : (L.map (·.1)).Nodup
  small : ∀ x ∈ L, x.1 < 128
structure Cks (room : Int) (L : List (Nat × List UInt8 × Nat)) (d : Dsk) : Prop where
  n : CkN room L d
  sure : d.sure = d.names
  ch : d.changes = []
variable {room : Int} {L : List (Nat × List UInt8 × Nat)} {d : Dsk} {n : Nat} {b : List UInt8}

theorem Cks.new (room : Int) (h : 0 ≤ room) : Cks room [] (newD room) := ⟨⟨⟨rfl, rfl, rfl⟩, by unfold newD; simp only; omega, rfl, by simp, by simp, by simp⟩, rfl, rfl⟩
theorem CkN.op (h : CkN room L d) : CkN room L (opD d) := by
  rw [h.q.opD]
  exact ⟨⟨h.q.off, h.q.down, h.q.fail⟩, h.room, h.names, h.file, h.nd, h.small⟩
theorem Cks.op (h : Cks room L d) : Cks room L (opD d) := ⟨h.n.op, h.sure, h.ch⟩
theorem CkN.nodup (h : CkN room L d) : (d.names.map (·.1)).Nodup := by
  rw [h.names, List.map_map]
  have h1 := h.nd
  unfold List.Nodup at h1 ⊢
  rw [List.pairwise_map] at h1 ⊢
  exact h1.imp_of_mem (fun {a b} ha hb hne e => hne (chk_inj _ (h.small a ha) _ (h.small b hb) e))
theorem CkN.get (h : CkN room L d) {x : Nat × List UInt8 × Nat} (hx : x ∈ L) : nget d.names (chkB x.1) = some x.2.2 :=
  mem_nget h.nodup (by rw [h.names]; exact List.mem_map.2 ⟨x, hx, rfl⟩)
theorem CkN.no (h : CkN room L d) (hn : n < 128) (hx : n ∉ L.map (·.1)) : nget d.names (chkB n) = none := by
  rcases hg : nget d.names (chkB n) with _ | i
  · rfl
  · have := nget_some_mem hg
    rw [h.names] at this
    obtain ⟨y, hy, e⟩ := List.mem_map.1 this
    have e1 : chkB y.1 = chkB n := congrArg Prod.fst e
    exact absurd (List.mem_map.2 ⟨y, hy, chk_inj _ (h.small y hy) _ hn e1⟩) hx
theorem CkN.tmp (h : CkN room L d) : nget d.names tmpB = none := by
  rcases hg : nget d.names tmpB with _ | i
  · rfl
  · have := nget_some_mem hg
    rw [h.names] at this
    obtain ⟨y, hy, e⟩ := List.mem_map.1 this
    exact absurd (congrArg Prod.fst e) (chk_ne _)
theorem CkN.bytes (h : CkN room L d) {x : Nat × List UInt8 × Nat} (hx : x ∈ L) : bytesD d (chkB x.1) = x.2.1 ∧ syncE d (chkB x.1) = 0 := by
  have hg := h.get hx
  refine ⟨?_, ?_⟩
  · unfold bytesD; rw [hg]; simp only; rw [(h.file x hx).2]
  · unfold syncE; rw [h.q.e, hg]; simp
theorem CkN.none (h : CkN room L d) (hn : n < 128) (hx : n ∉ L.map (·.1)) : syncE d (chkB n) = 4 ∧ removeE d (chkB n) = 4 := by
  have hg := h.no hn hx
  refine ⟨?_, ?_⟩
  · unfold syncE; rw [h.q.e, hg]; simp
  · unfold removeE; rw [h.q.e, hg]; simp
theorem CkN.size (h : CkN room L d) : sizeD d = (L.map fun x => x.2.1.length).sum := by
  unfold sizeD
  rw [h.names, List.map_map]
  exact sum_map_congr L (fun x hx => by simp only [Function.comp]; rw [(h.file x hx).2])
theorem CkN.lt (h : CkN room L d) : ∀ p ∈ d.names, p.2 < d.files.length := by
  intro p hp
  rw [h.names] at hp
  obtain ⟨x, hx, rfl⟩ := List.mem_map.1 hp
  exact (h.file x hx).1
theorem CkN.ndel (h : CkN room L d) (hn : n < 128) : ndel d.names (chkB n) = (L.filter fun x => !(x.1 == n)).map fun x => (chkB x.1, x.2.2) := by
  rw [h.names]
  unfold Go.Proofs.YtbiadpkglcdihaaGreat.ndel
  rw [List.filter_map]
  congr 1
  apply List.filter_congr
  intro x hx
  simp only [Function.comp]
  congr 1
  rw [Bool.eq_iff_iff, beq_iff_eq, beq_iff_eq]
  exact ⟨fun e => chk_inj _ (h.small x hx) _ hn e, fun e => by rw [e]⟩
theorem nodup_filter_fst (p : Nat × List UInt8 × Nat → Bool) (h : (L.map (·.1)).Nodup) : ((L.filter p).map (·.1)).Nodup := by
  unfold List.Nodup at h ⊢
  rw [List.pairwise_map] at h ⊢
  exact h.filter _
/-- One more checkpoint is put. -/
theorem Cks.put (h : Cks room L d) (n : Nat) (b : List UInt8) (hn : n < 128) (hr : (((L.map fun x => x.2.1.length).sum : Nat) : Int) + b.length ≤ room) (hl : L.length < 64) :
    (putD d n b).1 = 0 ∧ (∃ i, Cks room ((L.filter fun x => !(x.1 == n)) ++ [(n, b, i)]) (putD d n b).2) ∧ (putD d n b).2.ops ≤ d.ops + 7 := by
  have hdel : Go.Proofs.YtbiadpkglcdihaaGreat.ndel d.names tmpB = d.names := ndel_none' h.n.tmp
  obtain ⟨k, hk, he⟩ := put_ok d n b h.n.q h.n.lt (by rw [hdel]; have e : sizeD { d with names := d.names } = sizeD d := rfl; rw [e, h.n.room, h.n.size]; exact hr) (by rw [h.n.names, List.length_map]; exact hl)
  rw [he]
  refine ⟨rfl, ⟨d.files.length, ⟨⟨h.n.q.off, h.n.q.down, h.n.q.fail⟩, h.n.room, ?_, ?_, ?_, ?_⟩, rfl, rfl⟩, ?_⟩
  · unfold putOK
    simp only
    rw [hdel]
    unfold nput
    rw [h.n.ndel hn, List.map_append]
    rfl
  · unfold putOK
    simp only
    intro x hx
    rcases List.mem_append.1 hx with hx | hx
    · have := h.n.file x (List.mem_filter.1 hx).1
      exact ⟨by rw [List.length_append]; omega, by rw [getD_app this.1, this.2]⟩
    · obtain rfl := List.mem_singleton.1 hx
      exact ⟨by simp, getD_last _ _⟩
  · rw [List.map_append, List.nodup_append]
    refine ⟨nodup_filter_fst _ h.n.nd, by simp, ?_⟩
    intro a ha c hc e
    obtain ⟨x, hx, rfl⟩ := List.mem_map.1 ha
    have h2 := (List.mem_filter.1 hx).2
    simp at hc
    subst hc
    simp at h2
    exact h2 e
  · intro x hx
    rcases List.mem_append.1 hx with hx | hx
    · exact h.n.small x (List.mem_filter.1 hx).1
    · obtain rfl := List.mem_singleton.1 hx
      exact hn
  · unfold putOK; simp only; omega
theorem CkN.remove (h : CkN room L d) (hn : n < 128) (hx : n ∈ L.map (·.1)) : removeE d (chkB n) = 0 ∧ CkN room (L.filter fun x => !(x.1 == n)) (removeD d (chkB n)) := by
  obtain ⟨x, hxm, rfl⟩ := List.mem_map.1 hx
  have hg := h.get hxm
  have he : removeE d (chkB x.1) = 0 := by unfold removeE; rw [h.q.e, hg]; simp
  refine ⟨he, ?_⟩
  unfold removeD
  rw [if_neg (by rw [he]; simp), h.q.opD]
  unfold changeD
  simp only
  refine ⟨⟨h.q.off, h.q.down, h.q.fail⟩, h.room, ?_, ?_, nodup_filter_fst _ h.nd, fun y hy => h.small y (List.mem_filter.1 hy).1⟩
  · simp only
    rw [turn_out _ _ _ (chk_nil _)]
    exact h.ndel hn
  · exact fun y hy => h.file y (List.mem_filter.1 hy).1
theorem CkN.dirSync (h : CkN room L d) : opE d = 0 ∧ Cks room L (dirSyncD d) := by
  refine ⟨h.q.e, ?_⟩
  unfold dirSyncD
  rw [if_neg (by rw [h.q.e]; simp), h.q.opD]
  exact ⟨⟨⟨h.q.off, h.q.down, h.q.fail⟩, h.room, h.names, h.file, h.nd, h.small⟩, rfl, rfl⟩
/-- Behind a crash all are there. -/
theorem Cks.crash (h : Cks room L d) (m : Int) (kept : List Int) : Cks room (L.map fun x => (x.1, x.2.1, atN d.names x.2.2)) (crashD d m kept) := by
  have hfold : (d.changes.take (min (max m 0) d.changes.length).toNat).foldl turnD d.sure = d.names := by rw [h.ch, h.sure]; simp
  unfold crashD
  rw [hfold]
  refine ⟨⟨⟨rfl, rfl, rfl⟩, h.n.room, ?_, ?_, ?_, ?_⟩, rfl, rfl⟩
  · show movedN d.names = _
    unfold movedN
    conv => lhs; rw [h.n.names]
    rw [List.map_map, List.map_map]
    conv => rhs; rw [h.n.names]
    rw [← h.n.names]
    rfl
  · intro y hy
    obtain ⟨x, hx, rfl⟩ := List.mem_map.1 hy
    have hf := h.n.file x hx
    have hnm : namedN d.names x.2.2 = true := named_of_mem (p := (chkB x.1, x.2.2)) (by rw [h.n.names]; exact List.mem_map.2 ⟨x, hx, rfl⟩)
    refine ⟨?_, ?_⟩
    · show atN d.names x.2.2 < (keepF d.names (cutF d.files kept) (cutF d.files kept).length).length
      rw [keepF_length, cutF_length]
      exact atN_lt hf.1 hnm
    · show (keepF d.names (cutF d.files kept) (cutF d.files kept).length).getD (atN d.names x.2.2) ([], 0) = _
      rw [keepF_at _ _ _ _ (by rw [cutF_length]; exact hf.1) hnm, cutF_sure _ _ _ (by rw [hf.2]), hf.2]
  · rw [List.map_map]; exact h.n.nd
  · intro y hy
    obtain ⟨x, hx, rfl⟩ := List.mem_map.1 hy
    exact h.n.small x hx

/-- save.Clean's loop. -/
def clnD (keep : Nat) : List Nat → Bool → Dsk → Int × Bool × Dsk
  | [], s, d => (0, s, d)
  | n :: C, s, d => if n = keep then clnD keep C s d else if removeE d (chkB n) ≠ 0 then (removeE d (chkB n), true, removeD d (chkB n)) else clnD keep C true (removeD d (chkB n))
def cleanD (keep : Nat) (C : List Nat) (d : Dsk) : Int × Dsk :=
  if (clnD keep C false d).1 ≠ 0 then ((clnD keep C false d).1, (clnD keep C false d).2.2) else if (clnD keep C false d).2.1 then (opE (clnD keep C false d).2.2, dirSyncD (clnD keep C false d).2.2) else (0, (clnD keep C false d).2.2)
theorem removeD_ops (d : Dsk) (s : List UInt8) : (removeD d s).ops = d.ops + 1 := by
  unfold removeD
  split
  · rfl
  · rfl
theorem clnD_ok (keep : Nat) : ∀ (C : List Nat) (L : List (Nat × List UInt8 × Nat)) (s : Bool) (d : Dsk), CkN room L d → C.Nodup → (∀ n ∈ C, n < 128 ∧ n ∈ L.map (·.1)) →
    (clnD keep C s d).1 = 0 ∧ CkN room (L.filter fun x => decide (x.1 = keep) || !(C.contains x.1)) (clnD keep C s d).2.2 ∧ ((clnD keep C s d).2.1 = false → (clnD keep C s d).2.2 = d ∧ ∀ n ∈ C, n = keep)
  | [], L, s, d, h, _, _ => by
    refine ⟨rfl, ?_, fun _ => ⟨rfl, by simp⟩⟩
    rw [List.filter_eq_self.2 (by simp)]
    exact h
  | n :: C, L, s, d, h, hnd, hC => by
    have hn := hC n (by simp)
    rw [List.nodup_cons] at hnd
    unfold clnD
    by_cases hk : n = keep
    · rw [if_pos hk]
      obtain ⟨h1, h2, h3⟩ := clnD_ok keep C L s d h hnd.2 (fun m hm => hC m (by simp [hm]))
      refine ⟨h1, ?_, fun hf => ⟨(h3 hf).1, fun m hm => ?_⟩⟩
      · have e : (L.filter fun x => decide (x.1 = keep) || !((n :: C).contains x.1)) = L.filter fun x => decide (x.1 = keep) || !(C.contains x.1) := by
          apply List.filter_congr
          intro x _
          by_cases hx : x.1 = keep
          · simp [hx]
          · simp [hx, hk]
        rw [e]
        exact h2
      · rcases List.mem_cons.1 hm with rfl | hm
        · exact hk
        · exact (h3 hf).2 m hm
    · rw [if_neg hk]
      obtain ⟨e1, e2⟩ := h.remove hn.1 hn.2
      rw [if_neg (by rw [e1]; simp)]
      obtain ⟨h1, h2, h3⟩ := clnD_ok keep C _ true _ e2 hnd.2 (fun m hm => by
        refine ⟨(hC m (by simp [hm])).1, ?_⟩
        obtain ⟨x, hx, rfl⟩ := List.mem_map.1 (hC m (by simp [hm])).2
        refine List.mem_map.2 ⟨x, List.mem_filter.2 ⟨hx, ?_⟩, rfl⟩
        have : x.1 ≠ n := fun e => hnd.1 (e ▸ hm)
        simp [this])
      refine ⟨h1, ?_, fun hf => ?_⟩
      · rw [List.filter_filter] at h2
        have e : (L.filter fun x => decide (x.1 = keep) || !((n :: C).contains x.1)) = L.filter fun x => (decide (x.1 = keep) || !(C.contains x.1)) && !(x.1 == n) := by
          apply List.filter_congr
          intro x _
          by_cases hx : x.1 = keep
          · have : keep ≠ n := fun e => hk e.symm
            simp [hx, this]
          · by_cases hx2 : x.1 = n
            · simp [hx2, hk]
            · simp [hx, hx2]
        rw [e]
        exact h2
      · exact absurd hf (by
          have : ∀ (C : List Nat) (d : Dsk), (clnD keep C true d).2.1 = true := by
            intro C
            induction C with
            | nil => intro d; rfl
            | cons m C ih =>
              intro d
              unfold clnD
              split
              · exact ih d
              · split
                · rfl
                · exact ih _
          rw [this]
          simp)
/-- All but the one that is kept are gone, and sure. -/
theorem cleanD_ok (keep : Nat) (h : Cks room L d) : (cleanD keep (L.map (·.1)) d).1 = 0 ∧ Cks room (L.filter fun x => decide (x.1 = keep)) (cleanD keep (L.map (·.1)) d).2 := by
  obtain ⟨h1, h2, h3⟩ := clnD_ok keep (L.map (·.1)) L false d h.n h.n.nd (fun n hn => ⟨by obtain ⟨x, hx, rfl⟩ := List.mem_map.1 hn; exact h.n.small x hx, hn⟩)
  have e : (L.filter fun x => decide (x.1 = keep) || !((L.map (·.1)).contains x.1)) = L.filter fun x => decide (x.1 = keep) := by
    apply List.filter_congr
    intro x hx
    have : (L.map (·.1)).contains x.1 = true := by rw [List.contains_iff_mem]; exact List.mem_map.2 ⟨x, hx, rfl⟩
    rw [this]
    simp
  rw [e] at h2
  unfold cleanD
  rw [if_neg (by rw [h1]; simp)]
  by_cases hs : (clnD keep (L.map (·.1)) false d).2.1 = true
  · rw [if_pos hs]
    exact ⟨h2.dirSync.1, h2.dirSync.2⟩
  · rw [if_neg hs]
    obtain ⟨h4, h5⟩ := h3 (by simpa using hs)
    refine ⟨rfl, ?_⟩
    rw [h4]
    rw [List.filter_eq_self.2 (fun x hx => by simpa using h5 x.1 (List.mem_map.2 ⟨x, hx, rfl⟩))]
    exact h
theorem cleanD_miss (keep k : Nat) (C : List Nat) (h : CkN room L d) (hk : k < 128) (hk2 : k ≠ keep) (hn : k ∉ L.map (·.1)) : (cleanD keep (k :: C) d).1 = 4 := by
  have he := (h.none hk hn).2
  unfold cleanD clnD
  rw [if_neg hk2, if_pos (by rw [he]; simp)]
  simp only [he]
  simp
theorem clnD_ops (keep : Nat) : ∀ (C : List Nat) (s : Bool) (d : Dsk), d.ops ≤ (clnD keep C s d).2.2.ops ∧ (clnD keep C s d).2.2.ops ≤ d.ops + C.length
  | [], s, d => by unfold clnD; simp
  | n :: C, s, d => by
    unfold clnD
    split
    · have := clnD_ops keep C s d
      rw [List.length_cons]; omega
    · have h := removeD_ops d (chkB n)
      split
      · simp only [List.length_cons]; omega
      · have := clnD_ops keep C true (removeD d (chkB n))
        rw [List.length_cons]; omega
theorem dirSyncD_ops (d : Dsk) : (dirSyncD d).ops = d.ops + 1 := by unfold dirSyncD; split <;> rfl
theorem cleanD_ops (keep : Nat) (C : List Nat) (d : Dsk) : (cleanD keep C d).2.ops ≤ d.ops + C.length + 1 := by
  have h := clnD_ops keep C false d
  unfold cleanD
  split
  · simp only; omega
  · split
    · simp only; rw [dirSyncD_ops]; omega
    · simp only; omega
theorem filter_one (k : Nat) : ∀ (L : List (Nat × List UInt8 × Nat)), (L.map (·.1)).Nodup → (k ∈ L.map (·.1) → ∃ x, x.1 = k ∧ (L.filter fun x => decide (x.1 = k)) = [x]) ∧ (k ∉ L.map (·.1) → (L.filter fun x => decide (x.1 = k)) = [])
  | [], _ => by simp
  | y :: L, h => by
    rw [List.map_cons, List.nodup_cons] at h
    obtain ⟨h1, h2⟩ := filter_one k L h.2
    by_cases e : y.1 = k
    · subst e
      refine ⟨fun _ => ⟨y, rfl, ?_⟩, fun hn => by simp at hn⟩
      rw [List.filter_cons_of_pos (by simp), h2 h.1]
    · rw [List.filter_cons_of_neg (by simpa using e), List.map_cons]
      refine ⟨fun hm => ?_, fun hn => h2 (fun hm => hn (List.mem_cons_of_mem _ hm))⟩
      rcases List.mem_cons.1 hm with rfl | hm
      · exact absurd rfl e
      · exact h1 hm
theorem Cks.puts (h : Cks room L d) (n : Nat) (b : List UInt8) (hn : n < 128) (hno : n ∉ L.map (·.1)) (hm : ∀ x ∈ L, x.2.1.length ≤ 120) (hb : b.length ≤ 120) (hl : L.length < 64) (hr : 7680 ≤ room) :
    (putD d n b).1 = 0 ∧ (∃ i, Cks room (L ++ [(n, b, i)]) (putD d n b).2) ∧ (putD d n b).2.ops ≤ d.ops + 7 := by
  have hs : ∀ (L : List (Nat × List UInt8 × Nat)), (∀ x ∈ L, x.2.1.length ≤ 120) → (L.map fun x => x.2.1.length).sum ≤ L.length * 120 := by
    intro L
    induction L with
    | nil => intro _; simp
    | cons x L ih =>
      intro hm
      have h1 := hm x (by simp)
      have h2 := ih (fun y hy => hm y (by simp [hy]))
      rw [List.map_cons, List.sum_cons, List.length_cons, Nat.succ_mul]
      omega
  have h1 := hs L hm
  have e : (L.filter fun x => !(x.1 == n)) = L := List.filter_eq_self.2 (fun x hx => by
    have : x.1 ≠ n := fun e => hno (List.mem_map.2 ⟨x, hx, e⟩)
    simp [this])
  have h2 := h.put n b hn (by omega) hl
  rw [e] at h2
  exact h2
end Go.Proofs.YtbiadpkglcdihaaGreat

/- save.Clean. -/
namespace Go.Proofs.YtbiadpkglcdihaaGreat
open Go.RowKit

variable {w w' : World} {fp : List Nat} {b : Nat} {d : Dsk}

set_option maxHeartbeats 1000000 in
theorem Clean_any (h : Dk w fp b d) (v : Value) (keep : Nat) (hkeep : keep ≤ 1000) (ks : List Nat) (hv : Fs w v (ks.map Int.ofNat)) (hk8 : ∀ k ∈ ks, k ≤ 1000) (hvf : 0 < ks.length → ∀ k, v.ownBlock = some k → k ∉ fp) (hl : ks.length ≤ 1000) (hops : d.ops ≤ 1000000) :
    Calls Tryz.prog 28 #[.pointer (some ⟨b, 0, none⟩), .int .i64 (keep : Int), v] w fun e w' => e = .returned (.int .i64 (cleanD keep ks d).1) ∧ DkOut w fp b (cleanD keep ks d).2 w' := by
  have hlen : (ks.map Int.ofNat).length = ks.length := List.length_map _
  obtain ⟨ao, cap, bv, off, rfl, -, -, -, hao, hel⟩ := hv.open
  have hel' : ∀ j (h : j < ks.length), w.cell? ⟨bv, off + j, none⟩ = some (.int .i64 (Int.ofNat ks[j])) := fun j h => by
    have := hel j (by rw [hlen]; exact h)
    rwa [List.getElem_map] at this
  clear hel hv
  rw [hlen] at hao hvf ⊢
  obtain ⟨R, hR⟩ : ∃ R, cleanD keep ks d = R := ⟨_, rfl⟩
  rw [hR]
  obtain ⟨R0, hR0⟩ : ∃ R0, clnD keep ks false d = R0 := ⟨_, rfl⟩
  unfold cleanD at hR
  rw [hR0] at hR
  have HR := hd hR
  have HR0 := hd hR0
  have HEL := hd hel'
  have H := hd h
  clear hR hR0 hlen hel' h
  go_enter Tryz.func28, Tryz.ntmps28
  go_wp2_with fail
  go_loopw [6, 7, 9, 10, 13] (fun _ t7 _ _ t13 wr => ∃ (i : Nat) (s : Bool) (dx : Dsk), i ≤ ks.length ∧ t13 = .int .i64 i ∧ t7 = .bool s ∧ Hd (clnD keep (ks.drop i) s dx = R0) ∧ Hd (DkOut w fp b dx wr) ∧ Hd (dx.ops ≤ d.ops + i)) (fun _ _ _ _ t13 _ => ks.length - (intOf t13).toNat)
  case atStart => exact ⟨0, false, d, by omega, rfl, rfl, hd (by rw [List.drop_zero]; exact HR0.out), hd (DkOut.same H.out (Chg.refl _ _)), hd (by omega)⟩
  case round =>
    obtain ⟨i, s, dx, hi, rfl, rfl, hz, hD, hO⟩ := hrel
    by_cases hlt : i < ks.length
    · have hlti : (i : Int) < (ks.length : Int) := by omega
      obtain rfl := hao (by omega)
      have hc0 := HEL.out i hlt
      have hbn : bv ∉ fp := hvf (by omega) bv rfl
      have hk := hk8 _ (List.getElem_mem hlt)
      have hdr := List.drop_eq_getElem_cons hlt
      have hz0 := hz.out
      rw [hdr] at hz0
      unfold clnD at hz0
      obtain ⟨fpx, hkx, hcx, hgx⟩ := hD.out
      have q0 := hcx.cellT hc0 hbn
      generalize ks[i]'hlt = K at *
      have hkc : Int.ofNat K = (K : Int) := rfl
      rw [hkc] at q0
      have hops2 : dx.ops < 1073741824 := by have := hO.out; omega
      have HZ0 := hd hz0
      clear hc0 hD hkc hdr hz0 hz
      by_cases hkk : K = keep
      · have hz1 := HZ0.out
        rw [if_pos hkk] at hz1
        have HZ := hd hz1
        have HD := hd (show DkOut w fp b dx wr from ⟨fpx, hkx, hcx, hgx⟩)
        subst hkk
        clear hz1 hkx hcx hgx HZ0
        go_wp2_with fail
        go_roundw
        case rel => exact ⟨i + 1, s, dx, by omega, by go_num, rfl, HZ, HD, hd (by have := hO.out; omega)⟩
        case measure => simp [intOf]; omega
      · have hkk' : ((K : Int) == (keep : Int)) = false := by rw [beq_eq_false_iff_ne]; omega
        have hz1 := HZ0.out
        rw [if_neg hkk] at hz1
        have HZ1 := hd hz1
        clear hz1 HZ0 hkk
        go_wp2_with fail
        refine (Check_any wr K (by omega)).mono ?_
        rintro e w1 ⟨rfl, hc1⟩
        have hrm := Remove_any (hkx.k hc1) (chkB K) (by rw [chk_length]; decide) hops2
        replace hcx := hcx.trans hc1 (by simp)
        clear hc1 hkx q0
        go_wp2_with fail
        refine (hrm).mono ?_
        rintro e w2 ⟨rfl, h2⟩
        have H2 := hd (h2.chain hcx hgx)
        clear hrm h2 hcx hgx
        by_cases hE : removeE dx (chkB K) = 0
        · rw [hE]
          have hs := HZ1.out
          rw [if_neg (by rw [hE]; simp)] at hs
          have HS := hd hs
          clear hs hE
          go_wp2_with fail
          go_roundw
          case rel => exact ⟨i + 1, true, _, by omega, by go_num, rfl, HS, H2, hd (by have := hO.out; rw [removeD_ops]; omega)⟩
          case measure => simp [intOf]; omega
        · have hs := HZ1.out
          rw [if_pos hE] at hs
          have hRR := HR.out
          rw [← hs, if_pos hE] at hRR
          have hE' : (removeE dx (chkB K) == 0) = false := by simpa using hE
          clear hs hE
          subst hRR
          go_wp2_with fail
          go_ret
          exact ⟨rfl, H2.out⟩
    · obtain rfl : i = ks.length := by omega
      have hz' := hz.out
      rw [List.drop_length] at hz'
      have hz2 : (0, s, dx) = R0 := hz'
      have hD' := hD.out
      have hRR := HR.out
      rw [← hz2, if_neg (by simp)] at hRR
      have hop := hO.out
      simp only at hRR
      cases s with
      | false =>
        rw [if_neg (by simp)] at hRR
        subst hRR
        have HD := hd hD'
        clear hz' hz2 hD' hop hz hD
        go_wp2_with fail
        go_ret
        exact ⟨rfl, HD.out⟩
      | true =>
        rw [if_pos rfl] at hRR
        subst hRR
        obtain ⟨fpx, hkx, hcx, hgx⟩ := hD'
        have hds := DirSync_any hkx (by omega)
        clear hz hD hz' hz2 hop hkx
        go_wp2_with fail
        refine (hds).mono ?_
        rintro e w2 ⟨rfl, h2⟩
        have H2 := hd (h2.chain hcx hgx)
        clear h2 hds hcx hgx
        go_wp2_with fail
        go_ret
        exact ⟨rfl, H2.out⟩
end Go.Proofs.YtbiadpkglcdihaaGreat

/- A disk that the call made, beside a map and a list of numbers that it made. -/
namespace Go.Proofs.YtbiadpkglcdihaaGreat
open Go.RowKit

def DML (w wr : World) (b : Nat) (d : Dsk) (mb : Nat) (M : World → Prop) (v : Value) (xs : List Int) : Prop :=
  (∀ S u u', Chg S u u' → mb ∉ S → M u → M u') ∧ ∃ fp, Dk wr fp b d ∧ Chg [] w wr ∧ (∀ k ∈ fp, w.heap.size ≤ k) ∧ mb ∉ fp ∧ w.heap.size ≤ mb ∧ mb < wr.heap.size ∧ M wr ∧ OwI wr w.heap.size v xs ∧ ∀ k, v.ownBlock = some k → k ∉ fp ∧ k ≠ mb
variable {w wr wx : World} {b mb : Nat} {d : Dsk} {M : World → Prop} {v : Value} {xs : List Int}

theorem DML.c (h : DML w wr b d mb M v xs) : Chg [] w wr := let ⟨_, _, _, h, _⟩ := h; h
theorem DML.m (h : DML w wr b d mb M v xs) : M wr := let ⟨_, _, _, _, _, _, _, _, h, _⟩ := h; h
theorem DML.l (h : DML w wr b d mb M v xs) : OwI wr w.heap.size v xs := let ⟨_, _, _, _, _, _, _, _, _, h, _⟩ := h; h
theorem DML.k (h : DML w wr b d mb M v xs) (hc : Chg [] wr wx) : DML w wx b d mb M v xs := by
  obtain ⟨h0, fp, h1, h2, h3, h4, h5, h6, h7, h8, h9⟩ := h
  exact ⟨h0, fp, h1.k hc, h2.k hc, h3, h4, h5, Nat.lt_of_lt_of_le h6 hc.size, h0 [] _ _ hc (by simp) h7, h8.k hc, h9⟩
/-- The map was made last; there is no list yet. -/
theorem DML.new {w4 : World} {fp : List Nat} (hD : Dk w4 fp b d) (hc : Chg [] w w4) (hb : ∀ k ∈ fp, w.heap.size ≤ k) (o : Obj) (M : World → Prop) (hM0 : ∀ S u u', Chg S u u' → w4.heap.size ∉ S → M u → M u') (hM : M (w4.alloc o)) : DML w (w4.alloc o) b d w4.heap.size M (.slice none 0 0) [] := by
  have hk := (Chg.refl [] w4).alloc o
  exact ⟨hM0, fp, hD.k hk, hc.k hk, hb, fun h => by have := hD.fpl _ h; omega, hc.size, by simp, hM, OwI.nil _ _, by simp [Value.ownBlock]⟩
/-- The map was changed. -/
theorem DML.upd (h : DML w wr b d mb M v xs) {M' : World → Prop} (hg : wr.grownBy wx (some mb)) (hM0 : ∀ S u u', Chg S u u' → mb ∉ S → M' u → M' u') (hM : M' wx) : DML w wx b d mb M' v xs := by
  obtain ⟨h0, fp, h1, h2, h3, h4, h5, h6, h7, h8, h9⟩ := h
  have hc := Chg.ofGrown hg
  refine ⟨hM0, fp, h1.chg hc (fun k hk => by simp only [Option.toList_some, List.mem_singleton]; rintro rfl; exact h4 hk), h2.trans hc (by simp only [Option.toList_some, List.mem_singleton]; rintro x rfl hx; omega), h3, h4, h5, Nat.lt_of_lt_of_le h6 hc.size, hM, World.ownsRow.kept h8 hg ?_, h9⟩
  rcases hv : v.ownBlock with _ | k
  · exact .inl rfl
  · exact .inr (fun e => (h9 k hv).2 (by injection e))
/-- A number was appended. -/
theorem DML.app (h : DML w wr b d mb M v xs) {v' : Value} {ys : List Int} (hg : wr.grownBy wx v.ownBlock) (ho : OwI wx w.heap.size v' ys) (hm : Moved wr v v') : DML w wx b d mb M v' ys := by
  obtain ⟨h0, fp, h1, h2, h3, h4, h5, h6, h7, h8, h9⟩ := h
  have hc := Chg.ofGrown hg
  have hS : ∀ k, k ∈ v.ownBlock.toList → v.ownBlock = some k := fun k hk => by simpa using hk
  refine ⟨h0, fp, h1.chg hc (fun k hk hm => (h9 k (hS k hm)).1 hk), h2.trans hc (fun x hx hl => by have := (World.ownsRow.lt h8 x (hS x hx)).1; omega), h3, h4, h5, Nat.lt_of_lt_of_le h6 hc.size, h0 _ _ _ hc (fun hm => (h9 mb (hS mb hm)).2 rfl) h7, ho, fun k hk => ?_⟩
  rcases hm with hm | hm
  · exact h9 k (by rw [← hm]; exact hk)
  · have := hm k hk
    exact ⟨fun hf => by have := h1.fpl k hf; omega, fun e => by omega⟩
/-- A step of the disk, told for its blocks. -/
theorem DML.step {wq : World} (h : DML w wq b d mb M v xs) (hc : Chg [] wq wr) {f : FuncId} {args : Array Value} {R : Ending → Prop} {d' : Dsk}
    (ho : ∀ fp, Dk wr fp b d → (∀ k ∈ fp, k < wq.heap.size) → (∀ k, v.ownBlock = some k → k ∉ fp) → Calls Tryz.prog f args wr fun e w' => R e ∧ DkOut wr fp b d' w') : Calls Tryz.prog f args wr fun e w' => R e ∧ DML w w' b d' mb M v xs := by
  have hlt : ∀ k, v.ownBlock = some k → k < wr.heap.size := fun k hk => (World.ownsRow.lt (h.k hc).l k hk).2
  obtain ⟨h0, fp, h1, h2, h3, h4, h5, h6, h7, h8, h9⟩ := h
  refine (ho fp (h1.k hc) h1.fpl (fun k hk => (h9 k hk).1)).mono fun e w' ⟨he, fp', g1, g2, g3⟩ => ⟨he, ?_⟩
  have h8' := OwI.k h8 hc
  refine ⟨h0, fp', g1, (h2.k hc).trans g2 (fun x hx hl => by have := h3 x hx; omega), fun k hk => ?_, fun hk => ?_, h5, by have := hc.size; have := g2.size; omega, h0 _ _ _ g2 h4 (h0 _ _ _ hc (by simp) h7), ownsRow_chg h8' g2 (fun k hk => (h9 k hk).1), fun k hk => ⟨fun hf => ?_, (h9 k hk).2⟩⟩
  · rcases g3 k hk with h | h
    · exact h3 k h
    · have := h2.size; have := hc.size; omega
  · rcases g3 mb hk with h | h
    · exact h4 h
    · have := hc.size; omega
  · rcases g3 k hf with h | h
    · exact (h9 k hk).1 h
    · have := hlt k hk; omega
/-- A checkpoint of a world that was made behind the disk. -/
theorem DML.put {wq : World} (h : DML w wq b d mb M v xs) (hc : Chg [] wq wr) (bv jv kv : Value) (L : List BV) (X : Wld) (hx : WlP wr bv jv kv L X) (hap : ∀ S : List Nat, (∀ x ∈ S, x < wq.heap.size) → Apart S bv jv kv L X) (hf : FitW X) (hc0 : X.contacts = []) (n : Nat) (hn : X.tick = (n : Int)) (hn2 : n ≤ 4611686018427387904)
    (hops : d.ops < 1073741000) (hroom : d.room ≤ 4294967296) :
    Calls Tryz.prog 12 #[.pointer (some ⟨b, 0, none⟩), vW X bv jv kv] wr fun e w' => e = .returned (.int .i64 (putD d n (frameB X.tick (leW X))).1) ∧ DML w w' b (putD d n (frameB X.tick (leW X))).2 mb M v xs := by
  exact h.step hc (R := fun e => e = .returned (.int .i64 (putD d n (frameB X.tick (leW X))).1)) fun fp hk hl _ => Put_any hk bv jv kv L X hx (hap fp hl) hf hc0 n hn hn2 hops hroom
theorem wpAppIM {w : World} {ops : Array Oper} {rest : List Oper} {o : Oper} {a : Act} {Q : Exit → Act → World → Prop} (hgd : Region.wanted o (yielded ops a.tmps) = true) (s x : Operand)
    (ho : o.op = .call { callee := .builtin .append, args := #[s, x], argTypes := #[59, 59] }) (base : Nat) (v : Value) (l : List Int) (hs : a.eval s = v) (hown : OwI w base v l)
    (u : Value) (m : List Int) (hx : a.eval x = u) (hu : Fs w u m) (hlen : l.length + m.length ≤ 10000000000000) (hbase : base ≤ w.heap.size)
    (h : ∀ ao c w', OwI w' base (.slice ao (l.length + m.length) c) (l ++ m) → w.grownBy w' v.ownBlock → Moved w v (.slice ao (l.length + m.length) c) → wpList Tryz.prog ops Q rest (a.put o.dst (.slice ao (l.length + m.length) c)) w') : wpList Tryz.prog ops Q (o :: rest) a w :=
  wpApp rowInt hgd s x ho base v _ _ hs hown u _ _ hx hu (by intro u hu; obtain ⟨x, _, rfl⟩ := List.mem_map.1 hu; rfl) (by omega) (by omega) hbase fun ao c w' h1 h2 h3 _ =>
    h ao c w' (by unfold OwI; rw [List.length_append, List.map_append]; exact h1) h2 h3
theorem DsS.nil (w : World) : DsS w (.slice none 0 0) [] := ⟨Rd.ofOwn (e := 140) (base := 0) (World.ownsRow_nil _ _ _ _), by simp⟩
theorem leW_none (X : Wld) (_h : FitW X) (hb : X.bodies = []) (hj : X.joints = []) (hc : X.contacts = []) : (leW X).length ≤ 100 := by
  unfold leW leW3 leW2 leW1 leW0
  rw [hb, hj, hc]
  simp only [List.length_append, leB_length, leF_length, fV_length, List.length_cons, List.length_nil, List.flatMap_nil]
  omega
theorem OwI.lit (w : World) (base : Nat) (l : List Int) (cs : Array Value) (hcs : cs = (l.map (Value.int .i64)).toArray) (hb : base ≤ w.heap.size) (hl : l.length ≤ 140737488355328) :
    OwI (w.alloc (.cells cs 3)) base (.slice (some ⟨w.heap.size, 0, none⟩) l.length l.length) l := by
  subst hcs
  have := World.ownsRow_lit (base := base) (e := 3) (size := 1) w (l.map (Value.int .i64)).toArray l.length hb (by unfold maxLen; omega) (by simp)
  simpa [OwI] using this
/-- Ticks of small numbers, each once. -/
def addC (T : List Nat) (k : Nat) : List Nat := if k ∈ T then T else T ++ [k]
def tkC (t : UInt8) : Nat := (n8 t).toNat % 16
def allC (l : List UInt8) : List Nat := (l.map tkC).foldl addC []
theorem tkC_lt (t : UInt8) : tkC t < 16 := Nat.mod_lt _ (by decide)
theorem u8_and15 (t : UInt8) : bits .and .u8 (n8 t) 15 = ((tkC t : Nat) : Int) := by
  have h : ∀ z : Fin 256, bits .and .u8 (z.1 : Int) 15 = ((z.1 % 16 : Nat) : Int) := by decide +kernel
  have hl := n8_lo t
  have hh := n8_hi t
  have := h ⟨(n8 t).toNat, by omega⟩
  rw [Int.toNat_of_nonneg hl] at this
  exact this
theorem allC_snoc (l : List UInt8) (i : Nat) (h : i < l.length) : allC (l.take (i + 1)) = addC (allC (l.take i)) (tkC l[i]) := by
  unfold allC
  rw [List.take_succ_eq_append_getElem h, List.map_append, List.foldl_append]; rfl
end Go.Proofs.YtbiadpkglcdihaaGreat
