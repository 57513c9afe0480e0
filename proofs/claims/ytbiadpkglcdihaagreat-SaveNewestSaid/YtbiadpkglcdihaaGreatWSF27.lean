/- Words and walks that SF rests on: BendPlain, LawSaveBends, Cks, Clean, SaveML. -/
import Derived.Test.YtbiadpkglcdihaaGreatWSF11
import Derived.Test.YtbiadpkglcdihaaGreatWSF26
import Derived.Test.YtbiadpkglcdihaaGreatWSF16
import Derived.Test.YtbiadpkglcdihaaGreatWSF24
import Derived.Test.YtbiadpkglcdihaaGreatWSF23
import Derived.Test.YtbiadpkglcdihaaGreatWSF25
import Derived.Test.YtbiadpkglcdihaaGreatWSF19
import Derived.Test.YtbiadpkglcdihaaGreatWSF12
import Derived.Test.YtbiadpkglcdihaaGreatWSF14
import Derived.Deep.Cut
import Derived.Test.YtbiadpkglcdihaaGreatWSF1
import Derived.Test.YtbiadpkglcdihaaGreatWSF20
/- SaveBends: what the disk holds (plain). -/
namespace Go.Proofs.YtbiadpkglcdihaaGreat
open Go.RowKit

theorem OneC.bend {room : Int} {n : Nat} {b : List UInt8} {d : Dsk} (h : OneC room n b d) (at_ : Int) (mask : UInt32) : OneC room n (bendB b at_ mask) (bendDsk d (chkB n) at_ mask) ∧ (bendDsk d (chkB n) at_ mask).ops = d.ops := by
  obtain ⟨k, h1, h2, h3, h4⟩ := h.names
  have hg : nget d.names (chkB n) = some k := by rw [h1]; exact nget_one _ _
  unfold bendDsk
  rw [hg]
  simp only
  refine ⟨⟨⟨h.q.off, h.q.down, h.q.fail⟩, h.room, ⟨k, h1, h2, by unfold setF; simpa using h3, ?_⟩, h.ch⟩, rfl⟩
  unfold setF
  simp only
  rw [h4]
  simp [List.getD, h3, bendB_length]
/-- A disk of one name, moved to another. -/
structure MovC (room : Int) (m n : Nat) (b : List UInt8) (d : Dsk) : Prop where
  q : Quiet d
  room : d.room = room
  names : ∃ k, d.names = [(chkB m, k)] ∧ k < d.files.length ∧ d.files.getD k ([], 0) = (b, b.length)
theorem MovC.bytes {room : Int} {m n : Nat} {b : List UInt8} {d : Dsk} (h : MovC room m n b d) : bytesD d (chkB m) = b ∧ syncE d (chkB m) = 0 := by
  obtain ⟨k, h1, -, h4⟩ := h.names
  have hg : nget d.names (chkB m) = some k := by rw [h1]; exact nget_one _ _
  refine ⟨?_, ?_⟩
  · unfold bytesD; rw [hg]; simp only; rw [h4]
  · unfold syncE; rw [h.q.e, hg]; simp
theorem MovC.op {room : Int} {m n : Nat} {b : List UInt8} {d : Dsk} (h : MovC room m n b d) : MovC room m n b (opD d) := by
  rw [h.q.opD]
  exact ⟨⟨h.q.off, h.q.down, h.q.fail⟩, h.room, h.names⟩
theorem OneC.rename {room : Int} {n m : Nat} {b : List UInt8} {d : Dsk} (h : OneC room n b d) (hne : chkB n ≠ chkB m) : renameE d (chkB n) (chkB m) = 0 ∧ MovC room m n b (renameD d (chkB n) (chkB m)) ∧ (renameD d (chkB n) (chkB m)).ops = d.ops + 1 := by
  obtain ⟨k, h1, h2, h3, h4⟩ := h.names
  have hg : nget d.names (chkB n) = some k := by rw [h1]; exact nget_one _ _
  have he : renameE d (chkB n) (chkB m) = 0 := by
    unfold renameE
    rw [h.q.e, hg]
    simp [nameD_chk]
  refine ⟨he, ?_, ?_⟩ <;> unfold renameD <;> rw [if_neg (by rw [he]; simp), hg] <;> simp only [hne, if_false, h.q.opD]
  · unfold changeD
    simp only
    refine ⟨⟨h.q.off, h.q.down, h.q.fail⟩, h.room, ⟨k, ?_, h3, h4⟩⟩
    rw [turn_mv _ _ _ _ (chk_nil _) (chk_nil _), h1]
    unfold nput ndel
    simp
  · unfold changeD; rfl
/-- A checkpoint beside one of another number. -/
structure HasC (room : Int) (n : Nat) (b : List UInt8) (sz : Nat) (d : Dsk) : Prop where
  q : Quiet d
  room : d.room = room
  has : ∃ i, nget d.names (chkB n) = some i ∧ i < d.files.length ∧ d.files.getD i ([], 0) = (b, b.length)
  size : sizeD d = sz
theorem MovC.put {room : Int} {m n0 n : Nat} {b c : List UInt8} {d : Dsk} (h : MovC room m n0 c d) (hne : chkB m ≠ chkB n) (hr : (c.length : Int) + b.length ≤ room) : (putD d n b).1 = 0 ∧ HasC room n b (c.length + b.length) (putD d n b).2 ∧ (putD d n b).2.ops ≤ d.ops + 7 := by
  obtain ⟨i, h1, h3, h4⟩ := h.names
  have hdel : ndel d.names tmpB = d.names := by rw [h1]; exact ndel_one_other _ _
  have hsz : sizeD d = c.length := by
    unfold sizeD
    rw [h1]
    simp only [List.map_cons, List.map_nil, List.sum_cons, List.sum_nil, h4]
    omega
  obtain ⟨k, hk, he⟩ := put_ok d n b h.q (fun p hp => by rw [h1] at hp; obtain rfl := List.mem_singleton.1 hp; exact h3) (by rw [hdel, hsz, h.room]; exact hr) (by rw [h1]; simp)
  rw [he]
  refine ⟨rfl, ⟨⟨h.q.off, h.q.down, h.q.fail⟩, h.room, ⟨d.files.length, nget_put_same _ _ _, ?_, ?_⟩, ?_⟩, ?_⟩
  · unfold putOK; simp
  · unfold putOK; simp only; exact getD_last _ _
  · unfold putOK sizeD
    simp only
    rw [hdel, h1]
    have e : nput [(chkB m, i)] (chkB n) d.files.length = [(chkB m, i), (chkB n, d.files.length)] := by unfold nput ndel; simp [hne]
    rw [e]
    simp only [List.map_cons, List.map_nil, List.sum_cons, List.sum_nil, getD_app h3, getD_last, h4]
    omega
  · unfold putOK; simp only; omega
theorem HasC.more {room : Int} {n sz : Nat} {b r : List UInt8} {d : Dsk} (h : HasC room n b sz d) (hr : (sz : Int) + r.length ≤ room) : appendE d (chkB n) r = 0 ∧ Quiet (appendD d (chkB n) r) ∧ bytesD (appendD d (chkB n) r) (chkB n) = b ++ r ∧ syncE (appendD d (chkB n) r) (chkB n) = 0 ∧ (appendD d (chkB n) r).ops = d.ops + 1 := by
  obtain ⟨i, h1, h3, h4⟩ := h.has
  have he : appendE d (chkB n) r = 0 := by
    unfold appendE
    rw [h.q.e, h1, h.size, h.room]
    simp
    omega
  have hd : appendD d (chkB n) r = setF (opD d) i (b ++ r, b.length) := by
    unfold appendD
    rw [if_neg (by rw [he]; simp), h1]
    simp only
    rw [h4]
  rw [hd]
  have hq : Quiet (setF (opD d) i (b ++ r, b.length)) := ⟨h.q.op.off, h.q.op.down, h.q.op.fail⟩
  have hg : nget (setF (opD d) i (b ++ r, b.length)).names (chkB n) = some i := h1
  refine ⟨he, hq, ?_, ?_, rfl⟩
  · unfold bytesD
    rw [hg]
    unfold setF opD
    simp [List.getD, h3]
  · unfold syncE
    rw [hq.e, hg]
    simp
/-- A frame of another number, a frame that was turned, a frame with more behind it. -/
theorem oneB_bent {no : Int} {p : List UInt8} {K : Nat} {mask : UInt32} (h0 : 0 ≤ no) (h1 : no ≤ 9223372036854775807) (hl : p.length < 4294967296) (hne : bendB (frameB no p) K mask ≠ frameB no p) : oneB (bendB (frameB no p) K mask) 16777216 = none := by
  have h := nextB_bend no p [] 16777216 K mask h0 h1 hl hne
  rw [List.append_nil] at h
  unfold oneB
  rw [h]
end Go.Proofs.YtbiadpkglcdihaaGreat

/- SaveBends: for every input the law returns true. -/
namespace Go.Proofs.YtbiadpkglcdihaaGreat
open Go.RowKit

end Go.Proofs.YtbiadpkglcdihaaGreat

/- A disk of several checkpoints, as plain data; save.Clean's plain form. -/
namespace Go.Proofs.YtbiadpkglcdihaaGreat
open Go.RowKit

theorem chk_back : ∀ n, n < 128 → ((chkB n).getLast?, (chkB n).dropLast.getLast?) = (some (nibB n 15), some (nibB n 14)) := fun n _ => by simp [chkB, hexS, List.range_succ]
theorem nib_inj : ∀ n : Fin 128, ∀ m : Fin 128, nibB n.1 15 = nibB m.1 15 → nibB n.1 14 = nibB m.1 14 → n = m := by decide +kernel
theorem chk_inj (n : Nat) (hn : n < 128) (m : Nat) (hm : m < 128) (h : chkB n = chkB m) : n = m := by
  have h1 := chk_back n hn
  rw [h, chk_back m hm] at h1
  injection h1 with h2 h3
  injection h2 with h2
  injection h3 with h3
  exact congrArg Fin.val (nib_inj ⟨n, hn⟩ ⟨m, hm⟩ h2.symm h3.symm)
/-- The disk's names are the checkpoints of L (number, bytes, file), each sure. -/
structure CkN (room : Int) (L : List (Nat × List UInt8 × Nat)) (d : Dsk) : Prop where
  q : Quiet d
  room : d.room = room
  names : d.names = L.map fun x => (chkB x.1, x.2.2)
  file : ∀ x ∈ L, x.2.2 < d.files.length ∧ d.files.getD x.2.2 ([], 0) = (x.2.1, x.2.1.length)
  nd : (L.map (·.1)).Nodup
  small : ∀ x ∈ L, x.1 < 128
structure Cks (room : Int) (L : List (Nat × List UInt8 × Nat)) (d : Dsk) : Prop where
  n : CkN room L d
  sure : d.sure = d.names
  ch : d.changes = []
variable {room : Int} {L : List (Nat × List UInt8 × Nat)} {d : Dsk} {n : Nat} {b : List UInt8}

theorem Cks.new (room : Int) (h : 0 ≤ room) : Cks room [] (newD room) := ⟨⟨⟨rfl, rfl, rfl⟩, by unfold newD; simp only; omega, rfl, by simp, by simp, by simp⟩, rfl, rfl⟩
theorem CkN.op (h : CkN room L d) : CkN room L (opD d) := by
  rw [h.q.opD]
  exact ⟨⟨h.q.off, h.q.down, h.q.fail⟩, h.room, h.names, h.file, h.nd, h.small⟩
theorem Cks.op (h : Cks room L d) : Cks room L (opD d) := ⟨h.n.op, h.sure, h.ch⟩
theorem CkN.nodup (h : CkN room L d) : (d.names.map (·.1)).Nodup := by
  rw [h.names, List.map_map]
  have h1 := h.nd
  unfold List.Nodup at h1 ⊢
  rw [List.pairwise_map] at h1 ⊢
  exact h1.imp_of_mem (fun {a b} ha hb hne e => hne (chk_inj _ (h.small a ha) _ (h.small b hb) e))
theorem CkN.get (h : CkN room L d) {x : Nat × List UInt8 × Nat} (hx : x ∈ L) : nget d.names (chkB x.1) = some x.2.2 :=
  mem_nget h.nodup (by rw [h.names]; exact List.mem_map.2 ⟨x, hx, rfl⟩)
theorem CkN.no (h : CkN room L d) (hn : n < 128) (hx : n ∉ L.map (·.1)) : nget d.names (chkB n) = none := by
  rcases hg : nget d.names (chkB n) with _ | i
  · rfl
  · have := nget_some_mem hg
    rw [h.names] at this
    obtain ⟨y, hy, e⟩ := List.mem_map.1 this
    have e1 : chkB y.1 = chkB n := congrArg Prod.fst e
    exact absurd (List.mem_map.2 ⟨y, hy, chk_inj _ (h.small y hy) _ hn e1⟩) hx
theorem CkN.tmp (h : CkN room L d) : nget d.names tmpB = none := by
  rcases hg : nget d.names tmpB with _ | i
  · rfl
  · have := nget_some_mem hg
    rw [h.names] at this
    obtain ⟨y, hy, e⟩ := List.mem_map.1 this
    exact absurd (congrArg Prod.fst e) (chk_ne _)
theorem CkN.bytes (h : CkN room L d) {x : Nat × List UInt8 × Nat} (hx : x ∈ L) : bytesD d (chkB x.1) = x.2.1 ∧ syncE d (chkB x.1) = 0 := by
  have hg := h.get hx
  refine ⟨?_, ?_⟩
  · unfold bytesD; rw [hg]; simp only; rw [(h.file x hx).2]
  · unfold syncE; rw [h.q.e, hg]; simp
theorem CkN.none (h : CkN room L d) (hn : n < 128) (hx : n ∉ L.map (·.1)) : syncE d (chkB n) = 4 ∧ removeE d (chkB n) = 4 := by
  have hg := h.no hn hx
  refine ⟨?_, ?_⟩
  · unfold syncE; rw [h.q.e, hg]; simp
  · unfold removeE; rw [h.q.e, hg]; simp
theorem CkN.size (h : CkN room L d) : sizeD d = (L.map fun x => x.2.1.length).sum := by
  unfold sizeD
  rw [h.names, List.map_map]
  exact sum_map_congr L (fun x hx => by simp only [Function.comp]; rw [(h.file x hx).2])
theorem CkN.lt (h : CkN room L d) : ∀ p ∈ d.names, p.2 < d.files.length := by
  intro p hp
  rw [h.names] at hp
  obtain ⟨x, hx, rfl⟩ := List.mem_map.1 hp
  exact (h.file x hx).1
theorem CkN.ndel (h : CkN room L d) (hn : n < 128) : ndel d.names (chkB n) = (L.filter fun x => !(x.1 == n)).map fun x => (chkB x.1, x.2.2) := by
  rw [h.names]
  unfold Go.Proofs.YtbiadpkglcdihaaGreat.ndel
  rw [List.filter_map]
  congr 1
  apply List.filter_congr
  intro x hx
  simp only [Function.comp]
  congr 1
  rw [Bool.eq_iff_iff, beq_iff_eq, beq_iff_eq]
  exact ⟨fun e => chk_inj _ (h.small x hx) _ hn e, fun e => by rw [e]⟩
theorem nodup_filter_fst (p : Nat × List UInt8 × Nat → Bool) (h : (L.map (·.1)).Nodup) : ((L.filter p).map (·.1)).Nodup := by
  unfold List.Nodup at h ⊢
  rw [List.pairwise_map] at h ⊢
  exact h.filter _
/-- One more checkpoint is put. -/
theorem Cks.putI (h : Cks room L d) (n : Nat) (b : List UInt8) (hn : n < 128) (hr : (((L.map fun x => x.2.1.length).sum : Nat) : Int) + b.length ≤ room) (hl : L.length < 64) :
    (putD d n b).1 = 0 ∧ Cks room ((L.filter fun x => !(x.1 == n)) ++ [(n, b, d.files.length)]) (putD d n b).2 ∧ (putD d n b).2.ops ≤ d.ops + 7 := by
  have hdel : Go.Proofs.YtbiadpkglcdihaaGreat.ndel d.names tmpB = d.names := ndel_none' h.n.tmp
  obtain ⟨k, hk, he⟩ := put_ok d n b h.n.q h.n.lt (by rw [hdel]; have e : sizeD { d with names := d.names } = sizeD d := rfl; rw [e, h.n.room, h.n.size]; exact hr) (by rw [h.n.names, List.length_map]; exact hl)
  rw [he]
  refine ⟨rfl, ⟨⟨⟨h.n.q.off, h.n.q.down, h.n.q.fail⟩, h.n.room, ?_, ?_, ?_, ?_⟩, rfl, rfl⟩, ?_⟩
  · unfold putOK
    simp only
    rw [hdel]
    unfold nput
    rw [h.n.ndel hn, List.map_append]
    rfl
  · unfold putOK
    simp only
    intro x hx
    rcases List.mem_append.1 hx with hx | hx
    · have := h.n.file x (List.mem_filter.1 hx).1
      exact ⟨by rw [List.length_append]; omega, by rw [getD_app this.1, this.2]⟩
    · obtain rfl := List.mem_singleton.1 hx
      exact ⟨by simp, getD_last _ _⟩
  · rw [List.map_append, List.nodup_append]
    refine ⟨nodup_filter_fst _ h.n.nd, by simp, ?_⟩
    intro a ha c hc e
    obtain ⟨x, hx, rfl⟩ := List.mem_map.1 ha
    have h2 := (List.mem_filter.1 hx).2
    simp at hc
    subst hc
    simp at h2
    exact h2 e
  · intro x hx
    rcases List.mem_append.1 hx with hx | hx
    · exact h.n.small x (List.mem_filter.1 hx).1
    · obtain rfl := List.mem_singleton.1 hx
      exact hn
  · unfold putOK; simp only; omega
theorem Cks.put (h : Cks room L d) (n : Nat) (b : List UInt8) (hn : n < 128) (hr : (((L.map fun x => x.2.1.length).sum : Nat) : Int) + b.length ≤ room) (hl : L.length < 64) :
    (putD d n b).1 = 0 ∧ (∃ i, Cks room ((L.filter fun x => !(x.1 == n)) ++ [(n, b, i)]) (putD d n b).2) ∧ (putD d n b).2.ops ≤ d.ops + 7 :=
  let ⟨h1, h2, h3⟩ := h.putI n b hn hr hl
  ⟨h1, ⟨_, h2⟩, h3⟩
/-- Behind a crash all are there. -/
theorem Cks.crash (h : Cks room L d) (m : Int) (kept : List Int) : Cks room (L.map fun x => (x.1, x.2.1, atN d.names x.2.2)) (crashD d m kept) := by
  have hfold : (d.changes.take (min (max m 0) d.changes.length).toNat).foldl turnD d.sure = d.names := by rw [h.ch, h.sure]; simp
  unfold crashD
  rw [hfold]
  refine ⟨⟨⟨rfl, rfl, rfl⟩, h.n.room, ?_, ?_, ?_, ?_⟩, rfl, rfl⟩
  · show movedN d.names = _
    unfold movedN
    conv => lhs; rw [h.n.names]
    rw [List.map_map, List.map_map]
    conv => rhs; rw [h.n.names]
    rw [← h.n.names]
    rfl
  · intro y hy
    obtain ⟨x, hx, rfl⟩ := List.mem_map.1 hy
    have hf := h.n.file x hx
    have hnm : namedN d.names x.2.2 = true := named_of_mem (p := (chkB x.1, x.2.2)) (by rw [h.n.names]; exact List.mem_map.2 ⟨x, hx, rfl⟩)
    refine ⟨?_, ?_⟩
    · show atN d.names x.2.2 < (keepF d.names (cutF d.files kept) (cutF d.files kept).length).length
      rw [keepF_length, cutF_length]
      exact atN_lt hf.1 hnm
    · show (keepF d.names (cutF d.files kept) (cutF d.files kept).length).getD (atN d.names x.2.2) ([], 0) = _
      rw [keepF_at _ _ _ _ (by rw [cutF_length]; exact hf.1) hnm, cutF_sure _ _ _ (by rw [hf.2]), hf.2]
  · rw [List.map_map]; exact h.n.nd
  · intro y hy
    obtain ⟨x, hx, rfl⟩ := List.mem_map.1 hy
    exact h.n.small x hx

end Go.Proofs.YtbiadpkglcdihaaGreat

/- save.Clean. -/
namespace Go.Proofs.YtbiadpkglcdihaaGreat
open Go.RowKit

variable {w w' : World} {fp : List Nat} {b : Nat} {d : Dsk}

end Go.Proofs.YtbiadpkglcdihaaGreat

/- A disk that the call made, beside a map and a list of numbers that it made. -/
namespace Go.Proofs.YtbiadpkglcdihaaGreat
open Go.RowKit

def DML (w wr : World) (b : Nat) (d : Dsk) (mb : Nat) (M : World → Prop) (v : Value) (xs : List Int) : Prop :=
  (∀ S u u', Chg S u u' → mb ∉ S → M u → M u') ∧ ∃ fp, Dk wr fp b d ∧ Chg [] w wr ∧ (∀ k ∈ fp, w.heap.size ≤ k) ∧ mb ∉ fp ∧ w.heap.size ≤ mb ∧ mb < wr.heap.size ∧ M wr ∧ OwI wr w.heap.size v xs ∧ ∀ k, v.ownBlock = some k → k ∉ fp ∧ k ≠ mb
variable {w wr wx : World} {b mb : Nat} {d : Dsk} {M : World → Prop} {v : Value} {xs : List Int}

theorem DML.c (h : DML w wr b d mb M v xs) : Chg [] w wr := let ⟨_, _, _, h, _⟩ := h; h
theorem DML.m (h : DML w wr b d mb M v xs) : M wr := let ⟨_, _, _, _, _, _, _, _, h, _⟩ := h; h
theorem DML.l (h : DML w wr b d mb M v xs) : OwI wr w.heap.size v xs := let ⟨_, _, _, _, _, _, _, _, _, h, _⟩ := h; h
theorem DML.k (h : DML w wr b d mb M v xs) (hc : Chg [] wr wx) : DML w wx b d mb M v xs := by
  obtain ⟨h0, fp, h1, h2, h3, h4, h5, h6, h7, h8, h9⟩ := h
  exact ⟨h0, fp, h1.k hc, h2.k hc, h3, h4, h5, Nat.lt_of_lt_of_le h6 hc.size, h0 [] _ _ hc (by simp) h7, h8.k hc, h9⟩
/-- The map was made last; there is no list yet. -/
theorem DML.new {w4 : World} {fp : List Nat} (hD : Dk w4 fp b d) (hc : Chg [] w w4) (hb : ∀ k ∈ fp, w.heap.size ≤ k) (o : Obj) (M : World → Prop) (hM0 : ∀ S u u', Chg S u u' → w4.heap.size ∉ S → M u → M u') (hM : M (w4.alloc o)) : DML w (w4.alloc o) b d w4.heap.size M (.slice none 0 0) [] := by
  have hk := (Chg.refl [] w4).alloc o
  exact ⟨hM0, fp, hD.k hk, hc.k hk, hb, fun h => by have := hD.fpl _ h; omega, hc.size, by simp, hM, OwI.nil _ _, by simp [Value.ownBlock]⟩
/-- The map was changed. -/
theorem DML.upd (h : DML w wr b d mb M v xs) {M' : World → Prop} (hg : wr.grownBy wx (some mb)) (hM0 : ∀ S u u', Chg S u u' → mb ∉ S → M' u → M' u') (hM : M' wx) : DML w wx b d mb M' v xs := by
  obtain ⟨h0, fp, h1, h2, h3, h4, h5, h6, h7, h8, h9⟩ := h
  have hc := Chg.ofGrown hg
  refine ⟨hM0, fp, h1.chg hc (fun k hk => by simp only [Option.toList_some, List.mem_singleton]; rintro rfl; exact h4 hk), h2.trans hc (by simp only [Option.toList_some, List.mem_singleton]; rintro x rfl hx; omega), h3, h4, h5, Nat.lt_of_lt_of_le h6 hc.size, hM, World.ownsRow.kept h8 hg ?_, h9⟩
  rcases hv : v.ownBlock with _ | k
  · exact .inl rfl
  · exact .inr (fun e => (h9 k hv).2 (by injection e))
/-- A number was appended. -/
theorem DML.app (h : DML w wr b d mb M v xs) {v' : Value} {ys : List Int} (hg : wr.grownBy wx v.ownBlock) (ho : OwI wx w.heap.size v' ys) (hm : Moved wr v v') : DML w wx b d mb M v' ys := by
  obtain ⟨h0, fp, h1, h2, h3, h4, h5, h6, h7, h8, h9⟩ := h
  have hc := Chg.ofGrown hg
  have hS : ∀ k, k ∈ v.ownBlock.toList → v.ownBlock = some k := fun k hk => by simpa using hk
  refine ⟨h0, fp, h1.chg hc (fun k hk hm => (h9 k (hS k hm)).1 hk), h2.trans hc (fun x hx hl => by have := (World.ownsRow.lt h8 x (hS x hx)).1; omega), h3, h4, h5, Nat.lt_of_lt_of_le h6 hc.size, h0 _ _ _ hc (fun hm => (h9 mb (hS mb hm)).2 rfl) h7, ho, fun k hk => ?_⟩
  rcases hm with hm | hm
  · exact h9 k (by rw [← hm]; exact hk)
  · have := hm k hk
    exact ⟨fun hf => by have := h1.fpl k hf; omega, fun e => by omega⟩
/-- A step of the disk, told for its blocks. -/
theorem DML.step {wq : World} (h : DML w wq b d mb M v xs) (hc : Chg [] wq wr) {f : FuncId} {args : Array Value} {R : Ending → Prop} {d' : Dsk}
    (ho : ∀ fp, Dk wr fp b d → (∀ k ∈ fp, k < wq.heap.size) → (∀ k, v.ownBlock = some k → k ∉ fp) → Calls Tryz.prog f args wr fun e w' => R e ∧ DkOut wr fp b d' w') : Calls Tryz.prog f args wr fun e w' => R e ∧ DML w w' b d' mb M v xs := by
  have hlt : ∀ k, v.ownBlock = some k → k < wr.heap.size := fun k hk => (World.ownsRow.lt (h.k hc).l k hk).2
  obtain ⟨h0, fp, h1, h2, h3, h4, h5, h6, h7, h8, h9⟩ := h
  refine (ho fp (h1.k hc) h1.fpl (fun k hk => (h9 k hk).1)).mono fun e w' ⟨he, fp', g1, g2, g3⟩ => ⟨he, ?_⟩
  have h8' := OwI.k h8 hc
  refine ⟨h0, fp', g1, (h2.k hc).trans g2 (fun x hx hl => by have := h3 x hx; omega), fun k hk => ?_, fun hk => ?_, h5, by have := hc.size; have := g2.size; omega, h0 _ _ _ g2 h4 (h0 _ _ _ hc (by simp) h7), ownsRow_chg h8' g2 (fun k hk => (h9 k hk).1), fun k hk => ⟨fun hf => ?_, (h9 k hk).2⟩⟩
  · rcases g3 k hk with h | h
    · exact h3 k h
    · have := h2.size; have := hc.size; omega
  · rcases g3 mb hk with h | h
    · exact h4 h
    · have := hc.size; omega
  · rcases g3 k hf with h | h
    · exact (h9 k hk).1 h
    · have := hlt k hk; omega
/-- A checkpoint of a world that was made behind the disk. -/
theorem DML.put {wq : World} (h : DML w wq b d mb M v xs) (hc : Chg [] wq wr) (bv jv kv : Value) (L : List BV) (X : Wld) (hx : WlP wr bv jv kv L X) (hap : ∀ S : List Nat, (∀ x ∈ S, x < wq.heap.size) → Apart S bv jv kv L X) (hf : FitW X) (hc0 : X.contacts = []) (n : Nat) (hn : X.tick = (n : Int)) (hn2 : n ≤ 4611686018427387904)
    (hops : d.ops < 1073741000) (hroom : d.room ≤ 4294967296) :
    Calls Tryz.prog 12 #[.pointer (some ⟨b, 0, none⟩), vW X bv jv kv] wr fun e w' => e = .returned (.int .i64 (putD d n (frameB X.tick (leW X))).1) ∧ DML w w' b (putD d n (frameB X.tick (leW X))).2 mb M v xs := by
  exact h.step hc (R := fun e => e = .returned (.int .i64 (putD d n (frameB X.tick (leW X))).1)) fun fp hk hl _ => Put_any hk bv jv kv L X hx (hap fp hl) hf hc0 n hn hn2 hops hroom
theorem wpAppIM {w : World} {ops : Array Oper} {rest : List Oper} {o : Oper} {a : Act} {Q : Exit → Act → World → Prop} (hgd : Region.wanted o (yielded ops a.tmps) = true) (s x : Operand)
    (ho : o.op = .call { callee := .builtin .append, args := #[s, x], argTypes := #[59, 59] }) (base : Nat) (v : Value) (l : List Int) (hs : a.eval s = v) (hown : OwI w base v l)
    (u : Value) (m : List Int) (hx : a.eval x = u) (hu : Fs w u m) (hlen : l.length + m.length ≤ 10000000000000) (hbase : base ≤ w.heap.size)
    (h : ∀ ao c w', OwI w' base (.slice ao (l.length + m.length) c) (l ++ m) → w.grownBy w' v.ownBlock → Moved w v (.slice ao (l.length + m.length) c) → wpList Tryz.prog ops Q rest (a.put o.dst (.slice ao (l.length + m.length) c)) w') : wpList Tryz.prog ops Q (o :: rest) a w :=
  wpApp rowInt hgd s x ho base v _ _ hs hown u _ _ hx hu (by intro u hu; obtain ⟨x, _, rfl⟩ := List.mem_map.1 hu; rfl) (by omega) (by omega) hbase fun ao c w' h1 h2 h3 _ =>
    h ao c w' (by unfold OwI; rw [List.length_append, List.map_append]; exact h1) h2 h3
theorem DsS.nil (w : World) : DsS w (.slice none 0 0) [] := ⟨Rd.ofOwn (e := 140) (base := 0) (World.ownsRow_nil _ _ _ _), by simp⟩
theorem OwI.lit (w : World) (base : Nat) (l : List Int) (cs : Array Value) (hcs : cs = (l.map (Value.int .i64)).toArray) (hb : base ≤ w.heap.size) (hl : l.length ≤ 140737488355328) :
    OwI (w.alloc (.cells cs 3)) base (.slice (some ⟨w.heap.size, 0, none⟩) l.length l.length) l := by
  subst hcs
  have := World.ownsRow_lit (base := base) (e := 3) (size := 1) w (l.map (Value.int .i64)).toArray l.length hb (by unfold maxLen; omega) (by simp)
  simpa [OwI] using this
/-- Ticks of small numbers, each once. -/
def addC (T : List Nat) (k : Nat) : List Nat := if k ∈ T then T else T ++ [k]
def tkC (t : UInt8) : Nat := (n8 t).toNat % 16
def allC (l : List UInt8) : List Nat := (l.map tkC).foldl addC []
theorem tkC_lt (t : UInt8) : tkC t < 16 := Nat.mod_lt _ (by decide)
theorem u8_and15 (t : UInt8) : bits .and .u8 (n8 t) 15 = ((tkC t : Nat) : Int) := by
  have h : ∀ z : Fin 256, bits .and .u8 (z.1 : Int) 15 = ((z.1 % 16 : Nat) : Int) := by decide +kernel
  have hl := n8_lo t
  have hh := n8_hi t
  have := h ⟨(n8 t).toNat, by omega⟩
  rw [Int.toNat_of_nonneg hl] at this
  exact this
theorem allC_snoc (l : List UInt8) (i : Nat) (h : i < l.length) : allC (l.take (i + 1)) = addC (allC (l.take i)) (tkC l[i]) := by
  unfold allC
  rw [List.take_succ_eq_append_getElem h, List.map_append, List.foldl_append]; rfl
theorem addC_len (T : List Nat) (k : Nat) : (addC T k).length ≤ T.length + 1 := by unfold addC; split <;> simp
end Go.Proofs.YtbiadpkglcdihaaGreat
