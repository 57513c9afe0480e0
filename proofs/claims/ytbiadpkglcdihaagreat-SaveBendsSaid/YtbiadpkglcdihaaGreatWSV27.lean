/- Words and walks that SV rests on: BendPlain. -/
import Derived.Test.YtbiadpkglcdihaaGreatWSV11
import Derived.Test.YtbiadpkglcdihaaGreatWSV26
import Derived.Test.YtbiadpkglcdihaaGreatWSV16
import Derived.Test.YtbiadpkglcdihaaGreatWSV24
/- SaveBends: what the disk holds (plain). -/
namespace Go.Proofs.YtbiadpkglcdihaaGreat
open Go.RowKit

theorem OneC.bend {room : Int} {n : Nat} {b : List UInt8} {d : Dsk} (h : OneC room n b d) (at_ : Int) (mask : UInt32) : OneC room n (bendB b at_ mask) (bendDsk d (chkB n) at_ mask) ∧ (bendDsk d (chkB n) at_ mask).ops = d.ops := by
  obtain ⟨k, h1, h2, h3, h4⟩ := h.names
  have hg : nget d.names (chkB n) = some k := by rw [h1]; exact nget_one _ _
  unfold bendDsk
  rw [hg]
  simp only
  refine ⟨⟨⟨h.q.off, h.q.down, h.q.fail⟩, h.room, ⟨k, h1, h2, by unfold setF; simpa using h3, ?_⟩, h.ch⟩, rfl⟩
  unfold setF
  simp only
  rw [h4]
  simp [List.getD, h3, bendB_length]
/-- A disk of one name, moved to another. -/
structure MovC (room : Int) (m n : Nat) (b : List UInt8) (d : Dsk) : Prop where
  q : Quiet d
  room : d.room = room
  names : ∃ k, d.names = [(chkB m, k)] ∧ k < d.files.length ∧ d.files.getD k ([], 0) = (b, b.length)
theorem MovC.bytes {room : Int} {m n : Nat} {b : List UInt8} {d : Dsk} (h : MovC room m n b d) : bytesD d (chkB m) = b ∧ syncE d (chkB m) = 0 := by
  obtain ⟨k, h1, -, h4⟩ := h.names
  have hg : nget d.names (chkB m) = some k := by rw [h1]; exact nget_one _ _
  refine ⟨?_, ?_⟩
  · unfold bytesD; rw [hg]; simp only; rw [h4]
  · unfold syncE; rw [h.q.e, hg]; simp
theorem MovC.op {room : Int} {m n : Nat} {b : List UInt8} {d : Dsk} (h : MovC room m n b d) : MovC room m n b (opD d) := by
  rw [h.q.opD]
  exact ⟨⟨h.q.off, h.q.down, h.q.fail⟩, h.room, h.names⟩
theorem OneC.rename {room : Int} {n m : Nat} {b : List UInt8} {d : Dsk} (h : OneC room n b d) (hne : chkB n ≠ chkB m) : renameE d (chkB n) (chkB m) = 0 ∧ MovC room m n b (renameD d (chkB n) (chkB m)) ∧ (renameD d (chkB n) (chkB m)).ops = d.ops + 1 := by
  obtain ⟨k, h1, h2, h3, h4⟩ := h.names
  have hg : nget d.names (chkB n) = some k := by rw [h1]; exact nget_one _ _
  have he : renameE d (chkB n) (chkB m) = 0 := by
    unfold renameE
    rw [h.q.e, hg]
    simp [nameD_chk]
  refine ⟨he, ?_, ?_⟩ <;> unfold renameD <;> rw [if_neg (by rw [he]; simp), hg] <;> simp only [hne, if_false, h.q.opD]
  · unfold changeD
    simp only
    refine ⟨⟨h.q.off, h.q.down, h.q.fail⟩, h.room, ⟨k, ?_, h3, h4⟩⟩
    rw [turn_mv _ _ _ _ (chk_nil _) (chk_nil _), h1]
    unfold nput ndel
    simp
  · unfold changeD; rfl
/-- A checkpoint beside one of another number. -/
structure HasC (room : Int) (n : Nat) (b : List UInt8) (sz : Nat) (d : Dsk) : Prop where
  q : Quiet d
  room : d.room = room
  has : ∃ i, nget d.names (chkB n) = some i ∧ i < d.files.length ∧ d.files.getD i ([], 0) = (b, b.length)
  size : sizeD d = sz
theorem MovC.put {room : Int} {m n0 n : Nat} {b c : List UInt8} {d : Dsk} (h : MovC room m n0 c d) (hne : chkB m ≠ chkB n) (hr : (c.length : Int) + b.length ≤ room) : (putD d n b).1 = 0 ∧ HasC room n b (c.length + b.length) (putD d n b).2 ∧ (putD d n b).2.ops ≤ d.ops + 7 := by
  obtain ⟨i, h1, h3, h4⟩ := h.names
  have hdel : ndel d.names tmpB = d.names := by rw [h1]; exact ndel_one_other _ _
  have hsz : sizeD d = c.length := by
    unfold sizeD
    rw [h1]
    simp only [List.map_cons, List.map_nil, List.sum_cons, List.sum_nil, h4]
    omega
  obtain ⟨k, hk, he⟩ := put_ok d n b h.q (fun p hp => by rw [h1] at hp; obtain rfl := List.mem_singleton.1 hp; exact h3) (by rw [hdel, hsz, h.room]; exact hr) (by rw [h1]; simp)
  rw [he]
  refine ⟨rfl, ⟨⟨h.q.off, h.q.down, h.q.fail⟩, h.room, ⟨d.files.length, nget_put_same _ _ _, ?_, ?_⟩, ?_⟩, ?_⟩
  · unfold putOK; simp
  · unfold putOK; simp only; exact getD_last _ _
  · unfold putOK sizeD
    simp only
    rw [hdel, h1]
    have e : nput [(chkB m, i)] (chkB n) d.files.length = [(chkB m, i), (chkB n, d.files.length)] := by unfold nput ndel; simp [hne]
    rw [e]
    simp only [List.map_cons, List.map_nil, List.sum_cons, List.sum_nil, getD_app h3, getD_last, h4]
    omega
  · unfold putOK; simp only; omega
theorem HasC.more {room : Int} {n sz : Nat} {b r : List UInt8} {d : Dsk} (h : HasC room n b sz d) (hr : (sz : Int) + r.length ≤ room) : appendE d (chkB n) r = 0 ∧ Quiet (appendD d (chkB n) r) ∧ bytesD (appendD d (chkB n) r) (chkB n) = b ++ r ∧ syncE (appendD d (chkB n) r) (chkB n) = 0 ∧ (appendD d (chkB n) r).ops = d.ops + 1 := by
  obtain ⟨i, h1, h3, h4⟩ := h.has
  have he : appendE d (chkB n) r = 0 := by
    unfold appendE
    rw [h.q.e, h1, h.size, h.room]
    simp
    omega
  have hd : appendD d (chkB n) r = setF (opD d) i (b ++ r, b.length) := by
    unfold appendD
    rw [if_neg (by rw [he]; simp), h1]
    simp only
    rw [h4]
  rw [hd]
  have hq : Quiet (setF (opD d) i (b ++ r, b.length)) := ⟨h.q.op.off, h.q.op.down, h.q.op.fail⟩
  have hg : nget (setF (opD d) i (b ++ r, b.length)).names (chkB n) = some i := h1
  refine ⟨he, hq, ?_, ?_, rfl⟩
  · unfold bytesD
    rw [hg]
    unfold setF opD
    simp [List.getD, h3]
  · unfold syncE
    rw [hq.e, hg]
    simp
/-- A frame of another number, a frame that was turned, a frame with more behind it. -/
theorem oneB_bent {no : Int} {p : List UInt8} {K : Nat} {mask : UInt32} (h0 : 0 ≤ no) (h1 : no ≤ 9223372036854775807) (hl : p.length < 4294967296) (hne : bendB (frameB no p) K mask ≠ frameB no p) : oneB (bendB (frameB no p) K mask) 16777216 = none := by
  have h := nextB_bend no p [] 16777216 K mask h0 h1 hl hne
  rw [List.append_nil] at h
  unfold oneB
  rw [h]
theorem oneB_more {no : Int} {p r : List UInt8} (h0 : 0 ≤ no) (h1 : no ≤ 9223372036854775807) (hl : p.length ≤ 16777216) (hr : 0 < r.length) : oneB (frameB no p ++ r) 16777216 = none := by
  have h := nextB_yes no p r 16777216 h0 h1 (by omega) (by omega)
  unfold oneB
  rw [h]
  simp only
  rw [if_neg (by rw [List.length_append, frameB_length]; omega)]
end Go.Proofs.YtbiadpkglcdihaaGreat
