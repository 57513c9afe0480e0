/- A disk with one segment, as plain data. -/
import Derived.Test.YtdmokfplkhmijaaJournalA
import Derived.Test.YtdmokfplkhmijaaDiskBend
import Derived.Test.YtdmokfplkhmijaaFrameAllsMath
namespace Go.Proofs.Ytdmokfplkhmijaa
open Go.RowKit

/-- The disk holds one file, s, that reads as L. -/
structure Jd (room : Int) (s : List UInt8) (L : List UInt8) (d : Dsk) : Prop where
  off : d.off = false
  down : d.down = -1
  fail : d.fail = -1
  room : d.room = room
  names : d.names = [(s, 0)]
  files : ∃ n, d.files = [(L, n)]

theorem opE_of {d : Dsk} (h1 : d.off = false) (h2 : d.down = -1) (h3 : d.fail = -1) : opE d = 0 := by
  unfold opE; rw [h1, h2, h3]; simp
theorem Jd.opE {room : Int} {s L : List UInt8} {d : Dsk} (h : Jd room s L d) : opE d = 0 := opE_of h.off h.down h.fail
theorem Jd.op {room : Int} {s L : List UInt8} {d : Dsk} (h : Jd room s L d) : Jd room s L (opD d) :=
  ⟨by simp [opD, h.off, h.down], h.down, h.fail, h.room, h.names, h.files⟩
theorem Jd.get {room : Int} {s L : List UInt8} {d : Dsk} (h : Jd room s L d) : nget d.names s = some 0 := by rw [h.names]; unfold nget; simp
theorem Jd.bytes {room : Int} {s L : List UInt8} {d : Dsk} (h : Jd room s L d) : bytesD d s = L := by
  unfold bytesD; rw [h.get]
  obtain ⟨n, hn⟩ := h.files
  rw [hn]; rfl
theorem Jd.size {room : Int} {s L : List UInt8} {d : Dsk} (h : Jd room s L d) : sizeD d = L.length := by
  unfold sizeD
  obtain ⟨n, hn⟩ := h.files
  rw [h.names, hn]; simp
theorem Jd.syncE {room : Int} {s L : List UInt8} {d : Dsk} (h : Jd room s L d) : syncE d s = 0 := by
  unfold Go.Proofs.Ytdmokfplkhmijaa.syncE; rw [h.opE, h.get]; simp
theorem Jd.sync {room : Int} {s L : List UInt8} {d : Dsk} (h : Jd room s L d) : Jd room s L (syncD d s) := by
  unfold syncD
  rw [h.syncE, h.get]
  obtain ⟨n, hn⟩ := h.files
  have ho := h.op
  refine ⟨ho.off, ho.down, ho.fail, ho.room, ho.names, ⟨L.length, ?_⟩⟩
  simp only [ne_eq, not_true_eq_false, if_false, setF, opD, hn]
  simp
theorem Jd.appendE {room : Int} {s L : List UInt8} {d : Dsk} (h : Jd room s L d) (l : List UInt8) (hr : (L.length : Int) + l.length ≤ room) : appendE d s l = 0 := by
  unfold Go.Proofs.Ytdmokfplkhmijaa.appendE
  rw [h.opE, h.get, h.size, h.room]
  simp
  omega
theorem Jd.append {room : Int} {s L : List UInt8} {d : Dsk} (h : Jd room s L d) (l : List UInt8) (hr : (L.length : Int) + l.length ≤ room) : Jd room s (L ++ l) (appendD d s l) := by
  unfold appendD
  rw [h.appendE l hr, h.get]
  obtain ⟨n, hn⟩ := h.files
  have ho := h.op
  refine ⟨ho.off, ho.down, ho.fail, ho.room, ho.names, ⟨n, ?_⟩⟩
  simp only [ne_eq, not_true_eq_false, if_false, setF, opD, hn]
  simp
theorem Jd.writeE {room : Int} {s L : List UInt8} {d : Dsk} (h : Jd room s L d) (l : List UInt8) (hr : (L.length : Int) + l.length ≤ room) : writeE d s l = 0 := by
  unfold Go.Proofs.Ytdmokfplkhmijaa.writeE
  rw [if_pos (h.appendE l hr), (h.append l hr).syncE]
theorem Jd.write {room : Int} {s L : List UInt8} {d : Dsk} (h : Jd room s L d) (l : List UInt8) (hr : (L.length : Int) + l.length ≤ room) : Jd room s (L ++ l) (writeD d s l) := by
  unfold writeD
  rw [if_pos (h.appendE l hr)]
  exact (h.append l hr).sync
theorem ops_writeD (d : Dsk) (s l : List UInt8) : (writeD d s l).ops ≤ d.ops + 2 := by
  unfold writeD
  split
  · rw [ops_sync, ops_append]; omega
  · rw [ops_append]; omega
theorem Jd.bend {room : Int} {s L : List UInt8} {d : Dsk} (h : Jd room s L d) (at_ : Int) (mask : UInt32) : Jd room s (bendB L at_ mask) (bendDsk d s at_ mask) := by
  unfold bendDsk
  rw [h.get]
  obtain ⟨n, hn⟩ := h.files
  refine ⟨h.off, h.down, h.fail, h.room, h.names, ⟨n, ?_⟩⟩
  simp only [setF, hn]
  simp
theorem new_createE (room : Int) {s : List UInt8} (hs : nameD s = true) : createE (newD room) s = 0 := by
  unfold createE
  rw [opE_of rfl rfl rfl]
  simp [hs, newD, nget_nil]
theorem new_create (room : Int) {s : List UInt8} (hs : nameD s = true) (h0 : 0 ≤ room) : Jd room s [] (createD (newD room) s) := by
  have hne : s ≠ [] := by rintro rfl; simp [nameD] at hs
  unfold createD
  rw [new_createE room hs]
  refine ⟨by simp [changeD, opD, newD], rfl, rfl, ?_, ?_, ⟨0, ?_⟩⟩
  · simp [changeD, opD, newD]; omega
  · simp [changeD, opD, newD, turnD, nput, ndel, hne]
  · simp [changeD, opD, newD]
theorem new_beginE (room : Int) {s : List UInt8} (hs : nameD s = true) (h0 : 0 ≤ room) : beginE (newD room) s = 0 := by
  unfold beginE
  rw [if_pos (new_createE room hs)]
  exact (new_create room hs h0).opE
theorem new_begin (room : Int) {s : List UInt8} (hs : nameD s = true) (h0 : 0 ≤ room) : Jd room s [] (beginD (newD room) s) := by
  unfold beginD
  rw [if_pos (new_createE room hs)]
  have h := new_create room hs h0
  unfold dirSyncD
  rw [h.opE]
  have ho := h.op
  exact ⟨ho.off, ho.down, ho.fail, ho.room, ho.names, ho.files⟩
theorem ops_begin (room : Int) {s : List UInt8} (hs : nameD s = true) (h0 : 0 ≤ room) : (beginD (newD room) s).ops = 2 := by
  unfold beginD
  rw [if_pos (new_createE room hs)]
  unfold dirSyncD
  rw [(new_create room hs h0).opE]
  show (createD (newD room) s).ops + 1 = 2
  unfold createD
  rw [new_createE room hs]
  rfl
end Go.Proofs.Ytdmokfplkhmijaa
