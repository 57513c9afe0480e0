/- Disk.Size. -/
import Derived.Test.YtdmokfplkhmijaaDiskOp
import Derived.Test.YtdmokfplkhmijaaDiskA
import Derived.Deep.Cut
namespace Go.Proofs.Ytdmokfplkhmijaa
open Go.RowKit

def lenF (d : Dsk) (p : List UInt8 × Nat) : Nat := (d.files.getD p.2 ([], 0)).1.length
def sumF (d : Dsk) (es : Nm) : Nat := (es.map (lenF d)).sum
theorem sizeD_eq (d : Dsk) : sizeD d = sumF d d.names := rfl
theorem sumF_ndel (d : Dsk) : ∀ {es : Nm} {k : List UInt8} {i : Nat}, (es.map (·.1)).Nodup → (k, i) ∈ es → sumF d es = sumF d (ndel es k) + lenF d (k, i)
  | [], _, _, _, h => by cases h
  | p :: es, k, i, hn, h => by
    rw [List.map_cons, List.nodup_cons] at hn
    rcases List.mem_cons.1 h with rfl | h'
    · have h1 : ndel ((k, i) :: es) k = ndel es k := by unfold ndel; rw [List.filter_cons_of_neg (by simp)]
      have h2 : ndel es k = es := by
        unfold ndel
        rw [List.filter_eq_self]
        intro q hq
        have : q.1 ≠ k := fun e => hn.1 (e ▸ List.mem_map.2 ⟨q, hq, rfl⟩)
        simpa using this
      rw [h1, h2]
      simp [sumF]; omega
    · have hne : p.1 ≠ k := fun e => hn.1 (e ▸ List.mem_map.2 ⟨(k, i), h', rfl⟩)
      have h1 : ndel (p :: es) k = p :: ndel es k := by unfold ndel; rw [List.filter_cons_of_pos (by simpa using hne)]
      have ih := sumF_ndel d (es := es) hn.2 h'
      rw [h1]
      simp only [sumF, List.map_cons, List.sum_cons] at ih ⊢
      omega
theorem lenF_le {d : Dsk} (h : GoodD d) (p : List UInt8 × Nat) : lenF d p ≤ 4294967296 := by
  unfold lenF
  by_cases hp : p.2 < d.files.length
  · rw [List.getD_eq_getElem?_getD, List.getElem?_eq_getElem hp]
    exact (h.files _ (List.getElem_mem hp)).2.2
  · rw [List.getD_eq_getElem?_getD, List.getElem?_eq_none (by omega)]; simp
theorem sumF_le {d : Dsk} (h : GoodD d) (es : Nm) : sumF d es ≤ es.length * 4294967296 := by
  induction es with
  | nil => simp [sumF]
  | cons p es ih =>
    have := lenF_le h p
    simp only [sumF, List.map_cons, List.sum_cons, List.length_cons] at ih ⊢
    omega

variable {w : World} {fp : List Nat} {b : Nat} {fv cv : Value} {nb sb : Nat} {hs : List HF} {d : Dsk}

theorem DkP.slice {w : World} (h : DkP w fp b fv cv nb sb hs d) (hp : 0 < hs.length) : ∃ g c, fv = .slice (some ⟨g, 0, none⟩) hs.length c := by
  rcases h.files.2 with ⟨rfl, hz⟩ | ⟨g, cap, cur, rfl, _⟩
  · omega
  · exact ⟨g, cap, rfl⟩
theorem OwB.form {w : World} {base : Nat} {v : Value} {l : List UInt8} (h : OwB w base v l) : ∃ ao c, v = .slice ao l.length c := by
  rcases h.2 with ⟨rfl, hz⟩ | ⟨g, cap, cur, rfl, _⟩
  · exact ⟨none, 0, by rw [hz]⟩
  · exact ⟨_, cap, rfl⟩
theorem DkP.file {w : World} {g c : Nat} (h : DkP w fp b (.slice (some ⟨g, 0, none⟩) hs.length c) cv nb sb hs d) {i : Nat} (hi : i < hs.length) :
    ∃ ao c', hs[i].1 = .slice ao hs[i].2.1.length c' ∧ w.cell? ⟨g, i * 2, none⟩ = some (.slice ao hs[i].2.1.length c') ∧ w.cell? ⟨g, i * 2 + 1, none⟩ = some (.int .i64 (hs[i].2.2 : Int)) ∧ d.files[i]? = some hs[i].2 := by
  obtain ⟨ao, c', e⟩ := (h.bytes _ (List.getElem_mem hi)).form
  have hg := fileCells_get hs i hi
  refine ⟨ao, c', e, ?_, ?_, ?_⟩
  · rw [World.ownsRow.cellAt h.files _ (by omega), hg.1, e]
  · rw [World.ownsRow.cellAt h.files _ (by omega), hg.2]
  · rw [← h.same, List.getElem?_map, List.getElem?_eq_getElem hi]; rfl

set_option maxHeartbeats 1000000 in
theorem Size_any (h : DkP w fp b fv cv nb sb hs d) : Calls Try.prog 34 #[.pointer (some ⟨b, 0, none⟩)] w fun e w' => e = .returned (.int .i64 (sizeD d : Int)) ∧ Chg [] w w' := by
  have hg := h.good
  have q1 := h.box.cell 1
  have q2 := h.box.cell 2
  simp [boxCells] at q1 q2
  have hm := h.names
  have Q1 := hd q1
  have HM := hd hm
  have hbig : sumF d d.names ≤ 4611686018427387904 := by
    have h1 := sumF_le hg d.names
    have h2 := hg.nnames
    have h3 := hg.ops
    omega
  obtain ⟨T, hT⟩ : ∃ T, sizeD d = T := ⟨_, rfl⟩
  rw [hT]
  rw [sizeD_eq] at hT
  rw [hT] at hbig
  have HT := hd hT
  have H := hd h
  clear hT h q1
  go_enter Try.func34, Try.ntmps34
  go_wp2_with (at_range; refine wpRangeM rfl _ rfl nb _ rfl hm ?_; intro w1 hr1 hc1)
  have hlt1 := hr1.lt
  clear hm q2
  go_frame
  go_loopw [3, 5] (fun n _ wr => ∃ (t : Nat) (rest : Nm), n = .int .i64 (t : Int) ∧ t + sumF d rest = T ∧ MapRange wr nb w.heap.size d.names rest ∧ Chg [] w wr)
    (fun _ _ wr => wr.rangeLeft nb w.heap.size)
  case atStart => exact ⟨0, d.names, rfl, by rw [HT.out]; simp, hr1, hc1⟩
  case round =>
    obtain ⟨t, rest, rfl, ht, hr, hc⟩ := hrel
    have Ht := hd ht
    have h0 := H.out.k hc
    have q1 := hc.cellS Q1.out
    clear ht
    go_wp2_with (first
      | (at_next; refine wpNextM rfl _ rfl nb w.heap.size d.names rest rfl hr ?_ ?_)
      | fail)
    · rintro rfl
      have hTt : T = t := by have := Ht.out; simp [sumF] at this; omega
      subst hTt
      go_wp2_with fail
      go_ret
      exact ⟨rfl, hc⟩
    · intro k i w2 hmem hr2 hc2 hlt hen
      have hcw : Chg [] w w2 := hc.trans hc2 (by simp)
      have hes := hr.sub _ hmem
      have hi : i < hs.length := by rw [H.out.len]; exact H.out.good.named _ hes
      have hi' : (i : Int) < (hs.length : Int) := by omega
      obtain ⟨g, c, rfl⟩ := H.out.slice (by omega)
      obtain ⟨ao, c', -, q3, -, q5⟩ := (H.out.k hcw).file hi
      have q1 := hcw.cellS Q1.out
      have hl : lenF d (k, i) = hs[i].2.1.length := by
        unfold lenF; rw [List.getD_eq_getElem?_getD]; simp only; rw [q5]; rfl
      have hsum := sumF_ndel d hr.nodup hmem
      rw [hl] at hsum
      generalize hs[i].2.1.length = n at *
      have htn : t + n + sumF d (ndel rest k) = T := by have := Ht.out; omega
      have HTN := hd htn
      have hov : ¬ 9223372036854775807 < (t : Int) + (n : Int) := by omega
      clear q5 hl hsum htn h0 Ht
      go_wp2_with fail
      go_roundw
      case rel => exact ⟨t + n, ndel rest k, by go_num, HTN.out, hr2, hcw⟩
      case measure => exact hlt
end Go.Proofs.Ytdmokfplkhmijaa
