/- The disk's small methods. -/
import Derived.Test.YtdmokfplkhmijaaDisk
namespace Go.Proofs.Ytdmokfplkhmijaa
open Go.RowKit

variable {w : World} {fp : List Nat} {b : Nat} {fv cv : Value} {nb sb : Nat} {hs : List HF} {d : Dsk}

set_option maxHeartbeats 1000000 in
theorem op_any (h : DkP w fp b fv cv nb sb hs d) (hops : d.ops < 1073741824) :
    Calls Try.prog 51 #[.pointer (some ⟨b, 0, none⟩)] w fun e w' => e = .returned (.int .i64 (opE d)) ∧ DkP w' fp b fv cv nb sb hs (opD d) ∧ Chg [b] w w' ∧ w'.heap.size = w.heap.size := by
  have hg := h.good.op hops
  have ho := h.good.ops
  have q5 := h.box.cell 5
  have f5 := h.box.free 5
  have k1 := h.box.set 5 (.int .i64 (d.ops + 1))
  have r6 := k1.cell 6
  have r8 := k1.cell 8
  have f8 := k1.free 8
  simp [boxCells] at q5 r6 r8
  have H := hd h
  obtain ⟨E, hE⟩ : ∃ E, opE d = E := ⟨_, rfl⟩
  have HE := hd hE
  rw [hE]
  clear hE h
  have fin : ∀ off', off' = (opD d).off → Blk ((w.setCell ⟨b, 5, none⟩ (.int .i64 (d.ops + 1))).setCell ⟨b, 8, none⟩ (.bool off')) b (boxCells fv cv nb sb (opD d)) 85 := by
    rintro off' rfl
    exact k1.set 8 _
  have fin2 : ∀ off', off' = (opD d).off → DkP ((w.setCell ⟨b, 5, none⟩ (.int .i64 (d.ops + 1))).setCell ⟨b, 8, none⟩ (.bool off')) fp b fv cv nb sb hs (opD d) ∧ Chg [b] w ((w.setCell ⟨b, 5, none⟩ (.int .i64 (d.ops + 1))).setCell ⟨b, 8, none⟩ (.bool off')) ∧ ((w.setCell ⟨b, 5, none⟩ (.int .i64 (d.ops + 1))).setCell ⟨b, 8, none⟩ (.bool off')).heap.size = w.heap.size := by
    intro off' e
    have hc : Chg [b] w ((w.setCell ⟨b, 5, none⟩ (.int .i64 (d.ops + 1))).setCell ⟨b, 8, none⟩ (.bool off')) := ((Chg.refl _ _).setCell _ _ (by simp)).setCell _ _ (by simp)
    exact ⟨H.out.scal hc (fin off' e) rfl rfl rfl rfl hg, hc, by simp⟩
  have F2 := hd fin2
  clear fin fin2 hg H
  have hwrap : ¬ 9223372036854775807 < d.ops + 1 := by omega
  have hoff : d.off = true ∨ (d.off = false ∧ 0 ≤ d.down ∧ d.down ≤ d.ops) ∨ (d.off = false ∧ 0 ≤ d.down ∧ ¬ d.down ≤ d.ops) ∨ (d.off = false ∧ ¬ 0 ≤ d.down) := by
    cases d.off <;> simp <;> omega
  generalize hX : (opD d).off = X at F2
  have k2 := k1.set 8 (.bool X)
  have s7 := k2.cell 7
  have s8 := k2.cell 8
  simp [boxCells] at s7 s8
  clear k1 k2
  have hXv : X = (d.off || decide (0 ≤ d.down ∧ d.down ≤ d.ops)) := by rw [← hX]; rfl
  have HX := hd hX
  clear hX
  have hEv : E = if d.off = true ∨ (0 ≤ d.down ∧ d.down ≤ d.ops) then 8 else if 0 ≤ d.fail ∧ d.ops = d.fail then 7 else 0 := by rw [← HE.out]; rfl
  clear HE
  have HEv := hd hEv
  clear hEv
  go_enter Try.func51, Try.ntmps51
  rcases hoff with e | ⟨e, h1, h2⟩ | ⟨e, h1, h2⟩ | ⟨e, h1⟩ <;> rw [e] at r8 hXv
  · obtain rfl : X = true := by rw [hXv]; simp
    clear hXv
    go_wp2_with fail
    refine bodyPost_ret (v := .int .i64 8) ?_ rfl ⟨?_, F2.out true rfl⟩
    · simp only [results]; go_simp
    · rw [HEv.out, e]; simp
  · obtain rfl : X = true := by rw [hXv]; simp [h1, h2]
    clear hXv
    go_wp2_with fail
    refine bodyPost_ret (v := .int .i64 8) ?_ rfl ⟨?_, F2.out true rfl⟩
    · simp only [results]; go_simp
    · rw [HEv.out, e]; simp [h1, h2]
  all_goals
    obtain rfl : X = false := by rw [hXv]; simp; omega
    clear hXv
    by_cases h3 : 0 ≤ d.fail
    · by_cases h4 : d.ops = d.fail
      · have h4' : (d.ops == d.fail) = true := by simpa using h4
        have H4 := hd h4
        clear h4
        go_wp2_with fail
        refine bodyPost_ret (v := .int .i64 7) ?_ rfl ⟨?_, F2.out false rfl⟩
        · simp only [results]; go_simp
        · have h4 := H4.out; rw [HEv.out, e]; simp; omega
      · have h4' : (d.ops == d.fail) = false := by simpa using h4
        go_wp2_with fail
        refine bodyPost_ret (v := .int .i64 0) ?_ rfl ⟨?_, F2.out false rfl⟩
        · simp only [results]; go_simp
        · rw [HEv.out, e]; simp; omega
    · go_wp2_with fail
      refine bodyPost_ret (v := .int .i64 0) ?_ rfl ⟨?_, F2.out false rfl⟩
      · simp only [results]; go_simp
      · rw [HEv.out, e]; simp; omega

set_option maxHeartbeats 400000 in
theorem find_any (h : DkP w fp b fv cv nb sb hs d) (s : List UInt8) (hs' : s.length ≤ 140737488355328) :
    Calls Try.prog 52 #[.pointer (some ⟨b, 0, none⟩), .string (strB s)] w fun e w' => w' = w ∧
      match nget d.names s with
      | none => e = .returned (.tuple #[.pointer none, .int .i64 4])
      | some i => ∃ g c, fv = .slice (some ⟨g, 0, none⟩) hs.length c ∧ i < hs.length ∧ e = .returned (.tuple #[.pointer (some ⟨g, i * 2, none⟩), .int .i64 0]) := by
  have q1 := h.box.cell 1
  have q2 := h.box.cell 2
  simp [boxCells] at q1 q2
  have hN := h.names
  rcases hi : nget d.names s with _ | i
  · go_enter Try.func52, Try.ntmps52
    clear h
    go_wp2_with (at_lookup; refine wpLook rfl _ _ rfl nb _ s rfl rfl hN hs' ?_; rw [hi]; dsimp only [Option.getD_none, Option.isSome_none])
    refine bodyPost_ret (v := .tuple #[.pointer none, .int .i64 4]) ?_ rfl ⟨rfl, rfl⟩
    simp only [results]; go_simp
  · have hlt : i < hs.length := by rw [h.len]; exact h.good.named _ (nget_some_mem hi)
    obtain ⟨g, c, rfl⟩ : ∃ g c, fv = .slice (some ⟨g, 0, none⟩) hs.length c := by
      rcases h.files.2 with ⟨rfl, hz⟩ | ⟨g, cap, cur, rfl, _⟩
      · omega
      · exact ⟨g, cap, rfl⟩
    have hlti : (i : Int) < (hs.length : Int) := by omega
    go_enter Try.func52, Try.ntmps52
    clear h
    go_wp2_with (at_lookup; refine wpLook rfl _ _ rfl nb _ s rfl rfl hN hs' ?_; rw [hi]; dsimp only [Option.getD_some, Option.isSome_some])
    refine bodyPost_ret (v := .tuple #[.pointer (some ⟨g, i * 2, none⟩), .int .i64 0]) ?_ rfl ⟨rfl, g, c, rfl, hlt, rfl⟩
    simp only [results]; go_simp
end Go.Proofs.Ytdmokfplkhmijaa
