/- slices.Clone of bytes, maps.Clone of names. -/
import Derived.Test.YtdmokfplkhmijaaDiskOp
import Derived.Shelf.SlMaps.Clone
import Derived.Lib.SliceRun
import Derived.Deep.Cut
namespace Go.Proofs.Ytdmokfplkhmijaa
open Go.RowKit

set_option maxHeartbeats 400000 in
theorem CloneB_any (w : World) (v : Value) (l : List UInt8) (hv : Bs w v l) (hl : l.length ≤ 140737488355328) :
    Calls Try.prog 53 #[v] w fun e w' => ∃ ao c, e = .returned (.slice ao l.length c) ∧ OwB w' w.heap.size (.slice ao l.length c) l ∧ Chg [] w w' := by
  obtain ⟨-, ao, cap, b, off, rfl, -, -, hn, -, -⟩ := id hv
  rcases ao with _ | a
  · obtain ⟨h0, rfl⟩ := hn rfl
    obtain rfl : l = [] := List.length_eq_zero_iff.1 h0
    clear hn h0 hv hl
    have hq := fun w => Lib.run_eql_slice_nil (P := Try.prog) w 30 5 none 0 0 0 0 undBytes
    go_enter Try.func53, Try.ntmps53
    go_wp2_with fail
    refine bodyPost_ret (v := .slice none 0 0) ?_ rfl ⟨none, 0, rfl, OwB.nil _ _, Chg.refl _ _⟩
    simp only [results]; go_simp
  · have hB : OwB (w.alloc (.cells #[] 5)) w.heap.size (.slice (some ⟨w.heap.size, 0, none⟩) 0 0) [] := World.ownsRow_lit w #[] 0 (Nat.le_refl _) (by decide) rfl
    have hv1 := hv.alloc (.cells #[] 5)
    clear hn hv
    have hq := fun w => Lib.run_eql_slice_nil (P := Try.prog) w 30 5 (some a) l.length cap 0 0 undBytes
    go_enter Try.func53, Try.ntmps53
    go_wp2_with (at_builtin; refine wpAppB rfl _ _ rfl w.heap.size _ _ rfl hB _ _ rfl hv1 (by simpa using hl) (by simp) ?_; intro ao1 c1 w1 h1 h2 h3)
    have hc : Chg [] w w1 := ((Chg.refl [] w).alloc _).app hB h2 (Nat.le_refl _)
    simp only [List.nil_append, List.length_nil, Nat.zero_add] at h1 ⊢
    refine bodyPost_ret (v := .slice ao1 l.length c1) ?_ rfl ⟨ao1, c1, rfl, h1, hc⟩
    simp only [results]; go_simp

set_option maxHeartbeats 2000000 in
set_option maxRecDepth 8000 in
theorem CloneM_any (w : World) (b : Nat) (es : Nm) (h : MapAt w b es) :
    Calls Try.prog 55 #[.map (some b)] w fun e w' => e = .returned (.map (some w.heap.size)) ∧ MapAt w' w.heap.size es ∧ Chg [] w w' := by
  obtain ⟨D, ⟨xs, clock, hb, F, hs, hD⟩, hr⟩ := h
  have hfin : MapAt (w.alloc (.map xs clock)) w.heap.size es := ⟨D, ⟨xs, clock, (MapKept.heap_alloc w _).1, F, hs, hD⟩, hr⟩
  have hc : Chg [] w (w.alloc (.map xs clock)) := (Chg.refl [] w).alloc _
  clear F hs hD hr
  have hq := fun w => run_eql_map_nil_sl (P := Try.prog) w 81 _ _ (some b) undMapN
  have hcon : Try.prog.concrete 81 = true := by kernel_rfl
  go_enter Try.func55, Try.ntmps55
  go_wp2
  rw [run_callFunc_extern Try.func75 (by kernel_rfl) (by kernel_rfl) (by kernel_rfl) (e := Extern.MapsClone.clone) (by kernel_rfl), run_maps_clone_sl w 81 hb]
  simp only [Result.andThen]
  rw [Oper.upon_value]
  go_wp2
  rw [run_typeAssert_map_sl _ 81 _ _ _ _ undMapN]
  simp only [Result.andThen]
  rw [Oper.upon_value]
  go_wp2
  go_ret
  exact ⟨rfl, hfin, hc⟩
end Go.Proofs.Ytdmokfplkhmijaa
