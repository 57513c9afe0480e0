/- Words and walks that SF rests on: DiskNew. -/
import Derived.Test.YtbiadpkglcdihaaGreatWSF2
import Derived.Carry
/- disk.New. -/
namespace Go.Proofs.YtbiadpkglcdihaaGreat
open Go.RowKit

theorem GoodD.new {room : Int} (hr : room ≤ 9223372036854775807) : GoodD (newD room) := by
  refine ⟨⟨by simp [newD]; omega, by simp [newD]; omega⟩, ?_, ?_, ?_, ?_, ?_, ⟨by simp [newD], by simp [newD]⟩, by simp [newD], by simp [newD], by simp [newD], ?_⟩ <;> simp [newD]
def newCells (w : World) (r : Int) : Array Value := #[.int .i64 r, .slice none 0 0, .map (some w.heap.size), .map (some (w.heap.size + 1)), .slice none 0 0, .int .i64 0, .int .i64 (-1), .int .i64 (-1), .bool false]
def newW (w : World) (r : Int) : World := ((w.alloc (.map #[] 0)).alloc (.map #[] 0)).alloc (.cells (newCells w r) 75)
theorem newW_dk (w : World) (room : Int) (hr : room ≤ 9223372036854775807) : Dk (newW w (max room 0)) [w.heap.size, w.heap.size + 1, w.heap.size + 2] (w.heap.size + 2) (newD room) := by
  have h1 := MapAt.new w
  have h2 := MapAt.new (w.alloc (.map #[] 0))
  have e1 : (w.alloc (.map #[] 0)).heap.size = w.heap.size + 1 := by simp
  have e2 : ((w.alloc (.map #[] 0)).alloc (.map #[] 0)).heap.size = w.heap.size + 2 := by simp
  have h3 := Blk.new ((w.alloc (.map #[] 0)).alloc (.map #[] 0)) (newCells w (max room 0)) 75
  rw [e1] at h2
  rw [e2] at h3
  refine ⟨.slice none 0 0, .slice none 0 0, w.heap.size, w.heap.size + 1, [], ?_⟩
  exact
  { box := h3
    names := (h1.alloc _).alloc _
    sure := h2.alloc _
    files := World.ownsRow_nil _ _ _ _
    same := rfl
    changes := World.ownsRow_nil _ _ _ _
    bytes := by simp
    apart := List.Pairwise.nil
    ne := by omega
    fpb := by simp
    fpn := by simp
    fps := by simp
    fpf := by simp [Value.ownBlock]
    fpc := by simp [Value.ownBlock]
    fph := by simp
    fpl := by
      intro k hk
      have e : (newW w (max room 0)).heap.size = w.heap.size + 3 := by simp [newW]
      rw [e]
      simp at hk
      omega
    good := GoodD.new hr }
theorem newW_chg (w : World) (r : Int) : Chg [] w (newW w r) := (((Chg.refl [] w).alloc _).alloc _).alloc _

def NewOut (w : World) (d : Dsk) (e : Ending) (w' : World) : Prop := ∃ b fp, e = .returned (.pointer (some ⟨b, 0, none⟩)) ∧ Dk w' fp b d ∧ Chg [] w w' ∧ ∀ k ∈ fp, w.heap.size ≤ k
set_option maxHeartbeats 400000 in
theorem DNew_any (w : World) (room : Int) (hr : room ≤ 9223372036854775807) : Calls Tryz.prog 11 #[.int .i64 room] w (NewOut w (newD room)) := by
  have hd0 := newW_dk w room hr
  have hc0 := newW_chg w (max room 0)
  have hfp : ∀ k ∈ [w.heap.size, w.heap.size + 1, w.heap.size + 2], w.heap.size ≤ k := by
    intro k hk
    simp at hk
    omega
  have hfin : NewOut w (newD room) (.returned (.pointer (some ⟨w.heap.size + 2, 0, none⟩))) (newW w (max room 0)) := ⟨_, _, rfl, hd0, hc0, hfp⟩
  clear hd0 hc0 hfp
  have hmm := @run_makeMap Tryz.prog
  by_cases h0 : room < 0
  · have hm : max room 0 = 0 := by omega
    rw [hm] at hfin
    go_enter Tryz.func11, Tryz.ntmps11
    go_wp2_with fail
    refine bodyPost_ret (v := .pointer (some ⟨w.heap.size + 2, 0, none⟩)) ?_ rfl hfin
    simp only [results]; go_simp
  · have hm : max room 0 = room := by omega
    rw [hm] at hfin
    go_enter Tryz.func11, Tryz.ntmps11
    go_wp2_with fail
    refine bodyPost_ret (v := .pointer (some ⟨w.heap.size + 2, 0, none⟩)) ?_ rfl hfin
    simp only [results]; go_simp
end Go.Proofs.YtbiadpkglcdihaaGreat
