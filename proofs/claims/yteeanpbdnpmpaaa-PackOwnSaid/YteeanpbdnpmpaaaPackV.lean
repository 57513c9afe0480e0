/- Reader.V on a reader that has too little, Reader.Count; Writer.V and Writer.F of nothing. -/
import Derived.Test.YteeanpbdnpmpaaaPackFit
namespace Go.Proofs.Yteeanpbdnpmpaaa
open Go.RowKit

theorem Rdr.chg {w w' : World} {b : Nat} {l : List UInt8} {bad : Bool} (h : Rdr w b l bad) (hc : Chg [] w w') : Rdr w' b l bad := by
  obtain ⟨v, h1, h2, h3⟩ := h
  exact ⟨v, h1.chg hc (by simp), h2.stays hc, h3⟩
theorem Rdr.lt {w : World} {b : Nat} {l : List UInt8} {bad : Bool} (h : Rdr w b l bad) : b < w.heap.size := by
  obtain ⟨v, h1, -, -⟩ := h
  exact h1.lt

theorem Rdr.other {w : World} {b : Nat} {bad : Bool} (h : Rdr w b [] bad) (a : Addr) (u : Value) (hn : b ≠ a.block) : Rdr (w.setCell a u) b [] bad := by
  obtain ⟨v, h1, h2, h3⟩ := h
  exact ⟨v, h1.other hn u, h2.setCell a u (by simp), by simp⟩

set_option maxHeartbeats 400000 in
theorem RV_short (b : Nat) (l : List UInt8) (bad : Bool) (w : World) (hr : Rdr w b l bad) (hn : l.length < 8) :
    Calls Try.prog 25 #[.pointer (some ⟨b, 0, none⟩)] w fun e w' => e = .returned (.agg #[.int .i64 0, .int .i64 0]) ∧ Rdr w' b [] true ∧ Chg [b] w w' := by
  go_enter Try.func25, Try.ntmps25
  go_wp2_with fail
  have hlt := hr.lt
  have hk := Blk.new w #[.int .i64 0, .int .i64 0] 36
  have hr0 := hr.chg ((Chg.refl [] w).alloc (.cells #[.int .i64 0, .int .i64 0] 36))
  have hc0 : Chg [b] w (w.alloc (.cells #[.int .i64 0, .int .i64 0] 36)) := (Chg.refl [b] w).alloc _
  refine (RF_short b l bad _ hr0 hn).mono ?_
  rintro e w1 ⟨rfl, hr1, hc1⟩
  have hk1 := hk.chg hc1 (by simp; omega)
  have hc1' := hc0.trans hc1 (fun x hx _ => hx)
  go_wp2_with fail
  refine (RF_short b [] true _ hr1 (by decide)).mono ?_
  rintro e w2 ⟨rfl, hr2, hc2⟩
  have hk2 := hk1.chg hc2 (by simp; omega)
  have hc2' := hc1'.trans hc2 (fun x hx _ => hx)
  have q0 := hk2.cell 0
  have q1 := hk2.cell 1
  have f0 := hk2.free 0
  have f1 := hk2.free 1
  simp at q0 q1
  clear hk hr0 hc0 hk1 hc1' hr1 hc1 hc2
  go_wp2_with fail
  have hk3 := (hk2.set 0 (.int .i64 0)).set 1 (.int .i64 0)
  have p0 := hk3.cell 0
  have p1 := hk3.cell 1
  simp at p0 p1
  refine bodyPost_ret (v := .agg #[.int .i64 0, .int .i64 0]) ?_ rfl ?_
  · simp only [results]
    go_simp
  · refine ⟨rfl, ?_, ?_⟩
    · exact (hr2.other _ _ (by simp; omega)).other _ _ (by simp; omega)
    · exact (hc2'.setCell _ _ (by simp)).setCell _ _ (by simp)

set_option maxHeartbeats 400000 in
theorem RCount_short (m : Int) (b : Nat) (l : List UInt8) (bad : Bool) (w : World) (hr : Rdr w b l bad) (hn : l.length < 2) (hm : 0 ≤ m) :
    Calls Try.prog 27 #[.pointer (some ⟨b, 0, none⟩), .int .i64 m] w fun e w' => e = .returned (.int .i64 0) ∧ Rdr w' b [] true ∧ Chg [b] w w' := by
  go_enter Try.func27, Try.ntmps27
  go_wp2_with fail
  refine (RNum_short 2 b l bad _ hr (by omega)).mono ?_
  rintro e w1 ⟨rfl, h1, h2⟩
  go_wp2_with fail
  go_ret
  exact ⟨rfl, h1, h2⟩
end Go.Proofs.Yteeanpbdnpmpaaa
