/- More words: what is kept over a call that turns nothing old; cuts in a region that draws. -/
import Derived.Test.YteeanpbdnpmpaaaConv
import Derived.Test.YteeanpbdnpmpaaaSlice
namespace Go.Proofs.Yteeanpbdnpmpaaa
open Go.RowKit

theorem Chg.cellS {w wx : World} {p : Addr} {v : Value} (h : Chg [] w wx) (hc : w.cell? p = some v) : wx.cell? p = some v :=
  (h.cell (World.block_lt_of_cell? w _ hc) (by simp)).trans hc
theorem Chg.frozenS {w wx : World} {p : Addr} {v : Value} (h : Chg [] w wx) (hc : w.cell? p = some v) : wx.frozen? p = w.frozen? p :=
  h.frozen (World.block_lt_of_cell? w _ hc) (by simp)
/- One word for 'kept over what turns nothing old'. -/
theorem Chg.k {a b c : World} (h : Chg [] a b) (hc : Chg [] b c) : Chg [] a c := h.trans hc (by simp)
theorem Bs.k {w w' : World} {v : Value} {l : List UInt8} (h : Bs w v l) (hc : Chg [] w w') : Bs w' v l := h.stays hc
theorem Fs.k {w w' : World} {v : Value} {l : List Int} (h : Fs w v l) (hc : Chg [] w w') : Fs w' v l := h.chg hc (by simp)
theorem OwB.k {w w' : World} {base : Nat} {v : Value} {l : List UInt8} (h : OwB w base v l) (hc : Chg [] w w') : OwB w' base v l := h.chg hc (by simp)
theorem Blk.k {w w' : World} {b : Nat} {cs : Array Value} {t : TypeId} (h : Blk w b cs t) (hc : Chg [] w w') : Blk w' b cs t := h.chg hc (by simp)
theorem elemBytes : Try.prog.elem 22 = 5 := by kernel_rfl
theorem run_cutB {w : World} {v : Value} {l : List UInt8} (hv : Bs w v l) {lo hi : Option Value} {p q : Nat} (hlo : Bound lo p 0) (hhi : Bound hi q l.length) (hpq : p ≤ q) (hq : q ≤ l.length) :
    ∃ ao c, (∀ W, (Instr.slice 22 v lo hi none).run Try.prog W = .ok (.slice ao (q - p) c) W) ∧ Bs w (.slice ao (q - p) c) ((l.drop p).take (q - p)) ∧
      (∀ k, (Value.slice ao (q - p) c).ownBlock = some k → v.ownBlock = some k) := by
  obtain ⟨ao, c, h1, h2, h3⟩ := run_cut rowBytes hv hlo hhi hpq hq
  refine ⟨ao, c, fun W => ?_, ?_, h3⟩
  · rw [← run_sliceAt_slice (P := Try.prog) W 22 v lo hi none (by rw [elemBytes]; exact undBytes)]
    exact h1 W
  · have e : ((l.drop p).take (q - p)).length = q - p := by rw [List.length_take, List.length_drop]; omega
    unfold Bs; rw [e]; simpa [List.map_take, List.map_drop] using h2
/-- The string of bytes that read so, in whatever world that kept them. -/
theorem Bs.strs {w : World} {v : Value} {l : List UInt8} (h : Bs w v l) : ∀ wx : World, Chg [] w wx → (convert 22 9 v).run Try.prog wx = .ok (.string (strB l)) wx :=
  fun _ hx => run_str (h.stays hx)
end Go.Proofs.Yteeanpbdnpmpaaa
