/- bagatellelaw16.Part as it is read. -/
import Derived.Test.YteeanpbdnpmpaaaReadKit
namespace Go.Proofs.Yteeanpbdnpmpaaa
open Go.RowKit Go.ChangeShapes Go.WideShapes

/-- A part's cells: its number, its bytes. -/
def EPart (w : World) (x : Int × List UInt8) (c : List Value) : Prop := ∃ v, c = [.int .i64 x.1, v] ∧ Bs w v x.2 ∧ -9223372036854775808 ≤ x.1 ∧ x.1 ≤ 9223372036854775807
theorem EPart.k {w w' : World} {x : Int × List UInt8} {c : List Value} (h : EPart w x c) (hc : Chg [] w w') : EPart w' x c := by
  obtain ⟨v, h1, h2, h3⟩ := h
  exact ⟨v, h1, h2.k hc, h3⟩
section
variable {H : Type} {enc : TypeId × Value → H} {w : World} {base : Nat} {spare : Nat → Bool} {held : Bool}
theorem trod_part16 {fuel : Nat} {cs : List Value} {x : DataW H × List MemPlace} (h : DataW.trod enc Try.prog w base spare held fuel 65 cs = some x) : ∃ y, EPart w y cs := by
  obtain ⟨y0, y1, n, -, hl, h0, h1⟩ := trod_struct2 Try.underlying65 h
  rw [show Try.prog.cellsOf 65 = 2 by kernel_rfl] at hl
  simp only [show Try.prog.cellsOf 3 = 1 by kernel_rfl, show Try.prog.cellsOf 22 = 1 by kernel_rfl] at h0 h1
  obtain ⟨a, ha, lo, hi⟩ := trod_i64 (by kernel_rfl) h0
  obtain ⟨v, l, hv, hb⟩ := trod_bytes h1
  match cs, hl with
  | [c0, c1], _ =>
    simp at ha hv
    subst ha; subst hv
    exact ⟨(a, l), c1, rfl, hb, lo, hi⟩
theorem open_part16 {r : Reach} {b0 : Nat} {v : Value} {d : DataW H} {ps : List MemPlace} (hv : Value.okWide Try.prog w r b0 65 v) (h : DataW.Trod enc Try.prog w base spare held 65 v d ps) :
    ∃ n u l, v = .agg #[.int .i64 n, u] ∧ -9223372036854775808 ≤ n ∧ n ≤ 9223372036854775807 ∧ Bs w u l := by
  obtain ⟨cs, rfl, hsz⟩ := okWide_struct Try.underlying65 hv
  obtain ⟨fuel, hf⟩ := h
  obtain ⟨⟨n, l⟩, u, hc, hb, lo, hi⟩ := trod_part16 hf
  refine ⟨n, u, l, ?_, lo, hi, hb⟩
  simp only [Value.cells] at hc
  rw [← Array.toArray_toList (xs := cs), hc]
theorem open_parts16 {v : Value} {d : DataW H} {ps : List MemPlace} (h : DataW.Trod enc Try.prog w base spare held 67 v d ps) (hs : v.cells = #[v]) : ∃ l, Rds EPart 2 w v l := by
  obtain ⟨fuel, hf⟩ := h
  obtain ⟨u, l, hc, hr⟩ := trod_rds (size := 2) EPart Try.underlying67 (by kernel_rfl) (by decide) (fun n cs x hx _ => trod_part16 hx) hf
  rw [hs] at hc
  obtain rfl : v = u := by simpa using hc
  exact ⟨l, hr⟩
end
end Go.Proofs.Yteeanpbdnpmpaaa
