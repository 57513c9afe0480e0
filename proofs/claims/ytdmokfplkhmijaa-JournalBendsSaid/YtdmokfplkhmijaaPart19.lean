/- bagatellelaw19.Part as it is read. -/
import Derived.Test.YtdmokfplkhmijaaReadKit
namespace Go.Proofs.Ytdmokfplkhmijaa
open Go.RowKit Go.ChangeShapes Go.WideShapes

/-- A part's cells: its number, its bytes. -/
def EPart (w : World) (x : Int × List UInt8) (c : List Value) : Prop := ∃ v, c = [.int .i64 x.1, v] ∧ Bs w v x.2 ∧ -9223372036854775808 ≤ x.1 ∧ x.1 ≤ 9223372036854775807 ∧ x.2.length ≤ 140737488351232
theorem EPart.k {w w' : World} {x : Int × List UInt8} {c : List Value} (h : EPart w x c) (hc : Chg [] w w') : EPart w' x c := by
  obtain ⟨v, h1, h2, h3⟩ := h
  exact ⟨v, h1, h2.k hc, h3⟩
section
variable {H : Type} {enc : TypeId × Value → H} {w : World} {base : Nat} {spare : Nat → Bool} {held : Bool}
theorem trod_part19 {fuel : Nat} {cs : List Value} {x : DataW H × List MemPlace} (h : DataW.trod enc Try.prog w base spare held fuel 32 cs = some x) (hw : ∀ m ∈ x.1.weights Try.prog 32, m ≤ reachBytes) : ∃ y, EPart w y cs := by
  obtain ⟨y0, y1, n, rfl, hl, h0, h1⟩ := trod_struct2 Try.underlying32 h
  rw [show Try.prog.cellsOf 32 = 2 by kernel_rfl] at hl
  simp only [show Try.prog.cellsOf 3 = 1 by kernel_rfl, show Try.prog.cellsOf 30 = 1 by kernel_rfl] at h0 h1
  obtain ⟨a, ha, lo, hi⟩ := trod_i64 (by kernel_rfl) h0
  obtain ⟨v, l, hv, hb, hll⟩ := trod_bytesW h1 (fun m hm => hw m (by
    simp only [DataW.weights, Try.underlying32, List.map_cons, List.map_nil, DataW.weightsEach, List.mem_append]
    exact .inr (.inl hm)))
  match cs, hl with
  | [c0, c1], _ =>
    simp at ha hv
    subst ha; subst hv
    exact ⟨(a, l), c1, rfl, hb, lo, hi, hll⟩
theorem open_parts19 {v : Value} {d : DataW H} {ps : List MemPlace} (h : DataW.Trod enc Try.prog w base spare held 22 v d ps) (hs : v.cells = #[v]) (hw : ∀ m ∈ d.weights Try.prog 22, m ≤ reachBytes) : ∃ l, Rds EPart 2 w v l := by
  obtain ⟨fuel, hf⟩ := h
  obtain ⟨u, l, hc, hr, -⟩ := trod_rdsW (size := 2) EPart (fun y => ∀ m ∈ y.weights Try.prog 32, m ≤ reachBytes) Try.underlying22 (by kernel_rfl) (by decide)
    (fun es sp he y hy m hm => hw m (by
      have he2 : d = .slice es sp := he
      rw [he2]
      simp only [DataW.weights, Try.underlying22, List.mem_cons, List.mem_append]
      refine .inr (.inl ?_)
      clear he2 he
      induction es with
      | nil => cases hy
      | cons e es ih =>
        simp only [DataW.weightsAll, List.mem_append]
        rcases List.mem_cons.1 hy with rfl | hy
        · exact .inl hm
        · exact .inr (ih hy)))
    (fun n cs x hx hp _ => trod_part19 hx hp) hf
  rw [hs] at hc
  obtain rfl : v = u := by simpa using hc
  exact ⟨l, hr⟩
end
end Go.Proofs.Ytdmokfplkhmijaa
