/- Words and walks that SF rests on: DeedRd. -/
import Derived.Test.YtbiadpkglcdihaaGreatWSF10
import Derived.Test.YtbiadpkglcdihaaGreatWSF4
import Derived.Deep.Strs
/- Deeds as they are read. -/
namespace Go.Proofs.YtbiadpkglcdihaaGreat
open Go.RowKit Go.ChangeShapes Go.WideShapes

section
variable {H : Type} {enc : TypeId × Value → H} {w : World} {base : Nat} {spare : Nat → Bool} {held : Bool}
theorem trod_field {P : Program} {t : TypeId} {fs : Array Field} {fuel : Nat} {cs : List Value} {x : DataW H × List MemPlace} (ht : P.underlying t = some (.struct fs)) (h : DataW.trod enc P w base spare held fuel t cs = some x) :
    cs.length = P.cellsOf t ∧ ∃ n, ∀ (i : Nat) (f : Field), fs[i]? = some f → ∃ y, DataW.trod enc P w base spare held n f.type ((cs.drop f.offset).take (P.cellsOf f.type)) = some y := by
  obtain ⟨xs, n, _, rfl, hl, hlen, hf⟩ := DataW.trod_struct ht h
  refine ⟨hl, n, fun i f hi => ?_⟩
  have hfi := hf i f hi
  have hlt : i < xs.length := by
    have := (Array.getElem?_eq_some_iff.mp hi).1
    simpa [hlen] using this
  rw [List.getElem?_eq_getElem hlt] at hfi
  exact ⟨_, hfi⟩
theorem trod_at {P : Program} {fs : Array Field} {n : Nat} {cs : List Value} (hf : ∀ (i : Nat) (f : Field), fs[i]? = some f → ∃ y, DataW.trod enc P w base spare held n f.type ((cs.drop f.offset).take (P.cellsOf f.type)) = some y) (i : Nat) (f : Field) (hi : fs[i]? = some f) (ty : TypeId) (off sz : Nat) (h1 : f.type = ty) (h2 : f.offset = off) (h3 : P.cellsOf ty = sz) :
    ∃ y, DataW.trod enc P w base spare held n ty ((cs.drop off).take sz) = some y := by
  obtain ⟨y, h⟩ := hf i f hi
  rw [h1, h2, h3] at h
  exact ⟨y, h⟩
theorem read_i {n : Nat} {cs : List Value} {x : DataW H × List MemPlace} {t : TypeId} (hu : Tryz.prog.underlying t = some (.int .i64)) (h : DataW.trod enc Tryz.prog w base spare held n t cs = some x) : ∃ a : Int, cs = [.int .i64 a] ∧ I64 a := by
  obtain ⟨a, ha, lo, hi⟩ := trod_i64 hu h
  exact ⟨a, ha, lo, hi⟩
theorem read_v {fuel : Nat} {cs : List Value} {x : DataW H × List MemPlace} (h : DataW.trod enc Tryz.prog w base spare held fuel 27 cs = some x) : ∃ a : V2, cs = cV a ∧ IV a := by
  obtain ⟨hl, n, hf⟩ := trod_field Tryz.underlying27 h
  rw [show Tryz.prog.cellsOf 27 = 2 by kernel_rfl] at hl
  obtain ⟨y0, h0⟩ := trod_at hf 0 _ rfl 25 0 1 rfl rfl (by kernel_rfl)
  obtain ⟨y1, h1⟩ := trod_at hf 1 _ rfl 25 1 1 rfl rfl (by kernel_rfl)
  obtain ⟨a, ha, ia⟩ := read_i (by kernel_rfl) h0
  obtain ⟨b, hb, ib⟩ := read_i (by kernel_rfl) h1
  clear hf h
  match cs, hl with
  | [c0, c1], _ =>
    simp at ha hb
    exact ⟨(a, b), by rw [ha, hb]; rfl, ia, ib⟩
def EV (_ : World) (a : V2) (c : List Value) : Prop := c = cV a ∧ IV a
theorem rds_vs {v : Value} {l : List V2} (h : Rds EV 2 w v l) : VsS w v l ∧ ∀ a ∈ l, IV a := by
  obtain ⟨css, h1, h2, h3⟩ := h
  have hcss : css = l.map cV := by
    apply List.ext_getElem
    · simp [h1]
    · intro i a b
      simp only [List.getElem_map]
      exact (h2 i (by simpa using b) a).1.1
  refine ⟨?_, fun a ha => ?_⟩
  · have : css.flatten = l.flatMap cV := by rw [hcss, List.flatMap_def]
    unfold VsS
    rw [← this]; exact h3
  · obtain ⟨i, hi, rfl⟩ := List.getElem_of_mem ha
    exact (h2 i hi (by omega)).1.2
theorem read_vs {fuel : Nat} {cs : List Value} {x : DataW H × List MemPlace} (h : DataW.trod enc Tryz.prog w base spare held fuel 93 cs = some x) : ∃ v l, cs = [v] ∧ VsS w v l ∧ ∀ a ∈ l, IV a := by
  obtain ⟨v, l, h1, h2⟩ := trod_rds (size := 2) EV Tryz.underlying93 (by kernel_rfl) (by decide) (fun n cs x hx _ => by
    obtain ⟨a, ha, ia⟩ := read_v hx
    exact ⟨a, ha, ia⟩) h
  exact ⟨v, l, h1, rds_vs h2⟩
theorem read_shape {fuel : Nat} {cs : List Value} {x : DataW H × List MemPlace} (h : DataW.trod enc Tryz.prog w base spare held fuel 95 cs = some x) : ∃ (s : Shp) (pv : Value), cs = [.int .i64 s.kind, .int .i64 s.r, pv] ∧ VsS w pv s.p ∧ I64 s.kind ∧ I64 s.r ∧ ∀ a ∈ s.p, IV a := by
  obtain ⟨hl, n, hf⟩ := trod_field Tryz.underlying95 h
  rw [show Tryz.prog.cellsOf 95 = 3 by kernel_rfl] at hl
  obtain ⟨y0, h0⟩ := trod_at hf 0 _ rfl 3 0 1 rfl rfl (by kernel_rfl)
  obtain ⟨y1, h1⟩ := trod_at hf 1 _ rfl 25 1 1 rfl rfl (by kernel_rfl)
  obtain ⟨y2, h2⟩ := trod_at hf 2 _ rfl 93 2 1 rfl rfl (by kernel_rfl)
  obtain ⟨a, ha, ia⟩ := read_i (by kernel_rfl) h0
  obtain ⟨b, hb, ib⟩ := read_i (by kernel_rfl) h1
  obtain ⟨v, l, hv, hvs, hi⟩ := read_vs h2
  clear hf h
  match cs, hl with
  | [c0, c1, c2], _ =>
    simp at ha hb hv
    subst ha hb hv
    exact ⟨⟨a, b, l⟩, c2, rfl, hvs, ia, ib, hi⟩
theorem read_body {fuel : Nat} {cs : List Value} {x : DataW H × List MemPlace} (h : DataW.trod enc Tryz.prog w base spare held fuel 97 cs = some x) : ∃ (x : Bdy) (pv : Value), cs = [.int .i64 x.id, .int .i64 x.pos.1, .int .i64 x.pos.2, .int .i64 x.vel.1, .int .i64 x.vel.2, .int .i64 x.angle, .int .i64 x.spin, .int .i64 x.density, .int .i64 x.shape.kind, .int .i64 x.shape.r, pv] ∧ VsS w pv x.shape.p ∧ I64 x.id ∧ IV x.pos ∧ IV x.vel ∧ I64 x.angle ∧ I64 x.spin ∧ I64 x.density ∧ I64 x.shape.kind ∧ I64 x.shape.r ∧ ∀ a ∈ x.shape.p, IV a := by
  obtain ⟨hl, n, hf⟩ := trod_field Tryz.underlying97 h
  rw [show Tryz.prog.cellsOf 97 = 11 by kernel_rfl] at hl
  obtain ⟨y0, h0⟩ := trod_at hf 0 _ rfl 3 0 1 rfl rfl (by kernel_rfl)
  obtain ⟨y1, h1⟩ := trod_at hf 1 _ rfl 27 1 2 rfl rfl (by kernel_rfl)
  obtain ⟨y2, h2⟩ := trod_at hf 2 _ rfl 27 3 2 rfl rfl (by kernel_rfl)
  obtain ⟨y3, h3⟩ := trod_at hf 3 _ rfl 25 5 1 rfl rfl (by kernel_rfl)
  obtain ⟨y4, h4⟩ := trod_at hf 4 _ rfl 25 6 1 rfl rfl (by kernel_rfl)
  obtain ⟨y5, h5⟩ := trod_at hf 5 _ rfl 25 7 1 rfl rfl (by kernel_rfl)
  obtain ⟨y6, h6⟩ := trod_at hf 6 _ rfl 95 8 3 rfl rfl (by kernel_rfl)
  obtain ⟨a0, e0, i0⟩ := read_i (by kernel_rfl) h0
  obtain ⟨a1, e1, i1⟩ := read_v h1
  obtain ⟨a2, e2, i2⟩ := read_v h2
  obtain ⟨a3, e3, i3⟩ := read_i (by kernel_rfl) h3
  obtain ⟨a4, e4, i4⟩ := read_i (by kernel_rfl) h4
  obtain ⟨a5, e5, i5⟩ := read_i (by kernel_rfl) h5
  obtain ⟨s, pv, e6, hv, is, ir, ip⟩ := read_shape h6
  clear hf h
  match cs, hl with
  | [c0, c1, c2, c3, c4, c5, c6, c7, c8, c9, c10], _ =>
    simp [cV] at e0 e1 e2 e3 e4 e5 e6
    refine ⟨⟨a0, a1, a2, a3, a4, a5, s⟩, pv, ?_, hv, i0, i1, i2, i3, i4, i5, is, ir, ip⟩
    simp [e0, e1, e2, e3, e4, e5, e6]
theorem read_seed {fuel : Nat} {cs : List Value} {x : DataW H × List MemPlace} (h : DataW.trod enc Tryz.prog w base spare held fuel 136 cs = some x) : ∃ s : Sd, cs = [.int .i64 s.kind, .int .i64 s.n, .int .i64 s.size, .int .i64 s.turn] := by
  obtain ⟨hl, n, hf⟩ := trod_field Tryz.underlying136 h
  rw [show Tryz.prog.cellsOf 136 = 4 by kernel_rfl] at hl
  obtain ⟨y0, h0⟩ := trod_at hf 0 _ rfl 3 0 1 rfl rfl (by kernel_rfl)
  obtain ⟨y1, h1⟩ := trod_at hf 1 _ rfl 3 1 1 rfl rfl (by kernel_rfl)
  obtain ⟨y2, h2⟩ := trod_at hf 2 _ rfl 3 2 1 rfl rfl (by kernel_rfl)
  obtain ⟨y3, h3⟩ := trod_at hf 3 _ rfl 3 3 1 rfl rfl (by kernel_rfl)
  obtain ⟨a0, e0, i0⟩ := read_i (by kernel_rfl) h0
  obtain ⟨a1, e1, i1⟩ := read_i (by kernel_rfl) h1
  obtain ⟨a2, e2, i2⟩ := read_i (by kernel_rfl) h2
  obtain ⟨a3, e3, i3⟩ := read_i (by kernel_rfl) h3
  clear hf h
  match cs, hl with
  | [c0, c1, c2, c3], _ =>
    simp at e0 e1 e2 e3
    exact ⟨⟨a0, a1, a2, a3⟩, by simp [e0, e1, e2, e3]⟩
theorem read_place {fuel : Nat} {cs : List Value} {x : DataW H × List MemPlace} (h : DataW.trod enc Tryz.prog w base spare held fuel 138 cs = some x) : ∃ p : Pls, cs = [.int .i64 p.seed.kind, .int .i64 p.seed.n, .int .i64 p.seed.size, .int .i64 p.seed.turn, .int .i64 p.pos.1, .int .i64 p.pos.2, .int .i64 p.angle] := by
  obtain ⟨hl, n, hf⟩ := trod_field Tryz.underlying138 h
  rw [show Tryz.prog.cellsOf 138 = 7 by kernel_rfl] at hl
  obtain ⟨y0, h0⟩ := trod_at hf 0 _ rfl 136 0 4 rfl rfl (by kernel_rfl)
  obtain ⟨y1, h1⟩ := trod_at hf 1 _ rfl 27 4 2 rfl rfl (by kernel_rfl)
  obtain ⟨y2, h2⟩ := trod_at hf 2 _ rfl 25 6 1 rfl rfl (by kernel_rfl)
  obtain ⟨a0, e0⟩ := read_seed h0
  obtain ⟨a1, e1, i1⟩ := read_v h1
  obtain ⟨a2, e2, i2⟩ := read_i (by kernel_rfl) h2
  clear hf h
  match cs, hl with
  | [c0, c1, c2, c3, c4, c5, c6], _ =>
    simp [cV] at e0 e1 e2
    exact ⟨⟨a0, a1, a2⟩, by simp [e0, e1, e2]⟩
def EDeed (w : World) (x : DV) (c : List Value) : Prop := c = cDV x ∧ VsS w x.2 x.1.raw.shape.p ∧ ID x.1
theorem read_deed {fuel : Nat} {cs : List Value} {x : DataW H × List MemPlace} (h : DataW.trod enc Tryz.prog w base spare held fuel 140 cs = some x) : ∃ y, EDeed w y cs := by
  obtain ⟨hl, n, hf⟩ := trod_field Tryz.underlying140 h
  rw [show Tryz.prog.cellsOf 140 = 30 by kernel_rfl] at hl
  obtain ⟨y0, h0⟩ := trod_at hf 0 _ rfl 3 0 1 rfl rfl (by kernel_rfl)
  obtain ⟨y1, h1⟩ := trod_at hf 1 _ rfl 138 1 7 rfl rfl (by kernel_rfl)
  obtain ⟨y2, h2⟩ := trod_at hf 2 _ rfl 27 8 2 rfl rfl (by kernel_rfl)
  obtain ⟨y3, h3⟩ := trod_at hf 3 _ rfl 25 10 1 rfl rfl (by kernel_rfl)
  obtain ⟨y4, h4⟩ := trod_at hf 4 _ rfl 25 11 1 rfl rfl (by kernel_rfl)
  obtain ⟨y5, h5⟩ := trod_at hf 5 _ rfl 3 12 1 rfl rfl (by kernel_rfl)
  obtain ⟨y6, h6⟩ := trod_at hf 6 _ rfl 3 13 1 rfl rfl (by kernel_rfl)
  obtain ⟨y7, h7⟩ := trod_at hf 7 _ rfl 27 14 2 rfl rfl (by kernel_rfl)
  obtain ⟨y8, h8⟩ := trod_at hf 8 _ rfl 27 16 2 rfl rfl (by kernel_rfl)
  obtain ⟨y9, h9⟩ := trod_at hf 9 _ rfl 25 18 1 rfl rfl (by kernel_rfl)
  obtain ⟨y10, h10⟩ := trod_at hf 10 _ rfl 97 19 11 rfl rfl (by kernel_rfl)
  obtain ⟨a0, e0, i0⟩ := read_i (by kernel_rfl) h0
  obtain ⟨a1, e1⟩ := read_place h1
  obtain ⟨a2, e2, i2⟩ := read_v h2
  obtain ⟨a3, e3, i3⟩ := read_i (by kernel_rfl) h3
  obtain ⟨a4, e4, i4⟩ := read_i (by kernel_rfl) h4
  obtain ⟨a5, e5, i5⟩ := read_i (by kernel_rfl) h5
  obtain ⟨a6, e6, i6⟩ := read_i (by kernel_rfl) h6
  obtain ⟨a7, e7, i7⟩ := read_v h7
  obtain ⟨a8, e8, i8⟩ := read_v h8
  obtain ⟨a9, e9, i9⟩ := read_i (by kernel_rfl) h9
  obtain ⟨b, pv, e10, hv, r1, r2, r3, r4, r5, r6, r7, r8, r9⟩ := read_body h10
  clear hf h
  match cs, hl with
  | [c0, c1, c2, c3, c4, c5, c6, c7, c8, c9, c10, c11, c12, c13, c14, c15, c16, c17, c18, c19, c20, c21, c22, c23, c24, c25, c26, c27, c28, c29], _ =>
    simp [cV] at e0 e1 e2 e3 e4 e5 e6 e7 e8 e9 e10
    refine ⟨(⟨a0, a1, a2, a3, a4, a5, a6, a7, a8, a9, b⟩, pv), ?_, hv, ⟨i9, r2, r3, r4, r5, r6, r7, r8, r9⟩⟩
    simp [cDV, cD, e0, e1, e2, e3, e4, e5, e6, e7, e8, e9, e10]
theorem rds_deeds {v : Value} {l : List DV} (h : Rds EDeed 30 w v l) : DsS w v l ∧ ∀ x ∈ l, ID x.1 := by
  obtain ⟨css, h1, h2, h3⟩ := h
  have hcss : css = l.map cDV := by
    apply List.ext_getElem
    · simp [h1]
    · intro i a b
      simp only [List.getElem_map]
      exact (h2 i (by simpa using b) a).1.1
  refine ⟨⟨?_, fun x hx => ?_⟩, fun x hx => ?_⟩
  · have : css.flatten = l.flatMap cDV := by rw [hcss, List.flatMap_def]
    rw [← this]; exact h3
  · obtain ⟨i, hi, rfl⟩ := List.getElem_of_mem hx
    exact (h2 i hi (by omega)).1.2.1
  · obtain ⟨i, hi, rfl⟩ := List.getElem_of_mem hx
    exact (h2 i hi (by omega)).1.2.2
theorem open_deeds {v : Value} {d : DataW H} {ps : List MemPlace} (h : DataW.Trod enc Tryz.prog w base spare held 22 v d ps) (hs : v.cells = #[v]) : ∃ l, DsS w v l ∧ ∀ x ∈ l, ID x.1 := by
  obtain ⟨fuel, hf⟩ := h
  obtain ⟨u, l, hc, hr⟩ := trod_rds (size := 30) EDeed Tryz.underlying22 (by kernel_rfl) (by decide) (fun n cs x hx _ => read_deed hx) hf
  rw [hs] at hc
  obtain rfl : v = u := by simpa using hc
  exact ⟨l, rds_deeds hr⟩
end
end Go.Proofs.YtbiadpkglcdihaaGreat
