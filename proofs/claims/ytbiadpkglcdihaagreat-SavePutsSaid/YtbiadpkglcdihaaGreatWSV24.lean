/- Words and walks that SV rests on: DeedRd, CrcBend, DiskBend. -/
import Derived.Test.YtbiadpkglcdihaaGreatWSV10
import Derived.Test.YtbiadpkglcdihaaGreatWSV4
import Derived.Deep.Strs
import Derived.Test.YtbiadpkglcdihaaGreatWSV1
import Derived.Deep.QuietTactic
import Derived.BigQuiet
import Derived.StillTailTactics
import Derived.Test.YtbiadpkglcdihaaGreatWSV12
/- Deeds as they are read. -/
namespace Go.Proofs.YtbiadpkglcdihaaGreat
open Go.RowKit Go.ChangeShapes Go.WideShapes

section
variable {H : Type} {enc : TypeId × Value → H} {w : World} {base : Nat} {spare : Nat → Bool} {held : Bool}
theorem trod_field {P : Program} {t : TypeId} {fs : Array Field} {fuel : Nat} {cs : List Value} {x : DataW H × List MemPlace} (ht : P.underlying t = some (.struct fs)) (h : DataW.trod enc P w base spare held fuel t cs = some x) :
    cs.length = P.cellsOf t ∧ ∃ n, ∀ (i : Nat) (f : Field), fs[i]? = some f → ∃ y, DataW.trod enc P w base spare held n f.type ((cs.drop f.offset).take (P.cellsOf f.type)) = some y := by
  obtain ⟨xs, n, _, rfl, hl, hlen, hf⟩ := DataW.trod_struct ht h
  refine ⟨hl, n, fun i f hi => ?_⟩
  have hfi := hf i f hi
  have hlt : i < xs.length := by
    have := (Array.getElem?_eq_some_iff.mp hi).1
    simpa [hlen] using this
  rw [List.getElem?_eq_getElem hlt] at hfi
  exact ⟨_, hfi⟩
theorem trod_at {P : Program} {fs : Array Field} {n : Nat} {cs : List Value} (hf : ∀ (i : Nat) (f : Field), fs[i]? = some f → ∃ y, DataW.trod enc P w base spare held n f.type ((cs.drop f.offset).take (P.cellsOf f.type)) = some y) (i : Nat) (f : Field) (hi : fs[i]? = some f) (ty : TypeId) (off sz : Nat) (h1 : f.type = ty) (h2 : f.offset = off) (h3 : P.cellsOf ty = sz) :
    ∃ y, DataW.trod enc P w base spare held n ty ((cs.drop off).take sz) = some y := by
  obtain ⟨y, h⟩ := hf i f hi
  rw [h1, h2, h3] at h
  exact ⟨y, h⟩
theorem read_i {n : Nat} {cs : List Value} {x : DataW H × List MemPlace} {t : TypeId} (hu : Tryz.prog.underlying t = some (.int .i64)) (h : DataW.trod enc Tryz.prog w base spare held n t cs = some x) : ∃ a : Int, cs = [.int .i64 a] ∧ I64 a := by
  obtain ⟨a, ha, lo, hi⟩ := trod_i64 hu h
  exact ⟨a, ha, lo, hi⟩
theorem read_v {fuel : Nat} {cs : List Value} {x : DataW H × List MemPlace} (h : DataW.trod enc Tryz.prog w base spare held fuel 27 cs = some x) : ∃ a : V2, cs = cV a ∧ IV a := by
  obtain ⟨hl, n, hf⟩ := trod_field Tryz.underlying27 h
  rw [show Tryz.prog.cellsOf 27 = 2 by kernel_rfl] at hl
  obtain ⟨y0, h0⟩ := trod_at hf 0 _ rfl 25 0 1 rfl rfl (by kernel_rfl)
  obtain ⟨y1, h1⟩ := trod_at hf 1 _ rfl 25 1 1 rfl rfl (by kernel_rfl)
  obtain ⟨a, ha, ia⟩ := read_i (by kernel_rfl) h0
  obtain ⟨b, hb, ib⟩ := read_i (by kernel_rfl) h1
  clear hf h
  match cs, hl with
  | [c0, c1], _ =>
    simp at ha hb
    exact ⟨(a, b), by rw [ha, hb]; rfl, ia, ib⟩
def EV (_ : World) (a : V2) (c : List Value) : Prop := c = cV a ∧ IV a
theorem rds_vs {v : Value} {l : List V2} (h : Rds EV 2 w v l) : VsS w v l ∧ ∀ a ∈ l, IV a := by
  obtain ⟨css, h1, h2, h3⟩ := h
  have hcss : css = l.map cV := by
    apply List.ext_getElem
    · simp [h1]
    · intro i a b
      simp only [List.getElem_map]
      exact (h2 i (by simpa using b) a).1.1
  refine ⟨?_, fun a ha => ?_⟩
  · have : css.flatten = l.flatMap cV := by rw [hcss, List.flatMap_def]
    unfold VsS
    rw [← this]; exact h3
  · obtain ⟨i, hi, rfl⟩ := List.getElem_of_mem ha
    exact (h2 i hi (by omega)).1.2
theorem read_vs {fuel : Nat} {cs : List Value} {x : DataW H × List MemPlace} (h : DataW.trod enc Tryz.prog w base spare held fuel 93 cs = some x) : ∃ v l, cs = [v] ∧ VsS w v l ∧ ∀ a ∈ l, IV a := by
  obtain ⟨v, l, h1, h2⟩ := trod_rds (size := 2) EV Tryz.underlying93 (by kernel_rfl) (by decide) (fun n cs x hx _ => by
    obtain ⟨a, ha, ia⟩ := read_v hx
    exact ⟨a, ha, ia⟩) h
  exact ⟨v, l, h1, rds_vs h2⟩
theorem read_shape {fuel : Nat} {cs : List Value} {x : DataW H × List MemPlace} (h : DataW.trod enc Tryz.prog w base spare held fuel 95 cs = some x) : ∃ (s : Shp) (pv : Value), cs = [.int .i64 s.kind, .int .i64 s.r, pv] ∧ VsS w pv s.p ∧ I64 s.kind ∧ I64 s.r ∧ ∀ a ∈ s.p, IV a := by
  obtain ⟨hl, n, hf⟩ := trod_field Tryz.underlying95 h
  rw [show Tryz.prog.cellsOf 95 = 3 by kernel_rfl] at hl
  obtain ⟨y0, h0⟩ := trod_at hf 0 _ rfl 3 0 1 rfl rfl (by kernel_rfl)
  obtain ⟨y1, h1⟩ := trod_at hf 1 _ rfl 25 1 1 rfl rfl (by kernel_rfl)
  obtain ⟨y2, h2⟩ := trod_at hf 2 _ rfl 93 2 1 rfl rfl (by kernel_rfl)
  obtain ⟨a, ha, ia⟩ := read_i (by kernel_rfl) h0
  obtain ⟨b, hb, ib⟩ := read_i (by kernel_rfl) h1
  obtain ⟨v, l, hv, hvs, hi⟩ := read_vs h2
  clear hf h
  match cs, hl with
  | [c0, c1, c2], _ =>
    simp at ha hb hv
    subst ha hb hv
    exact ⟨⟨a, b, l⟩, c2, rfl, hvs, ia, ib, hi⟩
theorem read_body {fuel : Nat} {cs : List Value} {x : DataW H × List MemPlace} (h : DataW.trod enc Tryz.prog w base spare held fuel 97 cs = some x) : ∃ (x : Bdy) (pv : Value), cs = [.int .i64 x.id, .int .i64 x.pos.1, .int .i64 x.pos.2, .int .i64 x.vel.1, .int .i64 x.vel.2, .int .i64 x.angle, .int .i64 x.spin, .int .i64 x.density, .int .i64 x.shape.kind, .int .i64 x.shape.r, pv] ∧ VsS w pv x.shape.p ∧ I64 x.id ∧ IV x.pos ∧ IV x.vel ∧ I64 x.angle ∧ I64 x.spin ∧ I64 x.density ∧ I64 x.shape.kind ∧ I64 x.shape.r ∧ ∀ a ∈ x.shape.p, IV a := by
  obtain ⟨hl, n, hf⟩ := trod_field Tryz.underlying97 h
  rw [show Tryz.prog.cellsOf 97 = 11 by kernel_rfl] at hl
  obtain ⟨y0, h0⟩ := trod_at hf 0 _ rfl 3 0 1 rfl rfl (by kernel_rfl)
  obtain ⟨y1, h1⟩ := trod_at hf 1 _ rfl 27 1 2 rfl rfl (by kernel_rfl)
  obtain ⟨y2, h2⟩ := trod_at hf 2 _ rfl 27 3 2 rfl rfl (by kernel_rfl)
  obtain ⟨y3, h3⟩ := trod_at hf 3 _ rfl 25 5 1 rfl rfl (by kernel_rfl)
  obtain ⟨y4, h4⟩ := trod_at hf 4 _ rfl 25 6 1 rfl rfl (by kernel_rfl)
  obtain ⟨y5, h5⟩ := trod_at hf 5 _ rfl 25 7 1 rfl rfl (by kernel_rfl)
  obtain ⟨y6, h6⟩ := trod_at hf 6 _ rfl 95 8 3 rfl rfl (by kernel_rfl)
  obtain ⟨a0, e0, i0⟩ := read_i (by kernel_rfl) h0
  obtain ⟨a1, e1, i1⟩ := read_v h1
  obtain ⟨a2, e2, i2⟩ := read_v h2
  obtain ⟨a3, e3, i3⟩ := read_i (by kernel_rfl) h3
  obtain ⟨a4, e4, i4⟩ := read_i (by kernel_rfl) h4
  obtain ⟨a5, e5, i5⟩ := read_i (by kernel_rfl) h5
  obtain ⟨s, pv, e6, hv, is, ir, ip⟩ := read_shape h6
  clear hf h
  match cs, hl with
  | [c0, c1, c2, c3, c4, c5, c6, c7, c8, c9, c10], _ =>
    simp [cV] at e0 e1 e2 e3 e4 e5 e6
    refine ⟨⟨a0, a1, a2, a3, a4, a5, s⟩, pv, ?_, hv, i0, i1, i2, i3, i4, i5, is, ir, ip⟩
    simp [e0, e1, e2, e3, e4, e5, e6]
theorem read_seed {fuel : Nat} {cs : List Value} {x : DataW H × List MemPlace} (h : DataW.trod enc Tryz.prog w base spare held fuel 136 cs = some x) : ∃ s : Sd, cs = [.int .i64 s.kind, .int .i64 s.n, .int .i64 s.size, .int .i64 s.turn] := by
  obtain ⟨hl, n, hf⟩ := trod_field Tryz.underlying136 h
  rw [show Tryz.prog.cellsOf 136 = 4 by kernel_rfl] at hl
  obtain ⟨y0, h0⟩ := trod_at hf 0 _ rfl 3 0 1 rfl rfl (by kernel_rfl)
  obtain ⟨y1, h1⟩ := trod_at hf 1 _ rfl 3 1 1 rfl rfl (by kernel_rfl)
  obtain ⟨y2, h2⟩ := trod_at hf 2 _ rfl 3 2 1 rfl rfl (by kernel_rfl)
  obtain ⟨y3, h3⟩ := trod_at hf 3 _ rfl 3 3 1 rfl rfl (by kernel_rfl)
  obtain ⟨a0, e0, i0⟩ := read_i (by kernel_rfl) h0
  obtain ⟨a1, e1, i1⟩ := read_i (by kernel_rfl) h1
  obtain ⟨a2, e2, i2⟩ := read_i (by kernel_rfl) h2
  obtain ⟨a3, e3, i3⟩ := read_i (by kernel_rfl) h3
  clear hf h
  match cs, hl with
  | [c0, c1, c2, c3], _ =>
    simp at e0 e1 e2 e3
    exact ⟨⟨a0, a1, a2, a3⟩, by simp [e0, e1, e2, e3]⟩
theorem read_place {fuel : Nat} {cs : List Value} {x : DataW H × List MemPlace} (h : DataW.trod enc Tryz.prog w base spare held fuel 138 cs = some x) : ∃ p : Pls, cs = [.int .i64 p.seed.kind, .int .i64 p.seed.n, .int .i64 p.seed.size, .int .i64 p.seed.turn, .int .i64 p.pos.1, .int .i64 p.pos.2, .int .i64 p.angle] := by
  obtain ⟨hl, n, hf⟩ := trod_field Tryz.underlying138 h
  rw [show Tryz.prog.cellsOf 138 = 7 by kernel_rfl] at hl
  obtain ⟨y0, h0⟩ := trod_at hf 0 _ rfl 136 0 4 rfl rfl (by kernel_rfl)
  obtain ⟨y1, h1⟩ := trod_at hf 1 _ rfl 27 4 2 rfl rfl (by kernel_rfl)
  obtain ⟨y2, h2⟩ := trod_at hf 2 _ rfl 25 6 1 rfl rfl (by kernel_rfl)
  obtain ⟨a0, e0⟩ := read_seed h0
  obtain ⟨a1, e1, i1⟩ := read_v h1
  obtain ⟨a2, e2, i2⟩ := read_i (by kernel_rfl) h2
  clear hf h
  match cs, hl with
  | [c0, c1, c2, c3, c4, c5, c6], _ =>
    simp [cV] at e0 e1 e2
    exact ⟨⟨a0, a1, a2⟩, by simp [e0, e1, e2]⟩
def EDeed (w : World) (x : DV) (c : List Value) : Prop := c = cDV x ∧ VsS w x.2 x.1.raw.shape.p ∧ ID x.1
theorem read_deed {fuel : Nat} {cs : List Value} {x : DataW H × List MemPlace} (h : DataW.trod enc Tryz.prog w base spare held fuel 140 cs = some x) : ∃ y, EDeed w y cs := by
  obtain ⟨hl, n, hf⟩ := trod_field Tryz.underlying140 h
  rw [show Tryz.prog.cellsOf 140 = 30 by kernel_rfl] at hl
  obtain ⟨y0, h0⟩ := trod_at hf 0 _ rfl 3 0 1 rfl rfl (by kernel_rfl)
  obtain ⟨y1, h1⟩ := trod_at hf 1 _ rfl 138 1 7 rfl rfl (by kernel_rfl)
  obtain ⟨y2, h2⟩ := trod_at hf 2 _ rfl 27 8 2 rfl rfl (by kernel_rfl)
  obtain ⟨y3, h3⟩ := trod_at hf 3 _ rfl 25 10 1 rfl rfl (by kernel_rfl)
  obtain ⟨y4, h4⟩ := trod_at hf 4 _ rfl 25 11 1 rfl rfl (by kernel_rfl)
  obtain ⟨y5, h5⟩ := trod_at hf 5 _ rfl 3 12 1 rfl rfl (by kernel_rfl)
  obtain ⟨y6, h6⟩ := trod_at hf 6 _ rfl 3 13 1 rfl rfl (by kernel_rfl)
  obtain ⟨y7, h7⟩ := trod_at hf 7 _ rfl 27 14 2 rfl rfl (by kernel_rfl)
  obtain ⟨y8, h8⟩ := trod_at hf 8 _ rfl 27 16 2 rfl rfl (by kernel_rfl)
  obtain ⟨y9, h9⟩ := trod_at hf 9 _ rfl 25 18 1 rfl rfl (by kernel_rfl)
  obtain ⟨y10, h10⟩ := trod_at hf 10 _ rfl 97 19 11 rfl rfl (by kernel_rfl)
  obtain ⟨a0, e0, i0⟩ := read_i (by kernel_rfl) h0
  obtain ⟨a1, e1⟩ := read_place h1
  obtain ⟨a2, e2, i2⟩ := read_v h2
  obtain ⟨a3, e3, i3⟩ := read_i (by kernel_rfl) h3
  obtain ⟨a4, e4, i4⟩ := read_i (by kernel_rfl) h4
  obtain ⟨a5, e5, i5⟩ := read_i (by kernel_rfl) h5
  obtain ⟨a6, e6, i6⟩ := read_i (by kernel_rfl) h6
  obtain ⟨a7, e7, i7⟩ := read_v h7
  obtain ⟨a8, e8, i8⟩ := read_v h8
  obtain ⟨a9, e9, i9⟩ := read_i (by kernel_rfl) h9
  obtain ⟨b, pv, e10, hv, r1, r2, r3, r4, r5, r6, r7, r8, r9⟩ := read_body h10
  clear hf h
  match cs, hl with
  | [c0, c1, c2, c3, c4, c5, c6, c7, c8, c9, c10, c11, c12, c13, c14, c15, c16, c17, c18, c19, c20, c21, c22, c23, c24, c25, c26, c27, c28, c29], _ =>
    simp [cV] at e0 e1 e2 e3 e4 e5 e6 e7 e8 e9 e10
    refine ⟨(⟨a0, a1, a2, a3, a4, a5, a6, a7, a8, a9, b⟩, pv), ?_, hv, ⟨i9, r2, r3, r4, r5, r6, r7, r8, r9⟩⟩
    simp [cDV, cD, e0, e1, e2, e3, e4, e5, e6, e7, e8, e9, e10]
theorem rds_deeds {v : Value} {l : List DV} (h : Rds EDeed 30 w v l) : DsS w v l ∧ ∀ x ∈ l, ID x.1 := by
  obtain ⟨css, h1, h2, h3⟩ := h
  have hcss : css = l.map cDV := by
    apply List.ext_getElem
    · simp [h1]
    · intro i a b
      simp only [List.getElem_map]
      exact (h2 i (by simpa using b) a).1.1
  refine ⟨⟨?_, fun x hx => ?_⟩, fun x hx => ?_⟩
  · have : css.flatten = l.flatMap cDV := by rw [hcss, List.flatMap_def]
    rw [← this]; exact h3
  · obtain ⟨i, hi, rfl⟩ := List.getElem_of_mem hx
    exact (h2 i hi (by omega)).1.2.1
  · obtain ⟨i, hi, rfl⟩ := List.getElem_of_mem hx
    exact (h2 i hi (by omega)).1.2.2
theorem open_deeds {v : Value} {d : DataW H} {ps : List MemPlace} (h : DataW.Trod enc Tryz.prog w base spare held 22 v d ps) (hs : v.cells = #[v]) : ∃ l, DsS w v l ∧ ∀ x ∈ l, ID x.1 := by
  obtain ⟨fuel, hf⟩ := h
  obtain ⟨u, l, hc, hr⟩ := trod_rds (size := 30) EDeed Tryz.underlying22 (by kernel_rfl) (by decide) (fun n cs x hx _ => read_deed hx) hf
  rw [hs] at hc
  obtain rfl : v = u := by simpa using hc
  exact ⟨l, rds_deeds hr⟩
end
end Go.Proofs.YtbiadpkglcdihaaGreat

/- crc.Bend: bits turned round. -/
namespace Go.Proofs.YtbiadpkglcdihaaGreat
open Go.RowKit

def bendStep (at_ : Int) (mask : UInt32) (l : List UInt8) (k : Nat) : List UInt8 :=
  if mask >>> UInt32.ofNat k &&& 1 = 1 ∧ 0 ≤ at_ + k ∧ (at_ + k) / 8 < l.length then l.set ((at_ + k) / 8).toNat (l.getD ((at_ + k) / 8).toNat 0 ^^^ ((1 : UInt8) <<< UInt8.ofNat ((at_ + k) % 8).toNat)) else l
def bendB (l : List UInt8) (at_ : Int) (mask : UInt32) : List UInt8 := (List.range 32).foldl (bendStep at_ mask) l
@[simp] theorem bendStep_length (at_ : Int) (mask : UInt32) (l : List UInt8) (k : Nat) : (bendStep at_ mask l k).length = l.length := by
  unfold bendStep; split <;> simp
theorem bendFold_length (at_ : Int) (mask : UInt32) (ks : List Nat) (l : List UInt8) : (ks.foldl (bendStep at_ mask) l).length = l.length := by
  induction ks generalizing l with
  | nil => rfl
  | cons k ks ih => rw [List.foldl_cons, ih, bendStep_length]
theorem bendB_length (l : List UInt8) (at_ : Int) (mask : UInt32) : (bendB l at_ mask).length = l.length := bendFold_length _ _ _ _
theorem range_snoc (n : Nat) : List.range (n + 1) = List.range n ++ [n] := List.range_succ

theorem u32_div_k (a : UInt32) (j : Nat) (hj : j < 32) : n32 a / 2 ^ j = n32 (a >>> UInt32.ofNat j) := by
  unfold n32; rw [UInt32.toNat_shiftRight]
  simp [Nat.mod_eq_of_lt (show j < 2 ^ 32 by omega), Nat.mod_eq_of_lt hj, Nat.shiftRight_eq_div_pow]

section
attribute [local go_sem] u32_and_1 and7 u8_xor'
set_option maxHeartbeats 800000 in
theorem Bend_any (v : Value) (l : List UInt8) (at_ : Int) (mask : UInt32) (w : World) (hl : Bs w v l) (h1 : -4611686018427387904 ≤ at_) (h2 : at_ ≤ 4611686018427387904) (hlen : l.length ≤ 140737488355000) :
    Calls Tryz.prog 16 #[v, .int .i64 at_, .int .u32 (n32 mask)] w fun e w' => ∃ ao c, e = .returned (.slice ao l.length c) ∧ OwB w' w.heap.size (.slice ao l.length c) (bendB l at_ mask) ∧ Chg [] w w' := by
  go_enter Tryz.func16, Tryz.ntmps16
  go_wp2_with (refine wpAppB rfl _ _ rfl w.heap.size (.slice none 0 0) _ rfl (OwB.nil _ _) _ _ rfl hl (by simp; omega) (Nat.le_refl _) ?_; intro ao c w1 k1 k2 k3)
  simp only [List.length_nil, Nat.zero_add, List.nil_append] at k1
  go_loopw [8, 9, 12] (fun _ _ i wr => ∃ k : Nat, k ≤ 32 ∧ i = .int .i64 k ∧ OwB wr w.heap.size (.slice ao l.length c) ((List.range k).foldl (bendStep at_ mask) l) ∧ Chg [] w wr)
    (fun _ _ i _ => 32 - (intOf i).toNat)
  case atStart => exact ⟨0, by omega, rfl, by simpa using k1, (Chg.refl _ _).grown k2 (by simp [Value.ownBlock])⟩
  case round =>
    obtain ⟨k, hk, rfl, how, hch⟩ := hrel
    by_cases hlt : k < 32
    · have hsh : bits .and .u32 (n32 mask / 2 ^ k) 1 = n32 (mask >>> UInt32.ofNat k &&& 1) := by
        rw [u32_div_k mask k hlt]; exact u32_and_1 _
      have hS : (List.range (k + 1)).foldl (bendStep at_ mask) l = bendStep at_ mask ((List.range k).foldl (bendStep at_ mask) l) k := by rw [range_snoc, List.foldl_append]; rfl
      have hL : ((List.range k).foldl (bendStep at_ mask) l).length = l.length := bendFold_length _ _ _ _
      have HS := hd hS
      have HL := hd hL
      clear hS hL
      generalize (List.range k).foldl (bendStep at_ mask) l = cur at *
      by_cases hd : mask >>> UInt32.ofNat k &&& 1 = 1 ∧ 0 ≤ at_ + k ∧ (at_ + k) / 8 < l.length
      · obtain ⟨d1, d2, d3⟩ := hd
        obtain ⟨i, hi⟩ := Int.eq_ofNat_of_zero_le d2
        have d1' : (n32 (mask >>> UInt32.ofNat k &&& 1) == 1) = true := by rw [n32_eq1, d1]; rfl
        have hI := hd hi
        have hi8 : i / 8 < l.length := by omega
        have hx := List.getElem?_eq_getElem (show i / 8 < cur.length by rw [HL.out]; exact hi8)
        have hcl : i / 8 < cur.length := by rw [HL.out]; exact hi8
        obtain ⟨g, rfl, -, hg1, hg2⟩ := how.addr (by omega)
        have hcell := how.cell (i / 8) hcl
        have hfree := how.free (i / 8)
        have hii : (i : Int) / 8 < l.length := by omega
        have hset := fun y => how.set (i / 8) (cur[i / 8] ^^^ y)
        generalize hX : cur[i / 8] = x at *
        have HX := hd hX
        clear hX hi8 d3
        have hbit := u8_bit (i % 8) (by omega) .i64
        have hcast : ((i % 8 : Nat) : Int) = (i : Int) % 8 := by omega
        rw [hcast] at hbit
        clear hcast
        go_wp2_with fail
        go_region
        go_wp2
        go_roundw
        case rel =>
          refine ⟨k + 1, by omega, by go_num, ?_, ?_⟩
          · have hb : bendStep at_ mask cur k = cur.set (i / 8) (x ^^^ 1 <<< UInt8.ofNat (i % 8)) := by
              unfold bendStep
              rw [if_pos ⟨d1, d2, by rw [HL.out]; omega⟩, hI.out]
              rw [show ((i : Int) / 8).toNat = i / 8 by omega, show ((i : Int) % 8).toNat = i % 8 by omega, List.getD, hx]
              rfl
            rw [HS.out, hb]
            have hv := hset (1 <<< UInt8.ofNat (i % 8))
            rw [← u8_xor', ← u8_bitv (i % 8) (by omega)] at hv
            exact hv
          · exact hch.drew.setCell _ _ (fun h => by simp at h; omega)
        case measure => simp [intOf]; omega
      · have hno : bendStep at_ mask cur k = cur := by unfold bendStep; rw [if_neg (by rw [HL.out]; exact hd)]
        rw [hno] at HS
        clear hno
        by_cases d1 : mask >>> UInt32.ofNat k &&& 1 = 1
        · have d1' : (n32 (mask >>> UInt32.ofNat k &&& 1) == 1) = true := by rw [n32_eq1, d1]; rfl
          by_cases d2 : 0 ≤ at_ + k
          · have d3 : ¬ (at_ + k) / 8 < l.length := fun h => hd ⟨d1, d2, h⟩
            clear hd
            go_wp2
            all_goals
              go_roundw
              case rel => exact ⟨k + 1, by omega, by go_num, by rw [HS.out]; exact how, hch⟩
              case measure => simp [intOf]; omega
          · clear hd
            go_wp2
            all_goals
              go_roundw
              case rel => exact ⟨k + 1, by omega, by go_num, by rw [HS.out]; exact how, hch⟩
              case measure => simp [intOf]; omega
        · have d1' : (n32 (mask >>> UInt32.ofNat k &&& 1) == 1) = false := by rw [n32_eq1]; simpa using d1
          clear hd d1
          go_wp2
          all_goals
            go_roundw
            case rel => exact ⟨k + 1, by omega, by go_num, by rw [HS.out]; exact how, hch⟩
            case measure => simp [intOf]; omega
    · have hkn : k = 32 := by omega
      subst hkn
      go_wp2
      go_ret
      exact ⟨ao, c, rfl, how, hch⟩
end
end Go.Proofs.YtbiadpkglcdihaaGreat

/- Disk.Bend. -/
namespace Go.Proofs.YtbiadpkglcdihaaGreat
open Go.RowKit

variable {w w' : World} {fp : List Nat} {b : Nat} {fv cv : Value} {nb sb : Nat} {hs : List HF} {d : Dsk}

def bendDsk (d : Dsk) (s : List UInt8) (at_ : Int) (mask : UInt32) : Dsk :=
  match nget d.names s with
  | none => d
  | some i => setF d i (bendB (d.files.getD i ([], 0)).1 at_ mask, (d.files.getD i ([], 0)).2)

set_option maxHeartbeats 1000000 in
theorem DBend_any (h : Dk w fp b d) (s : List UInt8) (hsl : s.length ≤ 140737488355328) (at_ : Int) (mask : UInt32) (ha1 : -4611686018427387904 ≤ at_) (ha2 : at_ ≤ 4611686018427387904) :
    Calls Tryz.prog 15 #[.pointer (some ⟨b, 0, none⟩), .string (strB s), .int .i64 at_, .int .u32 (n32 mask)] w fun e w' => e = .returned (.bool (nget d.names s).isSome) ∧ DkOut w fp b (bendDsk d s at_ mask) w' := by
  obtain ⟨fv, cv, nb, sb, hs, h1⟩ := h
  obtain ⟨CD, hCD⟩ : ∃ x, bendDsk d s at_ mask = x := ⟨_, rfl⟩
  rw [hCD]
  unfold bendDsk at hCD
  have hfind := find_any h1 s hsl
  have H1 := hd h1
  clear h1
  go_enter Tryz.func15, Tryz.ntmps15
  rcases hi : nget d.names s with _ | i
  · rw [hi] at hfind hCD
    subst hCD
    go_wp2_with fail
    refine (hfind).mono ?_
    rintro e w2 ⟨rfl, rfl⟩
    go_wp2_with fail
    go_ret
    exact ⟨rfl, DkOut.same ⟨_, _, _, _, _, H1.out⟩ (Chg.refl _ _)⟩
  · rw [hi] at hfind hCD
    have HI := hd hi
    have HCD := hd hCD
    clear hCD hi
    go_wp2_with fail
    refine (hfind).mono ?_
    rintro e w2 ⟨rfl, g, c, rfl, hlt, rfl⟩
    clear hfind
    obtain ⟨ao, c', hv, q0, q1, hfi⟩ := H1.out.file hlt
    have hby := H1.out.bytes _ (List.getElem_mem hlt)
    rw [hv] at hby
    have hgf := H1.out.good.files _ (List.mem_of_getElem? hfi)
    have hcd : setF d i (bendB hs[i].2.1 at_ mask, hs[i].2.2) = CD := by
      rw [← HCD.out]
      show _ = setF d i (bendB (d.files.getD i ([], 0)).1 at_ mask, (d.files.getD i ([], 0)).2)
      rw [show d.files.getD i ([], 0) = hs[i].2 from files_get H1.out hlt]
    have hgood : GoodD (setF d i (bendB hs[i].2.1 at_ mask, hs[i].2.2)) := H1.out.good.putF i _ (by simp only [bendB_length]; exact hgf)
    have HBS := hd (fun (w4 : World) (v' : Value) (hc : Chg [] w2 w4) (hv : OwB w4 0 v' (bendB hs[i].2.1 at_ mask)) (hm : ∀ k, v'.ownBlock = some k → w2.heap.size ≤ k) => H1.out.byteSet hlt (hc.mono (by simp)) hv (.inr hm) hgood)
    rw [hcd] at HBS
    have hbs := hby.bs
    have hjlt : i * 2 < hs.length * 2 := by omega
    have HCX := hd (fileCells_get hs i hlt).1
    have HFN := hd (H1.out.fpf g rfl)
    have HRF := hd H1.out.files
    have hll := hgf.2.2
    have HLEN := hd (bendB_length hs[i].2.1 at_ mask)
    clear hfi hgf hcd hgood q1 hby
    go_wp2_with fail
    refine (Bend_any _ _ at_ mask _ hbs ha1 ha2 (by omega)).mono ?_
    rintro e w3 ⟨ao3, c3, rfl, hb3, hc3⟩
    have hrow4 := ownsRow_k HRF.out hc3
    have q4 := World.ownsRow.cellAt hrow4 (i * 2) hjlt
    rw [HCX.out] at q4
    have f4 := World.ownsRow.frozenAt hrow4 (i * 2)
    have hfin := HBS.out w3 _ hc3 (hb3.mono (Nat.zero_le _)) (fun k hk => (hb3.lo k hk).1)
    have hch : Chg fp w2 (w3.setCell ⟨g, i * 2, none⟩ (.slice ao3 hs[i].2.1.length c3)) := (hc3.mono (by simp)).setCell _ _ (fun _ => HFN.out)
    have hgr : Gr fp w2 ((Value.slice ao3 hs[i].2.1.length c3).ownBlock.toList ++ fp) := fun k hk => by
      rcases List.mem_append.1 hk with hk | hk
      · exact .inr (hb3.lo k (by simpa using hk)).1
      · exact .inl hk
    have FIN := hd (DkOut.mk ⟨_, _, _, _, _, hfin⟩ hch hgr)
    clear hfin hch hgr hb3 hrow4 hc3 hbs
    go_wp2_with fail
    go_ret
    exact ⟨rfl, FIN.out⟩
end Go.Proofs.YtbiadpkglcdihaaGreat
