/- Words and walks that SD rests on: DiskArm. -/
import Derived.Test.YtbiadpkglcdihaaGreatWSD2
import Derived.Deep.Cut
/- Disk.Arm. -/
namespace Go.Proofs.YtbiadpkglcdihaaGreat
open Go.RowKit

variable {w : World} {fp : List Nat} {b : Nat} {fv cv : Value} {nb sb : Nat} {hs : List HF} {d : Dsk}

def latD (ops n : Int) : Int := if n < 0 ∨ 1099511627776 < n then -1 else ops + n
def armD (d : Dsk) (down fail : Int) : Dsk := { d with down := latD d.ops down, fail := latD d.ops fail }

set_option maxHeartbeats 400000 in
theorem later_any (p : Addr) (n ops : Int) (hp : w.cell? p = some (.pointer (some ⟨b, 0, none⟩))) (h5 : w.cell? ⟨b, 5, none⟩ = some (.int .i64 ops)) (h0 : 0 ≤ ops) (h1 : ops ≤ 1073741824) :
    Calls Tryz.prog 64 #[.int .i64 n, .pointer (some p)] w fun e w' => e = .returned (.int .i64 (latD ops n)) ∧ w = w' := by
  obtain ⟨R, hR⟩ : ∃ R, latD ops n = R := ⟨_, rfl⟩
  rw [hR]
  unfold latD at hR
  have HR := hd hR
  clear hR
  by_cases hn : n < 0
  · go_enter Tryz.func64, Tryz.ntmps64
    go_wp2_with fail
    refine bodyPost_ret (v := .int .i64 (-1)) ?_ rfl ⟨?_, rfl⟩
    · simp only [results]; go_simp
    · rw [← HR.out, if_pos (.inl hn)]
  · by_cases hn2 : 1099511627776 < n
    · go_enter Tryz.func64, Tryz.ntmps64
      go_wp2_with fail
      refine bodyPost_ret (v := .int .i64 (-1)) ?_ rfl ⟨?_, rfl⟩
      · simp only [results]; go_simp
      · rw [← HR.out, if_pos (.inr hn2)]
    · have hw : IntKind.i64.wrap (ops + n) = ops + n := IntWalk.i64_in _ (by omega)
      go_enter Tryz.func64, Tryz.ntmps64
      go_wp2_with fail
      refine bodyPost_ret (v := .int .i64 (ops + n)) ?_ rfl ⟨?_, rfl⟩
      · simp only [results]; go_simp
      · rw [← HR.out, if_neg (by omega)]

set_option maxHeartbeats 1000000 in
theorem Arm_any (h : Dk w fp b d) (down fail_ : Int) :
    Calls Tryz.prog 26 #[.pointer (some ⟨b, 0, none⟩), .int .i64 down, .int .i64 fail_] w fun e w' => e = .returned (.tuple #[]) ∧ DkOut w fp b (armD d down fail_) w' := by
  obtain ⟨fv, cv, nb, sb, hs, h⟩ := h
  have hops := h.good.ops
  have hblt := h.box.lt
  have hc := Chg.refl [] w
  go_enter Tryz.func26, Tryz.ntmps26
  go_upto_region 2 with (fail)
  have kx := Blk.new w #[.pointer (some ⟨b, 0, none⟩)] 34
  have hcb := (Chg.refl [] w).alloc (.cells #[.pointer (some ⟨b, 0, none⟩)] 34)
  replace h := h.k hcb
  replace hc := hc.k hcb
  clear hcb
  generalize w.alloc (.cells #[.pointer (some ⟨b, 0, none⟩)] 34) = w0 at *
  have q0 := kx.cell 0
  have q5 := h.box.cell 5
  have q6 := h.box.cell 6
  have q7 := h.box.cell 7
  simp [boxCells] at q0 q5 q6 q7
  have Q0 := hd q0
  have Q5 := hd q5
  have Q6 := hd q6
  have Q7 := hd q7
  have F6 := hd (h.box.free 6)
  have F7 := hd (h.box.free 7)
  have N1 : w.heap.size ∉ [b] := by simp; omega
  have H := hd h
  have HC := hd hc
  obtain ⟨A, hA⟩ : ∃ A, A = latD d.ops down := ⟨_, rfl⟩
  obtain ⟨B, hB⟩ : ∃ B, B = latD d.ops fail_ := ⟨_, rfl⟩
  have s1 : Chg [b] w0 (w0.drew.setCell ⟨b, 6, none⟩ (.int .i64 A)) := (Chg.refl _ _).drew.setCell _ _ (by simp)
  have s2 : Chg [b] w0 (w0.drew.setCell ⟨b, 7, none⟩ (.int .i64 B)) := (Chg.refl _ _).drew.setCell _ _ (by simp)
  have s3 : Chg [b] w0 ((w0.drew.setCell ⟨b, 6, none⟩ (.int .i64 A)).setCell ⟨b, 7, none⟩ (.int .i64 B)) := s1.setCell _ _ (by simp)
  have s4 : Chg [b] w0 ((w0.drew.setCell ⟨b, 7, none⟩ (.int .i64 B)).setCell ⟨b, 6, none⟩ (.int .i64 A)) := s2.setCell _ _ (by simp)
  have hbx : Blk w0.drew b (boxCells fv cv nb sb d) 75 := h.box
  have hgd : GoodD (armD d down fail_) := h.good.scal rfl rfl rfl rfl rfl (Int.le_refl _) hops.2
  have b1 : Blk ((w0.drew.setCell ⟨b, 6, none⟩ (.int .i64 A)).setCell ⟨b, 7, none⟩ (.int .i64 B)) b (boxCells fv cv nb sb (armD d down fail_)) 75 := by
    rw [hA, hB]; exact (hbx.set 6 _).set 7 _
  have b2 : Blk ((w0.drew.setCell ⟨b, 7, none⟩ (.int .i64 B)).setCell ⟨b, 6, none⟩ (.int .i64 A)) b (boxCells fv cv nb sb (armD d down fail_)) 75 := by
    rw [hA, hB]; exact (hbx.set 7 _).set 6 _
  have fin : ∀ W, Chg [b] w0 W → Blk W b (boxCells fv cv nb sb (armD d down fail_)) 75 → DkOut w fp b (armD d down fail_) W := fun W hW hb =>
    DkOut.same ⟨_, _, _, _, _, h.scal hW hb rfl rfl rfl rfl hgd⟩ ((hc.mono (S' := fp) (by simp)).trans hW (by simp only [List.mem_singleton]; rintro x rfl _; exact h.fpb))
  have F1 := hd (fin _ s3 b1)
  have F2 := hd (fin _ s4 b2)
  have S1 := hd s1
  have S2 := hd s2
  have S3 := hd s3
  have S4 := hd s4
  have HA := hd hA
  have HB := hd hB
  have hbx1 : Blk (w0.drew.setCell ⟨b, 6, none⟩ (.int .i64 A)) b _ 75 := hbx.set 6 _
  have hbx2 : Blk (w0.drew.setCell ⟨b, 7, none⟩ (.int .i64 B)) b _ 75 := hbx.set 7 _
  have c1 := hbx1.cell 7
  have c2 := hbx2.cell 6
  simp [boxCells] at c1 c2
  have C1 := hd c1
  have C2 := hd c2
  have G1 := hd (hbx1.free 7)
  have G2 := hd (hbx2.free 6)
  have hops1 := hops.1
  have hops2 := hops.2
  clear s1 s2 s3 s4 b1 b2 fin hbx hgd h hc q0 q5 q6 q7 kx hblt hA hB c1 c2 hbx1 hbx2 hops
  refine rg (N := 14) (by kernel_rfl) (by kernel_rfl) (S := (fun wx => Chg [b] w0 wx)) ((Chg.refl _ _).drew) (fun hHeld => ?_)
  refine tks [0, 1, 2, 3, 5, 6] (by kernel_rfl) (fun _ _ _ _ _ h => h) (by assumption) ?_
  iterate 6 (refine tkc rfl rfl (by rfl) (fun wx hSw => by (try dsimp only at hSw); (have t0 := hSw.cellT Q0.out N1); go_simp; (try with_reducible rfl)) ?_; simp only [List.set])
  refine tk0 ?_
  refine rn 4 rfl (by kernel_rfl) (by rfl) fun KK hKK => ?_
  go_simp; (refine (later_any (w := w0.drew) ⟨w.heap.size, 0, none⟩ down d.ops Q0.out Q5.out hops1 hops2).mono ?_; rintro e wn ⟨rfl, rfl⟩; rw [← HA.out]; (try go_simp)); refine hKK.out _ _ (by assumption) fun hHeld => ?_; clear hKK KK; try simp only [Act.put, List.setIfInBounds_toArray, List.set]
  refine rn 7 rfl (by kernel_rfl) (by rfl) fun KK hKK => ?_
  go_simp; (refine (later_any (w := w0.drew) ⟨w.heap.size, 0, none⟩ fail_ d.ops Q0.out Q5.out hops1 hops2).mono ?_; rintro e wn ⟨rfl, rfl⟩; rw [← HB.out]; (try go_simp)); refine hKK.out _ _ (by assumption) fun hHeld => ?_; clear hKK KK; try simp only [Act.put, List.setIfInBounds_toArray, List.set]
  refine tks [8, 9] (by kernel_rfl) (fun _ _ _ _ _ h => h) (by assumption) ?_
  iterate 2 (refine tkc rfl rfl (by rfl) (fun wx hSw => by (try dsimp only at hSw); (have t0 := hSw.cellT Q0.out N1); go_simp; (try with_reducible rfl)) ?_; simp only [List.set])
  refine tk0 ?_
  refine rn 10 rfl (by kernel_rfl) (by rfl) fun KK hKK => ?_
  (have q6 := Q6.out; have f6 := F6.out; have c2 := C2.out; have g2 := G2.out; have s1 := S1.out; have s4 := S4.out; go_simp); refine hKK.out _ _ (by assumption) fun hHeld => ?_; clear hKK KK; try simp only [Act.put, List.setIfInBounds_toArray, List.set]
  refine tks [11, 12] (by kernel_rfl) (fun _ _ _ _ _ h => h) (by assumption) ?_
  iterate 2 (refine tkc rfl rfl (by rfl) (fun wx hSw => by (try dsimp only at hSw); (have t0 := hSw.cellT Q0.out N1); go_simp; (try with_reducible rfl)) ?_; simp only [List.set])
  refine tk0 ?_
  refine rn 13 rfl (by kernel_rfl) (by rfl) fun KK hKK => ?_
  (have q7 := Q7.out; have f7 := F7.out; have c1 := C1.out; have g1 := G1.out; have s2 := S2.out; have s3 := S3.out; go_simp); refine hKK.out _ _ (by assumption) fun hHeld => ?_; clear hKK KK; try simp only [Act.put, List.setIfInBounds_toArray, List.set]
  refine wpAnyH_done (by kernel_rfl) ?_ _
  go_wp2_with fail; go_end0; first | exact ⟨rfl, F1.out⟩ | exact ⟨rfl, F2.out⟩
end Go.Proofs.YtbiadpkglcdihaaGreat
