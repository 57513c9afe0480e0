/- Words and walks that Apart rests on: CodecOK1. -/
import Derived.Test.YtpadflhffiiglaaGreatWApart7
/- codec.writer.order, kind 1. -/
namespace Go.Proofs.YtpadflhffiiglaaGreat
open Go.RowKit

set_option maxRecDepth 100000 in
set_option maxHeartbeats 8000000 in
theorem WOrderK1_any (base b : Nat) (l : List UInt8) (o : Ord) (pv : Value) (w : World) (hw : WrT 80 w base b l) (hb : base ≤ b) (hz : ∀ w', Fr base b w w' → VsS w' pv o.shape.p) (hk : o.kind = 1) (hl : l.length + 16 * o.shape.p.length + 200 ≤ 140737488355000) :
    Calls Tryz.prog 51 #[.pointer (some ⟨b, 0, none⟩), vO o pv] w fun e w' =>
      e = .returned (.tuple #[]) ∧ WrT 80 w' base b (l ++ leO o) ∧ Fr base b w w' := by
  obtain ⟨L, hL⟩ : ∃ L, L = leO o := ⟨_, rfl⟩
  rw [← hL]
  unfold leO at hL
  obtain ⟨k, i, a, b1, ⟨px, py⟩, ⟨vx, vy⟩, an, sp, de, ln, ⟨sk, sr, p⟩⟩ := o
  simp only at hz hl hL
  simp only at hk
  subst hk
  have HLL := hd hL
  clear hL
  have hblt := hw.lt
  obtain ⟨ao, c, rfl, -⟩ := (hz w (Fr.refl _ _ _)).form
  have hcb := (Chg.refl [] w).alloc (.cells #[.int .i64 1, .int .i64 i, .int .i64 a, .int .i64 b1, .int .i64 px, .int .i64 py, .int .i64 vx, .int .i64 vy, .int .i64 an, .int .i64 sp, .int .i64 de, .int .i64 ln, .int .i64 sk, .int .i64 sr, .slice ao p.length c] 120)
  have hkb := Blk.new w #[.int .i64 1, .int .i64 i, .int .i64 a, .int .i64 b1, .int .i64 px, .int .i64 py, .int .i64 vx, .int .i64 vy, .int .i64 an, .int .i64 sp, .int .i64 de, .int .i64 ln, .int .i64 sk, .int .i64 sr, .slice ao p.length c] 120
  have hf0 : Fr base b w (w.alloc (.cells #[.int .i64 1, .int .i64 i, .int .i64 a, .int .i64 b1, .int .i64 px, .int .i64 py, .int .i64 vx, .int .i64 vy, .int .i64 an, .int .i64 sp, .int .i64 de, .int .i64 ln, .int .i64 sk, .int .i64 sr, .slice ao p.length c] 120)) := Fr.chg hcb (by omega)
  have hw0 := hw.k hcb
  have hz0 : ∀ w', Fr base b (w.alloc (.cells #[.int .i64 1, .int .i64 i, .int .i64 a, .int .i64 b1, .int .i64 px, .int .i64 py, .int .i64 vx, .int .i64 vy, .int .i64 an, .int .i64 sp, .int .i64 de, .int .i64 ln, .int .i64 sk, .int .i64 sr, .slice ao p.length c] 120)) w' → VsS w' (.slice ao p.length c) p := fun w' h => hz w' (hf0.trans h)
  have hsz : (w.alloc (.cells #[.int .i64 1, .int .i64 i, .int .i64 a, .int .i64 b1, .int .i64 px, .int .i64 py, .int .i64 vx, .int .i64 vy, .int .i64 an, .int .i64 sp, .int .i64 de, .int .i64 ln, .int .i64 sk, .int .i64 sr, .slice ao p.length c] 120)).heap.size = w.heap.size + 1 := by simp
  unfold vO
  simp only
  clear hw hz hcb
  go_enter Tryz.func51, Tryz.ntmps51
  go_upto_region 1 with (fail)
  generalize w.alloc (.cells #[.int .i64 1, .int .i64 i, .int .i64 a, .int .i64 b1, .int .i64 px, .int .i64 py, .int .i64 vx, .int .i64 vy, .int .i64 an, .int .i64 sp, .int .i64 de, .int .i64 ln, .int .i64 sk, .int .i64 sr, .slice ao p.length c] 120) = w0 at *
  have hbn : b ≠ w.heap.size := by omega
  generalize w.heap.size = bk at *
  have HQ : Hd (∀ wx, Fr base b w0 wx → wx.cell? ⟨bk, 0, none⟩ = some (.int .i64 1) ∧ wx.cell? ⟨bk, 1, none⟩ = some (.int .i64 i) ∧ wx.cell? ⟨bk, 2, none⟩ = some (.int .i64 a) ∧ wx.cell? ⟨bk, 3, none⟩ = some (.int .i64 b1) ∧ wx.cell? ⟨bk, 4, none⟩ = some (.int .i64 px) ∧ wx.cell? ⟨bk, 5, none⟩ = some (.int .i64 py) ∧ wx.cell? ⟨bk, 6, none⟩ = some (.int .i64 vx) ∧ wx.cell? ⟨bk, 7, none⟩ = some (.int .i64 vy) ∧ wx.cell? ⟨bk, 8, none⟩ = some (.int .i64 an) ∧ wx.cell? ⟨bk, 9, none⟩ = some (.int .i64 sp) ∧ wx.cell? ⟨bk, 10, none⟩ = some (.int .i64 de) ∧ wx.cell? ⟨bk, 11, none⟩ = some (.int .i64 ln) ∧ wx.cell? ⟨bk, 12, none⟩ = some (.int .i64 sk) ∧ wx.cell? ⟨bk, 13, none⟩ = some (.int .i64 sr) ∧ wx.cell? ⟨bk, 14, none⟩ = some (.slice ao p.length c)) := hd fun wx hx => by
    have := hx.kp _ _ _ hkb (by decide) (fun e => hbn e.symm)
    exact ⟨this.cell 0, this.cell 1, this.cell 2, this.cell 3, this.cell 4, this.cell 5, this.cell 6, this.cell 7, this.cell 8, this.cell 9, this.cell 10, this.cell 11, this.cell 12, this.cell 13, this.cell 14⟩
  have HF0 := hd hf0
  have HZ0 := hd hz0
  have HL := hd hl
  have HB : Hd (base ≤ w0.heap.size) := hd (by omega)
  have hW := hw0.k (Chg.refl [] w0).drew
  clear hw0 hf0 hz0 hkb hbn hsz hl hblt
  refine anyH_start (n := 6) (L := #[false, false, false, false, false, false]) (by kernel_rfl) (by kernel_rfl) (S := (fun wx => Fr base b w0 wx)) (Fr.chg (Chg.refl _ _).drew HB.out) (fun hHeld => ?_)
  generalize w0.drew = w2 at *
  refine anyH_take (i := 0) (d := 4) (L' := #[true, false, false, false, false, false]) (v := ?v2) rfl rfl (by kernel_rfl) (fun _ _ _ h => h) (by rfl) ?hy2 (by assumption) ?rest2
  case hy2 => (intro wx hSw; (try dsimp only at hSw); (obtain ⟨q0, q1, q2, q3, q4, q5, q6, q7, q8, q9, q10, q11, q12, q13, q14⟩ := HQ.out _ hSw); go_simp; (try with_reducible rfl))
  simp only [Act.put, List.setIfInBounds_toArray, List.set_cons_zero, List.set_cons_succ]
  refine anyH_take (i := 1) (d := 5) (L' := #[true, true, false, false, false, false]) (v := ?v3) rfl rfl (by kernel_rfl) (fun _ _ _ h => h) (by rfl) ?hy3 (by assumption) ?rest3
  case hy3 => (intro wx hSw; (try dsimp only at hSw); (obtain ⟨q0, q1, q2, q3, q4, q5, q6, q7, q8, q9, q10, q11, q12, q13, q14⟩ := HQ.out _ hSw); go_simp; (try with_reducible rfl))
  simp only [Act.put, List.setIfInBounds_toArray, List.set_cons_zero, List.set_cons_succ]
  refine anyH_take (i := 2) (d := 6) (L' := #[true, true, true, false, false, false]) (v := ?v4) rfl rfl (by kernel_rfl) (fun _ _ _ h => h) (by rfl) ?hy4 (by assumption) ?rest4
  case hy4 => (intro wx hSw; (try dsimp only at hSw); (obtain ⟨q0, q1, q2, q3, q4, q5, q6, q7, q8, q9, q10, q11, q12, q13, q14⟩ := HQ.out _ hSw); go_simp; (try with_reducible rfl))
  simp only [Act.put, List.setIfInBounds_toArray, List.set_cons_zero, List.set_cons_succ]
  refine anyH_take (i := 3) (d := 7) (L' := #[true, true, true, true, false, false]) (v := ?v5) rfl rfl (by kernel_rfl) (fun _ _ _ h => h) (by rfl) ?hy5 (by assumption) ?rest5
  case hy5 => (intro wx hSw; (try dsimp only at hSw); (obtain ⟨q0, q1, q2, q3, q4, q5, q6, q7, q8, q9, q10, q11, q12, q13, q14⟩ := HQ.out _ hSw); go_simp; (try with_reducible rfl))
  simp only [Act.put, List.setIfInBounds_toArray, List.set_cons_zero, List.set_cons_succ]
  refine anyH_take (i := 4) (d := 8) (L' := #[true, true, true, true, true, false]) (v := ?v6) rfl rfl (by kernel_rfl) (fun _ _ _ h => h) (by rfl) ?hy6 (by assumption) ?rest6
  case hy6 => (intro wx hSw; (try dsimp only at hSw); (obtain ⟨q0, q1, q2, q3, q4, q5, q6, q7, q8, q9, q10, q11, q12, q13, q14⟩ := HQ.out _ hSw); go_simp; (try with_reducible rfl))
  simp only [Act.put, List.setIfInBounds_toArray, List.set_cons_zero, List.set_cons_succ]
  refine anyH_run (i := 5) (L' := #[true, true, true, true, true, true]) rfl (by kernel_rfl) (by rfl) (fun KK hKK => ?_)
  go_simp
  (refine (WTNum_any _ (by decide) 1 1 base b _ _ hW hb (by omega) (by omega) (by have := HL.out; simp; omega)).mono ?_; rintro e w5 ⟨rfl, hW5, hf⟩; have hm := Fr.trans hHeld hf; (try replace hV := fun w' h => hV w' (hf.trans h)); (try replace hF := fun w' h => hF w' (hf.trans h)); replace hW := hW5; clear hf hW5; (try go_simp))
  refine hKK.out _ _ (by assumption) (fun hHeld => ?_)
  clear hKK KK
  try simp only [Act.put, List.setIfInBounds_toArray, List.set_cons_zero, List.set_cons_succ]
  refine wpAnyH_done (by kernel_rfl) ?_ _
  skip
  have HR1 := hd hm
  have HW1 := hd hW
  have HB1 : Hd (base ≤ w5.heap.size) := hd (by have := hW.lt; omega)
  clear hHeld hm hW
  obtain ⟨q0, q1, q2, q3, q4, q5, q6, q7, q8, q9, q10, q11, q12, q13, q14⟩ := HQ.out w5 HR1.out
  generalize w5 = w1 at *
  go_upto_region 4 with (fail)
  clear q0 q1 q2 q3 q4 q5 q6 q7 q8 q9 q10 q11 q12 q13 q14
  have hW := HW1.out.k (Chg.refl [] w1).drew
  refine anyH_start (n := 17) (L := #[false, false, false, false, false, false, false, false, false, false, false, false, false, false, false, false, false]) (by kernel_rfl) (by kernel_rfl) (S := (fun wx => Fr base b w1 wx)) (Fr.chg (Chg.refl _ _).drew HB1.out) (fun hHeld => ?_)
  generalize w1.drew = w2 at *
  refine anyH_take (i := 0) (d := 14) (L' := #[true, false, false, false, false, false, false, false, false, false, false, false, false, false, false, false, false]) (v := ?v12) rfl rfl (by kernel_rfl) (fun _ _ _ h => h) (by rfl) ?hy12 (by assumption) ?rest12
  case hy12 => (intro wx hSw; (try dsimp only at hSw); (obtain ⟨q0, q1, q2, q3, q4, q5, q6, q7, q8, q9, q10, q11, q12, q13, q14⟩ := HQ.out _ (HR1.out.trans hSw)); go_simp; (try with_reducible rfl))
  simp only [Act.put, List.setIfInBounds_toArray, List.set_cons_zero, List.set_cons_succ]
  refine anyH_take (i := 1) (d := 15) (L' := #[true, true, false, false, false, false, false, false, false, false, false, false, false, false, false, false, false]) (v := ?v13) rfl rfl (by kernel_rfl) (fun _ _ _ h => h) (by rfl) ?hy13 (by assumption) ?rest13
  case hy13 => (intro wx hSw; (try dsimp only at hSw); (obtain ⟨q0, q1, q2, q3, q4, q5, q6, q7, q8, q9, q10, q11, q12, q13, q14⟩ := HQ.out _ (HR1.out.trans hSw)); go_simp; (try with_reducible rfl))
  simp only [Act.put, List.setIfInBounds_toArray, List.set_cons_zero, List.set_cons_succ]
  refine anyH_take (i := 2) (d := 16) (L' := #[true, true, true, false, false, false, false, false, false, false, false, false, false, false, false, false, false]) (v := ?v14) rfl rfl (by kernel_rfl) (fun _ _ _ h => h) (by rfl) ?hy14 (by assumption) ?rest14
  case hy14 => (intro wx hSw; (try dsimp only at hSw); (obtain ⟨q0, q1, q2, q3, q4, q5, q6, q7, q8, q9, q10, q11, q12, q13, q14⟩ := HQ.out _ (HR1.out.trans hSw)); go_simp; (try with_reducible rfl))
  simp only [Act.put, List.setIfInBounds_toArray, List.set_cons_zero, List.set_cons_succ]
  refine anyH_take (i := 3) (d := 17) (L' := #[true, true, true, true, false, false, false, false, false, false, false, false, false, false, false, false, false]) (v := ?v15) rfl rfl (by kernel_rfl) (fun _ _ _ h => h) (by rfl) ?hy15 (by assumption) ?rest15
  case hy15 => (intro wx hSw; (try dsimp only at hSw); (obtain ⟨q0, q1, q2, q3, q4, q5, q6, q7, q8, q9, q10, q11, q12, q13, q14⟩ := HQ.out _ (HR1.out.trans hSw)); go_simp; (try with_reducible rfl))
  simp only [Act.put, List.setIfInBounds_toArray, List.set_cons_zero, List.set_cons_succ]
  refine anyH_take (i := 4) (d := 18) (L' := #[true, true, true, true, true, false, false, false, false, false, false, false, false, false, false, false, false]) (v := ?v16) rfl rfl (by kernel_rfl) (fun _ _ _ h => h) (by rfl) ?hy16 (by assumption) ?rest16
  case hy16 => (intro wx hSw; (try dsimp only at hSw); (obtain ⟨q0, q1, q2, q3, q4, q5, q6, q7, q8, q9, q10, q11, q12, q13, q14⟩ := HQ.out _ (HR1.out.trans hSw)); go_simp; (try with_reducible rfl))
  simp only [Act.put, List.setIfInBounds_toArray, List.set_cons_zero, List.set_cons_succ]
  refine anyH_take (i := 5) (d := 19) (L' := #[true, true, true, true, true, true, false, false, false, false, false, false, false, false, false, false, false]) (v := ?v17) rfl rfl (by kernel_rfl) (fun _ _ _ h => h) (by rfl) ?hy17 (by assumption) ?rest17
  case hy17 => (intro wx hSw; (try dsimp only at hSw); (obtain ⟨q0, q1, q2, q3, q4, q5, q6, q7, q8, q9, q10, q11, q12, q13, q14⟩ := HQ.out _ (HR1.out.trans hSw)); go_simp; (try with_reducible rfl))
  simp only [Act.put, List.setIfInBounds_toArray, List.set_cons_zero, List.set_cons_succ]
  refine anyH_take (i := 6) (d := 20) (L' := #[true, true, true, true, true, true, true, false, false, false, false, false, false, false, false, false, false]) (v := ?v18) rfl rfl (by kernel_rfl) (fun _ _ _ h => h) (by rfl) ?hy18 (by assumption) ?rest18
  case hy18 => (intro wx hSw; (try dsimp only at hSw); (obtain ⟨q0, q1, q2, q3, q4, q5, q6, q7, q8, q9, q10, q11, q12, q13, q14⟩ := HQ.out _ (HR1.out.trans hSw)); go_simp; (try with_reducible rfl))
  simp only [Act.put, List.setIfInBounds_toArray, List.set_cons_zero, List.set_cons_succ]
  refine anyH_take (i := 9) (d := 23) (L' := #[true, true, true, true, true, true, true, false, false, true, false, false, false, false, false, false, false]) (v := ?v19) rfl rfl (by kernel_rfl) (fun _ _ _ h => h) (by rfl) ?hy19 (by assumption) ?rest19
  case hy19 => (intro wx hSw; (try dsimp only at hSw); (obtain ⟨q0, q1, q2, q3, q4, q5, q6, q7, q8, q9, q10, q11, q12, q13, q14⟩ := HQ.out _ (HR1.out.trans hSw)); go_simp; (try with_reducible rfl))
  simp only [Act.put, List.setIfInBounds_toArray, List.set_cons_zero, List.set_cons_succ]
  refine anyH_take (i := 10) (d := 24) (L' := #[true, true, true, true, true, true, true, false, false, true, true, false, false, false, false, false, false]) (v := ?v20) rfl rfl (by kernel_rfl) (fun _ _ _ h => h) (by rfl) ?hy20 (by assumption) ?rest20
  case hy20 => (intro wx hSw; (try dsimp only at hSw); (obtain ⟨q0, q1, q2, q3, q4, q5, q6, q7, q8, q9, q10, q11, q12, q13, q14⟩ := HQ.out _ (HR1.out.trans hSw)); go_simp; (try with_reducible rfl))
  simp only [Act.put, List.setIfInBounds_toArray, List.set_cons_zero, List.set_cons_succ]
  refine anyH_take (i := 11) (d := 25) (L' := #[true, true, true, true, true, true, true, false, false, true, true, true, false, false, false, false, false]) (v := ?v21) rfl rfl (by kernel_rfl) (fun _ _ _ h => h) (by rfl) ?hy21 (by assumption) ?rest21
  case hy21 => (intro wx hSw; (try dsimp only at hSw); (obtain ⟨q0, q1, q2, q3, q4, q5, q6, q7, q8, q9, q10, q11, q12, q13, q14⟩ := HQ.out _ (HR1.out.trans hSw)); go_simp; (try with_reducible rfl))
  simp only [Act.put, List.setIfInBounds_toArray, List.set_cons_zero, List.set_cons_succ]
  refine anyH_take (i := 12) (d := 26) (L' := #[true, true, true, true, true, true, true, false, false, true, true, true, true, false, false, false, false]) (v := ?v22) rfl rfl (by kernel_rfl) (fun _ _ _ h => h) (by rfl) ?hy22 (by assumption) ?rest22
  case hy22 => (intro wx hSw; (try dsimp only at hSw); (obtain ⟨q0, q1, q2, q3, q4, q5, q6, q7, q8, q9, q10, q11, q12, q13, q14⟩ := HQ.out _ (HR1.out.trans hSw)); go_simp; (try with_reducible rfl))
  simp only [Act.put, List.setIfInBounds_toArray, List.set_cons_zero, List.set_cons_succ]
  refine anyH_take (i := 13) (d := 27) (L' := #[true, true, true, true, true, true, true, false, false, true, true, true, true, true, false, false, false]) (v := ?v23) rfl rfl (by kernel_rfl) (fun _ _ _ h => h) (by rfl) ?hy23 (by assumption) ?rest23
  case hy23 => (intro wx hSw; (try dsimp only at hSw); (obtain ⟨q0, q1, q2, q3, q4, q5, q6, q7, q8, q9, q10, q11, q12, q13, q14⟩ := HQ.out _ (HR1.out.trans hSw)); go_simp; (try with_reducible rfl))
  simp only [Act.put, List.setIfInBounds_toArray, List.set_cons_zero, List.set_cons_succ]
  refine anyH_take (i := 14) (d := 28) (L' := #[true, true, true, true, true, true, true, false, false, true, true, true, true, true, true, false, false]) (v := ?v24) rfl rfl (by kernel_rfl) (fun _ _ _ h => h) (by rfl) ?hy24 (by assumption) ?rest24
  case hy24 => (intro wx hSw; (try dsimp only at hSw); (obtain ⟨q0, q1, q2, q3, q4, q5, q6, q7, q8, q9, q10, q11, q12, q13, q14⟩ := HQ.out _ (HR1.out.trans hSw)); go_simp; (try with_reducible rfl))
  simp only [Act.put, List.setIfInBounds_toArray, List.set_cons_zero, List.set_cons_succ]
  refine anyH_run2 (i := 7) (j := 15) (L1 := #[true, true, true, true, true, true, true, true, false, true, true, true, true, true, true, false, false]) (L2 := #[true, true, true, true, true, true, true, false, false, true, true, true, true, true, true, true, false]) rfl rfl (by kernel_rfl) (by rfl) (by rfl) (fun KK hKK => ?ra8) (fun KK hKK => ?rb8)
  case' ra8 =>
    (obtain ⟨m1, m2, hV⟩ := Fr.litV hHeld hW hb [(px, py), (vx, vy)] #[.int .i64 px, .int .i64 py, .int .i64 vx, .int .i64 vy] 27 2 (by decide) rfl rfl (by simp); (try simp only [World.size_alloc] at hV); (try replace hF := fun w' h => hF w' ((Fr.lit0 hHeld hW hb (.cells #[.int .i64 px, .int .i64 py, .int .i64 vx, .int .i64 vy] 27)).trans h)); replace hW := m1; go_simp)
    refine hKK.out _ _ (by assumption) (fun hHeld => ?_)
    clear hKK KK
    try simp only [Act.put, List.setIfInBounds_toArray, List.set_cons_zero, List.set_cons_succ]
    refine anyH_run2 (i := 8) (j := 15) (L1 := #[true, true, true, true, true, true, true, true, true, true, true, true, true, true, true, false, false]) (L2 := #[true, true, true, true, true, true, true, true, false, true, true, true, true, true, true, true, false]) rfl rfl (by kernel_rfl) (by rfl) (by rfl) (fun KK hKK => ?ra9) (fun KK hKK => ?rb9)
    case' ra9 =>
      go_simp
      (refine (WTV_any _ (by decide) base b _ _ [(px, py), (vx, vy)] _ hW hb hV (by have := HL.out; simp; omega)).mono ?_; rintro e w8 ⟨rfl, hW8, hf⟩; have hm := Fr.trans hHeld hf; clear hV; (try replace hF := fun w' h => hF w' (hf.trans h)); replace hW := hW8; clear hf hW8; (try go_simp))
      refine hKK.out _ _ (by assumption) (fun hHeld => ?_)
      clear hKK KK
      try simp only [Act.put, List.setIfInBounds_toArray, List.set_cons_zero, List.set_cons_succ]
      refine anyH_run (i := 15) (L' := #[true, true, true, true, true, true, true, true, true, true, true, true, true, true, true, true, false]) rfl (by kernel_rfl) (by rfl) (fun KK hKK => ?_)
      (obtain ⟨m1, m2, hF⟩ := Fr.litF hHeld hW hb [an, sp, de] #[.int .i64 an, .int .i64 sp, .int .i64 de] 25 3 (by decide) rfl rfl (by simp); (try simp only [World.size_alloc] at hF); (try replace hV := fun w' h => hV w' ((Fr.lit0 hHeld hW hb (.cells #[.int .i64 an, .int .i64 sp, .int .i64 de] 25)).trans h)); replace hW := m1; go_simp)
      refine hKK.out _ _ (by assumption) (fun hHeld => ?_)
      clear hKK KK
      try simp only [Act.put, List.setIfInBounds_toArray, List.set_cons_zero, List.set_cons_succ]
      refine anyH_run (i := 16) (L' := #[true, true, true, true, true, true, true, true, true, true, true, true, true, true, true, true, true]) rfl (by kernel_rfl) (by rfl) (fun KK hKK => ?_)
      go_simp
      (refine (WTF_any _ (by decide) base b _ _ [an, sp, de] _ hW hb hF (by have := HL.out; simp [leF_length, fV]; omega)).mono ?_; rintro e w16 ⟨rfl, hW16, hf⟩; have hm := Fr.trans hHeld hf; (try replace hV := fun w' h => hV w' (hf.trans h)); clear hF; replace hW := hW16; clear hf hW16; (try go_simp))
      refine hKK.out _ _ (by assumption) (fun hHeld => ?_)
      clear hKK KK
      try simp only [Act.put, List.setIfInBounds_toArray, List.set_cons_zero, List.set_cons_succ]
      refine wpAnyH_done (by kernel_rfl) ?_ _
      have HRX := hd hHeld; have HWX := hd hW; clear hHeld hW; (try clear hHeld); obtain ⟨q0, q1, q2, q3, q4, q5, q6, q7, q8, q9, q10, q11, q12, q13, q14⟩ := HQ.out _ (HR1.out.trans HRX.out); go_wp2_with (go_at_call 29; refine (WShape_any base b _ ⟨sk, sr, p⟩ _ _ HWX.out hb (fun w' h => HZ0.out w' ((HR1.out.trans HRX.out).trans h)) (by have := HL.out; simp [leF_length, fV]; omega)).mono ?_; rintro e w9 ⟨rfl, hW9, hf9⟩); go_end0; exact ⟨rfl, by have := hW9; rw [HLL.out]; simpa using this, ((HF0.out.trans HR1.out).trans HRX.out).trans hf9⟩
    case' rb9 =>
      (obtain ⟨m1, m2, hF⟩ := Fr.litF hHeld hW hb [an, sp, de] #[.int .i64 an, .int .i64 sp, .int .i64 de] 25 3 (by decide) rfl rfl (by simp); (try simp only [World.size_alloc] at hF); (try replace hV := fun w' h => hV w' ((Fr.lit0 hHeld hW hb (.cells #[.int .i64 an, .int .i64 sp, .int .i64 de] 25)).trans h)); replace hW := m1; go_simp)
      refine hKK.out _ _ (by assumption) (fun hHeld => ?_)
      clear hKK KK
      try simp only [Act.put, List.setIfInBounds_toArray, List.set_cons_zero, List.set_cons_succ]
      refine anyH_run (i := 8) (L' := #[true, true, true, true, true, true, true, true, true, true, true, true, true, true, true, true, false]) rfl (by kernel_rfl) (by rfl) (fun KK hKK => ?_)
      go_simp
      (refine (WTV_any _ (by decide) base b _ _ [(px, py), (vx, vy)] _ hW hb hV (by have := HL.out; simp; omega)).mono ?_; rintro e w8 ⟨rfl, hW8, hf⟩; have hm := Fr.trans hHeld hf; clear hV; (try replace hF := fun w' h => hF w' (hf.trans h)); replace hW := hW8; clear hf hW8; (try go_simp))
      refine hKK.out _ _ (by assumption) (fun hHeld => ?_)
      clear hKK KK
      try simp only [Act.put, List.setIfInBounds_toArray, List.set_cons_zero, List.set_cons_succ]
      refine anyH_run (i := 16) (L' := #[true, true, true, true, true, true, true, true, true, true, true, true, true, true, true, true, true]) rfl (by kernel_rfl) (by rfl) (fun KK hKK => ?_)
      go_simp
      (refine (WTF_any _ (by decide) base b _ _ [an, sp, de] _ hW hb hF (by have := HL.out; simp [leF_length, fV]; omega)).mono ?_; rintro e w16 ⟨rfl, hW16, hf⟩; have hm := Fr.trans hHeld hf; (try replace hV := fun w' h => hV w' (hf.trans h)); clear hF; replace hW := hW16; clear hf hW16; (try go_simp))
      refine hKK.out _ _ (by assumption) (fun hHeld => ?_)
      clear hKK KK
      try simp only [Act.put, List.setIfInBounds_toArray, List.set_cons_zero, List.set_cons_succ]
      refine wpAnyH_done (by kernel_rfl) ?_ _
      have HRX := hd hHeld; have HWX := hd hW; clear hHeld hW; (try clear hHeld); obtain ⟨q0, q1, q2, q3, q4, q5, q6, q7, q8, q9, q10, q11, q12, q13, q14⟩ := HQ.out _ (HR1.out.trans HRX.out); go_wp2_with (go_at_call 29; refine (WShape_any base b _ ⟨sk, sr, p⟩ _ _ HWX.out hb (fun w' h => HZ0.out w' ((HR1.out.trans HRX.out).trans h)) (by have := HL.out; simp [leF_length, fV]; omega)).mono ?_; rintro e w9 ⟨rfl, hW9, hf9⟩); go_end0; exact ⟨rfl, by have := hW9; rw [HLL.out]; simpa using this, ((HF0.out.trans HR1.out).trans HRX.out).trans hf9⟩
  case' rb8 =>
    (obtain ⟨m1, m2, hF⟩ := Fr.litF hHeld hW hb [an, sp, de] #[.int .i64 an, .int .i64 sp, .int .i64 de] 25 3 (by decide) rfl rfl (by simp); (try simp only [World.size_alloc] at hF); (try replace hV := fun w' h => hV w' ((Fr.lit0 hHeld hW hb (.cells #[.int .i64 an, .int .i64 sp, .int .i64 de] 25)).trans h)); replace hW := m1; go_simp)
    refine hKK.out _ _ (by assumption) (fun hHeld => ?_)
    clear hKK KK
    try simp only [Act.put, List.setIfInBounds_toArray, List.set_cons_zero, List.set_cons_succ]
    refine anyH_run (i := 7) (L' := #[true, true, true, true, true, true, true, true, false, true, true, true, true, true, true, true, false]) rfl (by kernel_rfl) (by rfl) (fun KK hKK => ?_)
    (obtain ⟨m1, m2, hV⟩ := Fr.litV hHeld hW hb [(px, py), (vx, vy)] #[.int .i64 px, .int .i64 py, .int .i64 vx, .int .i64 vy] 27 2 (by decide) rfl rfl (by simp); (try simp only [World.size_alloc] at hV); (try replace hF := fun w' h => hF w' ((Fr.lit0 hHeld hW hb (.cells #[.int .i64 px, .int .i64 py, .int .i64 vx, .int .i64 vy] 27)).trans h)); replace hW := m1; go_simp)
    refine hKK.out _ _ (by assumption) (fun hHeld => ?_)
    clear hKK KK
    try simp only [Act.put, List.setIfInBounds_toArray, List.set_cons_zero, List.set_cons_succ]
    refine anyH_run (i := 8) (L' := #[true, true, true, true, true, true, true, true, true, true, true, true, true, true, true, true, false]) rfl (by kernel_rfl) (by rfl) (fun KK hKK => ?_)
    go_simp
    (refine (WTV_any _ (by decide) base b _ _ [(px, py), (vx, vy)] _ hW hb hV (by have := HL.out; simp; omega)).mono ?_; rintro e w8 ⟨rfl, hW8, hf⟩; have hm := Fr.trans hHeld hf; clear hV; (try replace hF := fun w' h => hF w' (hf.trans h)); replace hW := hW8; clear hf hW8; (try go_simp))
    refine hKK.out _ _ (by assumption) (fun hHeld => ?_)
    clear hKK KK
    try simp only [Act.put, List.setIfInBounds_toArray, List.set_cons_zero, List.set_cons_succ]
    refine anyH_run (i := 16) (L' := #[true, true, true, true, true, true, true, true, true, true, true, true, true, true, true, true, true]) rfl (by kernel_rfl) (by rfl) (fun KK hKK => ?_)
    go_simp
    (refine (WTF_any _ (by decide) base b _ _ [an, sp, de] _ hW hb hF (by have := HL.out; simp [leF_length, fV]; omega)).mono ?_; rintro e w16 ⟨rfl, hW16, hf⟩; have hm := Fr.trans hHeld hf; (try replace hV := fun w' h => hV w' (hf.trans h)); clear hF; replace hW := hW16; clear hf hW16; (try go_simp))
    refine hKK.out _ _ (by assumption) (fun hHeld => ?_)
    clear hKK KK
    try simp only [Act.put, List.setIfInBounds_toArray, List.set_cons_zero, List.set_cons_succ]
    refine wpAnyH_done (by kernel_rfl) ?_ _
    have HRX := hd hHeld; have HWX := hd hW; clear hHeld hW; (try clear hHeld); obtain ⟨q0, q1, q2, q3, q4, q5, q6, q7, q8, q9, q10, q11, q12, q13, q14⟩ := HQ.out _ (HR1.out.trans HRX.out); go_wp2_with (go_at_call 29; refine (WShape_any base b _ ⟨sk, sr, p⟩ _ _ HWX.out hb (fun w' h => HZ0.out w' ((HR1.out.trans HRX.out).trans h)) (by have := HL.out; simp [leF_length, fV]; omega)).mono ?_; rintro e w9 ⟨rfl, hW9, hf9⟩); go_end0; exact ⟨rfl, by have := hW9; rw [HLL.out]; simpa using this, ((HF0.out.trans HR1.out).trans HRX.out).trans hf9⟩
end Go.Proofs.YtpadflhffiiglaaGreat
