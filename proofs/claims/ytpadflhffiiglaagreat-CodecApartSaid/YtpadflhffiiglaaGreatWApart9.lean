/- Words and walks that Apart rests on: CodecOK3. -/
import Derived.Test.YtpadflhffiiglaaGreatWApart7
/- codec.writer.order, kind 3. -/
namespace Go.Proofs.YtpadflhffiiglaaGreat
open Go.RowKit

set_option maxRecDepth 100000 in
set_option maxHeartbeats 8000000 in
theorem WOrderK3_any (base b : Nat) (l : List UInt8) (o : Ord) (pv : Value) (w : World) (hw : WrT 80 w base b l) (hb : base ≤ b) (hz : ∀ w', Fr base b w w' → VsS w' pv o.shape.p) (hk : o.kind = 3) (hl : l.length + 16 * o.shape.p.length + 200 ≤ 140737488355000) :
    Calls Tryz.prog 51 #[.pointer (some ⟨b, 0, none⟩), vO o pv] w fun e w' =>
      e = .returned (.tuple #[]) ∧ WrT 80 w' base b (l ++ leO o) ∧ Fr base b w w' := by
  obtain ⟨L, hL⟩ : ∃ L, L = leO o := ⟨_, rfl⟩
  rw [← hL]
  unfold leO at hL
  obtain ⟨k, i, a, b1, ⟨px, py⟩, ⟨vx, vy⟩, an, sp, de, ln, ⟨sk, sr, p⟩⟩ := o
  simp only at hz hl hL
  simp only at hk
  subst hk
  have HLL := hd hL
  clear hL
  have hblt := hw.lt
  obtain ⟨ao, c, rfl, -⟩ := (hz w (Fr.refl _ _ _)).form
  have hcb := (Chg.refl [] w).alloc (.cells #[.int .i64 3, .int .i64 i, .int .i64 a, .int .i64 b1, .int .i64 px, .int .i64 py, .int .i64 vx, .int .i64 vy, .int .i64 an, .int .i64 sp, .int .i64 de, .int .i64 ln, .int .i64 sk, .int .i64 sr, .slice ao p.length c] 120)
  have hkb := Blk.new w #[.int .i64 3, .int .i64 i, .int .i64 a, .int .i64 b1, .int .i64 px, .int .i64 py, .int .i64 vx, .int .i64 vy, .int .i64 an, .int .i64 sp, .int .i64 de, .int .i64 ln, .int .i64 sk, .int .i64 sr, .slice ao p.length c] 120
  have hf0 : Fr base b w (w.alloc (.cells #[.int .i64 3, .int .i64 i, .int .i64 a, .int .i64 b1, .int .i64 px, .int .i64 py, .int .i64 vx, .int .i64 vy, .int .i64 an, .int .i64 sp, .int .i64 de, .int .i64 ln, .int .i64 sk, .int .i64 sr, .slice ao p.length c] 120)) := Fr.chg hcb (by omega)
  have hw0 := hw.k hcb
  have hz0 : ∀ w', Fr base b (w.alloc (.cells #[.int .i64 3, .int .i64 i, .int .i64 a, .int .i64 b1, .int .i64 px, .int .i64 py, .int .i64 vx, .int .i64 vy, .int .i64 an, .int .i64 sp, .int .i64 de, .int .i64 ln, .int .i64 sk, .int .i64 sr, .slice ao p.length c] 120)) w' → VsS w' (.slice ao p.length c) p := fun w' h => hz w' (hf0.trans h)
  have hsz : (w.alloc (.cells #[.int .i64 3, .int .i64 i, .int .i64 a, .int .i64 b1, .int .i64 px, .int .i64 py, .int .i64 vx, .int .i64 vy, .int .i64 an, .int .i64 sp, .int .i64 de, .int .i64 ln, .int .i64 sk, .int .i64 sr, .slice ao p.length c] 120)).heap.size = w.heap.size + 1 := by simp
  unfold vO
  simp only
  clear hw hz hcb
  go_enter Tryz.func51, Tryz.ntmps51
  go_upto_region 1 with (fail)
  generalize w.alloc (.cells #[.int .i64 3, .int .i64 i, .int .i64 a, .int .i64 b1, .int .i64 px, .int .i64 py, .int .i64 vx, .int .i64 vy, .int .i64 an, .int .i64 sp, .int .i64 de, .int .i64 ln, .int .i64 sk, .int .i64 sr, .slice ao p.length c] 120) = w0 at *
  have hbn : b ≠ w.heap.size := by omega
  generalize w.heap.size = bk at *
  have HQ : Hd (∀ wx, Fr base b w0 wx → wx.cell? ⟨bk, 0, none⟩ = some (.int .i64 3) ∧ wx.cell? ⟨bk, 1, none⟩ = some (.int .i64 i) ∧ wx.cell? ⟨bk, 2, none⟩ = some (.int .i64 a) ∧ wx.cell? ⟨bk, 3, none⟩ = some (.int .i64 b1) ∧ wx.cell? ⟨bk, 4, none⟩ = some (.int .i64 px) ∧ wx.cell? ⟨bk, 5, none⟩ = some (.int .i64 py) ∧ wx.cell? ⟨bk, 6, none⟩ = some (.int .i64 vx) ∧ wx.cell? ⟨bk, 7, none⟩ = some (.int .i64 vy) ∧ wx.cell? ⟨bk, 8, none⟩ = some (.int .i64 an) ∧ wx.cell? ⟨bk, 9, none⟩ = some (.int .i64 sp) ∧ wx.cell? ⟨bk, 10, none⟩ = some (.int .i64 de) ∧ wx.cell? ⟨bk, 11, none⟩ = some (.int .i64 ln) ∧ wx.cell? ⟨bk, 12, none⟩ = some (.int .i64 sk) ∧ wx.cell? ⟨bk, 13, none⟩ = some (.int .i64 sr) ∧ wx.cell? ⟨bk, 14, none⟩ = some (.slice ao p.length c)) := hd fun wx hx => by
    have := hx.kp _ _ _ hkb (by decide) (fun e => hbn e.symm)
    exact ⟨this.cell 0, this.cell 1, this.cell 2, this.cell 3, this.cell 4, this.cell 5, this.cell 6, this.cell 7, this.cell 8, this.cell 9, this.cell 10, this.cell 11, this.cell 12, this.cell 13, this.cell 14⟩
  have HF0 := hd hf0
  have HZ0 := hd hz0
  have HL := hd hl
  have HB : Hd (base ≤ w0.heap.size) := hd (by omega)
  have hW := hw0.k (Chg.refl [] w0).drew
  clear hw0 hf0 hz0 hkb hbn hsz hl hblt
  refine anyH_start (n := 6) (L := #[false, false, false, false, false, false]) (by kernel_rfl) (by kernel_rfl) (S := (fun wx => Fr base b w0 wx)) (Fr.chg (Chg.refl _ _).drew HB.out) (fun hHeld => ?_)
  generalize w0.drew = w2 at *
  refine anyH_take (i := 0) (d := 4) (L' := #[true, false, false, false, false, false]) (v := ?v2) rfl rfl (by kernel_rfl) (fun _ _ _ h => h) (by rfl) ?hy2 (by assumption) ?rest2
  case hy2 => (intro wx hSw; (try dsimp only at hSw); (obtain ⟨q0, q1, q2, q3, q4, q5, q6, q7, q8, q9, q10, q11, q12, q13, q14⟩ := HQ.out _ hSw); go_simp; (try with_reducible rfl))
  simp only [Act.put, List.setIfInBounds_toArray, List.set_cons_zero, List.set_cons_succ]
  refine anyH_take (i := 1) (d := 5) (L' := #[true, true, false, false, false, false]) (v := ?v3) rfl rfl (by kernel_rfl) (fun _ _ _ h => h) (by rfl) ?hy3 (by assumption) ?rest3
  case hy3 => (intro wx hSw; (try dsimp only at hSw); (obtain ⟨q0, q1, q2, q3, q4, q5, q6, q7, q8, q9, q10, q11, q12, q13, q14⟩ := HQ.out _ hSw); go_simp; (try with_reducible rfl))
  simp only [Act.put, List.setIfInBounds_toArray, List.set_cons_zero, List.set_cons_succ]
  refine anyH_take (i := 2) (d := 6) (L' := #[true, true, true, false, false, false]) (v := ?v4) rfl rfl (by kernel_rfl) (fun _ _ _ h => h) (by rfl) ?hy4 (by assumption) ?rest4
  case hy4 => (intro wx hSw; (try dsimp only at hSw); (obtain ⟨q0, q1, q2, q3, q4, q5, q6, q7, q8, q9, q10, q11, q12, q13, q14⟩ := HQ.out _ hSw); go_simp; (try with_reducible rfl))
  simp only [Act.put, List.setIfInBounds_toArray, List.set_cons_zero, List.set_cons_succ]
  refine anyH_take (i := 3) (d := 7) (L' := #[true, true, true, true, false, false]) (v := ?v5) rfl rfl (by kernel_rfl) (fun _ _ _ h => h) (by rfl) ?hy5 (by assumption) ?rest5
  case hy5 => (intro wx hSw; (try dsimp only at hSw); (obtain ⟨q0, q1, q2, q3, q4, q5, q6, q7, q8, q9, q10, q11, q12, q13, q14⟩ := HQ.out _ hSw); go_simp; (try with_reducible rfl))
  simp only [Act.put, List.setIfInBounds_toArray, List.set_cons_zero, List.set_cons_succ]
  refine anyH_take (i := 4) (d := 8) (L' := #[true, true, true, true, true, false]) (v := ?v6) rfl rfl (by kernel_rfl) (fun _ _ _ h => h) (by rfl) ?hy6 (by assumption) ?rest6
  case hy6 => (intro wx hSw; (try dsimp only at hSw); (obtain ⟨q0, q1, q2, q3, q4, q5, q6, q7, q8, q9, q10, q11, q12, q13, q14⟩ := HQ.out _ hSw); go_simp; (try with_reducible rfl))
  simp only [Act.put, List.setIfInBounds_toArray, List.set_cons_zero, List.set_cons_succ]
  refine anyH_run (i := 5) (L' := #[true, true, true, true, true, true]) rfl (by kernel_rfl) (by rfl) (fun KK hKK => ?_)
  go_simp
  (refine (WTNum_any _ (by decide) 1 3 base b _ _ hW hb (by omega) (by omega) (by have := HL.out; simp; omega)).mono ?_; rintro e w5 ⟨rfl, hW5, hf⟩; have hm := Fr.trans hHeld hf; (try replace hV := fun w' h => hV w' (hf.trans h)); (try replace hF := fun w' h => hF w' (hf.trans h)); replace hW := hW5; clear hf hW5; (try go_simp))
  refine hKK.out _ _ (by assumption) (fun hHeld => ?_)
  clear hKK KK
  try simp only [Act.put, List.setIfInBounds_toArray, List.set_cons_zero, List.set_cons_succ]
  refine wpAnyH_done (by kernel_rfl) ?_ _
  skip
  have HR1 := hd hm
  have HW1 := hd hW
  have HB1 : Hd (base ≤ w5.heap.size) := hd (by have := hW.lt; omega)
  clear hHeld hm hW
  obtain ⟨q0, q1, q2, q3, q4, q5, q6, q7, q8, q9, q10, q11, q12, q13, q14⟩ := HQ.out w5 HR1.out
  generalize w5 = w1 at *
  go_upto_region 10 with (fail)
  clear q0 q1 q2 q3 q4 q5 q6 q7 q8 q9 q10 q11 q12 q13 q14
  have hW := HW1.out.k (Chg.refl [] w1).drew
  refine anyH_start (n := 19) (L := #[false, false, false, false, false, false, false, false, false, false, false, false, false, false, false, false, false, false, false]) (by kernel_rfl) (by kernel_rfl) (S := (fun wx => Fr base b w1 wx)) (Fr.chg (Chg.refl _ _).drew HB1.out) (fun hHeld => ?_)
  generalize w1.drew = w2 at *
  refine anyH_take (i := 0) (d := 46) (L' := #[true, false, false, false, false, false, false, false, false, false, false, false, false, false, false, false, false, false, false]) (v := ?v22) rfl rfl (by kernel_rfl) (fun _ _ _ h => h) (by rfl) ?hy22 (by assumption) ?rest22
  case hy22 => (intro wx hSw; (try dsimp only at hSw); (obtain ⟨q0, q1, q2, q3, q4, q5, q6, q7, q8, q9, q10, q11, q12, q13, q14⟩ := HQ.out _ (HR1.out.trans hSw)); go_simp; (try with_reducible rfl))
  simp only [Act.put, List.setIfInBounds_toArray, List.set_cons_zero, List.set_cons_succ]
  refine anyH_take (i := 1) (d := 47) (L' := #[true, true, false, false, false, false, false, false, false, false, false, false, false, false, false, false, false, false, false]) (v := ?v23) rfl rfl (by kernel_rfl) (fun _ _ _ h => h) (by rfl) ?hy23 (by assumption) ?rest23
  case hy23 => (intro wx hSw; (try dsimp only at hSw); (obtain ⟨q0, q1, q2, q3, q4, q5, q6, q7, q8, q9, q10, q11, q12, q13, q14⟩ := HQ.out _ (HR1.out.trans hSw)); go_simp; (try with_reducible rfl))
  simp only [Act.put, List.setIfInBounds_toArray, List.set_cons_zero, List.set_cons_succ]
  refine anyH_take (i := 2) (d := 48) (L' := #[true, true, true, false, false, false, false, false, false, false, false, false, false, false, false, false, false, false, false]) (v := ?v24) rfl rfl (by kernel_rfl) (fun _ _ _ h => h) (by rfl) ?hy24 (by assumption) ?rest24
  case hy24 => (intro wx hSw; (try dsimp only at hSw); (obtain ⟨q0, q1, q2, q3, q4, q5, q6, q7, q8, q9, q10, q11, q12, q13, q14⟩ := HQ.out _ (HR1.out.trans hSw)); go_simp; (try with_reducible rfl))
  simp only [Act.put, List.setIfInBounds_toArray, List.set_cons_zero, List.set_cons_succ]
  refine anyH_take (i := 3) (d := 49) (L' := #[true, true, true, true, false, false, false, false, false, false, false, false, false, false, false, false, false, false, false]) (v := ?v25) rfl rfl (by kernel_rfl) (fun _ _ _ h => h) (by rfl) ?hy25 (by assumption) ?rest25
  case hy25 => (intro wx hSw; (try dsimp only at hSw); (obtain ⟨q0, q1, q2, q3, q4, q5, q6, q7, q8, q9, q10, q11, q12, q13, q14⟩ := HQ.out _ (HR1.out.trans hSw)); go_simp; (try with_reducible rfl))
  simp only [Act.put, List.setIfInBounds_toArray, List.set_cons_zero, List.set_cons_succ]
  refine anyH_take (i := 4) (d := 50) (L' := #[true, true, true, true, true, false, false, false, false, false, false, false, false, false, false, false, false, false, false]) (v := ?v26) rfl rfl (by kernel_rfl) (fun _ _ _ h => h) (by rfl) ?hy26 (by assumption) ?rest26
  case hy26 => (intro wx hSw; (try dsimp only at hSw); (obtain ⟨q0, q1, q2, q3, q4, q5, q6, q7, q8, q9, q10, q11, q12, q13, q14⟩ := HQ.out _ (HR1.out.trans hSw)); go_simp; (try with_reducible rfl))
  simp only [Act.put, List.setIfInBounds_toArray, List.set_cons_zero, List.set_cons_succ]
  refine anyH_take (i := 6) (d := 52) (L' := #[true, true, true, true, true, false, true, false, false, false, false, false, false, false, false, false, false, false, false]) (v := ?v27) rfl rfl (by kernel_rfl) (fun _ _ _ h => h) (by rfl) ?hy27 (by assumption) ?rest27
  case hy27 => (intro wx hSw; (try dsimp only at hSw); (obtain ⟨q0, q1, q2, q3, q4, q5, q6, q7, q8, q9, q10, q11, q12, q13, q14⟩ := HQ.out _ (HR1.out.trans hSw)); go_simp; (try with_reducible rfl))
  simp only [Act.put, List.setIfInBounds_toArray, List.set_cons_zero, List.set_cons_succ]
  refine anyH_take (i := 7) (d := 53) (L' := #[true, true, true, true, true, false, true, true, false, false, false, false, false, false, false, false, false, false, false]) (v := ?v28) rfl rfl (by kernel_rfl) (fun _ _ _ h => h) (by rfl) ?hy28 (by assumption) ?rest28
  case hy28 => (intro wx hSw; (try dsimp only at hSw); (obtain ⟨q0, q1, q2, q3, q4, q5, q6, q7, q8, q9, q10, q11, q12, q13, q14⟩ := HQ.out _ (HR1.out.trans hSw)); go_simp; (try with_reducible rfl))
  simp only [Act.put, List.setIfInBounds_toArray, List.set_cons_zero, List.set_cons_succ]
  refine anyH_take (i := 9) (d := 55) (L' := #[true, true, true, true, true, false, true, true, false, true, false, false, false, false, false, false, false, false, false]) (v := ?v29) rfl rfl (by kernel_rfl) (fun _ _ _ h => h) (by rfl) ?hy29 (by assumption) ?rest29
  case hy29 => (intro wx hSw; (try dsimp only at hSw); (obtain ⟨q0, q1, q2, q3, q4, q5, q6, q7, q8, q9, q10, q11, q12, q13, q14⟩ := HQ.out _ (HR1.out.trans hSw)); go_simp; (try with_reducible rfl))
  simp only [Act.put, List.setIfInBounds_toArray, List.set_cons_zero, List.set_cons_succ]
  refine anyH_take (i := 10) (d := 56) (L' := #[true, true, true, true, true, false, true, true, false, true, true, false, false, false, false, false, false, false, false]) (v := ?v30) rfl rfl (by kernel_rfl) (fun _ _ _ h => h) (by rfl) ?hy30 (by assumption) ?rest30
  case hy30 => (intro wx hSw; (try dsimp only at hSw); (obtain ⟨q0, q1, q2, q3, q4, q5, q6, q7, q8, q9, q10, q11, q12, q13, q14⟩ := HQ.out _ (HR1.out.trans hSw)); go_simp; (try with_reducible rfl))
  simp only [Act.put, List.setIfInBounds_toArray, List.set_cons_zero, List.set_cons_succ]
  refine anyH_take (i := 11) (d := 57) (L' := #[true, true, true, true, true, false, true, true, false, true, true, true, false, false, false, false, false, false, false]) (v := ?v31) rfl rfl (by kernel_rfl) (fun _ _ _ h => h) (by rfl) ?hy31 (by assumption) ?rest31
  case hy31 => (intro wx hSw; (try dsimp only at hSw); (obtain ⟨q0, q1, q2, q3, q4, q5, q6, q7, q8, q9, q10, q11, q12, q13, q14⟩ := HQ.out _ (HR1.out.trans hSw)); go_simp; (try with_reducible rfl))
  simp only [Act.put, List.setIfInBounds_toArray, List.set_cons_zero, List.set_cons_succ]
  refine anyH_take (i := 12) (d := 58) (L' := #[true, true, true, true, true, false, true, true, false, true, true, true, true, false, false, false, false, false, false]) (v := ?v32) rfl rfl (by kernel_rfl) (fun _ _ _ h => h) (by rfl) ?hy32 (by assumption) ?rest32
  case hy32 => (intro wx hSw; (try dsimp only at hSw); (obtain ⟨q0, q1, q2, q3, q4, q5, q6, q7, q8, q9, q10, q11, q12, q13, q14⟩ := HQ.out _ (HR1.out.trans hSw)); go_simp; (try with_reducible rfl))
  simp only [Act.put, List.setIfInBounds_toArray, List.set_cons_zero, List.set_cons_succ]
  refine anyH_take (i := 15) (d := 61) (L' := #[true, true, true, true, true, false, true, true, false, true, true, true, true, false, false, true, false, false, false]) (v := ?v33) rfl rfl (by kernel_rfl) (fun _ _ _ h => h) (by rfl) ?hy33 (by assumption) ?rest33
  case hy33 => (intro wx hSw; (try dsimp only at hSw); (obtain ⟨q0, q1, q2, q3, q4, q5, q6, q7, q8, q9, q10, q11, q12, q13, q14⟩ := HQ.out _ (HR1.out.trans hSw)); go_simp; (try with_reducible rfl))
  simp only [Act.put, List.setIfInBounds_toArray, List.set_cons_zero, List.set_cons_succ]
  refine anyH_take (i := 16) (d := 62) (L' := #[true, true, true, true, true, false, true, true, false, true, true, true, true, false, false, true, true, false, false]) (v := ?v34) rfl rfl (by kernel_rfl) (fun _ _ _ h => h) (by rfl) ?hy34 (by assumption) ?rest34
  case hy34 => (intro wx hSw; (try dsimp only at hSw); (obtain ⟨q0, q1, q2, q3, q4, q5, q6, q7, q8, q9, q10, q11, q12, q13, q14⟩ := HQ.out _ (HR1.out.trans hSw)); go_simp; (try with_reducible rfl))
  simp only [Act.put, List.setIfInBounds_toArray, List.set_cons_zero, List.set_cons_succ]
  refine anyH_run3 (i := 5) (j := 13) (k := 17) (L1 := #[true, true, true, true, true, true, true, true, false, true, true, true, true, false, false, true, true, false, false]) (L2 := #[true, true, true, true, true, false, true, true, false, true, true, true, true, true, false, true, true, false, false]) (L3 := #[true, true, true, true, true, false, true, true, false, true, true, true, true, false, false, true, true, true, false]) rfl rfl rfl (by kernel_rfl) (by rfl) (by rfl) (by rfl) (fun KK hKK => ?ra8) (fun KK hKK => ?rb8) (fun KK hKK => ?rc8)
  case' ra8 =>
    go_simp
    (refine (WTNum_any _ (by decide) 8 a base b _ _ hW hb (by omega) (by omega) (by have := HL.out; simp; omega)).mono ?_; rintro e w5 ⟨rfl, hW5, hf⟩; have hm := Fr.trans hHeld hf; (try replace hV := fun w' h => hV w' (hf.trans h)); (try replace hF := fun w' h => hF w' (hf.trans h)); replace hW := hW5; clear hf hW5; (try go_simp))
    refine hKK.out _ _ (by assumption) (fun hHeld => ?_)
    clear hKK KK
    try simp only [Act.put, List.setIfInBounds_toArray, List.set_cons_zero, List.set_cons_succ]
    refine anyH_run3 (i := 8) (j := 13) (k := 17) (L1 := #[true, true, true, true, true, true, true, true, true, true, true, true, true, false, false, true, true, false, false]) (L2 := #[true, true, true, true, true, true, true, true, false, true, true, true, true, true, false, true, true, false, false]) (L3 := #[true, true, true, true, true, true, true, true, false, true, true, true, true, false, false, true, true, true, false]) rfl rfl rfl (by kernel_rfl) (by rfl) (by rfl) (by rfl) (fun KK hKK => ?ra9) (fun KK hKK => ?rb9) (fun KK hKK => ?rc9)
    case' ra9 =>
      go_simp
      (refine (WTNum_any _ (by decide) 8 b1 base b _ _ hW hb (by omega) (by omega) (by have := HL.out; simp; omega)).mono ?_; rintro e w8 ⟨rfl, hW8, hf⟩; have hm := Fr.trans hHeld hf; (try replace hV := fun w' h => hV w' (hf.trans h)); (try replace hF := fun w' h => hF w' (hf.trans h)); replace hW := hW8; clear hf hW8; (try go_simp))
      refine hKK.out _ _ (by assumption) (fun hHeld => ?_)
      clear hKK KK
      try simp only [Act.put, List.setIfInBounds_toArray, List.set_cons_zero, List.set_cons_succ]
      refine anyH_run2 (i := 13) (j := 17) (L1 := #[true, true, true, true, true, true, true, true, true, true, true, true, true, true, false, true, true, false, false]) (L2 := #[true, true, true, true, true, true, true, true, true, true, true, true, true, false, false, true, true, true, false]) rfl rfl (by kernel_rfl) (by rfl) (by rfl) (fun KK hKK => ?ra10) (fun KK hKK => ?rb10)
      case' ra10 =>
        (obtain ⟨m1, m2, hV⟩ := Fr.litV hHeld hW hb [(px, py), (vx, vy)] #[.int .i64 px, .int .i64 py, .int .i64 vx, .int .i64 vy] 27 2 (by decide) rfl rfl (by simp); (try simp only [World.size_alloc] at hV); (try replace hF := fun w' h => hF w' ((Fr.lit0 hHeld hW hb (.cells #[.int .i64 px, .int .i64 py, .int .i64 vx, .int .i64 vy] 27)).trans h)); replace hW := m1; go_simp)
        refine hKK.out _ _ (by assumption) (fun hHeld => ?_)
        clear hKK KK
        try simp only [Act.put, List.setIfInBounds_toArray, List.set_cons_zero, List.set_cons_succ]
        refine anyH_run2 (i := 14) (j := 17) (L1 := #[true, true, true, true, true, true, true, true, true, true, true, true, true, true, true, true, true, false, false]) (L2 := #[true, true, true, true, true, true, true, true, true, true, true, true, true, true, false, true, true, true, false]) rfl rfl (by kernel_rfl) (by rfl) (by rfl) (fun KK hKK => ?ra11) (fun KK hKK => ?rb11)
        case' ra11 =>
          go_simp
          (refine (WTV_any _ (by decide) base b _ _ [(px, py), (vx, vy)] _ hW hb hV (by have := HL.out; simp; omega)).mono ?_; rintro e w14 ⟨rfl, hW14, hf⟩; have hm := Fr.trans hHeld hf; clear hV; (try replace hF := fun w' h => hF w' (hf.trans h)); replace hW := hW14; clear hf hW14; (try go_simp))
          refine hKK.out _ _ (by assumption) (fun hHeld => ?_)
          clear hKK KK
          try simp only [Act.put, List.setIfInBounds_toArray, List.set_cons_zero, List.set_cons_succ]
          refine anyH_run (i := 17) (L' := #[true, true, true, true, true, true, true, true, true, true, true, true, true, true, true, true, true, true, false]) rfl (by kernel_rfl) (by rfl) (fun KK hKK => ?_)
          (obtain ⟨m1, m2, hF⟩ := Fr.litF hHeld hW hb [ln] #[.int .i64 ln] 25 1 (by decide) rfl rfl (by simp); (try simp only [World.size_alloc] at hF); (try replace hV := fun w' h => hV w' ((Fr.lit0 hHeld hW hb (.cells #[.int .i64 ln] 25)).trans h)); replace hW := m1; go_simp)
          refine hKK.out _ _ (by assumption) (fun hHeld => ?_)
          clear hKK KK
          try simp only [Act.put, List.setIfInBounds_toArray, List.set_cons_zero, List.set_cons_succ]
          refine anyH_run (i := 18) (L' := #[true, true, true, true, true, true, true, true, true, true, true, true, true, true, true, true, true, true, true]) rfl (by kernel_rfl) (by rfl) (fun KK hKK => ?_)
          go_simp
          (refine (WTF_any _ (by decide) base b _ _ [ln] _ hW hb hF (by have := HL.out; simp [leF_length, fV]; omega)).mono ?_; rintro e w18 ⟨rfl, hW18, hf⟩; have hm := Fr.trans hHeld hf; (try replace hV := fun w' h => hV w' (hf.trans h)); clear hF; replace hW := hW18; clear hf hW18; (try go_simp))
          refine hKK.out _ _ (by assumption) (fun hHeld => ?_)
          clear hKK KK
          try simp only [Act.put, List.setIfInBounds_toArray, List.set_cons_zero, List.set_cons_succ]
          refine wpAnyH_done (by kernel_rfl) ?_ _
          go_wp2_with (fail); go_end0; exact ⟨rfl, by have := hW; rw [HLL.out]; simpa using this, (HF0.out.trans HR1.out).trans hHeld⟩
        case' rb11 =>
          (obtain ⟨m1, m2, hF⟩ := Fr.litF hHeld hW hb [ln] #[.int .i64 ln] 25 1 (by decide) rfl rfl (by simp); (try simp only [World.size_alloc] at hF); (try replace hV := fun w' h => hV w' ((Fr.lit0 hHeld hW hb (.cells #[.int .i64 ln] 25)).trans h)); replace hW := m1; go_simp)
          refine hKK.out _ _ (by assumption) (fun hHeld => ?_)
          clear hKK KK
          try simp only [Act.put, List.setIfInBounds_toArray, List.set_cons_zero, List.set_cons_succ]
          refine anyH_run (i := 14) (L' := #[true, true, true, true, true, true, true, true, true, true, true, true, true, true, true, true, true, true, false]) rfl (by kernel_rfl) (by rfl) (fun KK hKK => ?_)
          go_simp
          (refine (WTV_any _ (by decide) base b _ _ [(px, py), (vx, vy)] _ hW hb hV (by have := HL.out; simp; omega)).mono ?_; rintro e w14 ⟨rfl, hW14, hf⟩; have hm := Fr.trans hHeld hf; clear hV; (try replace hF := fun w' h => hF w' (hf.trans h)); replace hW := hW14; clear hf hW14; (try go_simp))
          refine hKK.out _ _ (by assumption) (fun hHeld => ?_)
          clear hKK KK
          try simp only [Act.put, List.setIfInBounds_toArray, List.set_cons_zero, List.set_cons_succ]
          refine anyH_run (i := 18) (L' := #[true, true, true, true, true, true, true, true, true, true, true, true, true, true, true, true, true, true, true]) rfl (by kernel_rfl) (by rfl) (fun KK hKK => ?_)
          go_simp
          (refine (WTF_any _ (by decide) base b _ _ [ln] _ hW hb hF (by have := HL.out; simp [leF_length, fV]; omega)).mono ?_; rintro e w18 ⟨rfl, hW18, hf⟩; have hm := Fr.trans hHeld hf; (try replace hV := fun w' h => hV w' (hf.trans h)); clear hF; replace hW := hW18; clear hf hW18; (try go_simp))
          refine hKK.out _ _ (by assumption) (fun hHeld => ?_)
          clear hKK KK
          try simp only [Act.put, List.setIfInBounds_toArray, List.set_cons_zero, List.set_cons_succ]
          refine wpAnyH_done (by kernel_rfl) ?_ _
          go_wp2_with (fail); go_end0; exact ⟨rfl, by have := hW; rw [HLL.out]; simpa using this, (HF0.out.trans HR1.out).trans hHeld⟩
      case' rb10 =>
        (obtain ⟨m1, m2, hF⟩ := Fr.litF hHeld hW hb [ln] #[.int .i64 ln] 25 1 (by decide) rfl rfl (by simp); (try simp only [World.size_alloc] at hF); (try replace hV := fun w' h => hV w' ((Fr.lit0 hHeld hW hb (.cells #[.int .i64 ln] 25)).trans h)); replace hW := m1; go_simp)
        refine hKK.out _ _ (by assumption) (fun hHeld => ?_)
        clear hKK KK
        try simp only [Act.put, List.setIfInBounds_toArray, List.set_cons_zero, List.set_cons_succ]
        refine anyH_run (i := 13) (L' := #[true, true, true, true, true, true, true, true, true, true, true, true, true, true, false, true, true, true, false]) rfl (by kernel_rfl) (by rfl) (fun KK hKK => ?_)
        (obtain ⟨m1, m2, hV⟩ := Fr.litV hHeld hW hb [(px, py), (vx, vy)] #[.int .i64 px, .int .i64 py, .int .i64 vx, .int .i64 vy] 27 2 (by decide) rfl rfl (by simp); (try simp only [World.size_alloc] at hV); (try replace hF := fun w' h => hF w' ((Fr.lit0 hHeld hW hb (.cells #[.int .i64 px, .int .i64 py, .int .i64 vx, .int .i64 vy] 27)).trans h)); replace hW := m1; go_simp)
        refine hKK.out _ _ (by assumption) (fun hHeld => ?_)
        clear hKK KK
        try simp only [Act.put, List.setIfInBounds_toArray, List.set_cons_zero, List.set_cons_succ]
        refine anyH_run (i := 14) (L' := #[true, true, true, true, true, true, true, true, true, true, true, true, true, true, true, true, true, true, false]) rfl (by kernel_rfl) (by rfl) (fun KK hKK => ?_)
        go_simp
        (refine (WTV_any _ (by decide) base b _ _ [(px, py), (vx, vy)] _ hW hb hV (by have := HL.out; simp; omega)).mono ?_; rintro e w14 ⟨rfl, hW14, hf⟩; have hm := Fr.trans hHeld hf; clear hV; (try replace hF := fun w' h => hF w' (hf.trans h)); replace hW := hW14; clear hf hW14; (try go_simp))
        refine hKK.out _ _ (by assumption) (fun hHeld => ?_)
        clear hKK KK
        try simp only [Act.put, List.setIfInBounds_toArray, List.set_cons_zero, List.set_cons_succ]
        refine anyH_run (i := 18) (L' := #[true, true, true, true, true, true, true, true, true, true, true, true, true, true, true, true, true, true, true]) rfl (by kernel_rfl) (by rfl) (fun KK hKK => ?_)
        go_simp
        (refine (WTF_any _ (by decide) base b _ _ [ln] _ hW hb hF (by have := HL.out; simp [leF_length, fV]; omega)).mono ?_; rintro e w18 ⟨rfl, hW18, hf⟩; have hm := Fr.trans hHeld hf; (try replace hV := fun w' h => hV w' (hf.trans h)); clear hF; replace hW := hW18; clear hf hW18; (try go_simp))
        refine hKK.out _ _ (by assumption) (fun hHeld => ?_)
        clear hKK KK
        try simp only [Act.put, List.setIfInBounds_toArray, List.set_cons_zero, List.set_cons_succ]
        refine wpAnyH_done (by kernel_rfl) ?_ _
        go_wp2_with (fail); go_end0; exact ⟨rfl, by have := hW; rw [HLL.out]; simpa using this, (HF0.out.trans HR1.out).trans hHeld⟩
    case' rb9 =>
      (obtain ⟨m1, m2, hV⟩ := Fr.litV hHeld hW hb [(px, py), (vx, vy)] #[.int .i64 px, .int .i64 py, .int .i64 vx, .int .i64 vy] 27 2 (by decide) rfl rfl (by simp); (try simp only [World.size_alloc] at hV); (try replace hF := fun w' h => hF w' ((Fr.lit0 hHeld hW hb (.cells #[.int .i64 px, .int .i64 py, .int .i64 vx, .int .i64 vy] 27)).trans h)); replace hW := m1; go_simp)
      refine hKK.out _ _ (by assumption) (fun hHeld => ?_)
      clear hKK KK
      try simp only [Act.put, List.setIfInBounds_toArray, List.set_cons_zero, List.set_cons_succ]
      refine anyH_run2 (i := 8) (j := 17) (L1 := #[true, true, true, true, true, true, true, true, true, true, true, true, true, true, false, true, true, false, false]) (L2 := #[true, true, true, true, true, true, true, true, false, true, true, true, true, true, false, true, true, true, false]) rfl rfl (by kernel_rfl) (by rfl) (by rfl) (fun KK hKK => ?ra12) (fun KK hKK => ?rb12)
      case' ra12 =>
        go_simp
        (refine (WTNum_any _ (by decide) 8 b1 base b _ _ hW hb (by omega) (by omega) (by have := HL.out; simp; omega)).mono ?_; rintro e w8 ⟨rfl, hW8, hf⟩; have hm := Fr.trans hHeld hf; (try replace hV := fun w' h => hV w' (hf.trans h)); (try replace hF := fun w' h => hF w' (hf.trans h)); replace hW := hW8; clear hf hW8; (try go_simp))
        refine hKK.out _ _ (by assumption) (fun hHeld => ?_)
        clear hKK KK
        try simp only [Act.put, List.setIfInBounds_toArray, List.set_cons_zero, List.set_cons_succ]
        refine anyH_run2 (i := 14) (j := 17) (L1 := #[true, true, true, true, true, true, true, true, true, true, true, true, true, true, true, true, true, false, false]) (L2 := #[true, true, true, true, true, true, true, true, true, true, true, true, true, true, false, true, true, true, false]) rfl rfl (by kernel_rfl) (by rfl) (by rfl) (fun KK hKK => ?ra13) (fun KK hKK => ?rb13)
        case' ra13 =>
          go_simp
          (refine (WTV_any _ (by decide) base b _ _ [(px, py), (vx, vy)] _ hW hb hV (by have := HL.out; simp; omega)).mono ?_; rintro e w14 ⟨rfl, hW14, hf⟩; have hm := Fr.trans hHeld hf; clear hV; (try replace hF := fun w' h => hF w' (hf.trans h)); replace hW := hW14; clear hf hW14; (try go_simp))
          refine hKK.out _ _ (by assumption) (fun hHeld => ?_)
          clear hKK KK
          try simp only [Act.put, List.setIfInBounds_toArray, List.set_cons_zero, List.set_cons_succ]
          refine anyH_run (i := 17) (L' := #[true, true, true, true, true, true, true, true, true, true, true, true, true, true, true, true, true, true, false]) rfl (by kernel_rfl) (by rfl) (fun KK hKK => ?_)
          (obtain ⟨m1, m2, hF⟩ := Fr.litF hHeld hW hb [ln] #[.int .i64 ln] 25 1 (by decide) rfl rfl (by simp); (try simp only [World.size_alloc] at hF); (try replace hV := fun w' h => hV w' ((Fr.lit0 hHeld hW hb (.cells #[.int .i64 ln] 25)).trans h)); replace hW := m1; go_simp)
          refine hKK.out _ _ (by assumption) (fun hHeld => ?_)
          clear hKK KK
          try simp only [Act.put, List.setIfInBounds_toArray, List.set_cons_zero, List.set_cons_succ]
          refine anyH_run (i := 18) (L' := #[true, true, true, true, true, true, true, true, true, true, true, true, true, true, true, true, true, true, true]) rfl (by kernel_rfl) (by rfl) (fun KK hKK => ?_)
          go_simp
          (refine (WTF_any _ (by decide) base b _ _ [ln] _ hW hb hF (by have := HL.out; simp [leF_length, fV]; omega)).mono ?_; rintro e w18 ⟨rfl, hW18, hf⟩; have hm := Fr.trans hHeld hf; (try replace hV := fun w' h => hV w' (hf.trans h)); clear hF; replace hW := hW18; clear hf hW18; (try go_simp))
          refine hKK.out _ _ (by assumption) (fun hHeld => ?_)
          clear hKK KK
          try simp only [Act.put, List.setIfInBounds_toArray, List.set_cons_zero, List.set_cons_succ]
          refine wpAnyH_done (by kernel_rfl) ?_ _
          go_wp2_with (fail); go_end0; exact ⟨rfl, by have := hW; rw [HLL.out]; simpa using this, (HF0.out.trans HR1.out).trans hHeld⟩
        case' rb13 =>
          (obtain ⟨m1, m2, hF⟩ := Fr.litF hHeld hW hb [ln] #[.int .i64 ln] 25 1 (by decide) rfl rfl (by simp); (try simp only [World.size_alloc] at hF); (try replace hV := fun w' h => hV w' ((Fr.lit0 hHeld hW hb (.cells #[.int .i64 ln] 25)).trans h)); replace hW := m1; go_simp)
          refine hKK.out _ _ (by assumption) (fun hHeld => ?_)
          clear hKK KK
          try simp only [Act.put, List.setIfInBounds_toArray, List.set_cons_zero, List.set_cons_succ]
          refine anyH_run (i := 14) (L' := #[true, true, true, true, true, true, true, true, true, true, true, true, true, true, true, true, true, true, false]) rfl (by kernel_rfl) (by rfl) (fun KK hKK => ?_)
          go_simp
          (refine (WTV_any _ (by decide) base b _ _ [(px, py), (vx, vy)] _ hW hb hV (by have := HL.out; simp; omega)).mono ?_; rintro e w14 ⟨rfl, hW14, hf⟩; have hm := Fr.trans hHeld hf; clear hV; (try replace hF := fun w' h => hF w' (hf.trans h)); replace hW := hW14; clear hf hW14; (try go_simp))
          refine hKK.out _ _ (by assumption) (fun hHeld => ?_)
          clear hKK KK
          try simp only [Act.put, List.setIfInBounds_toArray, List.set_cons_zero, List.set_cons_succ]
          refine anyH_run (i := 18) (L' := #[true, true, true, true, true, true, true, true, true, true, true, true, true, true, true, true, true, true, true]) rfl (by kernel_rfl) (by rfl) (fun KK hKK => ?_)
          go_simp
          (refine (WTF_any _ (by decide) base b _ _ [ln] _ hW hb hF (by have := HL.out; simp [leF_length, fV]; omega)).mono ?_; rintro e w18 ⟨rfl, hW18, hf⟩; have hm := Fr.trans hHeld hf; (try replace hV := fun w' h => hV w' (hf.trans h)); clear hF; replace hW := hW18; clear hf hW18; (try go_simp))
          refine hKK.out _ _ (by assumption) (fun hHeld => ?_)
          clear hKK KK
          try simp only [Act.put, List.setIfInBounds_toArray, List.set_cons_zero, List.set_cons_succ]
          refine wpAnyH_done (by kernel_rfl) ?_ _
          go_wp2_with (fail); go_end0; exact ⟨rfl, by have := hW; rw [HLL.out]; simpa using this, (HF0.out.trans HR1.out).trans hHeld⟩
      case' rb12 =>
        (obtain ⟨m1, m2, hF⟩ := Fr.litF hHeld hW hb [ln] #[.int .i64 ln] 25 1 (by decide) rfl rfl (by simp); (try simp only [World.size_alloc] at hF); (try replace hV := fun w' h => hV w' ((Fr.lit0 hHeld hW hb (.cells #[.int .i64 ln] 25)).trans h)); replace hW := m1; go_simp)
        refine hKK.out _ _ (by assumption) (fun hHeld => ?_)
        clear hKK KK
        try simp only [Act.put, List.setIfInBounds_toArray, List.set_cons_zero, List.set_cons_succ]
        refine anyH_run (i := 8) (L' := #[true, true, true, true, true, true, true, true, true, true, true, true, true, true, false, true, true, true, false]) rfl (by kernel_rfl) (by rfl) (fun KK hKK => ?_)
        go_simp
        (refine (WTNum_any _ (by decide) 8 b1 base b _ _ hW hb (by omega) (by omega) (by have := HL.out; simp; omega)).mono ?_; rintro e w8 ⟨rfl, hW8, hf⟩; have hm := Fr.trans hHeld hf; (try replace hV := fun w' h => hV w' (hf.trans h)); (try replace hF := fun w' h => hF w' (hf.trans h)); replace hW := hW8; clear hf hW8; (try go_simp))
        refine hKK.out _ _ (by assumption) (fun hHeld => ?_)
        clear hKK KK
        try simp only [Act.put, List.setIfInBounds_toArray, List.set_cons_zero, List.set_cons_succ]
        refine anyH_run (i := 14) (L' := #[true, true, true, true, true, true, true, true, true, true, true, true, true, true, true, true, true, true, false]) rfl (by kernel_rfl) (by rfl) (fun KK hKK => ?_)
        go_simp
        (refine (WTV_any _ (by decide) base b _ _ [(px, py), (vx, vy)] _ hW hb hV (by have := HL.out; simp; omega)).mono ?_; rintro e w14 ⟨rfl, hW14, hf⟩; have hm := Fr.trans hHeld hf; clear hV; (try replace hF := fun w' h => hF w' (hf.trans h)); replace hW := hW14; clear hf hW14; (try go_simp))
        refine hKK.out _ _ (by assumption) (fun hHeld => ?_)
        clear hKK KK
        try simp only [Act.put, List.setIfInBounds_toArray, List.set_cons_zero, List.set_cons_succ]
        refine anyH_run (i := 18) (L' := #[true, true, true, true, true, true, true, true, true, true, true, true, true, true, true, true, true, true, true]) rfl (by kernel_rfl) (by rfl) (fun KK hKK => ?_)
        go_simp
        (refine (WTF_any _ (by decide) base b _ _ [ln] _ hW hb hF (by have := HL.out; simp [leF_length, fV]; omega)).mono ?_; rintro e w18 ⟨rfl, hW18, hf⟩; have hm := Fr.trans hHeld hf; (try replace hV := fun w' h => hV w' (hf.trans h)); clear hF; replace hW := hW18; clear hf hW18; (try go_simp))
        refine hKK.out _ _ (by assumption) (fun hHeld => ?_)
        clear hKK KK
        try simp only [Act.put, List.setIfInBounds_toArray, List.set_cons_zero, List.set_cons_succ]
        refine wpAnyH_done (by kernel_rfl) ?_ _
        go_wp2_with (fail); go_end0; exact ⟨rfl, by have := hW; rw [HLL.out]; simpa using this, (HF0.out.trans HR1.out).trans hHeld⟩
    case' rc9 =>
      (obtain ⟨m1, m2, hF⟩ := Fr.litF hHeld hW hb [ln] #[.int .i64 ln] 25 1 (by decide) rfl rfl (by simp); (try simp only [World.size_alloc] at hF); (try replace hV := fun w' h => hV w' ((Fr.lit0 hHeld hW hb (.cells #[.int .i64 ln] 25)).trans h)); replace hW := m1; go_simp)
      refine hKK.out _ _ (by assumption) (fun hHeld => ?_)
      clear hKK KK
      try simp only [Act.put, List.setIfInBounds_toArray, List.set_cons_zero, List.set_cons_succ]
      refine anyH_run2 (i := 8) (j := 13) (L1 := #[true, true, true, true, true, true, true, true, true, true, true, true, true, false, false, true, true, true, false]) (L2 := #[true, true, true, true, true, true, true, true, false, true, true, true, true, true, false, true, true, true, false]) rfl rfl (by kernel_rfl) (by rfl) (by rfl) (fun KK hKK => ?ra14) (fun KK hKK => ?rb14)
      case' ra14 =>
        go_simp
        (refine (WTNum_any _ (by decide) 8 b1 base b _ _ hW hb (by omega) (by omega) (by have := HL.out; simp; omega)).mono ?_; rintro e w8 ⟨rfl, hW8, hf⟩; have hm := Fr.trans hHeld hf; (try replace hV := fun w' h => hV w' (hf.trans h)); (try replace hF := fun w' h => hF w' (hf.trans h)); replace hW := hW8; clear hf hW8; (try go_simp))
        refine hKK.out _ _ (by assumption) (fun hHeld => ?_)
        clear hKK KK
        try simp only [Act.put, List.setIfInBounds_toArray, List.set_cons_zero, List.set_cons_succ]
        refine anyH_run (i := 13) (L' := #[true, true, true, true, true, true, true, true, true, true, true, true, true, true, false, true, true, true, false]) rfl (by kernel_rfl) (by rfl) (fun KK hKK => ?_)
        (obtain ⟨m1, m2, hV⟩ := Fr.litV hHeld hW hb [(px, py), (vx, vy)] #[.int .i64 px, .int .i64 py, .int .i64 vx, .int .i64 vy] 27 2 (by decide) rfl rfl (by simp); (try simp only [World.size_alloc] at hV); (try replace hF := fun w' h => hF w' ((Fr.lit0 hHeld hW hb (.cells #[.int .i64 px, .int .i64 py, .int .i64 vx, .int .i64 vy] 27)).trans h)); replace hW := m1; go_simp)
        refine hKK.out _ _ (by assumption) (fun hHeld => ?_)
        clear hKK KK
        try simp only [Act.put, List.setIfInBounds_toArray, List.set_cons_zero, List.set_cons_succ]
        refine anyH_run (i := 14) (L' := #[true, true, true, true, true, true, true, true, true, true, true, true, true, true, true, true, true, true, false]) rfl (by kernel_rfl) (by rfl) (fun KK hKK => ?_)
        go_simp
        (refine (WTV_any _ (by decide) base b _ _ [(px, py), (vx, vy)] _ hW hb hV (by have := HL.out; simp; omega)).mono ?_; rintro e w14 ⟨rfl, hW14, hf⟩; have hm := Fr.trans hHeld hf; clear hV; (try replace hF := fun w' h => hF w' (hf.trans h)); replace hW := hW14; clear hf hW14; (try go_simp))
        refine hKK.out _ _ (by assumption) (fun hHeld => ?_)
        clear hKK KK
        try simp only [Act.put, List.setIfInBounds_toArray, List.set_cons_zero, List.set_cons_succ]
        refine anyH_run (i := 18) (L' := #[true, true, true, true, true, true, true, true, true, true, true, true, true, true, true, true, true, true, true]) rfl (by kernel_rfl) (by rfl) (fun KK hKK => ?_)
        go_simp
        (refine (WTF_any _ (by decide) base b _ _ [ln] _ hW hb hF (by have := HL.out; simp [leF_length, fV]; omega)).mono ?_; rintro e w18 ⟨rfl, hW18, hf⟩; have hm := Fr.trans hHeld hf; (try replace hV := fun w' h => hV w' (hf.trans h)); clear hF; replace hW := hW18; clear hf hW18; (try go_simp))
        refine hKK.out _ _ (by assumption) (fun hHeld => ?_)
        clear hKK KK
        try simp only [Act.put, List.setIfInBounds_toArray, List.set_cons_zero, List.set_cons_succ]
        refine wpAnyH_done (by kernel_rfl) ?_ _
        go_wp2_with (fail); go_end0; exact ⟨rfl, by have := hW; rw [HLL.out]; simpa using this, (HF0.out.trans HR1.out).trans hHeld⟩
      case' rb14 =>
        (obtain ⟨m1, m2, hV⟩ := Fr.litV hHeld hW hb [(px, py), (vx, vy)] #[.int .i64 px, .int .i64 py, .int .i64 vx, .int .i64 vy] 27 2 (by decide) rfl rfl (by simp); (try simp only [World.size_alloc] at hV); (try replace hF := fun w' h => hF w' ((Fr.lit0 hHeld hW hb (.cells #[.int .i64 px, .int .i64 py, .int .i64 vx, .int .i64 vy] 27)).trans h)); replace hW := m1; go_simp)
        refine hKK.out _ _ (by assumption) (fun hHeld => ?_)
        clear hKK KK
        try simp only [Act.put, List.setIfInBounds_toArray, List.set_cons_zero, List.set_cons_succ]
        refine anyH_run (i := 8) (L' := #[true, true, true, true, true, true, true, true, true, true, true, true, true, true, false, true, true, true, false]) rfl (by kernel_rfl) (by rfl) (fun KK hKK => ?_)
        go_simp
        (refine (WTNum_any _ (by decide) 8 b1 base b _ _ hW hb (by omega) (by omega) (by have := HL.out; simp; omega)).mono ?_; rintro e w8 ⟨rfl, hW8, hf⟩; have hm := Fr.trans hHeld hf; (try replace hV := fun w' h => hV w' (hf.trans h)); (try replace hF := fun w' h => hF w' (hf.trans h)); replace hW := hW8; clear hf hW8; (try go_simp))
        refine hKK.out _ _ (by assumption) (fun hHeld => ?_)
        clear hKK KK
        try simp only [Act.put, List.setIfInBounds_toArray, List.set_cons_zero, List.set_cons_succ]
        refine anyH_run (i := 14) (L' := #[true, true, true, true, true, true, true, true, true, true, true, true, true, true, true, true, true, true, false]) rfl (by kernel_rfl) (by rfl) (fun KK hKK => ?_)
        go_simp
        (refine (WTV_any _ (by decide) base b _ _ [(px, py), (vx, vy)] _ hW hb hV (by have := HL.out; simp; omega)).mono ?_; rintro e w14 ⟨rfl, hW14, hf⟩; have hm := Fr.trans hHeld hf; clear hV; (try replace hF := fun w' h => hF w' (hf.trans h)); replace hW := hW14; clear hf hW14; (try go_simp))
        refine hKK.out _ _ (by assumption) (fun hHeld => ?_)
        clear hKK KK
        try simp only [Act.put, List.setIfInBounds_toArray, List.set_cons_zero, List.set_cons_succ]
        refine anyH_run (i := 18) (L' := #[true, true, true, true, true, true, true, true, true, true, true, true, true, true, true, true, true, true, true]) rfl (by kernel_rfl) (by rfl) (fun KK hKK => ?_)
        go_simp
        (refine (WTF_any _ (by decide) base b _ _ [ln] _ hW hb hF (by have := HL.out; simp [leF_length, fV]; omega)).mono ?_; rintro e w18 ⟨rfl, hW18, hf⟩; have hm := Fr.trans hHeld hf; (try replace hV := fun w' h => hV w' (hf.trans h)); clear hF; replace hW := hW18; clear hf hW18; (try go_simp))
        refine hKK.out _ _ (by assumption) (fun hHeld => ?_)
        clear hKK KK
        try simp only [Act.put, List.setIfInBounds_toArray, List.set_cons_zero, List.set_cons_succ]
        refine wpAnyH_done (by kernel_rfl) ?_ _
        go_wp2_with (fail); go_end0; exact ⟨rfl, by have := hW; rw [HLL.out]; simpa using this, (HF0.out.trans HR1.out).trans hHeld⟩
  case' rb8 =>
    (obtain ⟨m1, m2, hV⟩ := Fr.litV hHeld hW hb [(px, py), (vx, vy)] #[.int .i64 px, .int .i64 py, .int .i64 vx, .int .i64 vy] 27 2 (by decide) rfl rfl (by simp); (try simp only [World.size_alloc] at hV); (try replace hF := fun w' h => hF w' ((Fr.lit0 hHeld hW hb (.cells #[.int .i64 px, .int .i64 py, .int .i64 vx, .int .i64 vy] 27)).trans h)); replace hW := m1; go_simp)
    refine hKK.out _ _ (by assumption) (fun hHeld => ?_)
    clear hKK KK
    try simp only [Act.put, List.setIfInBounds_toArray, List.set_cons_zero, List.set_cons_succ]
    refine anyH_run2 (i := 5) (j := 17) (L1 := #[true, true, true, true, true, true, true, true, false, true, true, true, true, true, false, true, true, false, false]) (L2 := #[true, true, true, true, true, false, true, true, false, true, true, true, true, true, false, true, true, true, false]) rfl rfl (by kernel_rfl) (by rfl) (by rfl) (fun KK hKK => ?ra15) (fun KK hKK => ?rb15)
    case' ra15 =>
      go_simp
      (refine (WTNum_any _ (by decide) 8 a base b _ _ hW hb (by omega) (by omega) (by have := HL.out; simp; omega)).mono ?_; rintro e w5 ⟨rfl, hW5, hf⟩; have hm := Fr.trans hHeld hf; (try replace hV := fun w' h => hV w' (hf.trans h)); (try replace hF := fun w' h => hF w' (hf.trans h)); replace hW := hW5; clear hf hW5; (try go_simp))
      refine hKK.out _ _ (by assumption) (fun hHeld => ?_)
      clear hKK KK
      try simp only [Act.put, List.setIfInBounds_toArray, List.set_cons_zero, List.set_cons_succ]
      refine anyH_run2 (i := 8) (j := 17) (L1 := #[true, true, true, true, true, true, true, true, true, true, true, true, true, true, false, true, true, false, false]) (L2 := #[true, true, true, true, true, true, true, true, false, true, true, true, true, true, false, true, true, true, false]) rfl rfl (by kernel_rfl) (by rfl) (by rfl) (fun KK hKK => ?ra16) (fun KK hKK => ?rb16)
      case' ra16 =>
        go_simp
        (refine (WTNum_any _ (by decide) 8 b1 base b _ _ hW hb (by omega) (by omega) (by have := HL.out; simp; omega)).mono ?_; rintro e w8 ⟨rfl, hW8, hf⟩; have hm := Fr.trans hHeld hf; (try replace hV := fun w' h => hV w' (hf.trans h)); (try replace hF := fun w' h => hF w' (hf.trans h)); replace hW := hW8; clear hf hW8; (try go_simp))
        refine hKK.out _ _ (by assumption) (fun hHeld => ?_)
        clear hKK KK
        try simp only [Act.put, List.setIfInBounds_toArray, List.set_cons_zero, List.set_cons_succ]
        refine anyH_run2 (i := 14) (j := 17) (L1 := #[true, true, true, true, true, true, true, true, true, true, true, true, true, true, true, true, true, false, false]) (L2 := #[true, true, true, true, true, true, true, true, true, true, true, true, true, true, false, true, true, true, false]) rfl rfl (by kernel_rfl) (by rfl) (by rfl) (fun KK hKK => ?ra17) (fun KK hKK => ?rb17)
        case' ra17 =>
          go_simp
          (refine (WTV_any _ (by decide) base b _ _ [(px, py), (vx, vy)] _ hW hb hV (by have := HL.out; simp; omega)).mono ?_; rintro e w14 ⟨rfl, hW14, hf⟩; have hm := Fr.trans hHeld hf; clear hV; (try replace hF := fun w' h => hF w' (hf.trans h)); replace hW := hW14; clear hf hW14; (try go_simp))
          refine hKK.out _ _ (by assumption) (fun hHeld => ?_)
          clear hKK KK
          try simp only [Act.put, List.setIfInBounds_toArray, List.set_cons_zero, List.set_cons_succ]
          refine anyH_run (i := 17) (L' := #[true, true, true, true, true, true, true, true, true, true, true, true, true, true, true, true, true, true, false]) rfl (by kernel_rfl) (by rfl) (fun KK hKK => ?_)
          (obtain ⟨m1, m2, hF⟩ := Fr.litF hHeld hW hb [ln] #[.int .i64 ln] 25 1 (by decide) rfl rfl (by simp); (try simp only [World.size_alloc] at hF); (try replace hV := fun w' h => hV w' ((Fr.lit0 hHeld hW hb (.cells #[.int .i64 ln] 25)).trans h)); replace hW := m1; go_simp)
          refine hKK.out _ _ (by assumption) (fun hHeld => ?_)
          clear hKK KK
          try simp only [Act.put, List.setIfInBounds_toArray, List.set_cons_zero, List.set_cons_succ]
          refine anyH_run (i := 18) (L' := #[true, true, true, true, true, true, true, true, true, true, true, true, true, true, true, true, true, true, true]) rfl (by kernel_rfl) (by rfl) (fun KK hKK => ?_)
          go_simp
          (refine (WTF_any _ (by decide) base b _ _ [ln] _ hW hb hF (by have := HL.out; simp [leF_length, fV]; omega)).mono ?_; rintro e w18 ⟨rfl, hW18, hf⟩; have hm := Fr.trans hHeld hf; (try replace hV := fun w' h => hV w' (hf.trans h)); clear hF; replace hW := hW18; clear hf hW18; (try go_simp))
          refine hKK.out _ _ (by assumption) (fun hHeld => ?_)
          clear hKK KK
          try simp only [Act.put, List.setIfInBounds_toArray, List.set_cons_zero, List.set_cons_succ]
          refine wpAnyH_done (by kernel_rfl) ?_ _
          go_wp2_with (fail); go_end0; exact ⟨rfl, by have := hW; rw [HLL.out]; simpa using this, (HF0.out.trans HR1.out).trans hHeld⟩
        case' rb17 =>
          (obtain ⟨m1, m2, hF⟩ := Fr.litF hHeld hW hb [ln] #[.int .i64 ln] 25 1 (by decide) rfl rfl (by simp); (try simp only [World.size_alloc] at hF); (try replace hV := fun w' h => hV w' ((Fr.lit0 hHeld hW hb (.cells #[.int .i64 ln] 25)).trans h)); replace hW := m1; go_simp)
          refine hKK.out _ _ (by assumption) (fun hHeld => ?_)
          clear hKK KK
          try simp only [Act.put, List.setIfInBounds_toArray, List.set_cons_zero, List.set_cons_succ]
          refine anyH_run (i := 14) (L' := #[true, true, true, true, true, true, true, true, true, true, true, true, true, true, true, true, true, true, false]) rfl (by kernel_rfl) (by rfl) (fun KK hKK => ?_)
          go_simp
          (refine (WTV_any _ (by decide) base b _ _ [(px, py), (vx, vy)] _ hW hb hV (by have := HL.out; simp; omega)).mono ?_; rintro e w14 ⟨rfl, hW14, hf⟩; have hm := Fr.trans hHeld hf; clear hV; (try replace hF := fun w' h => hF w' (hf.trans h)); replace hW := hW14; clear hf hW14; (try go_simp))
          refine hKK.out _ _ (by assumption) (fun hHeld => ?_)
          clear hKK KK
          try simp only [Act.put, List.setIfInBounds_toArray, List.set_cons_zero, List.set_cons_succ]
          refine anyH_run (i := 18) (L' := #[true, true, true, true, true, true, true, true, true, true, true, true, true, true, true, true, true, true, true]) rfl (by kernel_rfl) (by rfl) (fun KK hKK => ?_)
          go_simp
          (refine (WTF_any _ (by decide) base b _ _ [ln] _ hW hb hF (by have := HL.out; simp [leF_length, fV]; omega)).mono ?_; rintro e w18 ⟨rfl, hW18, hf⟩; have hm := Fr.trans hHeld hf; (try replace hV := fun w' h => hV w' (hf.trans h)); clear hF; replace hW := hW18; clear hf hW18; (try go_simp))
          refine hKK.out _ _ (by assumption) (fun hHeld => ?_)
          clear hKK KK
          try simp only [Act.put, List.setIfInBounds_toArray, List.set_cons_zero, List.set_cons_succ]
          refine wpAnyH_done (by kernel_rfl) ?_ _
          go_wp2_with (fail); go_end0; exact ⟨rfl, by have := hW; rw [HLL.out]; simpa using this, (HF0.out.trans HR1.out).trans hHeld⟩
      case' rb16 =>
        (obtain ⟨m1, m2, hF⟩ := Fr.litF hHeld hW hb [ln] #[.int .i64 ln] 25 1 (by decide) rfl rfl (by simp); (try simp only [World.size_alloc] at hF); (try replace hV := fun w' h => hV w' ((Fr.lit0 hHeld hW hb (.cells #[.int .i64 ln] 25)).trans h)); replace hW := m1; go_simp)
        refine hKK.out _ _ (by assumption) (fun hHeld => ?_)
        clear hKK KK
        try simp only [Act.put, List.setIfInBounds_toArray, List.set_cons_zero, List.set_cons_succ]
        refine anyH_run (i := 8) (L' := #[true, true, true, true, true, true, true, true, true, true, true, true, true, true, false, true, true, true, false]) rfl (by kernel_rfl) (by rfl) (fun KK hKK => ?_)
        go_simp
        (refine (WTNum_any _ (by decide) 8 b1 base b _ _ hW hb (by omega) (by omega) (by have := HL.out; simp; omega)).mono ?_; rintro e w8 ⟨rfl, hW8, hf⟩; have hm := Fr.trans hHeld hf; (try replace hV := fun w' h => hV w' (hf.trans h)); (try replace hF := fun w' h => hF w' (hf.trans h)); replace hW := hW8; clear hf hW8; (try go_simp))
        refine hKK.out _ _ (by assumption) (fun hHeld => ?_)
        clear hKK KK
        try simp only [Act.put, List.setIfInBounds_toArray, List.set_cons_zero, List.set_cons_succ]
        refine anyH_run (i := 14) (L' := #[true, true, true, true, true, true, true, true, true, true, true, true, true, true, true, true, true, true, false]) rfl (by kernel_rfl) (by rfl) (fun KK hKK => ?_)
        go_simp
        (refine (WTV_any _ (by decide) base b _ _ [(px, py), (vx, vy)] _ hW hb hV (by have := HL.out; simp; omega)).mono ?_; rintro e w14 ⟨rfl, hW14, hf⟩; have hm := Fr.trans hHeld hf; clear hV; (try replace hF := fun w' h => hF w' (hf.trans h)); replace hW := hW14; clear hf hW14; (try go_simp))
        refine hKK.out _ _ (by assumption) (fun hHeld => ?_)
        clear hKK KK
        try simp only [Act.put, List.setIfInBounds_toArray, List.set_cons_zero, List.set_cons_succ]
        refine anyH_run (i := 18) (L' := #[true, true, true, true, true, true, true, true, true, true, true, true, true, true, true, true, true, true, true]) rfl (by kernel_rfl) (by rfl) (fun KK hKK => ?_)
        go_simp
        (refine (WTF_any _ (by decide) base b _ _ [ln] _ hW hb hF (by have := HL.out; simp [leF_length, fV]; omega)).mono ?_; rintro e w18 ⟨rfl, hW18, hf⟩; have hm := Fr.trans hHeld hf; (try replace hV := fun w' h => hV w' (hf.trans h)); clear hF; replace hW := hW18; clear hf hW18; (try go_simp))
        refine hKK.out _ _ (by assumption) (fun hHeld => ?_)
        clear hKK KK
        try simp only [Act.put, List.setIfInBounds_toArray, List.set_cons_zero, List.set_cons_succ]
        refine wpAnyH_done (by kernel_rfl) ?_ _
        go_wp2_with (fail); go_end0; exact ⟨rfl, by have := hW; rw [HLL.out]; simpa using this, (HF0.out.trans HR1.out).trans hHeld⟩
    case' rb15 =>
      (obtain ⟨m1, m2, hF⟩ := Fr.litF hHeld hW hb [ln] #[.int .i64 ln] 25 1 (by decide) rfl rfl (by simp); (try simp only [World.size_alloc] at hF); (try replace hV := fun w' h => hV w' ((Fr.lit0 hHeld hW hb (.cells #[.int .i64 ln] 25)).trans h)); replace hW := m1; go_simp)
      refine hKK.out _ _ (by assumption) (fun hHeld => ?_)
      clear hKK KK
      try simp only [Act.put, List.setIfInBounds_toArray, List.set_cons_zero, List.set_cons_succ]
      refine anyH_run (i := 5) (L' := #[true, true, true, true, true, true, true, true, false, true, true, true, true, true, false, true, true, true, false]) rfl (by kernel_rfl) (by rfl) (fun KK hKK => ?_)
      go_simp
      (refine (WTNum_any _ (by decide) 8 a base b _ _ hW hb (by omega) (by omega) (by have := HL.out; simp; omega)).mono ?_; rintro e w5 ⟨rfl, hW5, hf⟩; have hm := Fr.trans hHeld hf; (try replace hV := fun w' h => hV w' (hf.trans h)); (try replace hF := fun w' h => hF w' (hf.trans h)); replace hW := hW5; clear hf hW5; (try go_simp))
      refine hKK.out _ _ (by assumption) (fun hHeld => ?_)
      clear hKK KK
      try simp only [Act.put, List.setIfInBounds_toArray, List.set_cons_zero, List.set_cons_succ]
      refine anyH_run (i := 8) (L' := #[true, true, true, true, true, true, true, true, true, true, true, true, true, true, false, true, true, true, false]) rfl (by kernel_rfl) (by rfl) (fun KK hKK => ?_)
      go_simp
      (refine (WTNum_any _ (by decide) 8 b1 base b _ _ hW hb (by omega) (by omega) (by have := HL.out; simp; omega)).mono ?_; rintro e w8 ⟨rfl, hW8, hf⟩; have hm := Fr.trans hHeld hf; (try replace hV := fun w' h => hV w' (hf.trans h)); (try replace hF := fun w' h => hF w' (hf.trans h)); replace hW := hW8; clear hf hW8; (try go_simp))
      refine hKK.out _ _ (by assumption) (fun hHeld => ?_)
      clear hKK KK
      try simp only [Act.put, List.setIfInBounds_toArray, List.set_cons_zero, List.set_cons_succ]
      refine anyH_run (i := 14) (L' := #[true, true, true, true, true, true, true, true, true, true, true, true, true, true, true, true, true, true, false]) rfl (by kernel_rfl) (by rfl) (fun KK hKK => ?_)
      go_simp
      (refine (WTV_any _ (by decide) base b _ _ [(px, py), (vx, vy)] _ hW hb hV (by have := HL.out; simp; omega)).mono ?_; rintro e w14 ⟨rfl, hW14, hf⟩; have hm := Fr.trans hHeld hf; clear hV; (try replace hF := fun w' h => hF w' (hf.trans h)); replace hW := hW14; clear hf hW14; (try go_simp))
      refine hKK.out _ _ (by assumption) (fun hHeld => ?_)
      clear hKK KK
      try simp only [Act.put, List.setIfInBounds_toArray, List.set_cons_zero, List.set_cons_succ]
      refine anyH_run (i := 18) (L' := #[true, true, true, true, true, true, true, true, true, true, true, true, true, true, true, true, true, true, true]) rfl (by kernel_rfl) (by rfl) (fun KK hKK => ?_)
      go_simp
      (refine (WTF_any _ (by decide) base b _ _ [ln] _ hW hb hF (by have := HL.out; simp [leF_length, fV]; omega)).mono ?_; rintro e w18 ⟨rfl, hW18, hf⟩; have hm := Fr.trans hHeld hf; (try replace hV := fun w' h => hV w' (hf.trans h)); clear hF; replace hW := hW18; clear hf hW18; (try go_simp))
      refine hKK.out _ _ (by assumption) (fun hHeld => ?_)
      clear hKK KK
      try simp only [Act.put, List.setIfInBounds_toArray, List.set_cons_zero, List.set_cons_succ]
      refine wpAnyH_done (by kernel_rfl) ?_ _
      go_wp2_with (fail); go_end0; exact ⟨rfl, by have := hW; rw [HLL.out]; simpa using this, (HF0.out.trans HR1.out).trans hHeld⟩
  case' rc8 =>
    (obtain ⟨m1, m2, hF⟩ := Fr.litF hHeld hW hb [ln] #[.int .i64 ln] 25 1 (by decide) rfl rfl (by simp); (try simp only [World.size_alloc] at hF); (try replace hV := fun w' h => hV w' ((Fr.lit0 hHeld hW hb (.cells #[.int .i64 ln] 25)).trans h)); replace hW := m1; go_simp)
    refine hKK.out _ _ (by assumption) (fun hHeld => ?_)
    clear hKK KK
    try simp only [Act.put, List.setIfInBounds_toArray, List.set_cons_zero, List.set_cons_succ]
    refine anyH_run2 (i := 5) (j := 13) (L1 := #[true, true, true, true, true, true, true, true, false, true, true, true, true, false, false, true, true, true, false]) (L2 := #[true, true, true, true, true, false, true, true, false, true, true, true, true, true, false, true, true, true, false]) rfl rfl (by kernel_rfl) (by rfl) (by rfl) (fun KK hKK => ?ra18) (fun KK hKK => ?rb18)
    case' ra18 =>
      go_simp
      (refine (WTNum_any _ (by decide) 8 a base b _ _ hW hb (by omega) (by omega) (by have := HL.out; simp; omega)).mono ?_; rintro e w5 ⟨rfl, hW5, hf⟩; have hm := Fr.trans hHeld hf; (try replace hV := fun w' h => hV w' (hf.trans h)); (try replace hF := fun w' h => hF w' (hf.trans h)); replace hW := hW5; clear hf hW5; (try go_simp))
      refine hKK.out _ _ (by assumption) (fun hHeld => ?_)
      clear hKK KK
      try simp only [Act.put, List.setIfInBounds_toArray, List.set_cons_zero, List.set_cons_succ]
      refine anyH_run2 (i := 8) (j := 13) (L1 := #[true, true, true, true, true, true, true, true, true, true, true, true, true, false, false, true, true, true, false]) (L2 := #[true, true, true, true, true, true, true, true, false, true, true, true, true, true, false, true, true, true, false]) rfl rfl (by kernel_rfl) (by rfl) (by rfl) (fun KK hKK => ?ra19) (fun KK hKK => ?rb19)
      case' ra19 =>
        go_simp
        (refine (WTNum_any _ (by decide) 8 b1 base b _ _ hW hb (by omega) (by omega) (by have := HL.out; simp; omega)).mono ?_; rintro e w8 ⟨rfl, hW8, hf⟩; have hm := Fr.trans hHeld hf; (try replace hV := fun w' h => hV w' (hf.trans h)); (try replace hF := fun w' h => hF w' (hf.trans h)); replace hW := hW8; clear hf hW8; (try go_simp))
        refine hKK.out _ _ (by assumption) (fun hHeld => ?_)
        clear hKK KK
        try simp only [Act.put, List.setIfInBounds_toArray, List.set_cons_zero, List.set_cons_succ]
        refine anyH_run (i := 13) (L' := #[true, true, true, true, true, true, true, true, true, true, true, true, true, true, false, true, true, true, false]) rfl (by kernel_rfl) (by rfl) (fun KK hKK => ?_)
        (obtain ⟨m1, m2, hV⟩ := Fr.litV hHeld hW hb [(px, py), (vx, vy)] #[.int .i64 px, .int .i64 py, .int .i64 vx, .int .i64 vy] 27 2 (by decide) rfl rfl (by simp); (try simp only [World.size_alloc] at hV); (try replace hF := fun w' h => hF w' ((Fr.lit0 hHeld hW hb (.cells #[.int .i64 px, .int .i64 py, .int .i64 vx, .int .i64 vy] 27)).trans h)); replace hW := m1; go_simp)
        refine hKK.out _ _ (by assumption) (fun hHeld => ?_)
        clear hKK KK
        try simp only [Act.put, List.setIfInBounds_toArray, List.set_cons_zero, List.set_cons_succ]
        refine anyH_run (i := 14) (L' := #[true, true, true, true, true, true, true, true, true, true, true, true, true, true, true, true, true, true, false]) rfl (by kernel_rfl) (by rfl) (fun KK hKK => ?_)
        go_simp
        (refine (WTV_any _ (by decide) base b _ _ [(px, py), (vx, vy)] _ hW hb hV (by have := HL.out; simp; omega)).mono ?_; rintro e w14 ⟨rfl, hW14, hf⟩; have hm := Fr.trans hHeld hf; clear hV; (try replace hF := fun w' h => hF w' (hf.trans h)); replace hW := hW14; clear hf hW14; (try go_simp))
        refine hKK.out _ _ (by assumption) (fun hHeld => ?_)
        clear hKK KK
        try simp only [Act.put, List.setIfInBounds_toArray, List.set_cons_zero, List.set_cons_succ]
        refine anyH_run (i := 18) (L' := #[true, true, true, true, true, true, true, true, true, true, true, true, true, true, true, true, true, true, true]) rfl (by kernel_rfl) (by rfl) (fun KK hKK => ?_)
        go_simp
        (refine (WTF_any _ (by decide) base b _ _ [ln] _ hW hb hF (by have := HL.out; simp [leF_length, fV]; omega)).mono ?_; rintro e w18 ⟨rfl, hW18, hf⟩; have hm := Fr.trans hHeld hf; (try replace hV := fun w' h => hV w' (hf.trans h)); clear hF; replace hW := hW18; clear hf hW18; (try go_simp))
        refine hKK.out _ _ (by assumption) (fun hHeld => ?_)
        clear hKK KK
        try simp only [Act.put, List.setIfInBounds_toArray, List.set_cons_zero, List.set_cons_succ]
        refine wpAnyH_done (by kernel_rfl) ?_ _
        go_wp2_with (fail); go_end0; exact ⟨rfl, by have := hW; rw [HLL.out]; simpa using this, (HF0.out.trans HR1.out).trans hHeld⟩
      case' rb19 =>
        (obtain ⟨m1, m2, hV⟩ := Fr.litV hHeld hW hb [(px, py), (vx, vy)] #[.int .i64 px, .int .i64 py, .int .i64 vx, .int .i64 vy] 27 2 (by decide) rfl rfl (by simp); (try simp only [World.size_alloc] at hV); (try replace hF := fun w' h => hF w' ((Fr.lit0 hHeld hW hb (.cells #[.int .i64 px, .int .i64 py, .int .i64 vx, .int .i64 vy] 27)).trans h)); replace hW := m1; go_simp)
        refine hKK.out _ _ (by assumption) (fun hHeld => ?_)
        clear hKK KK
        try simp only [Act.put, List.setIfInBounds_toArray, List.set_cons_zero, List.set_cons_succ]
        refine anyH_run (i := 8) (L' := #[true, true, true, true, true, true, true, true, true, true, true, true, true, true, false, true, true, true, false]) rfl (by kernel_rfl) (by rfl) (fun KK hKK => ?_)
        go_simp
        (refine (WTNum_any _ (by decide) 8 b1 base b _ _ hW hb (by omega) (by omega) (by have := HL.out; simp; omega)).mono ?_; rintro e w8 ⟨rfl, hW8, hf⟩; have hm := Fr.trans hHeld hf; (try replace hV := fun w' h => hV w' (hf.trans h)); (try replace hF := fun w' h => hF w' (hf.trans h)); replace hW := hW8; clear hf hW8; (try go_simp))
        refine hKK.out _ _ (by assumption) (fun hHeld => ?_)
        clear hKK KK
        try simp only [Act.put, List.setIfInBounds_toArray, List.set_cons_zero, List.set_cons_succ]
        refine anyH_run (i := 14) (L' := #[true, true, true, true, true, true, true, true, true, true, true, true, true, true, true, true, true, true, false]) rfl (by kernel_rfl) (by rfl) (fun KK hKK => ?_)
        go_simp
        (refine (WTV_any _ (by decide) base b _ _ [(px, py), (vx, vy)] _ hW hb hV (by have := HL.out; simp; omega)).mono ?_; rintro e w14 ⟨rfl, hW14, hf⟩; have hm := Fr.trans hHeld hf; clear hV; (try replace hF := fun w' h => hF w' (hf.trans h)); replace hW := hW14; clear hf hW14; (try go_simp))
        refine hKK.out _ _ (by assumption) (fun hHeld => ?_)
        clear hKK KK
        try simp only [Act.put, List.setIfInBounds_toArray, List.set_cons_zero, List.set_cons_succ]
        refine anyH_run (i := 18) (L' := #[true, true, true, true, true, true, true, true, true, true, true, true, true, true, true, true, true, true, true]) rfl (by kernel_rfl) (by rfl) (fun KK hKK => ?_)
        go_simp
        (refine (WTF_any _ (by decide) base b _ _ [ln] _ hW hb hF (by have := HL.out; simp [leF_length, fV]; omega)).mono ?_; rintro e w18 ⟨rfl, hW18, hf⟩; have hm := Fr.trans hHeld hf; (try replace hV := fun w' h => hV w' (hf.trans h)); clear hF; replace hW := hW18; clear hf hW18; (try go_simp))
        refine hKK.out _ _ (by assumption) (fun hHeld => ?_)
        clear hKK KK
        try simp only [Act.put, List.setIfInBounds_toArray, List.set_cons_zero, List.set_cons_succ]
        refine wpAnyH_done (by kernel_rfl) ?_ _
        go_wp2_with (fail); go_end0; exact ⟨rfl, by have := hW; rw [HLL.out]; simpa using this, (HF0.out.trans HR1.out).trans hHeld⟩
    case' rb18 =>
      (obtain ⟨m1, m2, hV⟩ := Fr.litV hHeld hW hb [(px, py), (vx, vy)] #[.int .i64 px, .int .i64 py, .int .i64 vx, .int .i64 vy] 27 2 (by decide) rfl rfl (by simp); (try simp only [World.size_alloc] at hV); (try replace hF := fun w' h => hF w' ((Fr.lit0 hHeld hW hb (.cells #[.int .i64 px, .int .i64 py, .int .i64 vx, .int .i64 vy] 27)).trans h)); replace hW := m1; go_simp)
      refine hKK.out _ _ (by assumption) (fun hHeld => ?_)
      clear hKK KK
      try simp only [Act.put, List.setIfInBounds_toArray, List.set_cons_zero, List.set_cons_succ]
      refine anyH_run (i := 5) (L' := #[true, true, true, true, true, true, true, true, false, true, true, true, true, true, false, true, true, true, false]) rfl (by kernel_rfl) (by rfl) (fun KK hKK => ?_)
      go_simp
      (refine (WTNum_any _ (by decide) 8 a base b _ _ hW hb (by omega) (by omega) (by have := HL.out; simp; omega)).mono ?_; rintro e w5 ⟨rfl, hW5, hf⟩; have hm := Fr.trans hHeld hf; (try replace hV := fun w' h => hV w' (hf.trans h)); (try replace hF := fun w' h => hF w' (hf.trans h)); replace hW := hW5; clear hf hW5; (try go_simp))
      refine hKK.out _ _ (by assumption) (fun hHeld => ?_)
      clear hKK KK
      try simp only [Act.put, List.setIfInBounds_toArray, List.set_cons_zero, List.set_cons_succ]
      refine anyH_run (i := 8) (L' := #[true, true, true, true, true, true, true, true, true, true, true, true, true, true, false, true, true, true, false]) rfl (by kernel_rfl) (by rfl) (fun KK hKK => ?_)
      go_simp
      (refine (WTNum_any _ (by decide) 8 b1 base b _ _ hW hb (by omega) (by omega) (by have := HL.out; simp; omega)).mono ?_; rintro e w8 ⟨rfl, hW8, hf⟩; have hm := Fr.trans hHeld hf; (try replace hV := fun w' h => hV w' (hf.trans h)); (try replace hF := fun w' h => hF w' (hf.trans h)); replace hW := hW8; clear hf hW8; (try go_simp))
      refine hKK.out _ _ (by assumption) (fun hHeld => ?_)
      clear hKK KK
      try simp only [Act.put, List.setIfInBounds_toArray, List.set_cons_zero, List.set_cons_succ]
      refine anyH_run (i := 14) (L' := #[true, true, true, true, true, true, true, true, true, true, true, true, true, true, true, true, true, true, false]) rfl (by kernel_rfl) (by rfl) (fun KK hKK => ?_)
      go_simp
      (refine (WTV_any _ (by decide) base b _ _ [(px, py), (vx, vy)] _ hW hb hV (by have := HL.out; simp; omega)).mono ?_; rintro e w14 ⟨rfl, hW14, hf⟩; have hm := Fr.trans hHeld hf; clear hV; (try replace hF := fun w' h => hF w' (hf.trans h)); replace hW := hW14; clear hf hW14; (try go_simp))
      refine hKK.out _ _ (by assumption) (fun hHeld => ?_)
      clear hKK KK
      try simp only [Act.put, List.setIfInBounds_toArray, List.set_cons_zero, List.set_cons_succ]
      refine anyH_run (i := 18) (L' := #[true, true, true, true, true, true, true, true, true, true, true, true, true, true, true, true, true, true, true]) rfl (by kernel_rfl) (by rfl) (fun KK hKK => ?_)
      go_simp
      (refine (WTF_any _ (by decide) base b _ _ [ln] _ hW hb hF (by have := HL.out; simp [leF_length, fV]; omega)).mono ?_; rintro e w18 ⟨rfl, hW18, hf⟩; have hm := Fr.trans hHeld hf; (try replace hV := fun w' h => hV w' (hf.trans h)); clear hF; replace hW := hW18; clear hf hW18; (try go_simp))
      refine hKK.out _ _ (by assumption) (fun hHeld => ?_)
      clear hKK KK
      try simp only [Act.put, List.setIfInBounds_toArray, List.set_cons_zero, List.set_cons_succ]
      refine wpAnyH_done (by kernel_rfl) ?_ _
      go_wp2_with (fail); go_end0; exact ⟨rfl, by have := hW; rw [HLL.out]; simpa using this, (HF0.out.trans HR1.out).trans hHeld⟩
end Go.Proofs.YtpadflhffiiglaaGreat
