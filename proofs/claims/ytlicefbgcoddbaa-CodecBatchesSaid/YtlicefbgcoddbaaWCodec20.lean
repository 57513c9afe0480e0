/- Words and walks that Codec rests on: CodecRK1. -/
import Derived.Test.YtlicefbgcoddbaaWCodec18
/- codec.reader.order: kind 1. -/
namespace Go.Proofs.Ytlicefbgcoddbaa
open Go.RowKit

set_option maxRecDepth 100000 in
set_option maxHeartbeats 8000000 in
theorem ROrderK1_any (base b : Nat) (s : St) (w : World) (hr : RdB base w b s) (hbase : base ≤ w.heap.size) (hk : (numR 1 s).1 = 1) :
    Calls Try.prog 22 #[.agg #[.pointer (some ⟨b, 0, none⟩)]] w fun e w' => ∃ pv, e = .returned (vO (orderR s).1 pv) ∧ VsS w' pv (orderR s).1.shape.p ∧ (∀ k, pv.ownBlock = some k → w.heap.size ≤ k) ∧ RdB base w' b (orderR s).2 ∧ Chg [b] w w' := by
  have hio := orderR0_IO s
  have e0 : orderR0 s = (⟨1, 0, 0, 0, (plR (numR 1 s).2).1, (plR (plR (numR 1 s).2).2).1, (numR 8 (plR (plR (numR 1 s).2).2).2).1, (numR 8 (numR 8 (plR (plR (numR 1 s).2).2).2).2).1, (numR 8 (numR 8 (numR 8 (plR (plR (numR 1 s).2).2).2).2).2).1, 0, (shapeR (numR 8 (numR 8 (numR 8 (plR (plR (numR 1 s).2).2).2).2).2).2).1⟩, (shapeR (numR 8 (numR 8 (numR 8 (plR (plR (numR 1 s).2).2).2).2).2).2).2) := by
    unfold orderR0; rw [hk]; rfl
  unfold orderR
  rw [e0] at hio ⊢
  have hc1 := fun W (h : RdB base W b s) => NumB_any 1 base b s W h (by omega)
  have hcV1 := fun W (h : RdB base W b (numR 1 s).2) (hb : base ≤ W.heap.size) => VB_any base b _ W h hb
  have hcV2 := fun W (h : RdB base W b (plR (numR 1 s).2).2) (hb : base ≤ W.heap.size) => VB_any base b _ W h hb
  have hcF3 := fun W (h : RdB base W b (plR (plR (numR 1 s).2).2).2) => FB_any base b _ W h
  have hcF4 := fun W (h : RdB base W b (numR 8 (plR (plR (numR 1 s).2).2).2).2) => FB_any base b _ W h
  have hcF5 := fun W (h : RdB base W b (numR 8 (numR 8 (plR (plR (numR 1 s).2).2).2).2).2) => FB_any base b _ W h
  have hcS := fun W (h : RdB base W b (numR 8 (numR 8 (numR 8 (plR (plR (numR 1 s).2).2).2).2).2).2) (hb : base ≤ W.heap.size) => RShape_any base b _ W h hb
  rw [hk] at hc1
  clear hk e0
  generalize (shapeR (numR 8 (numR 8 (numR 8 (plR (plR (numR 1 s).2).2).2).2).2).2) = z6 at *
  generalize (numR 8 (numR 8 (numR 8 (plR (plR (numR 1 s).2).2).2).2).2) = z5 at *
  generalize (numR 8 (numR 8 (plR (plR (numR 1 s).2).2).2).2) = z4 at *
  generalize (numR 8 (plR (plR (numR 1 s).2).2).2) = z3 at *
  generalize (plR (plR (numR 1 s).2).2) = z2 at *
  generalize (plR (numR 1 s).2) = z1 at *
  generalize (numR 1 s).2 = y at *
  obtain ⟨⟨px, py⟩, z1⟩ := z1
  obtain ⟨⟨vx, vy⟩, z2⟩ := z2
  obtain ⟨⟨sk, sr, p⟩, z6⟩ := z6
  unfold vV at hcV1 hcV2
  unfold vS at hcS
  simp only at hcV1 hcV2 hcF3 hcF4 hcF5 hcS hio
  have hcR := fun W pv (hp : VsS W pv p) => ORight_any W ⟨1, 0, 0, 0, (px, py), (vx, vy), z3.1, z4.1, z5.1, 0, ⟨sk, sr, p⟩⟩ pv hp hio
  generalize rightO ⟨1, 0, 0, 0, (px, py), (vx, vy), z3.1, z4.1, z5.1, 0, ⟨sk, sr, p⟩⟩ = rt at *
  unfold vO at hcR ⊢
  simp only at hcR ⊢
  have hlt := hr.lt
  have hcA := (Chg.refl [] w).alloc (.cells #[.pointer (some ⟨b, 0, none⟩)] 73)
  have hcB := hcA.alloc (.cells #[.int .i64 0, .int .i64 0, .int .i64 0, .int .i64 0, .int .i64 0, .int .i64 0, .int .i64 0, .int .i64 0, .int .i64 0, .int .i64 0, .int .i64 0, .int .i64 0, .int .i64 0, .int .i64 0, .slice none 0 0] 35)
  have kA := (Blk.new w #[.pointer (some ⟨b, 0, none⟩)] 73).alloc (.cells #[.int .i64 0, .int .i64 0, .int .i64 0, .int .i64 0, .int .i64 0, .int .i64 0, .int .i64 0, .int .i64 0, .int .i64 0, .int .i64 0, .int .i64 0, .int .i64 0, .int .i64 0, .int .i64 0, .slice none 0 0] 35)
  have kB := Blk.new (w.alloc (.cells #[.pointer (some ⟨b, 0, none⟩)] 73)) #[.int .i64 0, .int .i64 0, .int .i64 0, .int .i64 0, .int .i64 0, .int .i64 0, .int .i64 0, .int .i64 0, .int .i64 0, .int .i64 0, .int .i64 0, .int .i64 0, .int .i64 0, .int .i64 0, .slice none 0 0] 35
  rw [World.size_alloc] at kB
  have hr0 := hr.k hcB
  have hc1 := hc1 _ hr0
  go_enter Try.func22, Try.ntmps22
  go_upto_region 1 with (fail)
  have hsz : ((w.alloc (.cells #[.pointer (some ⟨b, 0, none⟩)] 73)).alloc (.cells #[.int .i64 0, .int .i64 0, .int .i64 0, .int .i64 0, .int .i64 0, .int .i64 0, .int .i64 0, .int .i64 0, .int .i64 0, .int .i64 0, .int .i64 0, .int .i64 0, .int .i64 0, .int .i64 0, .slice none 0 0] 35)).heap.size = w.heap.size + 1 + 1 := by simp
  generalize (w.alloc (.cells #[.pointer (some ⟨b, 0, none⟩)] 73)).alloc (.cells #[.int .i64 0, .int .i64 0, .int .i64 0, .int .i64 0, .int .i64 0, .int .i64 0, .int .i64 0, .int .i64 0, .int .i64 0, .int .i64 0, .int .i64 0, .int .i64 0, .int .i64 0, .int .i64 0, .slice none 0 0] 35) = w0 at *
  have a0 := kA.cell 0
  simp at a0
  go_upto_region 4 with (first
    | (go_at_call 38; refine hc1.mono ?_; rintro e w1 ⟨rfl, hr1, hm1⟩; have kA1 := kA.chg hm1 (by simp; omega); have kB1 := kB.chg hm1 (by simp; omega); have a1 := kA1.cell 0; simp at a1))
  have hcC := (Chg.refl [] w1).alloc (.cells #[.int .i64 1, .int .i64 0, .int .i64 0, .int .i64 0, .int .i64 0, .int .i64 0, .int .i64 0, .int .i64 0, .int .i64 0, .int .i64 0, .int .i64 0, .int .i64 0, .int .i64 0, .int .i64 0, .slice none 0 0] 35)
  have kC := Blk.new w1 #[.int .i64 1, .int .i64 0, .int .i64 0, .int .i64 0, .int .i64 0, .int .i64 0, .int .i64 0, .int .i64 0, .int .i64 0, .int .i64 0, .int .i64 0, .int .i64 0, .int .i64 0, .int .i64 0, .slice none 0 0] 35
  have hT : w.heap.size + 1 < w1.heap.size := kB1.lt
  have hO : Ost w base b w.heap.size (w.heap.size + 1) w1.heap.size #[.int .i64 1, .int .i64 0, .int .i64 0, .int .i64 0, .int .i64 0, .int .i64 0, .int .i64 0, .int .i64 0, .int .i64 0, .int .i64 0, .int .i64 0, .int .i64 0, .int .i64 0, .int .i64 0, .slice none 0 0] (w1.alloc (.cells #[.int .i64 1, .int .i64 0, .int .i64 0, .int .i64 0, .int .i64 0, .int .i64 0, .int .i64 0, .int .i64 0, .int .i64 0, .int .i64 0, .int .i64 0, .int .i64 0, .int .i64 0, .int .i64 0, .slice none 0 0] 35)) y := ⟨kC, hr1.k hcC, kA1.k hcC, ⟨_, rfl, kB1.k hcC⟩, ((hcB.mono (S' := [b]) (by simp)).trans hm1 (fun x hx _ => hx)).k' hcC, by omega⟩
  clear a0 a1 kA kB kA1 kB1 kC hr0 hr1 hcA hcB hcC hr hc1 hm1 hsz hlt hbase
  generalize w1.alloc (.cells #[.int .i64 1, .int .i64 0, .int .i64 0, .int .i64 0, .int .i64 0, .int .i64 0, .int .i64 0, .int .i64 0, .int .i64 0, .int .i64 0, .int .i64 0, .int .i64 0, .int .i64 0, .int .i64 0, .slice none 0 0] 35) = w2 at *
  generalize w1.heap.size = tb at *
  generalize hrb : w.heap.size + 1 = rb at *
  generalize hxb : w.heap.size = xb at *
  clear hrb hT
  have HX := hd hxb
  clear hxb
  have hO4 := hO
  clear hO
  have hlo := hO4.lo
  have NX : Hd (xb ∉ [b, tb]) := hd (by simp; omega)
  have Q0 := hd (show w2.cell? ⟨xb, 0, none⟩ = some (.pointer (some ⟨b, 0, none⟩)) from hO4.x.cell 0)
  have hB := hO4.k (Chg.refl [] w2).drew
  clear hO4 hlo
  refine anyH_start (n := 10) (L := #[false, false, false, false, false, false, false, false, false, false]) (by kernel_rfl) (by kernel_rfl) (S := (fun wx => Chg [b, tb] w2 wx)) ((Chg.refl _ _).drew) (fun hHeld => ?_)
  generalize w2.drew = w3d at *
  refine anyH_take (i := 0) (d := 12) (L' := #[true, false, false, false, false, false, false, false, false, false]) (v := ?v2) rfl rfl (by kernel_rfl) (fun _ _ _ h => h) (by rfl) ?hy2 (by assumption) ?rest2
  case hy2 => (intro wx hSw; (try dsimp only at hSw); (have t0 := Chg.cellT hSw Q0.out NX.out); go_simp; (try with_reducible rfl))
  simp only [Act.put, List.setIfInBounds_toArray, List.set_cons_zero, List.set_cons_succ]
  refine anyH_take (i := 1) (d := 13) (L' := #[true, true, false, false, false, false, false, false, false, false]) (v := ?v3) rfl rfl (by kernel_rfl) (fun _ _ _ h => h) (by rfl) ?hy3 (by assumption) ?rest3
  case hy3 => (intro wx hSw; (try dsimp only at hSw); (have t0 := Chg.cellT hSw Q0.out NX.out); go_simp; (try with_reducible rfl))
  simp only [Act.put, List.setIfInBounds_toArray, List.set_cons_zero, List.set_cons_succ]
  refine anyH_take (i := 3) (d := 15) (L' := #[true, true, false, true, false, false, false, false, false, false]) (v := ?v4) rfl rfl (by kernel_rfl) (fun _ _ _ h => h) (by rfl) ?hy4 (by assumption) ?rest4
  case hy4 => (intro wx hSw; (try dsimp only at hSw); (have t0 := Chg.cellT hSw Q0.out NX.out); go_simp; (try with_reducible rfl))
  simp only [Act.put, List.setIfInBounds_toArray, List.set_cons_zero, List.set_cons_succ]
  refine anyH_take (i := 4) (d := 16) (L' := #[true, true, false, true, true, false, false, false, false, false]) (v := ?v5) rfl rfl (by kernel_rfl) (fun _ _ _ h => h) (by rfl) ?hy5 (by assumption) ?rest5
  case hy5 => (intro wx hSw; (try dsimp only at hSw); (have t0 := Chg.cellT hSw Q0.out NX.out); go_simp; (try with_reducible rfl))
  simp only [Act.put, List.setIfInBounds_toArray, List.set_cons_zero, List.set_cons_succ]
  refine anyH_run (i := 2) (L' := #[true, true, true, true, true, false, false, false, false, false]) rfl (by kernel_rfl) (by rfl) (fun KK hKK => ?_)
  go_simp
  (refine (hcV1 _ hB.r (by have := hB.lo; have := hB.x.lt; omega)).mono ?_; rintro e w3c0 ⟨rfl, hr5, hm5⟩; have hm := Chg.trans hHeld hm5 (by simp); replace hB := hB.step hm5 hr5; clear hm5 hr5; (try go_simp))
  refine hKK.out _ _ (by assumption) (fun hHeld => ?_)
  clear hKK KK
  try simp only [Act.put, List.setIfInBounds_toArray, List.set_cons_zero, List.set_cons_succ]
  refine anyH_take (i := 6) (d := 18) (L' := #[true, true, true, true, true, false, true, false, false, false]) (v := ?v7) rfl rfl (by kernel_rfl) (fun _ _ _ h => h) (by rfl) ?hy7 (by assumption) ?rest7
  case hy7 => (intro wx hSw; (try dsimp only at hSw); (have t0 := Chg.cellT hSw Q0.out NX.out); go_simp; (try with_reducible rfl))
  simp only [Act.put, List.setIfInBounds_toArray, List.set_cons_zero, List.set_cons_succ]
  refine anyH_run (i := 5) (L' := #[true, true, true, true, true, true, true, false, false, false]) rfl (by kernel_rfl) (by rfl) (fun KK hKK => ?_)
  go_simp
  (refine (hcV2 _ hB.r (by have := hB.lo; have := hB.x.lt; omega)).mono ?_; rintro e w3c1 ⟨rfl, hr5, hm5⟩; have hm := Chg.trans hHeld hm5 (by simp); replace hB := hB.step hm5 hr5; clear hm5 hr5; (try go_simp))
  refine hKK.out _ _ (by assumption) (fun hHeld => ?_)
  clear hKK KK
  try simp only [Act.put, List.setIfInBounds_toArray, List.set_cons_zero, List.set_cons_succ]
  refine anyH_run (i := 7) (L' := #[true, true, true, true, true, true, true, true, false, false]) rfl (by kernel_rfl) (by rfl) (fun KK hKK => ?_)
  (have c4 := hB.t.cell 4; have f4 := hB.t.free 4; have c5 := hB.t.cell 5; have f5 := hB.t.free 5; simp at c4 c5; replace hB := ((hB.set 4 (.int .i64 px) (cs' := #[.int .i64 1, .int .i64 0, .int .i64 0, .int .i64 0, .int .i64 px, .int .i64 0, .int .i64 0, .int .i64 0, .int .i64 0, .int .i64 0, .int .i64 0, .int .i64 0, .int .i64 0, .int .i64 0, .slice none 0 0]) (by simp)).set 5 (.int .i64 py) (cs' := #[.int .i64 1, .int .i64 0, .int .i64 0, .int .i64 0, .int .i64 px, .int .i64 py, .int .i64 0, .int .i64 0, .int .i64 0, .int .i64 0, .int .i64 0, .int .i64 0, .int .i64 0, .int .i64 0, .slice none 0 0]) (by simp)); have hm7 := (Chg.setCell (Chg.setCell hHeld ⟨tb, 4, none⟩ (.int .i64 px) (by simp)) ⟨tb, 5, none⟩ (.int .i64 py) (by simp)); go_simp)
  refine hKK.out _ _ (by assumption) (fun hHeld => ?_)
  clear hKK KK
  try simp only [Act.put, List.setIfInBounds_toArray, List.set_cons_zero, List.set_cons_succ]
  refine anyH_take (i := 8) (d := 19) (L' := #[true, true, true, true, true, true, true, true, true, false]) (v := ?v10) rfl rfl (by kernel_rfl) (fun _ _ _ h => h) (by rfl) ?hy10 (by assumption) ?rest10
  case hy10 => (intro wx hSw; (try dsimp only at hSw); (have t0 := Chg.cellT hSw Q0.out NX.out); go_simp; (try with_reducible rfl))
  simp only [Act.put, List.setIfInBounds_toArray, List.set_cons_zero, List.set_cons_succ]
  refine anyH_run (i := 9) (L' := #[true, true, true, true, true, true, true, true, true, true]) rfl (by kernel_rfl) (by rfl) (fun KK hKK => ?_)
  (clear c4 f4 c5 f5; generalize ((w3c1.setCell ⟨tb, 4, none⟩ (.int .i64 px)).setCell ⟨tb, 5, none⟩ (.int .i64 py)) = w3s1 at *; have c6 := hB.t.cell 6; have f6 := hB.t.free 6; have c7 := hB.t.cell 7; have f7 := hB.t.free 7; simp at c6 c7; replace hB := ((hB.set 6 (.int .i64 vx) (cs' := #[.int .i64 1, .int .i64 0, .int .i64 0, .int .i64 0, .int .i64 px, .int .i64 py, .int .i64 vx, .int .i64 0, .int .i64 0, .int .i64 0, .int .i64 0, .int .i64 0, .int .i64 0, .int .i64 0, .slice none 0 0]) (by simp)).set 7 (.int .i64 vy) (cs' := #[.int .i64 1, .int .i64 0, .int .i64 0, .int .i64 0, .int .i64 px, .int .i64 py, .int .i64 vx, .int .i64 vy, .int .i64 0, .int .i64 0, .int .i64 0, .int .i64 0, .int .i64 0, .int .i64 0, .slice none 0 0]) (by simp)); have hm7 := (Chg.setCell (Chg.setCell hHeld ⟨tb, 6, none⟩ (.int .i64 vx) (by simp)) ⟨tb, 7, none⟩ (.int .i64 vy) (by simp)); go_simp)
  refine hKK.out _ _ (by assumption) (fun hHeld => ?_)
  clear hKK KK
  try simp only [Act.put, List.setIfInBounds_toArray, List.set_cons_zero, List.set_cons_succ]
  refine wpAnyH_done (by kernel_rfl) ?_ _
  skip
  have hO4 := hB
  clear hB hHeld c6 f6 c7 f7
  generalize ((w3s1.setCell ⟨tb, 6, none⟩ (.int .i64 vx)).setCell ⟨tb, 7, none⟩ (.int .i64 vy)) = w3 at *
  go_upto_region 5 with (fail)
  have hlo := hO4.lo
  have NX : Hd (xb ∉ [b, tb]) := hd (by simp; omega)
  have Q0 := hd (show w3.cell? ⟨xb, 0, none⟩ = some (.pointer (some ⟨b, 0, none⟩)) from hO4.x.cell 0)
  have hB := hO4.k (Chg.refl [] w3).drew
  clear hO4 hlo
  refine anyH_start (n := 15) (L := #[false, false, false, false, false, false, false, false, false, false, false, false, false, false, false]) (by kernel_rfl) (by kernel_rfl) (S := (fun wx => Chg [b, tb] w3 wx)) ((Chg.refl _ _).drew) (fun hHeld => ?_)
  generalize w3.drew = w4d at *
  refine anyH_take (i := 0) (d := 20) (L' := #[true, false, false, false, false, false, false, false, false, false, false, false, false, false, false]) (v := ?v14) rfl rfl (by kernel_rfl) (fun _ _ _ h => h) (by rfl) ?hy14 (by assumption) ?rest14
  case hy14 => (intro wx hSw; (try dsimp only at hSw); (have t0 := Chg.cellT hSw Q0.out NX.out); go_simp; (try with_reducible rfl))
  simp only [Act.put, List.setIfInBounds_toArray, List.set_cons_zero, List.set_cons_succ]
  refine anyH_take (i := 1) (d := 21) (L' := #[true, true, false, false, false, false, false, false, false, false, false, false, false, false, false]) (v := ?v15) rfl rfl (by kernel_rfl) (fun _ _ _ h => h) (by rfl) ?hy15 (by assumption) ?rest15
  case hy15 => (intro wx hSw; (try dsimp only at hSw); (have t0 := Chg.cellT hSw Q0.out NX.out); go_simp; (try with_reducible rfl))
  simp only [Act.put, List.setIfInBounds_toArray, List.set_cons_zero, List.set_cons_succ]
  refine anyH_take (i := 3) (d := 23) (L' := #[true, true, false, true, false, false, false, false, false, false, false, false, false, false, false]) (v := ?v16) rfl rfl (by kernel_rfl) (fun _ _ _ h => h) (by rfl) ?hy16 (by assumption) ?rest16
  case hy16 => (intro wx hSw; (try dsimp only at hSw); (have t0 := Chg.cellT hSw Q0.out NX.out); go_simp; (try with_reducible rfl))
  simp only [Act.put, List.setIfInBounds_toArray, List.set_cons_zero, List.set_cons_succ]
  refine anyH_take (i := 4) (d := 24) (L' := #[true, true, false, true, true, false, false, false, false, false, false, false, false, false, false]) (v := ?v17) rfl rfl (by kernel_rfl) (fun _ _ _ h => h) (by rfl) ?hy17 (by assumption) ?rest17
  case hy17 => (intro wx hSw; (try dsimp only at hSw); (have t0 := Chg.cellT hSw Q0.out NX.out); go_simp; (try with_reducible rfl))
  simp only [Act.put, List.setIfInBounds_toArray, List.set_cons_zero, List.set_cons_succ]
  refine anyH_take (i := 6) (d := 26) (L' := #[true, true, false, true, true, false, true, false, false, false, false, false, false, false, false]) (v := ?v18) rfl rfl (by kernel_rfl) (fun _ _ _ h => h) (by rfl) ?hy18 (by assumption) ?rest18
  case hy18 => (intro wx hSw; (try dsimp only at hSw); (have t0 := Chg.cellT hSw Q0.out NX.out); go_simp; (try with_reducible rfl))
  simp only [Act.put, List.setIfInBounds_toArray, List.set_cons_zero, List.set_cons_succ]
  refine anyH_take (i := 7) (d := 27) (L' := #[true, true, false, true, true, false, true, true, false, false, false, false, false, false, false]) (v := ?v19) rfl rfl (by kernel_rfl) (fun _ _ _ h => h) (by rfl) ?hy19 (by assumption) ?rest19
  case hy19 => (intro wx hSw; (try dsimp only at hSw); (have t0 := Chg.cellT hSw Q0.out NX.out); go_simp; (try with_reducible rfl))
  simp only [Act.put, List.setIfInBounds_toArray, List.set_cons_zero, List.set_cons_succ]
  refine anyH_run (i := 2) (L' := #[true, true, true, true, true, false, true, true, false, false, false, false, false, false, false]) rfl (by kernel_rfl) (by rfl) (fun KK hKK => ?_)
  go_simp
  (refine (hcF3 _ hB.r).mono ?_; rintro e w4c0 ⟨rfl, hr5, hm5⟩; have hm := Chg.trans hHeld hm5 (by simp); replace hB := hB.step hm5 hr5; clear hm5 hr5; (try go_simp))
  refine hKK.out _ _ (by assumption) (fun hHeld => ?_)
  clear hKK KK
  try simp only [Act.put, List.setIfInBounds_toArray, List.set_cons_zero, List.set_cons_succ]
  refine anyH_take (i := 9) (d := 29) (L' := #[true, true, true, true, true, false, true, true, false, true, false, false, false, false, false]) (v := ?v21) rfl rfl (by kernel_rfl) (fun _ _ _ h => h) (by rfl) ?hy21 (by assumption) ?rest21
  case hy21 => (intro wx hSw; (try dsimp only at hSw); (have t0 := Chg.cellT hSw Q0.out NX.out); go_simp; (try with_reducible rfl))
  simp only [Act.put, List.setIfInBounds_toArray, List.set_cons_zero, List.set_cons_succ]
  refine anyH_run (i := 5) (L' := #[true, true, true, true, true, true, true, true, false, true, false, false, false, false, false]) rfl (by kernel_rfl) (by rfl) (fun KK hKK => ?_)
  go_simp
  (refine (hcF4 _ hB.r).mono ?_; rintro e w4c1 ⟨rfl, hr5, hm5⟩; have hm := Chg.trans hHeld hm5 (by simp); replace hB := hB.step hm5 hr5; clear hm5 hr5; (try go_simp))
  refine hKK.out _ _ (by assumption) (fun hHeld => ?_)
  clear hKK KK
  try simp only [Act.put, List.setIfInBounds_toArray, List.set_cons_zero, List.set_cons_succ]
  refine anyH_run (i := 8) (L' := #[true, true, true, true, true, true, true, true, true, true, false, false, false, false, false]) rfl (by kernel_rfl) (by rfl) (fun KK hKK => ?_)
  go_simp
  (refine (hcF5 _ hB.r).mono ?_; rintro e w4c2 ⟨rfl, hr5, hm5⟩; have hm := Chg.trans hHeld hm5 (by simp); replace hB := hB.step hm5 hr5; clear hm5 hr5; (try go_simp))
  refine hKK.out _ _ (by assumption) (fun hHeld => ?_)
  clear hKK KK
  try simp only [Act.put, List.setIfInBounds_toArray, List.set_cons_zero, List.set_cons_succ]
  refine anyH_run (i := 10) (L' := #[true, true, true, true, true, true, true, true, true, true, true, false, false, false, false]) rfl (by kernel_rfl) (by rfl) (fun KK hKK => ?_)
  (have c8 := hB.t.cell 8; have f8 := hB.t.free 8; simp at c8; replace hB := (hB.set 8 (.int .i64 z3.1) (cs' := #[.int .i64 1, .int .i64 0, .int .i64 0, .int .i64 0, .int .i64 px, .int .i64 py, .int .i64 vx, .int .i64 vy, .int .i64 z3.1, .int .i64 0, .int .i64 0, .int .i64 0, .int .i64 0, .int .i64 0, .slice none 0 0]) (by simp)); have hm7 := (Chg.setCell hHeld ⟨tb, 8, none⟩ (.int .i64 z3.1) (by simp)); go_simp)
  refine hKK.out _ _ (by assumption) (fun hHeld => ?_)
  clear hKK KK
  try simp only [Act.put, List.setIfInBounds_toArray, List.set_cons_zero, List.set_cons_succ]
  refine anyH_take (i := 11) (d := 30) (L' := #[true, true, true, true, true, true, true, true, true, true, true, true, false, false, false]) (v := ?v25) rfl rfl (by kernel_rfl) (fun _ _ _ h => h) (by rfl) ?hy25 (by assumption) ?rest25
  case hy25 => (intro wx hSw; (try dsimp only at hSw); (have t0 := Chg.cellT hSw Q0.out NX.out); go_simp; (try with_reducible rfl))
  simp only [Act.put, List.setIfInBounds_toArray, List.set_cons_zero, List.set_cons_succ]
  refine anyH_run (i := 12) (L' := #[true, true, true, true, true, true, true, true, true, true, true, true, true, false, false]) rfl (by kernel_rfl) (by rfl) (fun KK hKK => ?_)
  (clear c8 f8; generalize (w4c2.setCell ⟨tb, 8, none⟩ (.int .i64 z3.1)) = w4s1 at *; have c9 := hB.t.cell 9; have f9 := hB.t.free 9; simp at c9; replace hB := (hB.set 9 (.int .i64 z4.1) (cs' := #[.int .i64 1, .int .i64 0, .int .i64 0, .int .i64 0, .int .i64 px, .int .i64 py, .int .i64 vx, .int .i64 vy, .int .i64 z3.1, .int .i64 z4.1, .int .i64 0, .int .i64 0, .int .i64 0, .int .i64 0, .slice none 0 0]) (by simp)); have hm7 := (Chg.setCell hHeld ⟨tb, 9, none⟩ (.int .i64 z4.1) (by simp)); go_simp)
  refine hKK.out _ _ (by assumption) (fun hHeld => ?_)
  clear hKK KK
  try simp only [Act.put, List.setIfInBounds_toArray, List.set_cons_zero, List.set_cons_succ]
  refine anyH_take (i := 13) (d := 31) (L' := #[true, true, true, true, true, true, true, true, true, true, true, true, true, true, false]) (v := ?v27) rfl rfl (by kernel_rfl) (fun _ _ _ h => h) (by rfl) ?hy27 (by assumption) ?rest27
  case hy27 => (intro wx hSw; (try dsimp only at hSw); (have t0 := Chg.cellT hSw Q0.out NX.out); go_simp; (try with_reducible rfl))
  simp only [Act.put, List.setIfInBounds_toArray, List.set_cons_zero, List.set_cons_succ]
  refine anyH_run (i := 14) (L' := #[true, true, true, true, true, true, true, true, true, true, true, true, true, true, true]) rfl (by kernel_rfl) (by rfl) (fun KK hKK => ?_)
  (clear c9 f9; generalize (w4s1.setCell ⟨tb, 9, none⟩ (.int .i64 z4.1)) = w4s2 at *; have c10 := hB.t.cell 10; have f10 := hB.t.free 10; simp at c10; replace hB := (hB.set 10 (.int .i64 z5.1) (cs' := #[.int .i64 1, .int .i64 0, .int .i64 0, .int .i64 0, .int .i64 px, .int .i64 py, .int .i64 vx, .int .i64 vy, .int .i64 z3.1, .int .i64 z4.1, .int .i64 z5.1, .int .i64 0, .int .i64 0, .int .i64 0, .slice none 0 0]) (by simp)); have hm7 := (Chg.setCell hHeld ⟨tb, 10, none⟩ (.int .i64 z5.1) (by simp)); go_simp)
  refine hKK.out _ _ (by assumption) (fun hHeld => ?_)
  clear hKK KK
  try simp only [Act.put, List.setIfInBounds_toArray, List.set_cons_zero, List.set_cons_succ]
  refine wpAnyH_done (by kernel_rfl) ?_ _
  skip
  have hO4 := hB
  clear hB hHeld c10 f10
  generalize (w4s2.setCell ⟨tb, 10, none⟩ (.int .i64 z5.1)) = w4 at *
  have a2 := hO4.x.cell 0
  simp at a2
  have htw := hO4.t.lt
  go_upto_region 19 with (first
    | (go_at_call 53; refine (hcS _ hO4.r (by have := hO4.lo; have := hO4.x.lt; omega)).mono ?_; rintro e w5 ⟨pv, rfl, hps, hpk, hr3, hm3⟩; have hO5 := hO4.step hm3 hr3; have c1 := hO5.t.cell 12; have f1 := hO5.t.free 12; have c2 := hO5.t.cell 13; have f2 := hO5.t.free 13; have c3 := hO5.t.cell 14; have f3 := hO5.t.free 14; simp at c1 c2 c3; obtain ⟨ao, c, rfl, -⟩ := hps.form))
  have hPK : ∀ k, (Value.slice ao p.length c).ownBlock = some k → tb < k := fun k hk => Nat.lt_of_lt_of_le htw (hpk k hk)
  clear hO4
  have hO4 := ((hO5.set 12 (.int .i64 sk) (cs' := #[.int .i64 1, .int .i64 0, .int .i64 0, .int .i64 0, .int .i64 px, .int .i64 py, .int .i64 vx, .int .i64 vy, .int .i64 z3.1, .int .i64 z4.1, .int .i64 z5.1, .int .i64 0, .int .i64 sk, .int .i64 0, .slice none 0 0]) (by simp)).set 13 (.int .i64 sr) (cs' := #[.int .i64 1, .int .i64 0, .int .i64 0, .int .i64 0, .int .i64 px, .int .i64 py, .int .i64 vx, .int .i64 vy, .int .i64 z3.1, .int .i64 z4.1, .int .i64 z5.1, .int .i64 0, .int .i64 sk, .int .i64 sr, .slice none 0 0]) (by simp)).set 14 (.slice ao p.length c) (cs' := #[.int .i64 1, .int .i64 0, .int .i64 0, .int .i64 0, .int .i64 px, .int .i64 py, .int .i64 vx, .int .i64 vy, .int .i64 z3.1, .int .i64 z4.1, .int .i64 z5.1, .int .i64 0, .int .i64 sk, .int .i64 sr, .slice ao p.length c]) (by simp)
  have hs4 := (((Chg.refl [tb] w5).setCell ⟨tb, 12, none⟩ (.int .i64 sk) (by simp)).setCell ⟨tb, 13, none⟩ (.int .i64 sr) (by simp)).setCell ⟨tb, 14, none⟩ (.slice ao p.length c) (by simp)
  have hp4 : VsS _ (.slice ao p.length c) p := Rd.keep hps hs4 (fun _ k hk hx => by have := hPK k hk; simp at hx; omega)
  clear hO5 hm3 hr3 c1 f1 c2 f2 c3 f3 a2 hs4 hps hpk
  generalize ((w5.setCell ⟨tb, 12, none⟩ (.int .i64 sk)).setCell ⟨tb, 13, none⟩ (.int .i64 sr)).setCell ⟨tb, 14, none⟩ (.slice ao p.length c) = w8 at *
  cases rt
  · have a4 := hO4.x.cell 0
    simp at a4
    go_wp2_with (first
      | (refine wpList_load_row rfl _ _ rfl tb rfl 35 _ (0, 0) _ hO4.t Try.underlying35 rfl (by kernel_rfl) ?_)
      | (go_at_call 8; refine (hcR _ _ hp4).mono ?_; rintro e w5 ⟨rfl, hm5⟩; have hO5 := hO4.k hm5; have hp5 := VsS.k hp4 hm5; have a5 := hO5.x.cell 0; simp at a5)
      | (go_at_call 51; refine (FailB_any base b _ _ hO5.r).mono ?_; rintro e w6 ⟨rfl, hr6, hm6⟩; have hO6 := hO5.step hm6 hr6; have hp6 : VsS w6 (.slice ao p.length c) p := Rd.keep hp5 hm6 (fun _ k hk hx => by have := hPK k hk; have := hO5.lo; simp at hx; omega); obtain ⟨zs, hzs, hq6⟩ := hO6.q)
      | (refine wpList_load_row rfl _ _ rfl tb rfl 35 _ (0, 0) _ hO6.t Try.underlying35 rfl (by kernel_rfl) ?_)
      | (refine wpList_store_row rfl _ _ _ rfl rb #[.int .i64 1, .int .i64 0, .int .i64 0, .int .i64 0, .int .i64 px, .int .i64 py, .int .i64 vx, .int .i64 vy, .int .i64 z3.1, .int .i64 z4.1, .int .i64 z5.1, .int .i64 0, .int .i64 sk, .int .i64 sr, .slice ao p.length c] rfl rfl 35 _ hq6 (by kernel_rfl) (by rw [hzs]; rfl) (by simp [Value.oneCell']) ?_))
    have k7 : Blk (w6.setRow rb #[.int .i64 1, .int .i64 0, .int .i64 0, .int .i64 0, .int .i64 px, .int .i64 py, .int .i64 vx, .int .i64 vy, .int .i64 z3.1, .int .i64 z4.1, .int .i64 z5.1, .int .i64 0, .int .i64 sk, .int .i64 sr, .slice ao p.length c]) rb #[.int .i64 1, .int .i64 0, .int .i64 0, .int .i64 0, .int .i64 px, .int .i64 py, .int .i64 vx, .int .i64 vy, .int .i64 z3.1, .int .i64 z4.1, .int .i64 z5.1, .int .i64 0, .int .i64 sk, .int .i64 sr, .slice ao p.length c] 35 := hq6.row
    have hs7 := Chg.row (Chg.refl [rb] w6) rb #[.int .i64 1, .int .i64 0, .int .i64 0, .int .i64 0, .int .i64 px, .int .i64 py, .int .i64 vx, .int .i64 vy, .int .i64 z3.1, .int .i64 z4.1, .int .i64 z5.1, .int .i64 0, .int .i64 sk, .int .i64 sr, .slice ao p.length c] (by simp)
    have hlo := hO6.lo
    refine bodyPost_ret (results_cell_row rfl _ _ rb 35 _ (0, 0) _ rfl k7 Try.underlying35 rfl (by kernel_rfl)) rfl ⟨_, rfl, Rd.keep hp6 hs7 (fun _ k hk hx => by have := hPK k hk; simp at hx; omega), fun k hk => by have := hPK k hk; have := HX.out; omega, ?_, ?_⟩
    · exact hO6.r.keep hs7 (by simp; omega)
    · exact hO6.c.trans hs7 (fun x hx hl => by simp at hx; omega)
  · go_wp2_with (first
      | (refine wpList_load_row rfl _ _ rfl tb rfl 35 _ (0, 0) _ hO4.t Try.underlying35 rfl (by kernel_rfl) ?_)
      | (go_at_call 8; refine (hcR _ _ hp4).mono ?_; rintro e w6 ⟨rfl, hm5⟩; have hO6 := hO4.k hm5; have hp6 := VsS.k hp4 hm5; obtain ⟨zs, hzs, hq6⟩ := hO6.q)
      | (refine wpList_load_row rfl _ _ rfl tb rfl 35 _ (0, 0) _ hO6.t Try.underlying35 rfl (by kernel_rfl) ?_)
      | (refine wpList_store_row rfl _ _ _ rfl rb #[.int .i64 1, .int .i64 0, .int .i64 0, .int .i64 0, .int .i64 px, .int .i64 py, .int .i64 vx, .int .i64 vy, .int .i64 z3.1, .int .i64 z4.1, .int .i64 z5.1, .int .i64 0, .int .i64 sk, .int .i64 sr, .slice ao p.length c] rfl rfl 35 _ hq6 (by kernel_rfl) (by rw [hzs]; rfl) (by simp [Value.oneCell']) ?_))
    have k7 : Blk (w6.setRow rb #[.int .i64 1, .int .i64 0, .int .i64 0, .int .i64 0, .int .i64 px, .int .i64 py, .int .i64 vx, .int .i64 vy, .int .i64 z3.1, .int .i64 z4.1, .int .i64 z5.1, .int .i64 0, .int .i64 sk, .int .i64 sr, .slice ao p.length c]) rb #[.int .i64 1, .int .i64 0, .int .i64 0, .int .i64 0, .int .i64 px, .int .i64 py, .int .i64 vx, .int .i64 vy, .int .i64 z3.1, .int .i64 z4.1, .int .i64 z5.1, .int .i64 0, .int .i64 sk, .int .i64 sr, .slice ao p.length c] 35 := hq6.row
    have hs7 := Chg.row (Chg.refl [rb] w6) rb #[.int .i64 1, .int .i64 0, .int .i64 0, .int .i64 0, .int .i64 px, .int .i64 py, .int .i64 vx, .int .i64 vy, .int .i64 z3.1, .int .i64 z4.1, .int .i64 z5.1, .int .i64 0, .int .i64 sk, .int .i64 sr, .slice ao p.length c] (by simp)
    have hlo := hO6.lo
    refine bodyPost_ret (results_cell_row rfl _ _ rb 35 _ (0, 0) _ rfl k7 Try.underlying35 rfl (by kernel_rfl)) rfl ⟨_, rfl, Rd.keep hp6 hs7 (fun _ k hk hx => by have := hPK k hk; simp at hx; omega), fun k hk => by have := hPK k hk; have := HX.out; omega, ?_, ?_⟩
    · exact hO6.r.keep hs7 (by simp; omega)
    · exact hO6.c.trans hs7 (fun x hx hl => by simp at hx; omega)
end Go.Proofs.Ytlicefbgcoddbaa
