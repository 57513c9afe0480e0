/- Words and walks that Codec rests on: CodecRK3. -/
import Derived.Test.YtlicefbgcoddbaaWCodec18
/- codec.reader.order: kind 3. -/
namespace Go.Proofs.Ytlicefbgcoddbaa
open Go.RowKit

set_option maxRecDepth 100000 in
set_option maxHeartbeats 8000000 in
theorem ROrderK3_any (base b : Nat) (s : St) (w : World) (hr : RdB base w b s) (hbase : base ≤ w.heap.size) (hk : (numR 1 s).1 = 3) :
    Calls Try.prog 22 #[.agg #[.pointer (some ⟨b, 0, none⟩)]] w fun e w' => ∃ pv, e = .returned (vO (orderR s).1 pv) ∧ VsS w' pv (orderR s).1.shape.p ∧ (∀ k, pv.ownBlock = some k → w.heap.size ≤ k) ∧ RdB base w' b (orderR s).2 ∧ Chg [b] w w' := by
  have hio := orderR0_IO s
  have e0 : orderR0 s = (⟨3, 0, (numR 8 (numR 1 s).2).1, (numR 8 (numR 8 (numR 1 s).2).2).1, (plR (numR 8 (numR 8 (numR 1 s).2).2).2).1, (plR (plR (numR 8 (numR 8 (numR 1 s).2).2).2).2).1, 0, 0, 0, (numR 8 (plR (plR (numR 8 (numR 8 (numR 1 s).2).2).2).2).2).1, noS⟩, (numR 8 (plR (plR (numR 8 (numR 8 (numR 1 s).2).2).2).2).2).2) := by
    unfold orderR0; rw [hk]; rfl
  unfold orderR
  rw [e0] at hio ⊢
  have hc1 := fun W (h : RdB base W b s) => NumB_any 1 base b s W h (by omega)
  have hcN1 := fun W (h : RdB base W b (numR 1 s).2) => NumB_any 8 base b _ W h (by omega)
  have hcN2 := fun W (h : RdB base W b (numR 8 (numR 1 s).2).2) => NumB_any 8 base b _ W h (by omega)
  have hcV3 := fun W (h : RdB base W b (numR 8 (numR 8 (numR 1 s).2).2).2) (hb : base ≤ W.heap.size) => VB_any base b _ W h hb
  have hcV4 := fun W (h : RdB base W b (plR (numR 8 (numR 8 (numR 1 s).2).2).2).2) (hb : base ≤ W.heap.size) => VB_any base b _ W h hb
  have hcF5 := fun W (h : RdB base W b (plR (plR (numR 8 (numR 8 (numR 1 s).2).2).2).2).2) => FB_any base b _ W h
  rw [hk] at hc1
  clear hk e0
  generalize (numR 8 (plR (plR (numR 8 (numR 8 (numR 1 s).2).2).2).2).2) = z5 at *
  generalize (plR (plR (numR 8 (numR 8 (numR 1 s).2).2).2).2) = z4 at *
  generalize (plR (numR 8 (numR 8 (numR 1 s).2).2).2) = z3 at *
  generalize (numR 8 (numR 8 (numR 1 s).2).2) = z2 at *
  generalize (numR 8 (numR 1 s).2) = z1 at *
  generalize (numR 1 s).2 = y at *
  obtain ⟨⟨px, py⟩, z3⟩ := z3
  obtain ⟨⟨vx, vy⟩, z4⟩ := z4
  unfold vV at hcV3 hcV4
  simp only at hcV3 hcV4 hcF5 hio
  have hcR := fun W => ORight_any W ⟨3, 0, z1.1, z2.1, (px, py), (vx, vy), 0, 0, 0, z5.1, noS⟩ (.slice none 0 0) (Rd.ofOwn (e := 30) (base := 0) (World.ownsRow_nil _ _ _ _)) hio
  generalize rightO ⟨3, 0, z1.1, z2.1, (px, py), (vx, vy), 0, 0, 0, z5.1, noS⟩ = rt at *
  unfold vO noS at hcR ⊢
  simp only at hcR ⊢
  have hlt := hr.lt
  have hcA := (Chg.refl [] w).alloc (.cells #[.pointer (some ⟨b, 0, none⟩)] 73)
  have hcB := hcA.alloc (.cells #[.int .i64 0, .int .i64 0, .int .i64 0, .int .i64 0, .int .i64 0, .int .i64 0, .int .i64 0, .int .i64 0, .int .i64 0, .int .i64 0, .int .i64 0, .int .i64 0, .int .i64 0, .int .i64 0, .slice none 0 0] 35)
  have kA := (Blk.new w #[.pointer (some ⟨b, 0, none⟩)] 73).alloc (.cells #[.int .i64 0, .int .i64 0, .int .i64 0, .int .i64 0, .int .i64 0, .int .i64 0, .int .i64 0, .int .i64 0, .int .i64 0, .int .i64 0, .int .i64 0, .int .i64 0, .int .i64 0, .int .i64 0, .slice none 0 0] 35)
  have kB := Blk.new (w.alloc (.cells #[.pointer (some ⟨b, 0, none⟩)] 73)) #[.int .i64 0, .int .i64 0, .int .i64 0, .int .i64 0, .int .i64 0, .int .i64 0, .int .i64 0, .int .i64 0, .int .i64 0, .int .i64 0, .int .i64 0, .int .i64 0, .int .i64 0, .int .i64 0, .slice none 0 0] 35
  rw [World.size_alloc] at kB
  have hr0 := hr.k hcB
  have hc1 := hc1 _ hr0
  go_enter Try.func22, Try.ntmps22
  go_upto_region 1 with (fail)
  have hsz : ((w.alloc (.cells #[.pointer (some ⟨b, 0, none⟩)] 73)).alloc (.cells #[.int .i64 0, .int .i64 0, .int .i64 0, .int .i64 0, .int .i64 0, .int .i64 0, .int .i64 0, .int .i64 0, .int .i64 0, .int .i64 0, .int .i64 0, .int .i64 0, .int .i64 0, .int .i64 0, .slice none 0 0] 35)).heap.size = w.heap.size + 1 + 1 := by simp
  generalize (w.alloc (.cells #[.pointer (some ⟨b, 0, none⟩)] 73)).alloc (.cells #[.int .i64 0, .int .i64 0, .int .i64 0, .int .i64 0, .int .i64 0, .int .i64 0, .int .i64 0, .int .i64 0, .int .i64 0, .int .i64 0, .int .i64 0, .int .i64 0, .int .i64 0, .int .i64 0, .slice none 0 0] 35) = w0 at *
  have a0 := kA.cell 0
  simp at a0
  go_upto_region 11 with (first
    | (go_at_call 38; refine hc1.mono ?_; rintro e w1 ⟨rfl, hr1, hm1⟩; have kA1 := kA.chg hm1 (by simp; omega); have kB1 := kB.chg hm1 (by simp; omega); have a1 := kA1.cell 0; simp at a1))
  have hcC := (Chg.refl [] w1).alloc (.cells #[.int .i64 3, .int .i64 0, .int .i64 0, .int .i64 0, .int .i64 0, .int .i64 0, .int .i64 0, .int .i64 0, .int .i64 0, .int .i64 0, .int .i64 0, .int .i64 0, .int .i64 0, .int .i64 0, .slice none 0 0] 35)
  have kC := Blk.new w1 #[.int .i64 3, .int .i64 0, .int .i64 0, .int .i64 0, .int .i64 0, .int .i64 0, .int .i64 0, .int .i64 0, .int .i64 0, .int .i64 0, .int .i64 0, .int .i64 0, .int .i64 0, .int .i64 0, .slice none 0 0] 35
  have hT : w.heap.size + 1 < w1.heap.size := kB1.lt
  have hO : Ost w base b w.heap.size (w.heap.size + 1) w1.heap.size #[.int .i64 3, .int .i64 0, .int .i64 0, .int .i64 0, .int .i64 0, .int .i64 0, .int .i64 0, .int .i64 0, .int .i64 0, .int .i64 0, .int .i64 0, .int .i64 0, .int .i64 0, .int .i64 0, .slice none 0 0] (w1.alloc (.cells #[.int .i64 3, .int .i64 0, .int .i64 0, .int .i64 0, .int .i64 0, .int .i64 0, .int .i64 0, .int .i64 0, .int .i64 0, .int .i64 0, .int .i64 0, .int .i64 0, .int .i64 0, .int .i64 0, .slice none 0 0] 35)) y := ⟨kC, hr1.k hcC, kA1.k hcC, ⟨_, rfl, kB1.k hcC⟩, ((hcB.mono (S' := [b]) (by simp)).trans hm1 (fun x hx _ => hx)).k' hcC, by omega⟩
  clear a0 a1 kA kB kA1 kB1 kC hr0 hr1 hcA hcB hcC hr hc1 hm1 hsz hlt hbase
  generalize w1.alloc (.cells #[.int .i64 3, .int .i64 0, .int .i64 0, .int .i64 0, .int .i64 0, .int .i64 0, .int .i64 0, .int .i64 0, .int .i64 0, .int .i64 0, .int .i64 0, .int .i64 0, .int .i64 0, .int .i64 0, .slice none 0 0] 35) = w2 at *
  generalize w1.heap.size = tb at *
  generalize hrb : w.heap.size + 1 = rb at *
  generalize hxb : w.heap.size = xb at *
  clear hrb hT
  have HX := hd hxb
  clear hxb
  have hO4 := hO
  clear hO
  have hlo := hO4.lo
  have NX : Hd (xb ∉ [b, tb]) := hd (by simp; omega)
  have Q0 := hd (show w2.cell? ⟨xb, 0, none⟩ = some (.pointer (some ⟨b, 0, none⟩)) from hO4.x.cell 0)
  have hB := hO4.k (Chg.refl [] w2).drew
  clear hO4 hlo
  refine anyH_start (n := 10) (L := #[false, false, false, false, false, false, false, false, false, false]) (by kernel_rfl) (by kernel_rfl) (S := (fun wx => Chg [b, tb] w2 wx)) ((Chg.refl _ _).drew) (fun hHeld => ?_)
  generalize w2.drew = w3d at *
  refine anyH_take (i := 0) (d := 44) (L' := #[true, false, false, false, false, false, false, false, false, false]) (v := ?v2) rfl rfl (by kernel_rfl) (fun _ _ _ h => h) (by rfl) ?hy2 (by assumption) ?rest2
  case hy2 => (intro wx hSw; (try dsimp only at hSw); (have t0 := Chg.cellT hSw Q0.out NX.out); go_simp; (try with_reducible rfl))
  simp only [Act.put, List.setIfInBounds_toArray, List.set_cons_zero, List.set_cons_succ]
  refine anyH_take (i := 1) (d := 45) (L' := #[true, true, false, false, false, false, false, false, false, false]) (v := ?v3) rfl rfl (by kernel_rfl) (fun _ _ _ h => h) (by rfl) ?hy3 (by assumption) ?rest3
  case hy3 => (intro wx hSw; (try dsimp only at hSw); (have t0 := Chg.cellT hSw Q0.out NX.out); go_simp; (try with_reducible rfl))
  simp only [Act.put, List.setIfInBounds_toArray, List.set_cons_zero, List.set_cons_succ]
  refine anyH_take (i := 3) (d := 47) (L' := #[true, true, false, true, false, false, false, false, false, false]) (v := ?v4) rfl rfl (by kernel_rfl) (fun _ _ _ h => h) (by rfl) ?hy4 (by assumption) ?rest4
  case hy4 => (intro wx hSw; (try dsimp only at hSw); (have t0 := Chg.cellT hSw Q0.out NX.out); go_simp; (try with_reducible rfl))
  simp only [Act.put, List.setIfInBounds_toArray, List.set_cons_zero, List.set_cons_succ]
  refine anyH_take (i := 4) (d := 48) (L' := #[true, true, false, true, true, false, false, false, false, false]) (v := ?v5) rfl rfl (by kernel_rfl) (fun _ _ _ h => h) (by rfl) ?hy5 (by assumption) ?rest5
  case hy5 => (intro wx hSw; (try dsimp only at hSw); (have t0 := Chg.cellT hSw Q0.out NX.out); go_simp; (try with_reducible rfl))
  simp only [Act.put, List.setIfInBounds_toArray, List.set_cons_zero, List.set_cons_succ]
  refine anyH_run (i := 2) (L' := #[true, true, true, true, true, false, false, false, false, false]) rfl (by kernel_rfl) (by rfl) (fun KK hKK => ?_)
  go_simp
  (refine (hcN1 _ hB.r).mono ?_; rintro e w3c0 ⟨rfl, hr5, hm5⟩; have hm := Chg.trans hHeld hm5 (by simp); replace hB := hB.step hm5 hr5; clear hm5 hr5; (try go_simp))
  refine hKK.out _ _ (by assumption) (fun hHeld => ?_)
  clear hKK KK
  try simp only [Act.put, List.setIfInBounds_toArray, List.set_cons_zero, List.set_cons_succ]
  refine anyH_take (i := 6) (d := 50) (L' := #[true, true, true, true, true, false, true, false, false, false]) (v := ?v7) rfl rfl (by kernel_rfl) (fun _ _ _ h => h) (by rfl) ?hy7 (by assumption) ?rest7
  case hy7 => (intro wx hSw; (try dsimp only at hSw); (have t0 := Chg.cellT hSw Q0.out NX.out); go_simp; (try with_reducible rfl))
  simp only [Act.put, List.setIfInBounds_toArray, List.set_cons_zero, List.set_cons_succ]
  refine anyH_run (i := 5) (L' := #[true, true, true, true, true, true, true, false, false, false]) rfl (by kernel_rfl) (by rfl) (fun KK hKK => ?_)
  go_simp
  (refine (hcN2 _ hB.r).mono ?_; rintro e w3c1 ⟨rfl, hr5, hm5⟩; have hm := Chg.trans hHeld hm5 (by simp); replace hB := hB.step hm5 hr5; clear hm5 hr5; (try go_simp))
  refine hKK.out _ _ (by assumption) (fun hHeld => ?_)
  clear hKK KK
  try simp only [Act.put, List.setIfInBounds_toArray, List.set_cons_zero, List.set_cons_succ]
  refine anyH_run (i := 7) (L' := #[true, true, true, true, true, true, true, true, false, false]) rfl (by kernel_rfl) (by rfl) (fun KK hKK => ?_)
  (have c2 := hB.t.cell 2; have f2 := hB.t.free 2; simp at c2; replace hB := (hB.set 2 (.int .i64 z1.1) (cs' := #[.int .i64 3, .int .i64 0, .int .i64 z1.1, .int .i64 0, .int .i64 0, .int .i64 0, .int .i64 0, .int .i64 0, .int .i64 0, .int .i64 0, .int .i64 0, .int .i64 0, .int .i64 0, .int .i64 0, .slice none 0 0]) (by simp)); have hm7 := (Chg.setCell hHeld ⟨tb, 2, none⟩ (.int .i64 z1.1) (by simp)); go_simp)
  refine hKK.out _ _ (by assumption) (fun hHeld => ?_)
  clear hKK KK
  try simp only [Act.put, List.setIfInBounds_toArray, List.set_cons_zero, List.set_cons_succ]
  refine anyH_take (i := 8) (d := 51) (L' := #[true, true, true, true, true, true, true, true, true, false]) (v := ?v10) rfl rfl (by kernel_rfl) (fun _ _ _ h => h) (by rfl) ?hy10 (by assumption) ?rest10
  case hy10 => (intro wx hSw; (try dsimp only at hSw); (have t0 := Chg.cellT hSw Q0.out NX.out); go_simp; (try with_reducible rfl))
  simp only [Act.put, List.setIfInBounds_toArray, List.set_cons_zero, List.set_cons_succ]
  refine anyH_run (i := 9) (L' := #[true, true, true, true, true, true, true, true, true, true]) rfl (by kernel_rfl) (by rfl) (fun KK hKK => ?_)
  (clear c2 f2; generalize (w3c1.setCell ⟨tb, 2, none⟩ (.int .i64 z1.1)) = w3s1 at *; have c3 := hB.t.cell 3; have f3 := hB.t.free 3; simp at c3; replace hB := (hB.set 3 (.int .i64 z2.1) (cs' := #[.int .i64 3, .int .i64 0, .int .i64 z1.1, .int .i64 z2.1, .int .i64 0, .int .i64 0, .int .i64 0, .int .i64 0, .int .i64 0, .int .i64 0, .int .i64 0, .int .i64 0, .int .i64 0, .int .i64 0, .slice none 0 0]) (by simp)); have hm7 := (Chg.setCell hHeld ⟨tb, 3, none⟩ (.int .i64 z2.1) (by simp)); go_simp)
  refine hKK.out _ _ (by assumption) (fun hHeld => ?_)
  clear hKK KK
  try simp only [Act.put, List.setIfInBounds_toArray, List.set_cons_zero, List.set_cons_succ]
  refine wpAnyH_done (by kernel_rfl) ?_ _
  skip
  have hO4 := hB
  clear hB hHeld c3 f3
  generalize (w3s1.setCell ⟨tb, 3, none⟩ (.int .i64 z2.1)) = w3 at *
  go_upto_region 12 with (fail)
  have hlo := hO4.lo
  have NX : Hd (xb ∉ [b, tb]) := hd (by simp; omega)
  have Q0 := hd (show w3.cell? ⟨xb, 0, none⟩ = some (.pointer (some ⟨b, 0, none⟩)) from hO4.x.cell 0)
  have hB := hO4.k (Chg.refl [] w3).drew
  clear hO4 hlo
  refine anyH_start (n := 10) (L := #[false, false, false, false, false, false, false, false, false, false]) (by kernel_rfl) (by kernel_rfl) (S := (fun wx => Chg [b, tb] w3 wx)) ((Chg.refl _ _).drew) (fun hHeld => ?_)
  generalize w3.drew = w4d at *
  refine anyH_take (i := 0) (d := 52) (L' := #[true, false, false, false, false, false, false, false, false, false]) (v := ?v14) rfl rfl (by kernel_rfl) (fun _ _ _ h => h) (by rfl) ?hy14 (by assumption) ?rest14
  case hy14 => (intro wx hSw; (try dsimp only at hSw); (have t0 := Chg.cellT hSw Q0.out NX.out); go_simp; (try with_reducible rfl))
  simp only [Act.put, List.setIfInBounds_toArray, List.set_cons_zero, List.set_cons_succ]
  refine anyH_take (i := 1) (d := 53) (L' := #[true, true, false, false, false, false, false, false, false, false]) (v := ?v15) rfl rfl (by kernel_rfl) (fun _ _ _ h => h) (by rfl) ?hy15 (by assumption) ?rest15
  case hy15 => (intro wx hSw; (try dsimp only at hSw); (have t0 := Chg.cellT hSw Q0.out NX.out); go_simp; (try with_reducible rfl))
  simp only [Act.put, List.setIfInBounds_toArray, List.set_cons_zero, List.set_cons_succ]
  refine anyH_take (i := 3) (d := 55) (L' := #[true, true, false, true, false, false, false, false, false, false]) (v := ?v16) rfl rfl (by kernel_rfl) (fun _ _ _ h => h) (by rfl) ?hy16 (by assumption) ?rest16
  case hy16 => (intro wx hSw; (try dsimp only at hSw); (have t0 := Chg.cellT hSw Q0.out NX.out); go_simp; (try with_reducible rfl))
  simp only [Act.put, List.setIfInBounds_toArray, List.set_cons_zero, List.set_cons_succ]
  refine anyH_take (i := 4) (d := 56) (L' := #[true, true, false, true, true, false, false, false, false, false]) (v := ?v17) rfl rfl (by kernel_rfl) (fun _ _ _ h => h) (by rfl) ?hy17 (by assumption) ?rest17
  case hy17 => (intro wx hSw; (try dsimp only at hSw); (have t0 := Chg.cellT hSw Q0.out NX.out); go_simp; (try with_reducible rfl))
  simp only [Act.put, List.setIfInBounds_toArray, List.set_cons_zero, List.set_cons_succ]
  refine anyH_run (i := 2) (L' := #[true, true, true, true, true, false, false, false, false, false]) rfl (by kernel_rfl) (by rfl) (fun KK hKK => ?_)
  go_simp
  (refine (hcV3 _ hB.r (by have := hB.lo; have := hB.x.lt; omega)).mono ?_; rintro e w4c0 ⟨rfl, hr5, hm5⟩; have hm := Chg.trans hHeld hm5 (by simp); replace hB := hB.step hm5 hr5; clear hm5 hr5; (try go_simp))
  refine hKK.out _ _ (by assumption) (fun hHeld => ?_)
  clear hKK KK
  try simp only [Act.put, List.setIfInBounds_toArray, List.set_cons_zero, List.set_cons_succ]
  refine anyH_take (i := 6) (d := 58) (L' := #[true, true, true, true, true, false, true, false, false, false]) (v := ?v19) rfl rfl (by kernel_rfl) (fun _ _ _ h => h) (by rfl) ?hy19 (by assumption) ?rest19
  case hy19 => (intro wx hSw; (try dsimp only at hSw); (have t0 := Chg.cellT hSw Q0.out NX.out); go_simp; (try with_reducible rfl))
  simp only [Act.put, List.setIfInBounds_toArray, List.set_cons_zero, List.set_cons_succ]
  refine anyH_run (i := 5) (L' := #[true, true, true, true, true, true, true, false, false, false]) rfl (by kernel_rfl) (by rfl) (fun KK hKK => ?_)
  go_simp
  (refine (hcV4 _ hB.r (by have := hB.lo; have := hB.x.lt; omega)).mono ?_; rintro e w4c1 ⟨rfl, hr5, hm5⟩; have hm := Chg.trans hHeld hm5 (by simp); replace hB := hB.step hm5 hr5; clear hm5 hr5; (try go_simp))
  refine hKK.out _ _ (by assumption) (fun hHeld => ?_)
  clear hKK KK
  try simp only [Act.put, List.setIfInBounds_toArray, List.set_cons_zero, List.set_cons_succ]
  refine anyH_run (i := 7) (L' := #[true, true, true, true, true, true, true, true, false, false]) rfl (by kernel_rfl) (by rfl) (fun KK hKK => ?_)
  (have c4 := hB.t.cell 4; have f4 := hB.t.free 4; have c5 := hB.t.cell 5; have f5 := hB.t.free 5; simp at c4 c5; replace hB := ((hB.set 4 (.int .i64 px) (cs' := #[.int .i64 3, .int .i64 0, .int .i64 z1.1, .int .i64 z2.1, .int .i64 px, .int .i64 0, .int .i64 0, .int .i64 0, .int .i64 0, .int .i64 0, .int .i64 0, .int .i64 0, .int .i64 0, .int .i64 0, .slice none 0 0]) (by simp)).set 5 (.int .i64 py) (cs' := #[.int .i64 3, .int .i64 0, .int .i64 z1.1, .int .i64 z2.1, .int .i64 px, .int .i64 py, .int .i64 0, .int .i64 0, .int .i64 0, .int .i64 0, .int .i64 0, .int .i64 0, .int .i64 0, .int .i64 0, .slice none 0 0]) (by simp)); have hm7 := (Chg.setCell (Chg.setCell hHeld ⟨tb, 4, none⟩ (.int .i64 px) (by simp)) ⟨tb, 5, none⟩ (.int .i64 py) (by simp)); go_simp)
  refine hKK.out _ _ (by assumption) (fun hHeld => ?_)
  clear hKK KK
  try simp only [Act.put, List.setIfInBounds_toArray, List.set_cons_zero, List.set_cons_succ]
  refine anyH_take (i := 8) (d := 59) (L' := #[true, true, true, true, true, true, true, true, true, false]) (v := ?v22) rfl rfl (by kernel_rfl) (fun _ _ _ h => h) (by rfl) ?hy22 (by assumption) ?rest22
  case hy22 => (intro wx hSw; (try dsimp only at hSw); (have t0 := Chg.cellT hSw Q0.out NX.out); go_simp; (try with_reducible rfl))
  simp only [Act.put, List.setIfInBounds_toArray, List.set_cons_zero, List.set_cons_succ]
  refine anyH_run (i := 9) (L' := #[true, true, true, true, true, true, true, true, true, true]) rfl (by kernel_rfl) (by rfl) (fun KK hKK => ?_)
  (clear c4 f4 c5 f5; generalize ((w4c1.setCell ⟨tb, 4, none⟩ (.int .i64 px)).setCell ⟨tb, 5, none⟩ (.int .i64 py)) = w4s1 at *; have c6 := hB.t.cell 6; have f6 := hB.t.free 6; have c7 := hB.t.cell 7; have f7 := hB.t.free 7; simp at c6 c7; replace hB := ((hB.set 6 (.int .i64 vx) (cs' := #[.int .i64 3, .int .i64 0, .int .i64 z1.1, .int .i64 z2.1, .int .i64 px, .int .i64 py, .int .i64 vx, .int .i64 0, .int .i64 0, .int .i64 0, .int .i64 0, .int .i64 0, .int .i64 0, .int .i64 0, .slice none 0 0]) (by simp)).set 7 (.int .i64 vy) (cs' := #[.int .i64 3, .int .i64 0, .int .i64 z1.1, .int .i64 z2.1, .int .i64 px, .int .i64 py, .int .i64 vx, .int .i64 vy, .int .i64 0, .int .i64 0, .int .i64 0, .int .i64 0, .int .i64 0, .int .i64 0, .slice none 0 0]) (by simp)); have hm7 := (Chg.setCell (Chg.setCell hHeld ⟨tb, 6, none⟩ (.int .i64 vx) (by simp)) ⟨tb, 7, none⟩ (.int .i64 vy) (by simp)); go_simp)
  refine hKK.out _ _ (by assumption) (fun hHeld => ?_)
  clear hKK KK
  try simp only [Act.put, List.setIfInBounds_toArray, List.set_cons_zero, List.set_cons_succ]
  refine wpAnyH_done (by kernel_rfl) ?_ _
  skip
  have hO4 := hB
  clear hB hHeld c6 f6 c7 f7
  generalize ((w4s1.setCell ⟨tb, 6, none⟩ (.int .i64 vx)).setCell ⟨tb, 7, none⟩ (.int .i64 vy)) = w4 at *
  have a2 := hO4.x.cell 0
  simp at a2
  go_upto_region 19 with (first
    | (go_at_call 52; refine (hcF5 _ hO4.r).mono ?_; rintro e w5 ⟨rfl, hr3, hm3⟩; have hO5 := hO4.step hm3 hr3; have c1 := hO5.t.cell 11; have f1 := hO5.t.free 11; simp at c1))
  clear hO4
  have hO4 := hO5.set 11 (.int .i64 z5.1) (cs' := #[.int .i64 3, .int .i64 0, .int .i64 z1.1, .int .i64 z2.1, .int .i64 px, .int .i64 py, .int .i64 vx, .int .i64 vy, .int .i64 0, .int .i64 0, .int .i64 0, .int .i64 z5.1, .int .i64 0, .int .i64 0, .slice none 0 0]) (by simp)
  clear hO5 hm3 hr3 c1 f1 a2
  generalize w5.setCell ⟨tb, 11, none⟩ (.int .i64 z5.1) = w8 at *
  cases rt
  · have a4 := hO4.x.cell 0
    simp at a4
    go_wp2_with (first
      | (refine wpList_load_row rfl _ _ rfl tb rfl 35 _ (0, 0) _ hO4.t Try.underlying35 rfl (by kernel_rfl) ?_)
      | (go_at_call 8; refine (hcR _).mono ?_; rintro e w5 ⟨rfl, hm5⟩; have hO5 := hO4.k hm5; have a5 := hO5.x.cell 0; simp at a5)
      | (go_at_call 51; refine (FailB_any base b _ _ hO5.r).mono ?_; rintro e w6 ⟨rfl, hr6, hm6⟩; have hO6 := hO5.step hm6 hr6; obtain ⟨zs, hzs, hq6⟩ := hO6.q)
      | (refine wpList_load_row rfl _ _ rfl tb rfl 35 _ (0, 0) _ hO6.t Try.underlying35 rfl (by kernel_rfl) ?_)
      | (refine wpList_store_row rfl _ _ _ rfl rb #[.int .i64 3, .int .i64 0, .int .i64 z1.1, .int .i64 z2.1, .int .i64 px, .int .i64 py, .int .i64 vx, .int .i64 vy, .int .i64 0, .int .i64 0, .int .i64 0, .int .i64 z5.1, .int .i64 0, .int .i64 0, .slice none 0 0] rfl rfl 35 _ hq6 (by kernel_rfl) (by rw [hzs]; rfl) (by simp [Value.oneCell']) ?_))
    have k7 : Blk (w6.setRow rb #[.int .i64 3, .int .i64 0, .int .i64 z1.1, .int .i64 z2.1, .int .i64 px, .int .i64 py, .int .i64 vx, .int .i64 vy, .int .i64 0, .int .i64 0, .int .i64 0, .int .i64 z5.1, .int .i64 0, .int .i64 0, .slice none 0 0]) rb #[.int .i64 3, .int .i64 0, .int .i64 z1.1, .int .i64 z2.1, .int .i64 px, .int .i64 py, .int .i64 vx, .int .i64 vy, .int .i64 0, .int .i64 0, .int .i64 0, .int .i64 z5.1, .int .i64 0, .int .i64 0, .slice none 0 0] 35 := hq6.row
    have hs7 := Chg.row (Chg.refl [rb] w6) rb #[.int .i64 3, .int .i64 0, .int .i64 z1.1, .int .i64 z2.1, .int .i64 px, .int .i64 py, .int .i64 vx, .int .i64 vy, .int .i64 0, .int .i64 0, .int .i64 0, .int .i64 z5.1, .int .i64 0, .int .i64 0, .slice none 0 0] (by simp)
    have hlo := hO6.lo
    refine bodyPost_ret (results_cell_row rfl _ _ rb 35 _ (0, 0) _ rfl k7 Try.underlying35 rfl (by kernel_rfl)) rfl ⟨_, rfl, Rd.ofOwn (e := 30) (base := 0) (World.ownsRow_nil _ _ _ _), by simp [Value.ownBlock], ?_, ?_⟩
    · exact hO6.r.keep hs7 (by simp; omega)
    · exact hO6.c.trans hs7 (fun x hx hl => by simp at hx; omega)
  · go_wp2_with (first
      | (refine wpList_load_row rfl _ _ rfl tb rfl 35 _ (0, 0) _ hO4.t Try.underlying35 rfl (by kernel_rfl) ?_)
      | (go_at_call 8; refine (hcR _).mono ?_; rintro e w6 ⟨rfl, hm5⟩; have hO6 := hO4.k hm5; obtain ⟨zs, hzs, hq6⟩ := hO6.q)
      | (refine wpList_load_row rfl _ _ rfl tb rfl 35 _ (0, 0) _ hO6.t Try.underlying35 rfl (by kernel_rfl) ?_)
      | (refine wpList_store_row rfl _ _ _ rfl rb #[.int .i64 3, .int .i64 0, .int .i64 z1.1, .int .i64 z2.1, .int .i64 px, .int .i64 py, .int .i64 vx, .int .i64 vy, .int .i64 0, .int .i64 0, .int .i64 0, .int .i64 z5.1, .int .i64 0, .int .i64 0, .slice none 0 0] rfl rfl 35 _ hq6 (by kernel_rfl) (by rw [hzs]; rfl) (by simp [Value.oneCell']) ?_))
    have k7 : Blk (w6.setRow rb #[.int .i64 3, .int .i64 0, .int .i64 z1.1, .int .i64 z2.1, .int .i64 px, .int .i64 py, .int .i64 vx, .int .i64 vy, .int .i64 0, .int .i64 0, .int .i64 0, .int .i64 z5.1, .int .i64 0, .int .i64 0, .slice none 0 0]) rb #[.int .i64 3, .int .i64 0, .int .i64 z1.1, .int .i64 z2.1, .int .i64 px, .int .i64 py, .int .i64 vx, .int .i64 vy, .int .i64 0, .int .i64 0, .int .i64 0, .int .i64 z5.1, .int .i64 0, .int .i64 0, .slice none 0 0] 35 := hq6.row
    have hs7 := Chg.row (Chg.refl [rb] w6) rb #[.int .i64 3, .int .i64 0, .int .i64 z1.1, .int .i64 z2.1, .int .i64 px, .int .i64 py, .int .i64 vx, .int .i64 vy, .int .i64 0, .int .i64 0, .int .i64 0, .int .i64 z5.1, .int .i64 0, .int .i64 0, .slice none 0 0] (by simp)
    have hlo := hO6.lo
    refine bodyPost_ret (results_cell_row rfl _ _ rb 35 _ (0, 0) _ rfl k7 Try.underlying35 rfl (by kernel_rfl)) rfl ⟨_, rfl, Rd.ofOwn (e := 30) (base := 0) (World.ownsRow_nil _ _ _ _), by simp [Value.ownBlock], ?_, ?_⟩
    · exact hO6.r.keep hs7 (by simp; omega)
    · exact hO6.c.trans hs7 (fun x hx hl => by simp at hx; omega)
end Go.Proofs.Ytlicefbgcoddbaa
