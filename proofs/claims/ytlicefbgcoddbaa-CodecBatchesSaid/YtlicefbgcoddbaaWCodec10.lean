/- Words and walks that Codec rests on: OrderU3. -/
import Derived.Test.YtlicefbgcoddbaaWCodec7
/- order.used, case 3. -/
namespace Go.Proofs.Ytlicefbgcoddbaa
open Go.RowKit

set_option maxRecDepth 100000 in
set_option maxHeartbeats 8000000 in
theorem used3_any (w : World) (i a b px py vx vy an sp de ln sk sr : Int) (ao : Option Addr) (n c : Nat) : Calls Try.prog 26 #[.agg #[.int .i64 3, .int .i64 i, .int .i64 a, .int .i64 b, .int .i64 px, .int .i64 py, .int .i64 vx, .int .i64 vy, .int .i64 an, .int .i64 sp, .int .i64 de, .int .i64 ln, .int .i64 sk, .int .i64 sr, .slice ao n c]] w fun e w' => e = .returned (.agg #[.int .i64 3, .int .i64 0, .int .i64 a, .int .i64 b, .int .i64 px, .int .i64 py, .int .i64 vx, .int .i64 vy, .int .i64 0, .int .i64 0, .int .i64 0, .int .i64 ln, .int .i64 0, .int .i64 0, .slice none 0 0]) ∧ Chg [] w w' := by
  go_enter Try.func26, Try.ntmps26
  go_upto_region 10 with (fail)
  have hz1 : (w.alloc (.cells #[.int .i64 3, .int .i64 i, .int .i64 a, .int .i64 b, .int .i64 px, .int .i64 py, .int .i64 vx, .int .i64 vy, .int .i64 an, .int .i64 sp, .int .i64 de, .int .i64 ln, .int .i64 sk, .int .i64 sr, .slice ao n c] 35)).heap.size = w.heap.size + 1 := by simp
  have hz2 : ((w.alloc (.cells #[.int .i64 3, .int .i64 i, .int .i64 a, .int .i64 b, .int .i64 px, .int .i64 py, .int .i64 vx, .int .i64 vy, .int .i64 an, .int .i64 sp, .int .i64 de, .int .i64 ln, .int .i64 sk, .int .i64 sr, .slice ao n c] 35)).alloc (.cells #[.int .i64 0, .int .i64 0, .int .i64 0, .int .i64 0, .int .i64 0, .int .i64 0, .int .i64 0, .int .i64 0, .int .i64 0, .int .i64 0, .int .i64 0, .int .i64 0, .int .i64 0, .int .i64 0, .slice none 0 0] 35)).heap.size = w.heap.size + 1 + 1 := by simp
  have k1 := ((Blk.new w #[.int .i64 3, .int .i64 i, .int .i64 a, .int .i64 b, .int .i64 px, .int .i64 py, .int .i64 vx, .int .i64 vy, .int .i64 an, .int .i64 sp, .int .i64 de, .int .i64 ln, .int .i64 sk, .int .i64 sr, .slice ao n c] 35).alloc (.cells #[.int .i64 0, .int .i64 0, .int .i64 0, .int .i64 0, .int .i64 0, .int .i64 0, .int .i64 0, .int .i64 0, .int .i64 0, .int .i64 0, .int .i64 0, .int .i64 0, .int .i64 0, .int .i64 0, .slice none 0 0] 35)).alloc (.cells #[.int .i64 3, .int .i64 0, .int .i64 0, .int .i64 0, .int .i64 0, .int .i64 0, .int .i64 0, .int .i64 0, .int .i64 0, .int .i64 0, .int .i64 0, .int .i64 0, .int .i64 0, .int .i64 0, .slice none 0 0] 35)
  have k2 := (Blk.new (w.alloc (.cells #[.int .i64 3, .int .i64 i, .int .i64 a, .int .i64 b, .int .i64 px, .int .i64 py, .int .i64 vx, .int .i64 vy, .int .i64 an, .int .i64 sp, .int .i64 de, .int .i64 ln, .int .i64 sk, .int .i64 sr, .slice ao n c] 35)) #[.int .i64 0, .int .i64 0, .int .i64 0, .int .i64 0, .int .i64 0, .int .i64 0, .int .i64 0, .int .i64 0, .int .i64 0, .int .i64 0, .int .i64 0, .int .i64 0, .int .i64 0, .int .i64 0, .slice none 0 0] 35).alloc (.cells #[.int .i64 3, .int .i64 0, .int .i64 0, .int .i64 0, .int .i64 0, .int .i64 0, .int .i64 0, .int .i64 0, .int .i64 0, .int .i64 0, .int .i64 0, .int .i64 0, .int .i64 0, .int .i64 0, .slice none 0 0] 35)
  have k3 := Blk.new ((w.alloc (.cells #[.int .i64 3, .int .i64 i, .int .i64 a, .int .i64 b, .int .i64 px, .int .i64 py, .int .i64 vx, .int .i64 vy, .int .i64 an, .int .i64 sp, .int .i64 de, .int .i64 ln, .int .i64 sk, .int .i64 sr, .slice ao n c] 35)).alloc (.cells #[.int .i64 0, .int .i64 0, .int .i64 0, .int .i64 0, .int .i64 0, .int .i64 0, .int .i64 0, .int .i64 0, .int .i64 0, .int .i64 0, .int .i64 0, .int .i64 0, .int .i64 0, .int .i64 0, .slice none 0 0] 35)) #[.int .i64 3, .int .i64 0, .int .i64 0, .int .i64 0, .int .i64 0, .int .i64 0, .int .i64 0, .int .i64 0, .int .i64 0, .int .i64 0, .int .i64 0, .int .i64 0, .int .i64 0, .int .i64 0, .slice none 0 0] 35
  have hg := (((Chg.refl [] w).alloc (.cells #[.int .i64 3, .int .i64 i, .int .i64 a, .int .i64 b, .int .i64 px, .int .i64 py, .int .i64 vx, .int .i64 vy, .int .i64 an, .int .i64 sp, .int .i64 de, .int .i64 ln, .int .i64 sk, .int .i64 sr, .slice ao n c] 35)).alloc (.cells #[.int .i64 0, .int .i64 0, .int .i64 0, .int .i64 0, .int .i64 0, .int .i64 0, .int .i64 0, .int .i64 0, .int .i64 0, .int .i64 0, .int .i64 0, .int .i64 0, .int .i64 0, .int .i64 0, .slice none 0 0] 35)).alloc (.cells #[.int .i64 3, .int .i64 0, .int .i64 0, .int .i64 0, .int .i64 0, .int .i64 0, .int .i64 0, .int .i64 0, .int .i64 0, .int .i64 0, .int .i64 0, .int .i64 0, .int .i64 0, .int .i64 0, .slice none 0 0] 35)
  rw [hz1] at k2
  rw [hz2] at k3
  generalize ((w.alloc (.cells #[.int .i64 3, .int .i64 i, .int .i64 a, .int .i64 b, .int .i64 px, .int .i64 py, .int .i64 vx, .int .i64 vy, .int .i64 an, .int .i64 sp, .int .i64 de, .int .i64 ln, .int .i64 sk, .int .i64 sr, .slice ao n c] 35)).alloc (.cells #[.int .i64 0, .int .i64 0, .int .i64 0, .int .i64 0, .int .i64 0, .int .i64 0, .int .i64 0, .int .i64 0, .int .i64 0, .int .i64 0, .int .i64 0, .int .i64 0, .int .i64 0, .int .i64 0, .slice none 0 0] 35)).alloc (.cells #[.int .i64 3, .int .i64 0, .int .i64 0, .int .i64 0, .int .i64 0, .int .i64 0, .int .i64 0, .int .i64 0, .int .i64 0, .int .i64 0, .int .i64 0, .int .i64 0, .int .i64 0, .int .i64 0, .slice none 0 0] 35) = w0 at *
  obtain ⟨ub, hub⟩ : ∃ ub, w.heap.size + 1 + 1 = ub := ⟨_, rfl⟩
  obtain ⟨rb, hrb⟩ : ∃ rb, w.heap.size + 1 = rb := ⟨_, rfl⟩
  rw [hub] at k3 ⊢
  rw [hrb] at k2 ⊢
  have HNE : Hd (ub ≠ rb ∧ ub ≠ w.heap.size ∧ w.heap.size ≤ ub ∧ w.heap.size ≤ rb) := hd (by omega)
  have HQ : Hd (∀ wx, Chg [ub] w0 wx → wx.cell? ⟨w.heap.size, 1, none⟩ = some (.int .i64 i) ∧ wx.cell? ⟨w.heap.size, 2, none⟩ = some (.int .i64 a) ∧ wx.cell? ⟨w.heap.size, 3, none⟩ = some (.int .i64 b) ∧ wx.cell? ⟨w.heap.size, 4, none⟩ = some (.int .i64 px) ∧ wx.cell? ⟨w.heap.size, 5, none⟩ = some (.int .i64 py) ∧ wx.cell? ⟨w.heap.size, 6, none⟩ = some (.int .i64 vx) ∧ wx.cell? ⟨w.heap.size, 7, none⟩ = some (.int .i64 vy) ∧ wx.cell? ⟨w.heap.size, 8, none⟩ = some (.int .i64 an) ∧ wx.cell? ⟨w.heap.size, 9, none⟩ = some (.int .i64 sp) ∧ wx.cell? ⟨w.heap.size, 10, none⟩ = some (.int .i64 de) ∧ wx.cell? ⟨w.heap.size, 11, none⟩ = some (.int .i64 ln)) := hd fun wx hx => ⟨hx.cellT (k1.cell 1) (by simp; omega), hx.cellT (k1.cell 2) (by simp; omega), hx.cellT (k1.cell 3) (by simp; omega), hx.cellT (k1.cell 4) (by simp; omega), hx.cellT (k1.cell 5) (by simp; omega), hx.cellT (k1.cell 6) (by simp; omega), hx.cellT (k1.cell 7) (by simp; omega), hx.cellT (k1.cell 8) (by simp; omega), hx.cellT (k1.cell 9) (by simp; omega), hx.cellT (k1.cell 10) (by simp; omega), hx.cellT (k1.cell 11) (by simp; omega)⟩
  have K2 := hd k2
  have K3 := hd k3
  have HG := hd hg
  clear k1 k2 k3 hg hz1 hz2 hub hrb
  refine anyH_start (n := 20) (L := #[false, false, false, false, false, false, false, false, false, false, false, false, false, false, false, false, false, false, false, false]) (by kernel_rfl) (by kernel_rfl) (S := (fun wx => Chg [ub] w0 wx)) ((Chg.refl _ _).drew) (fun hHeld => ?_)
  refine anyH_take (i := 0) (d := 24) (L' := #[true, false, false, false, false, false, false, false, false, false, false, false, false, false, false, false, false, false, false, false]) (v := ?v2) rfl rfl (by kernel_rfl) (fun _ _ _ h => h) (by rfl) ?hy2 (by assumption) ?rest2
  case hy2 => (intro wx hSw; (try dsimp only at hSw); (obtain ⟨t1, t2, t3, t4, t5, t6, t7, t8, t9, t10, t11⟩ := HQ.out _ hSw); go_simp; (try with_reducible rfl))
  simp only [Act.put, List.setIfInBounds_toArray, List.set_cons_zero, List.set_cons_succ]
  refine anyH_take (i := 1) (d := 25) (L' := #[true, true, false, false, false, false, false, false, false, false, false, false, false, false, false, false, false, false, false, false]) (v := ?v3) rfl rfl (by kernel_rfl) (fun _ _ _ h => h) (by rfl) ?hy3 (by assumption) ?rest3
  case hy3 => (intro wx hSw; (try dsimp only at hSw); (obtain ⟨t1, t2, t3, t4, t5, t6, t7, t8, t9, t10, t11⟩ := HQ.out _ hSw); go_simp; (try with_reducible rfl))
  simp only [Act.put, List.setIfInBounds_toArray, List.set_cons_zero, List.set_cons_succ]
  refine anyH_take (i := 2) (d := 26) (L' := #[true, true, true, false, false, false, false, false, false, false, false, false, false, false, false, false, false, false, false, false]) (v := ?v4) rfl rfl (by kernel_rfl) (fun _ _ _ h => h) (by rfl) ?hy4 (by assumption) ?rest4
  case hy4 => (intro wx hSw; (try dsimp only at hSw); (obtain ⟨t1, t2, t3, t4, t5, t6, t7, t8, t9, t10, t11⟩ := HQ.out _ hSw); go_simp; (try with_reducible rfl))
  simp only [Act.put, List.setIfInBounds_toArray, List.set_cons_zero, List.set_cons_succ]
  refine anyH_take (i := 3) (d := 27) (L' := #[true, true, true, true, false, false, false, false, false, false, false, false, false, false, false, false, false, false, false, false]) (v := ?v5) rfl rfl (by kernel_rfl) (fun _ _ _ h => h) (by rfl) ?hy5 (by assumption) ?rest5
  case hy5 => (intro wx hSw; (try dsimp only at hSw); (obtain ⟨t1, t2, t3, t4, t5, t6, t7, t8, t9, t10, t11⟩ := HQ.out _ hSw); go_simp; (try with_reducible rfl))
  simp only [Act.put, List.setIfInBounds_toArray, List.set_cons_zero, List.set_cons_succ]
  refine anyH_take (i := 4) (d := 28) (L' := #[true, true, true, true, true, false, false, false, false, false, false, false, false, false, false, false, false, false, false, false]) (v := ?v6) rfl rfl (by kernel_rfl) (fun _ _ _ h => h) (by rfl) ?hy6 (by assumption) ?rest6
  case hy6 => (intro wx hSw; (try dsimp only at hSw); (obtain ⟨t1, t2, t3, t4, t5, t6, t7, t8, t9, t10, t11⟩ := HQ.out _ hSw); go_simp; (try with_reducible rfl))
  simp only [Act.put, List.setIfInBounds_toArray, List.set_cons_zero, List.set_cons_succ]
  refine anyH_take (i := 5) (d := 29) (L' := #[true, true, true, true, true, true, false, false, false, false, false, false, false, false, false, false, false, false, false, false]) (v := ?v7) rfl rfl (by kernel_rfl) (fun _ _ _ h => h) (by rfl) ?hy7 (by assumption) ?rest7
  case hy7 => (intro wx hSw; (try dsimp only at hSw); (obtain ⟨t1, t2, t3, t4, t5, t6, t7, t8, t9, t10, t11⟩ := HQ.out _ hSw); go_simp; (try with_reducible rfl))
  simp only [Act.put, List.setIfInBounds_toArray, List.set_cons_zero, List.set_cons_succ]
  refine anyH_take (i := 6) (d := 30) (L' := #[true, true, true, true, true, true, true, false, false, false, false, false, false, false, false, false, false, false, false, false]) (v := ?v8) rfl rfl (by kernel_rfl) (fun _ _ _ h => h) (by rfl) ?hy8 (by assumption) ?rest8
  case hy8 => (intro wx hSw; (try dsimp only at hSw); (obtain ⟨t1, t2, t3, t4, t5, t6, t7, t8, t9, t10, t11⟩ := HQ.out _ hSw); go_simp; (try with_reducible rfl))
  simp only [Act.put, List.setIfInBounds_toArray, List.set_cons_zero, List.set_cons_succ]
  refine anyH_take (i := 7) (d := 31) (L' := #[true, true, true, true, true, true, true, true, false, false, false, false, false, false, false, false, false, false, false, false]) (v := ?v9) rfl rfl (by kernel_rfl) (fun _ _ _ h => h) (by rfl) ?hy9 (by assumption) ?rest9
  case hy9 => (intro wx hSw; (try dsimp only at hSw); (obtain ⟨t1, t2, t3, t4, t5, t6, t7, t8, t9, t10, t11⟩ := HQ.out _ hSw); go_simp; (try with_reducible rfl))
  simp only [Act.put, List.setIfInBounds_toArray, List.set_cons_zero, List.set_cons_succ]
  refine anyH_take (i := 8) (d := 32) (L' := #[true, true, true, true, true, true, true, true, true, false, false, false, false, false, false, false, false, false, false, false]) (v := ?v10) rfl rfl (by kernel_rfl) (fun _ _ _ h => h) (by rfl) ?hy10 (by assumption) ?rest10
  case hy10 => (intro wx hSw; (try dsimp only at hSw); (obtain ⟨t1, t2, t3, t4, t5, t6, t7, t8, t9, t10, t11⟩ := HQ.out _ hSw); go_simp; (try with_reducible rfl))
  simp only [Act.put, List.setIfInBounds_toArray, List.set_cons_zero, List.set_cons_succ]
  refine anyH_take (i := 9) (d := 33) (L' := #[true, true, true, true, true, true, true, true, true, true, false, false, false, false, false, false, false, false, false, false]) (v := ?v11) rfl rfl (by kernel_rfl) (fun _ _ _ h => h) (by rfl) ?hy11 (by assumption) ?rest11
  case hy11 => (intro wx hSw; (try dsimp only at hSw); (obtain ⟨t1, t2, t3, t4, t5, t6, t7, t8, t9, t10, t11⟩ := HQ.out _ hSw); go_simp; (try with_reducible rfl))
  simp only [Act.put, List.setIfInBounds_toArray, List.set_cons_zero, List.set_cons_succ]
  refine anyH_take (i := 10) (d := 34) (L' := #[true, true, true, true, true, true, true, true, true, true, true, false, false, false, false, false, false, false, false, false]) (v := ?v12) rfl rfl (by kernel_rfl) (fun _ _ _ h => h) (by rfl) ?hy12 (by assumption) ?rest12
  case hy12 => (intro wx hSw; (try dsimp only at hSw); (obtain ⟨t1, t2, t3, t4, t5, t6, t7, t8, t9, t10, t11⟩ := HQ.out _ hSw); go_simp; (try with_reducible rfl))
  simp only [Act.put, List.setIfInBounds_toArray, List.set_cons_zero, List.set_cons_succ]
  refine anyH_run (i := 11) (L' := #[true, true, true, true, true, true, true, true, true, true, true, true, false, false, false, false, false, false, false, false]) rfl (by kernel_rfl) (by rfl) (fun KK hKK => ?_)
  (have p2 := K3.out.cell 2; have f2 := K3.out.free 2; have p3 := K3.out.cell 3; have f3 := K3.out.free 3; have p4 := K3.out.cell 4; have f4 := K3.out.free 4; have p5 := K3.out.cell 5; have f5 := K3.out.free 5; have p6 := K3.out.cell 6; have f6 := K3.out.free 6; have p7 := K3.out.cell 7; have f7 := K3.out.free 7; have p11 := K3.out.cell 11; have f11 := K3.out.free 11; simp at p2 p3 p4 p5 p6 p7 p11; have s11 := ((Chg.refl [ub] w0).setCell ⟨ub, 2, none⟩ (.int .i64 a) (by simp)).drew; go_simp)
  refine hKK.out _ _ (by assumption) (fun hHeld => ?_)
  clear hKK KK
  try simp only [Act.put, List.setIfInBounds_toArray, List.set_cons_zero, List.set_cons_succ]
  refine anyH_take (i := 12) (d := 35) (L' := #[true, true, true, true, true, true, true, true, true, true, true, true, true, false, false, false, false, false, false, false]) (v := ?v14) rfl rfl (by kernel_rfl) (fun _ _ _ h => h) (by rfl) ?hy14 (by assumption) ?rest14
  case hy14 => (intro wx hSw; (try dsimp only at hSw); (obtain ⟨t1, t2, t3, t4, t5, t6, t7, t8, t9, t10, t11⟩ := HQ.out _ hSw); go_simp; (try with_reducible rfl))
  simp only [Act.put, List.setIfInBounds_toArray, List.set_cons_zero, List.set_cons_succ]
  refine anyH_run (i := 13) (L' := #[true, true, true, true, true, true, true, true, true, true, true, true, true, true, false, false, false, false, false, false]) rfl (by kernel_rfl) (by rfl) (fun KK hKK => ?_)
  (have p2 := K3.out.cell 2; have f2 := K3.out.free 2; have p3 := K3.out.cell 3; have f3 := K3.out.free 3; have p4 := K3.out.cell 4; have f4 := K3.out.free 4; have p5 := K3.out.cell 5; have f5 := K3.out.free 5; have p6 := K3.out.cell 6; have f6 := K3.out.free 6; have p7 := K3.out.cell 7; have f7 := K3.out.free 7; have p11 := K3.out.cell 11; have f11 := K3.out.free 11; simp at p2 p3 p4 p5 p6 p7 p11; have s13 := (((Chg.refl [ub] w0).setCell ⟨ub, 2, none⟩ (.int .i64 a) (by simp)).setCell ⟨ub, 3, none⟩ (.int .i64 b) (by simp)).drew; go_simp)
  refine hKK.out _ _ (by assumption) (fun hHeld => ?_)
  clear hKK KK
  try simp only [Act.put, List.setIfInBounds_toArray, List.set_cons_zero, List.set_cons_succ]
  refine anyH_take (i := 14) (d := 36) (L' := #[true, true, true, true, true, true, true, true, true, true, true, true, true, true, true, false, false, false, false, false]) (v := ?v16) rfl rfl (by kernel_rfl) (fun _ _ _ h => h) (by rfl) ?hy16 (by assumption) ?rest16
  case hy16 => (intro wx hSw; (try dsimp only at hSw); (obtain ⟨t1, t2, t3, t4, t5, t6, t7, t8, t9, t10, t11⟩ := HQ.out _ hSw); go_simp; (try with_reducible rfl))
  simp only [Act.put, List.setIfInBounds_toArray, List.set_cons_zero, List.set_cons_succ]
  refine anyH_run (i := 15) (L' := #[true, true, true, true, true, true, true, true, true, true, true, true, true, true, true, true, false, false, false, false]) rfl (by kernel_rfl) (by rfl) (fun KK hKK => ?_)
  (have p2 := K3.out.cell 2; have f2 := K3.out.free 2; have p3 := K3.out.cell 3; have f3 := K3.out.free 3; have p4 := K3.out.cell 4; have f4 := K3.out.free 4; have p5 := K3.out.cell 5; have f5 := K3.out.free 5; have p6 := K3.out.cell 6; have f6 := K3.out.free 6; have p7 := K3.out.cell 7; have f7 := K3.out.free 7; have p11 := K3.out.cell 11; have f11 := K3.out.free 11; simp at p2 p3 p4 p5 p6 p7 p11; have s15 := (((((Chg.refl [ub] w0).setCell ⟨ub, 2, none⟩ (.int .i64 a) (by simp)).setCell ⟨ub, 3, none⟩ (.int .i64 b) (by simp)).setCell ⟨ub, 4, none⟩ (.int .i64 px) (by simp)).setCell ⟨ub, 5, none⟩ (.int .i64 py) (by simp)).drew; go_simp)
  refine hKK.out _ _ (by assumption) (fun hHeld => ?_)
  clear hKK KK
  try simp only [Act.put, List.setIfInBounds_toArray, List.set_cons_zero, List.set_cons_succ]
  refine anyH_take (i := 16) (d := 37) (L' := #[true, true, true, true, true, true, true, true, true, true, true, true, true, true, true, true, true, false, false, false]) (v := ?v18) rfl rfl (by kernel_rfl) (fun _ _ _ h => h) (by rfl) ?hy18 (by assumption) ?rest18
  case hy18 => (intro wx hSw; (try dsimp only at hSw); (obtain ⟨t1, t2, t3, t4, t5, t6, t7, t8, t9, t10, t11⟩ := HQ.out _ hSw); go_simp; (try with_reducible rfl))
  simp only [Act.put, List.setIfInBounds_toArray, List.set_cons_zero, List.set_cons_succ]
  refine anyH_run (i := 17) (L' := #[true, true, true, true, true, true, true, true, true, true, true, true, true, true, true, true, true, true, false, false]) rfl (by kernel_rfl) (by rfl) (fun KK hKK => ?_)
  (have p2 := K3.out.cell 2; have f2 := K3.out.free 2; have p3 := K3.out.cell 3; have f3 := K3.out.free 3; have p4 := K3.out.cell 4; have f4 := K3.out.free 4; have p5 := K3.out.cell 5; have f5 := K3.out.free 5; have p6 := K3.out.cell 6; have f6 := K3.out.free 6; have p7 := K3.out.cell 7; have f7 := K3.out.free 7; have p11 := K3.out.cell 11; have f11 := K3.out.free 11; simp at p2 p3 p4 p5 p6 p7 p11; have s17 := (((((((Chg.refl [ub] w0).setCell ⟨ub, 2, none⟩ (.int .i64 a) (by simp)).setCell ⟨ub, 3, none⟩ (.int .i64 b) (by simp)).setCell ⟨ub, 4, none⟩ (.int .i64 px) (by simp)).setCell ⟨ub, 5, none⟩ (.int .i64 py) (by simp)).setCell ⟨ub, 6, none⟩ (.int .i64 vx) (by simp)).setCell ⟨ub, 7, none⟩ (.int .i64 vy) (by simp)).drew; go_simp)
  refine hKK.out _ _ (by assumption) (fun hHeld => ?_)
  clear hKK KK
  try simp only [Act.put, List.setIfInBounds_toArray, List.set_cons_zero, List.set_cons_succ]
  refine anyH_take (i := 18) (d := 38) (L' := #[true, true, true, true, true, true, true, true, true, true, true, true, true, true, true, true, true, true, true, false]) (v := ?v20) rfl rfl (by kernel_rfl) (fun _ _ _ h => h) (by rfl) ?hy20 (by assumption) ?rest20
  case hy20 => (intro wx hSw; (try dsimp only at hSw); (obtain ⟨t1, t2, t3, t4, t5, t6, t7, t8, t9, t10, t11⟩ := HQ.out _ hSw); go_simp; (try with_reducible rfl))
  simp only [Act.put, List.setIfInBounds_toArray, List.set_cons_zero, List.set_cons_succ]
  refine anyH_run (i := 19) (L' := #[true, true, true, true, true, true, true, true, true, true, true, true, true, true, true, true, true, true, true, true]) rfl (by kernel_rfl) (by rfl) (fun KK hKK => ?_)
  (have p2 := K3.out.cell 2; have f2 := K3.out.free 2; have p3 := K3.out.cell 3; have f3 := K3.out.free 3; have p4 := K3.out.cell 4; have f4 := K3.out.free 4; have p5 := K3.out.cell 5; have f5 := K3.out.free 5; have p6 := K3.out.cell 6; have f6 := K3.out.free 6; have p7 := K3.out.cell 7; have f7 := K3.out.free 7; have p11 := K3.out.cell 11; have f11 := K3.out.free 11; simp at p2 p3 p4 p5 p6 p7 p11; have s19 := ((((((((Chg.refl [ub] w0).setCell ⟨ub, 2, none⟩ (.int .i64 a) (by simp)).setCell ⟨ub, 3, none⟩ (.int .i64 b) (by simp)).setCell ⟨ub, 4, none⟩ (.int .i64 px) (by simp)).setCell ⟨ub, 5, none⟩ (.int .i64 py) (by simp)).setCell ⟨ub, 6, none⟩ (.int .i64 vx) (by simp)).setCell ⟨ub, 7, none⟩ (.int .i64 vy) (by simp)).setCell ⟨ub, 11, none⟩ (.int .i64 ln) (by simp)).drew; go_simp)
  refine hKK.out _ _ (by assumption) (fun hHeld => ?_)
  clear hKK KK
  try simp only [Act.put, List.setIfInBounds_toArray, List.set_cons_zero, List.set_cons_succ]
  refine wpAnyH_done (by kernel_rfl) ?_ _
  skip
  have K6 := (((((((K3.out.set 2 (.int .i64 a)).set 3 (.int .i64 b)).set 4 (.int .i64 px)).set 5 (.int .i64 py)).set 6 (.int .i64 vx)).set 7 (.int .i64 vy)).set 11 (.int .i64 ln)).k (Chg.refl [] _).drew
  have K7 := K2.out.chg s19 (by simpa using fun e => HNE.out.1 e.symm)
  have HS := hd s19
  clear s11 s13 s15 s17 s19 hHeld p2 f2 p3 f3 p4 f4 p5 f5 p6 f6 p7 f7 p11 f11
  generalize (((((((w0.setCell ⟨ub, 2, none⟩ (.int .i64 a)).setCell ⟨ub, 3, none⟩ (.int .i64 b)).setCell ⟨ub, 4, none⟩ (.int .i64 px)).setCell ⟨ub, 5, none⟩ (.int .i64 py)).setCell ⟨ub, 6, none⟩ (.int .i64 vx)).setCell ⟨ub, 7, none⟩ (.int .i64 vy)).setCell ⟨ub, 11, none⟩ (.int .i64 ln)).drew = w6 at *
  simp at K6
  clear K2 K3 HQ
  go_wp2_with (first | (refine wpList_load_row rfl _ _ rfl ub rfl 35 _ (0, 0) _ K6 Try.underlying35 rfl (by kernel_rfl) ?_) | (refine wpList_store_row rfl _ _ _ rfl rb #[.int .i64 3, .int .i64 0, .int .i64 a, .int .i64 b, .int .i64 px, .int .i64 py, .int .i64 vx, .int .i64 vy, .int .i64 0, .int .i64 0, .int .i64 0, .int .i64 ln, .int .i64 0, .int .i64 0, .slice none 0 0] rfl rfl 35 _ K7 (by kernel_rfl) (by simp) (by simp [Value.oneCell']) ?_))
  have K8 := K7.row (cs' := #[.int .i64 3, .int .i64 0, .int .i64 a, .int .i64 b, .int .i64 px, .int .i64 py, .int .i64 vx, .int .i64 vy, .int .i64 0, .int .i64 0, .int .i64 0, .int .i64 ln, .int .i64 0, .int .i64 0, .slice none 0 0])
  refine bodyPost_ret (results_cell_row rfl _ _ rb 35 _ (0, 0) _ rfl K8 Try.underlying35 rfl (by kernel_rfl)) rfl ⟨rfl, ?_⟩
  exact (HG.out.trans HS.out (fun x hx hl => by rw [List.mem_singleton.mp hx] at hl; exact absurd hl (Nat.not_lt.mpr HNE.out.2.2.1))).row rb _ (fun e => absurd e (Nat.not_lt.mpr HNE.out.2.2.2))
end Go.Proofs.Ytlicefbgcoddbaa
