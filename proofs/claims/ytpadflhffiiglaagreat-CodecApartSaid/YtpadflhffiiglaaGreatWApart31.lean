/- Words and walks that Apart rests on: Deed. -/
import Derived.Test.YtpadflhffiiglaaGreatWApart30
/- What the laws make of a deed: places, shapes. -/
namespace Go.Proofs.YtpadflhffiiglaaGreat
open Go.RowKit

def bringF (x lo hi : Int) : Int := min (max (whF x) lo) hi
def bringV (v : V2) (m : Int) : V2 := (bringF v.1 (-m) m, bringF v.2 (-m) m)
theorem Bring_any (x lo hi : Int) (w : World) : Calls Tryz.prog 66 #[.int .i64 x, .int .i64 lo, .int .i64 hi] w fun e w' => e = .returned (.int .i64 (bringF x lo hi)) ∧ w' = w := by
  unfold bringF
  go_enter Tryz.func66, Tryz.ntmps66
  go_wp2_with (go_at_call 95; refine (Whole_any _ _).mono ?_; rintro e w1 ⟨rfl, rfl⟩)
  all_goals go_ret
  all_goals exact ⟨congrArg (fun z => Ending.returned (Value.int .i64 z)) (by omega), rfl⟩
set_option maxRecDepth 100000 in
set_option maxHeartbeats 2000000 in
theorem Box_any (a b : Int) (ha : I64 a) (hb : I64 b) (w : World) : Calls Tryz.prog 137 #[.int .i64 a, .int .i64 b] w fun e w' => ∃ pv, e = .returned (vS ⟨2, 0, [(negF a, negF b), (a, negF b), (a, b), (negF a, b)]⟩ pv) ∧ VsS w' pv [(negF a, negF b), (a, negF b), (a, b), (negF a, b)] ∧ Chg [] w w' ∧ ∀ k, pv.ownBlock = some k → w.heap.size ≤ k := by
  have h1 := fun W => FNeg_any a ha W
  have h2 := fun W => FNeg_any b hb W
  generalize negF a = na at *
  generalize negF b = nb at *
  unfold vS
  simp only
  go_enter Tryz.func137, Tryz.ntmps137
  go_wp2_with (go_at_call 128; first | (refine (h1 _).mono ?_; rintro e w1 ⟨rfl, rfl⟩) | (refine (h2 _).mono ?_; rintro e w1 ⟨rfl, rfl⟩))
  refine bodyPost_ret (v := .agg #[.int .i64 2, .int .i64 0, .slice (some ⟨w.heap.size + 1, 0, none⟩) 4 4]) (by simp only [results]; go_simp) rfl ⟨_, rfl, ?_, ((Chg.refl [] w).alloc _).alloc _, fun k hk => by simp [Value.ownBlock] at hk; omega⟩
  have := Rd.lit (w.alloc (.cells #[.int .i64 2, .int .i64 0, .slice (some ⟨w.heap.size + 1, 0, none⟩) 4 4] 32)) 2 4 [.int .i64 na, .int .i64 nb, .int .i64 a, .int .i64 nb, .int .i64 a, .int .i64 b, .int .i64 na, .int .i64 b] _ 27 rfl rfl (by decide)
  rw [World.size_alloc] at this
  exact this
set_option maxRecDepth 100000 in
set_option maxHeartbeats 400000 in
theorem VBring_any (v : V2) (m : Int) (hm : S64 m) (w : World) : Calls Tryz.prog 54 #[vV v, .int .i64 m] w fun e w' => e = .returned (vV (bringV v m)) ∧ Chg [] w w' := by
  obtain ⟨x, y⟩ := v
  have h1 := fun W => Bring_any x (-m) m W
  have h2 := fun W => Bring_any y (-m) m W
  unfold bringV vV
  simp only
  generalize bringF x (-m) m = bx at *
  generalize bringF y (-m) m = bz at *
  have hmm : wrap64 (-m) = -m := IntWalk.wrap64_in _ (by unfold S64 at hm; omega)
  have hmw : IntKind.i64.wrap (-m) = -m := by have := hmm; unfold wrap64 at this; simp [IntKind.wrap, IntKind.signed, IntKind.bits] at this ⊢; omega
  have hk2 := (Blk.new w #[.int .i64 x, .int .i64 y] 27).alloc (.cells #[.int .i64 0, .int .i64 0] 27)
  have hk4 := Blk.new (w.alloc (.cells #[.int .i64 x, .int .i64 y] 27)) #[.int .i64 0, .int .i64 0] 27
  rw [World.size_alloc] at hk4
  have hc := ((Chg.refl [] w).alloc (.cells #[.int .i64 x, .int .i64 y] 27)).alloc (.cells #[.int .i64 0, .int .i64 0] 27)
  go_enter Tryz.func54, Tryz.ntmps54
  go_upto_region 1 with (fail)
  generalize (w.alloc (.cells #[.int .i64 x, .int .i64 y] 27)).alloc (.cells #[.int .i64 0, .int .i64 0] 27) = w0 at *
  generalize hkb : w.heap.size + 1 = kb at *
  have Q0 := hd (show w0.cell? ⟨w.heap.size, 0, none⟩ = some (.int .i64 x) from hk2.cell 0)
  have Q1 := hd (show w0.cell? ⟨w.heap.size, 1, none⟩ = some (.int .i64 y) from hk2.cell 1)
  have HKB := hd hkb
  clear hkb hk2
  generalize hxb : w.heap.size = xb at *
  have HXB := hd hxb
  clear hxb
  have hT := hk4.k (Chg.refl [] w0).drew
  have HC := hd hc
  clear hk4 hc
  have NX : Hd (xb ∉ [kb]) := hd (by have := HKB.out; simp; omega)
  refine anyH_start (n := 14) (L := #[false, false, false, false, false, false, false, false, false, false, false, false, false, false]) (by kernel_rfl) (by kernel_rfl) (S := (fun wx => Chg [kb] w0 wx)) ((Chg.refl _ _).drew) (fun hHeld => ?_)
  refine anyH_take (i := 0) (d := 5) (L' := #[true, false, false, false, false, false, false, false, false, false, false, false, false, false]) (v := ?v2) rfl rfl (by kernel_rfl) (fun _ _ _ h => h) (by rfl) ?hy2 (by assumption) ?rest2
  case hy2 => (intro wx hSw; (try dsimp only at hSw); (have t0 := Chg.cellT hSw Q0.out NX.out; have t1 := Chg.cellT hSw Q1.out NX.out; have t2 := hmm; have t3 := hmw); go_simp; (try with_reducible rfl))
  simp only [Act.put, List.setIfInBounds_toArray, List.set_cons_zero, List.set_cons_succ]
  refine anyH_take (i := 1) (d := 6) (L' := #[true, true, false, false, false, false, false, false, false, false, false, false, false, false]) (v := ?v3) rfl rfl (by kernel_rfl) (fun _ _ _ h => h) (by rfl) ?hy3 (by assumption) ?rest3
  case hy3 => (intro wx hSw; (try dsimp only at hSw); (have t0 := Chg.cellT hSw Q0.out NX.out; have t1 := Chg.cellT hSw Q1.out NX.out; have t2 := hmm; have t3 := hmw); go_simp; (try with_reducible rfl))
  simp only [Act.put, List.setIfInBounds_toArray, List.set_cons_zero, List.set_cons_succ]
  refine anyH_take (i := 2) (d := 7) (L' := #[true, true, true, false, false, false, false, false, false, false, false, false, false, false]) (v := ?v4) rfl rfl (by kernel_rfl) (fun _ _ _ h => h) (by rfl) ?hy4 (by assumption) ?rest4
  case hy4 => (intro wx hSw; (try dsimp only at hSw); (have t0 := Chg.cellT hSw Q0.out NX.out; have t1 := Chg.cellT hSw Q1.out NX.out; have t2 := hmm; have t3 := hmw); go_simp; (try with_reducible rfl))
  simp only [Act.put, List.setIfInBounds_toArray, List.set_cons_zero, List.set_cons_succ]
  refine anyH_take (i := 3) (d := 8) (L' := #[true, true, true, true, false, false, false, false, false, false, false, false, false, false]) (v := ?v5) rfl rfl (by kernel_rfl) (fun _ _ _ h => h) (by rfl) ?hy5 (by assumption) ?rest5
  case hy5 => (intro wx hSw; (try dsimp only at hSw); (have t0 := Chg.cellT hSw Q0.out NX.out; have t1 := Chg.cellT hSw Q1.out NX.out; have t2 := hmm; have t3 := hmw); go_simp; (try with_reducible rfl))
  simp only [Act.put, List.setIfInBounds_toArray, List.set_cons_zero, List.set_cons_succ]
  refine anyH_take (i := 4) (d := 9) (L' := #[true, true, true, true, true, false, false, false, false, false, false, false, false, false]) (v := ?v6) rfl rfl (by kernel_rfl) (fun _ _ _ h => h) (by rfl) ?hy6 (by assumption) ?rest6
  case hy6 => (intro wx hSw; (try dsimp only at hSw); (have t0 := Chg.cellT hSw Q0.out NX.out; have t1 := Chg.cellT hSw Q1.out NX.out; have t2 := hmm; have t3 := hmw); go_simp; (try with_reducible rfl))
  simp only [Act.put, List.setIfInBounds_toArray, List.set_cons_zero, List.set_cons_succ]
  refine anyH_take (i := 6) (d := 11) (L' := #[true, true, true, true, true, false, true, false, false, false, false, false, false, false]) (v := ?v7) rfl rfl (by kernel_rfl) (fun _ _ _ h => h) (by rfl) ?hy7 (by assumption) ?rest7
  case hy7 => (intro wx hSw; (try dsimp only at hSw); (have t0 := Chg.cellT hSw Q0.out NX.out; have t1 := Chg.cellT hSw Q1.out NX.out; have t2 := hmm; have t3 := hmw); go_simp; (try with_reducible rfl))
  simp only [Act.put, List.setIfInBounds_toArray, List.set_cons_zero, List.set_cons_succ]
  refine anyH_take (i := 7) (d := 12) (L' := #[true, true, true, true, true, false, true, true, false, false, false, false, false, false]) (v := ?v8) rfl rfl (by kernel_rfl) (fun _ _ _ h => h) (by rfl) ?hy8 (by assumption) ?rest8
  case hy8 => (intro wx hSw; (try dsimp only at hSw); (have t0 := Chg.cellT hSw Q0.out NX.out; have t1 := Chg.cellT hSw Q1.out NX.out; have t2 := hmm; have t3 := hmw); go_simp; (try with_reducible rfl))
  simp only [Act.put, List.setIfInBounds_toArray, List.set_cons_zero, List.set_cons_succ]
  refine anyH_take (i := 8) (d := 13) (L' := #[true, true, true, true, true, false, true, true, true, false, false, false, false, false]) (v := ?v9) rfl rfl (by kernel_rfl) (fun _ _ _ h => h) (by rfl) ?hy9 (by assumption) ?rest9
  case hy9 => (intro wx hSw; (try dsimp only at hSw); (have t0 := Chg.cellT hSw Q0.out NX.out; have t1 := Chg.cellT hSw Q1.out NX.out; have t2 := hmm; have t3 := hmw); go_simp; (try with_reducible rfl))
  simp only [Act.put, List.setIfInBounds_toArray, List.set_cons_zero, List.set_cons_succ]
  refine anyH_take (i := 9) (d := 14) (L' := #[true, true, true, true, true, false, true, true, true, true, false, false, false, false]) (v := ?v10) rfl rfl (by kernel_rfl) (fun _ _ _ h => h) (by rfl) ?hy10 (by assumption) ?rest10
  case hy10 => (intro wx hSw; (try dsimp only at hSw); (have t0 := Chg.cellT hSw Q0.out NX.out; have t1 := Chg.cellT hSw Q1.out NX.out; have t2 := hmm; have t3 := hmw); go_simp; (try with_reducible rfl))
  simp only [Act.put, List.setIfInBounds_toArray, List.set_cons_zero, List.set_cons_succ]
  refine anyH_take (i := 10) (d := 15) (L' := #[true, true, true, true, true, false, true, true, true, true, true, false, false, false]) (v := ?v11) rfl rfl (by kernel_rfl) (fun _ _ _ h => h) (by rfl) ?hy11 (by assumption) ?rest11
  case hy11 => (intro wx hSw; (try dsimp only at hSw); (have t0 := Chg.cellT hSw Q0.out NX.out; have t1 := Chg.cellT hSw Q1.out NX.out; have t2 := hmm; have t3 := hmw); go_simp; (try with_reducible rfl))
  simp only [Act.put, List.setIfInBounds_toArray, List.set_cons_zero, List.set_cons_succ]
  refine anyH_run (i := 5) (L' := #[true, true, true, true, true, true, true, true, true, true, true, false, false, false]) rfl (by kernel_rfl) (by rfl) (fun KK hKK => ?_)
  go_simp
  (refine (h1 _).mono ?_; rintro e w5 ⟨rfl, rfl⟩; have hS := hHeld; (try go_simp))
  refine hKK.out _ _ (by assumption) (fun hHeld => ?_)
  clear hKK KK
  try simp only [Act.put, List.setIfInBounds_toArray, List.set_cons_zero, List.set_cons_succ]
  refine anyH_run (i := 11) (L' := #[true, true, true, true, true, true, true, true, true, true, true, true, false, false]) rfl (by kernel_rfl) (by rfl) (fun KK hKK => ?_)
  go_simp
  (refine (h2 _).mono ?_; rintro e w6 ⟨rfl, rfl⟩; have hS := hHeld; (try go_simp))
  refine hKK.out _ _ (by assumption) (fun hHeld => ?_)
  clear hKK KK
  try simp only [Act.put, List.setIfInBounds_toArray, List.set_cons_zero, List.set_cons_succ]
  refine anyH_run (i := 12) (L' := #[true, true, true, true, true, true, true, true, true, true, true, true, true, false]) rfl (by kernel_rfl) (by rfl) (fun KK hKK => ?_)
  go_simp
  (skip)
  refine hKK.out _ _ (by assumption) (fun hHeld => ?_)
  clear hKK KK
  try simp only [Act.put, List.setIfInBounds_toArray, List.set_cons_zero, List.set_cons_succ]
  refine anyH_run (i := 13) (L' := #[true, true, true, true, true, true, true, true, true, true, true, true, true, true]) rfl (by kernel_rfl) (by rfl) (fun KK hKK => ?_)
  (refine wp_store_row 27 _ _ rfl _ #[.int .i64 bx, .int .i64 bz] rfl rfl 27 _ hT (by kernel_rfl) rfl (by simp [Value.oneCell']) ?_; have hS9 := hT.row (cs' := #[.int .i64 bx, .int .i64 bz]); have hS := Chg.row hHeld kb #[.int .i64 bx, .int .i64 bz] (by simp); go_simp)
  refine hKK.out _ _ (by assumption) (fun hHeld => ?_)
  clear hKK KK
  try simp only [Act.put, List.setIfInBounds_toArray, List.set_cons_zero, List.set_cons_succ]
  refine wpAnyH_done (by kernel_rfl) ?_ _
  skip
  go_wp2_with (fail)
  refine bodyPost_ret (results_cell_row rfl _ _ kb 27 _ (0, 0) _ rfl hS9 Tryz.underlying27 rfl (by kernel_rfl)) rfl ⟨rfl, ?_⟩
  exact HC.out.trans hHeld (fun x hx hl => by have := HKB.out; have := HXB.out; simp at hx; omega)
def ringL : List V2 := [(65, 0), (52, 39), (25, 60), (-25, 60), (-52, 39), (-65, 0), (-52, -39), (-25, -60), (25, -60), (52, -39)]
theorem Ring_any (w : World) : Calls Tryz.prog 138 #[] w fun e w' => ∃ g, e = .returned (.slice (some ⟨g, 0, none⟩) 10 10) ∧ VsS w' (.slice (some ⟨g, 0, none⟩) 10 10) ringL ∧ Chg [] w w' ∧ g = w.heap.size := by
  go_enter Tryz.func138, Tryz.ntmps138
  go_wp2
  go_ret
  exact ⟨_, rfl, Rd.lit w 2 10 (ringL.flatMap cV) _ 27 rfl rfl (by decide), (Chg.refl [] w).alloc _, rfl⟩
end Go.Proofs.YtpadflhffiiglaaGreat
