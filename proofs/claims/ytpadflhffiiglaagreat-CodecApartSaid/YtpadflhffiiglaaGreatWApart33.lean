/- Words and walks that Apart rests on: SeedP. -/
import Derived.Test.YtpadflhffiiglaaGreatWApart32
/- law04.Seed.Shape: places of a ring. -/
namespace Go.Proofs.YtpadflhffiiglaaGreat
open Go.RowKit

theorem cornSd_lo (sz : Int) (m u i : Nat) (h : 268435456 ≤ sz ∧ sz ≤ 17179869184) : -1116691496960 ≤ (ringAt m u i).1 * sz ∧ (ringAt m u i).1 * sz ≤ 1116691496960 ∧ -1116691496960 ≤ (ringAt m u i).2 * sz ∧ (ringAt m u i).2 * sz ≤ 1116691496960 := by
  obtain ⟨h1, h2, h3, h4⟩ := ringAt_lo m u i
  have g1 := Int.mul_le_mul_of_nonneg_right h1 (show 0 ≤ sz by omega)
  have g2 := Int.mul_le_mul_of_nonneg_right h2 (show 0 ≤ sz by omega)
  have g3 := Int.mul_le_mul_of_nonneg_right h3 (show 0 ≤ sz by omega)
  have g4 := Int.mul_le_mul_of_nonneg_right h4 (show 0 ≤ sz by omega)
  omega
theorem tdiv64_lo (x : Int) (h : -1116691496960 ≤ x ∧ x ≤ 1116691496960) : -1116691496960 ≤ x.tdiv 64 ∧ x.tdiv 64 ≤ 1116691496960 := by
  rcases Int.le_total 0 x with h0 | h0
  · rw [Int.tdiv_eq_ediv_of_nonneg h0]; omega
  · have e : x.tdiv 64 = -((-x).tdiv 64) := by rw [Int.neg_tdiv]; omega
    rw [e, Int.tdiv_eq_ediv_of_nonneg (by omega)]; omega
set_option maxRecDepth 100000 in
set_option maxHeartbeats 4000000 in
theorem SeedShapeP (s : Sd) (w : World) (hk0 : s.kind % 4 ≠ 0) (hk1 : s.kind % 4 ≠ 1) : Calls Tryz.prog 94 #[vSd s] w fun e w' => ∃ pv, e = .returned (vS (shapeSd s) pv) ∧ VsS w' pv (shapeSd s).p ∧ Chg [] w w' ∧ ∀ k, pv.ownBlock = some k → w.heap.size ≤ k := by
  obtain ⟨k, n, z, u⟩ := s
  unfold vSd shapeSd vS
  simp only at hk0 hk1 ⊢
  rw [if_neg hk0, if_neg hk1]
  simp only
  have a63 : bits .and .i64 z 63 = z % 64 := and_mask z 6 (by decide)
  have a3 : bits .and .i64 k 3 = k % 4 := and_mask k 2 (by decide)
  have b63 : 0 ≤ z % 64 ∧ z % 64 < 64 := by omega
  have d1 := size_div (z % 64) b63.1
  have e1 : 268435456 ≤ sizeSd (z % 64) ∧ sizeSd (z % 64) ≤ 17179869184 := by unfold sizeSd; omega
  have an : bits .and .i64 n 255 = n % 256 := and_mask n 8 (by decide)
  have au : bits .and .i64 u 255 = u % 256 := and_mask u 8 (by decide)
  generalize sizeSd (z % 64) = sz at *
  generalize z % 64 = zs at *
  have g0 : (k % 4 == 0) = false := by rw [beq_eq_false_iff_ne]; exact hk0
  have g1 : (k % 4 == 1) = false := by rw [beq_eq_false_iff_ne]; exact hk1
  generalize k % 4 = kk at *
  clear hk0 hk1
  obtain ⟨nn, hnn⟩ : ∃ nn : Nat, n % 256 = nn := ⟨(n % 256).toNat, by omega⟩
  obtain ⟨uu, huu⟩ : ∃ uu : Nat, u % 256 = uu := ⟨(u % 256).toNat, by omega⟩
  have hub : uu < 256 := by omega
  rw [hnn] at an ⊢
  rw [huu] at au ⊢
  have h6 : ((nn : Int)).tmod 6 = ((nn % 6 : Nat) : Int) := by rw [Int.tmod_eq_emod_of_nonneg (by omega)]; omega
  simp only [Int.toNat_natCast]
  have hm6 : nn % 6 < 6 := Nat.mod_lt _ (by omega)
  generalize nn % 6 = n6 at *
  obtain ⟨m, hm⟩ : ∃ m, m = 3 + n6 := ⟨_, rfl⟩
  have hm2 : (3 : Int) + (n6 : Int) = (m : Int) := by omega
  have hm3 : 3 ≤ m ∧ m ≤ 8 := by omega
  rw [← hm]
  clear hm hnn huu
  have hX := (Blk.new w #[.int .i64 k, .int .i64 n, .int .i64 z, .int .i64 u] 24).alloc (.cells #[.int .i64 0, .int .i64 0, .slice none 0 0] 32)
  have hY := Blk.new (w.alloc (.cells #[.int .i64 k, .int .i64 n, .int .i64 z, .int .i64 u] 24)) #[.int .i64 0, .int .i64 0, .slice none 0 0] 32
  rw [World.size_alloc] at hY
  have hc := ((Chg.refl [] w).alloc (.cells #[.int .i64 k, .int .i64 n, .int .i64 z, .int .i64 u] 24)).alloc (.cells #[.int .i64 0, .int .i64 0, .slice none 0 0] 32)
  go_enter Tryz.func94, Tryz.ntmps94
  go_upto_region 9 with (fail)
  have hX3 := hX.alloc (.cells #[.int .i64 2, .int .i64 0, .slice none 0 0] 32)
  have hY3 := hY.alloc (.cells #[.int .i64 2, .int .i64 0, .slice none 0 0] 32)
  have hZ3 := Blk.new ((w.alloc (.cells #[.int .i64 k, .int .i64 n, .int .i64 z, .int .i64 u] 24)).alloc (.cells #[.int .i64 0, .int .i64 0, .slice none 0 0] 32)) #[.int .i64 2, .int .i64 0, .slice none 0 0] 32
  have hc3 := hc.alloc (.cells #[.int .i64 2, .int .i64 0, .slice none 0 0] 32)
  rw [World.size_alloc, World.size_alloc] at hZ3
  generalize ((w.alloc (.cells #[.int .i64 k, .int .i64 n, .int .i64 z, .int .i64 u] 24)).alloc (.cells #[.int .i64 0, .int .i64 0, .slice none 0 0] 32)).alloc (.cells #[.int .i64 2, .int .i64 0, .slice none 0 0] 32) = w0 at *
  clear hX hY hc
  obtain ⟨xb, hxb⟩ : ∃ xb, xb = w.heap.size := ⟨_, rfl⟩
  obtain ⟨rb, hrb⟩ : ∃ rb, rb = w.heap.size + 1 := ⟨_, rfl⟩
  obtain ⟨tb, htb⟩ : ∃ tb, tb = w.heap.size + 1 + 1 := ⟨_, rfl⟩
  rw [← htb] at hZ3 ⊢
  rw [← hrb] at hY3 ⊢
  rw [← hxb] at hX3 ⊢
  have HT : Hd (xb = w.heap.size ∧ rb = w.heap.size + 1 ∧ tb = w.heap.size + 1 + 1) := hd ⟨hxb, hrb, htb⟩
  clear hxb hrb htb
  go_wp2_with (go_at_call 138; refine (Ring_any _).mono ?_; rintro e w1 ⟨g, rfl, hr, hm, hg⟩; have HGE := hd hg; clear hg)
  have hlt0 := hZ3.lt
  have hP0 : Pol w (g + 1) tb xb rb g #[.int .i64 k, .int .i64 n, .int .i64 z, .int .i64 u] (.slice none 0 0) [] w1 := ⟨hZ3.k hm, World.ownsRow_nil _ _ _ _, hX3.k hm, hY3.k hm, hr, hc3.k' hm⟩
  have HLO : Hd (w.heap.size ≤ tb ∧ w.heap.size ≤ g + 1 ∧ g < g + 1 ∧ g ≠ tb ∧ xb ≠ tb ∧ rb ≠ tb) := hd (by have := HT.out; have := HGE.out; omega)
  have HG : Hd (g + 1 ≤ w1.heap.size) := hd (by have := Rd.lt hr (by decide) (by decide) g rfl; omega)
  clear hZ3 hX3 hY3 hc3 hm hr HGE hlt0
  have HE1 := hd e1
  go_loopw [7, 8, 40] (fun _ _ i wr => ∃ (j : Nat) (v : Value), j ≤ m ∧ i = .int .i64 j ∧ Pol w (g + 1) tb xb rb g #[.int .i64 k, .int .i64 n, .int .i64 z, .int .i64 u] v ((List.range j).map (cornSd sz m uu)) wr ∧ g + 1 ≤ wr.heap.size)
    (fun _ _ i _ => m - (intOf i).toNat)
  case atStart => exact ⟨0, _, by omega, rfl, hP0, HG.out⟩
  case round =>
    clear hP0 HG
    obtain ⟨j, v, hj, rfl, hP, hgs⟩ := hrel
    by_cases hlt : j < m
    · have hq9 : j * 10 / m < 10 := by rw [Nat.div_lt_iff_lt_mul (by omega)]; omega
      have f1 : ((j : Int) * 10).tdiv (m : Int) = ((j * 10 / m : Nat) : Int) := by rw [Int.tdiv_eq_ediv_of_nonneg (by omega)]; simp
      have hcor : cornSd sz m uu j = (((ringAt m uu j).1 * sz).tdiv 64, ((ringAt m uu j).2 * sz).tdiv 64) := rfl
      have hlo := cornSd_lo sz m uu j HE1.out
      have hra : ringAt m uu j = ringL.getD ((j * 10 / m + uu) % 10) (0, 0) := rfl
      rw [hra] at hlo hcor
      clear hra
      generalize j * 10 / m = q at *
      have f2 : ((q : Int) + (uu : Int)).tmod 10 = (((q + uu) % 10 : Nat) : Int) := by rw [Int.tmod_eq_emod_of_nonneg (by omega)]; omega
      have hix : (q + uu) % 10 < 10 := Nat.mod_lt _ (by omega)
      generalize (q + uu) % 10 = ix at *
      have c0 := ring_cell hP.r ix hix 0 (by decide)
      have c1 := ring_cell hP.r ix hix 1 (by decide)
      generalize ringL.getD ix (0, 0) = aa at *
      obtain ⟨ax, ay⟩ := aa
      simp only [cV, List.getElem_cons_zero, List.getElem_cons_succ, Nat.add_zero, Nat.zero_add] at c0 c1
      simp only at hlo hcor
      have wa : wrap64 (ax * sz) = ax * sz := IntWalk.wrap64_in _ (by omega)
      have wb : wrap64 (ay * sz) = ay * sz := IntWalk.wrap64_in _ (by omega)
      have va := tdiv64_lo (ax * sz) (by omega)
      have vb' := tdiv64_lo (ay * sz) (by omega)
      have wc : wrap64 ((ax * sz).tdiv 64) = (ax * sz).tdiv 64 := IntWalk.wrap64_in _ (by omega)
      have wd : wrap64 ((ay * sz).tdiv 64) = (ay * sz).tdiv 64 := IntWalk.wrap64_in _ (by omega)
      have hdone : ∀ W v', Pol w (g + 1) tb xb rb g #[.int .i64 k, .int .i64 n, .int .i64 z, .int .i64 u] v' ((List.range j).map (cornSd sz m uu) ++ [((ax * sz).tdiv 64, (ay * sz).tdiv 64)]) W → Pol w (g + 1) tb xb rb g #[.int .i64 k, .int .i64 n, .int .i64 z, .int .i64 u] v' ((List.range (j + 1)).map (cornSd sz m uu)) W := fun W v' h => by
        rw [List.range_succ, List.map_append, List.map_cons, List.map_nil, hcor]; exact h
      have i1 : IntKind.i64.wrap ((j : Int) * 10) = (j : Int) * 10 := by rw [IntKind.wrap_i64]; omega
      have i2 : IntKind.i64.wrap (q : Int) = (q : Int) := by rw [IntKind.wrap_i64]; omega
      have i3 : IntKind.i64.wrap ((q : Int) + (uu : Int)) = (q : Int) + (uu : Int) := by rw [IntKind.wrap_i64]; omega
      have i4 : IntKind.i64.wrap (ix : Int) = (ix : Int) := by rw [IntKind.wrap_i64]; omega
      have hm0 : ¬ m = 0 := by omega
      have hixi : (ix : Int) < 10 := by omega
      have HD := hd hdone
      clear hdone hcor hlo va vb'
      have hAm : ((List.range j).map (cornSd sz m uu)).length ≤ 8 := by simp; omega
      generalize (List.range j).map (cornSd sz m uu) = A at *
      obtain ⟨ao, c, rfl⟩ : ∃ ao c, v = .slice ao A.length c := by
        rcases hP.o.2 with ⟨rfl, hz⟩ | ⟨g, cap, cur, rfl, _⟩
        · exact ⟨none, 0, by rw [hz]⟩
        · exact ⟨_, cap, rfl⟩
      have HP := hd hP
      have q3 := hP.x.cell 3
      simp at q3
      have Q3 := hd q3
      have C0 := hd c0
      have C1 := hd c1
      clear hP c0 c1 q3 a63 an d1
      go_upto_region 13 with (fail)
      refine anyH_start (n := 14) (L := #[false, false, false, false, false, false, false, false, false, false, false, false, false, false]) (by kernel_rfl) (by kernel_rfl) (S := (fun wx => Chg [] wr wx)) ((Chg.refl _ _).drew) (fun hHeld => ?_)
      generalize wr.drew = wd at *
      refine anyH_take (i := 0) (d := 43) (L' := #[true, false, false, false, false, false, false, false, false, false, false, false, false, false]) (v := ?v2) rfl rfl (by kernel_rfl) (fun _ _ _ h => h) (by rfl) ?hy2 (by assumption) ?rest2
      case hy2 => (intro wx hSw; (try dsimp only at hSw); (have t0 := Chg.cellT hSw C0.out (by simp); have t1 := Chg.cellT hSw C1.out (by simp); have t2 := Chg.cellT hSw Q3.out (by simp); have t3 := au; have t4 := f1; have t5 := f2; have t6 := i1; have t7 := i2; have t8 := i3; have t9 := i4); go_simp; (try with_reducible rfl))
      simp only [Act.put, List.setIfInBounds_toArray, List.set_cons_zero, List.set_cons_succ]
      refine anyH_take (i := 1) (d := 44) (L' := #[true, true, false, false, false, false, false, false, false, false, false, false, false, false]) (v := ?v3) rfl rfl (by kernel_rfl) (fun _ _ _ h => h) (by rfl) ?hy3 (by assumption) ?rest3
      case hy3 => (intro wx hSw; (try dsimp only at hSw); (have t0 := Chg.cellT hSw C0.out (by simp); have t1 := Chg.cellT hSw C1.out (by simp); have t2 := Chg.cellT hSw Q3.out (by simp); have t3 := au; have t4 := f1; have t5 := f2; have t6 := i1; have t7 := i2; have t8 := i3; have t9 := i4); go_simp; (try with_reducible rfl))
      simp only [Act.put, List.setIfInBounds_toArray, List.set_cons_zero, List.set_cons_succ]
      refine anyH_take (i := 2) (d := 45) (L' := #[true, true, true, false, false, false, false, false, false, false, false, false, false, false]) (v := ?v4) rfl rfl (by kernel_rfl) (fun _ _ _ h => h) (by rfl) ?hy4 (by assumption) ?rest4
      case hy4 => (intro wx hSw; (try dsimp only at hSw); (have t0 := Chg.cellT hSw C0.out (by simp); have t1 := Chg.cellT hSw C1.out (by simp); have t2 := Chg.cellT hSw Q3.out (by simp); have t3 := au; have t4 := f1; have t5 := f2; have t6 := i1; have t7 := i2; have t8 := i3; have t9 := i4); go_simp; (try with_reducible rfl))
      simp only [Act.put, List.setIfInBounds_toArray, List.set_cons_zero, List.set_cons_succ]
      refine anyH_take (i := 3) (d := 46) (L' := #[true, true, true, true, false, false, false, false, false, false, false, false, false, false]) (v := ?v5) rfl rfl (by kernel_rfl) (fun _ _ _ h => h) (by rfl) ?hy5 (by assumption) ?rest5
      case hy5 => (intro wx hSw; (try dsimp only at hSw); (have t0 := Chg.cellT hSw C0.out (by simp); have t1 := Chg.cellT hSw C1.out (by simp); have t2 := Chg.cellT hSw Q3.out (by simp); have t3 := au; have t4 := f1; have t5 := f2; have t6 := i1; have t7 := i2; have t8 := i3; have t9 := i4); go_simp; (try with_reducible rfl))
      simp only [Act.put, List.setIfInBounds_toArray, List.set_cons_zero, List.set_cons_succ]
      refine anyH_take (i := 4) (d := 47) (L' := #[true, true, true, true, true, false, false, false, false, false, false, false, false, false]) (v := ?v6) rfl rfl (by kernel_rfl) (fun _ _ _ h => h) (by rfl) ?hy6 (by assumption) ?rest6
      case hy6 => (intro wx hSw; (try dsimp only at hSw); (have t0 := Chg.cellT hSw C0.out (by simp); have t1 := Chg.cellT hSw C1.out (by simp); have t2 := Chg.cellT hSw Q3.out (by simp); have t3 := au; have t4 := f1; have t5 := f2; have t6 := i1; have t7 := i2; have t8 := i3; have t9 := i4); go_simp; (try with_reducible rfl))
      simp only [Act.put, List.setIfInBounds_toArray, List.set_cons_zero, List.set_cons_succ]
      refine anyH_take (i := 5) (d := 48) (L' := #[true, true, true, true, true, true, false, false, false, false, false, false, false, false]) (v := ?v7) rfl rfl (by kernel_rfl) (fun _ _ _ h => h) (by rfl) ?hy7 (by assumption) ?rest7
      case hy7 => (intro wx hSw; (try dsimp only at hSw); (have t0 := Chg.cellT hSw C0.out (by simp); have t1 := Chg.cellT hSw C1.out (by simp); have t2 := Chg.cellT hSw Q3.out (by simp); have t3 := au; have t4 := f1; have t5 := f2; have t6 := i1; have t7 := i2; have t8 := i3; have t9 := i4); go_simp; (try with_reducible rfl))
      simp only [Act.put, List.setIfInBounds_toArray, List.set_cons_zero, List.set_cons_succ]
      refine anyH_take (i := 6) (d := 49) (L' := #[true, true, true, true, true, true, true, false, false, false, false, false, false, false]) (v := ?v8) rfl rfl (by kernel_rfl) (fun _ _ _ h => h) (by rfl) ?hy8 (by assumption) ?rest8
      case hy8 => (intro wx hSw; (try dsimp only at hSw); (have t0 := Chg.cellT hSw C0.out (by simp); have t1 := Chg.cellT hSw C1.out (by simp); have t2 := Chg.cellT hSw Q3.out (by simp); have t3 := au; have t4 := f1; have t5 := f2; have t6 := i1; have t7 := i2; have t8 := i3; have t9 := i4); go_simp; (try with_reducible rfl))
      simp only [Act.put, List.setIfInBounds_toArray, List.set_cons_zero, List.set_cons_succ]
      refine anyH_take (i := 7) (d := 50) (L' := #[true, true, true, true, true, true, true, true, false, false, false, false, false, false]) (v := ?v9) rfl rfl (by kernel_rfl) (fun _ _ _ h => h) (by rfl) ?hy9 (by assumption) ?rest9
      case hy9 => (intro wx hSw; (try dsimp only at hSw); (have t0 := Chg.cellT hSw C0.out (by simp); have t1 := Chg.cellT hSw C1.out (by simp); have t2 := Chg.cellT hSw Q3.out (by simp); have t3 := au; have t4 := f1; have t5 := f2; have t6 := i1; have t7 := i2; have t8 := i3; have t9 := i4); go_simp; (try with_reducible rfl))
      simp only [Act.put, List.setIfInBounds_toArray, List.set_cons_zero, List.set_cons_succ]
      refine anyH_take (i := 8) (d := 51) (L' := #[true, true, true, true, true, true, true, true, true, false, false, false, false, false]) (v := ?v10) rfl rfl (by kernel_rfl) (fun _ _ _ h => h) (by rfl) ?hy10 (by assumption) ?rest10
      case hy10 => (intro wx hSw; (try dsimp only at hSw); (have t0 := Chg.cellT hSw C0.out (by simp); have t1 := Chg.cellT hSw C1.out (by simp); have t2 := Chg.cellT hSw Q3.out (by simp); have t3 := au; have t4 := f1; have t5 := f2; have t6 := i1; have t7 := i2; have t8 := i3; have t9 := i4); go_simp; (try with_reducible rfl))
      simp only [Act.put, List.setIfInBounds_toArray, List.set_cons_zero, List.set_cons_succ]
      refine anyH_take (i := 9) (d := 52) (L' := #[true, true, true, true, true, true, true, true, true, true, false, false, false, false]) (v := ?v11) rfl rfl (by kernel_rfl) (fun _ _ _ h => h) (by rfl) ?hy11 (by assumption) ?rest11
      case hy11 => (intro wx hSw; (try dsimp only at hSw); (have t0 := Chg.cellT hSw C0.out (by simp); have t1 := Chg.cellT hSw C1.out (by simp); have t2 := Chg.cellT hSw Q3.out (by simp); have t3 := au; have t4 := f1; have t5 := f2; have t6 := i1; have t7 := i2; have t8 := i3; have t9 := i4); go_simp; (try with_reducible rfl))
      simp only [Act.put, List.setIfInBounds_toArray, List.set_cons_zero, List.set_cons_succ]
      refine anyH_take (i := 10) (d := 53) (L' := #[true, true, true, true, true, true, true, true, true, true, true, false, false, false]) (v := ?v12) rfl rfl (by kernel_rfl) (fun _ _ _ h => h) (by rfl) ?hy12 (by assumption) ?rest12
      case hy12 => (intro wx hSw; (try dsimp only at hSw); (have t0 := Chg.cellT hSw C0.out (by simp); have t1 := Chg.cellT hSw C1.out (by simp); have t2 := Chg.cellT hSw Q3.out (by simp); have t3 := au; have t4 := f1; have t5 := f2; have t6 := i1; have t7 := i2; have t8 := i3; have t9 := i4); go_simp; (try with_reducible rfl))
      simp only [Act.put, List.setIfInBounds_toArray, List.set_cons_zero, List.set_cons_succ]
      refine anyH_take (i := 11) (d := 54) (L' := #[true, true, true, true, true, true, true, true, true, true, true, true, false, false]) (v := ?v13) rfl rfl (by kernel_rfl) (fun _ _ _ h => h) (by rfl) ?hy13 (by assumption) ?rest13
      case hy13 => (intro wx hSw; (try dsimp only at hSw); (have t0 := Chg.cellT hSw C0.out (by simp); have t1 := Chg.cellT hSw C1.out (by simp); have t2 := Chg.cellT hSw Q3.out (by simp); have t3 := au; have t4 := f1; have t5 := f2; have t6 := i1; have t7 := i2; have t8 := i3; have t9 := i4); go_simp; (try with_reducible rfl))
      simp only [Act.put, List.setIfInBounds_toArray, List.set_cons_zero, List.set_cons_succ]
      refine anyH_run (i := 12) (L' := #[true, true, true, true, true, true, true, true, true, true, true, true, true, false]) rfl (by kernel_rfl) (by rfl) (fun KK hKK => ?_)
      (have h00 := hHeld; have hm12 := Chg.alloc hHeld (.cells #[.int .i64 0, .int .i64 0] 27); go_simp)
      refine hKK.out _ _ (by assumption) (fun hHeld => ?_)
      clear hKK KK
      try simp only [Act.put, List.setIfInBounds_toArray, List.set_cons_zero, List.set_cons_succ]
      refine anyH_run (i := 13) (L' := #[true, true, true, true, true, true, true, true, true, true, true, true, true, true]) rfl (by kernel_rfl) (by rfl) (fun KK hKK => ?_)
      go_simp
      (have hS13 := Chg.alloc h00 (.cells #[.int .i64 ax, .int .i64 ay] 27))
      refine hKK.out _ _ (by assumption) (fun hHeld => ?_)
      clear hKK KK
      try simp only [Act.put, List.setIfInBounds_toArray, List.set_cons_zero, List.set_cons_succ]
      refine wpAnyH_done (by kernel_rfl) ?_ _
      skip
      have hk8 := Blk.new wd #[.int .i64 ax, .int .i64 ay] 27
      have hB := HP.out.k hHeld
      clear hHeld hS13 h00 hm12
      generalize wd.alloc (.cells #[.int .i64 ax, .int .i64 ay] 27) = w8 at *
      generalize wd.heap.size = kb at *
      have r0 := hk8.cell 0
      have r1 := hk8.cell 1
      have t2 := hB.t.cell 2
      have f2' := hB.t.free 2
      simp at r0 r1 t2
      have HB := hd hB
      have HK8 := hd hk8
      clear hB hk8
      have hB2 := HB.out.k ((Chg.refl [] w8).alloc (.cells #[.int .i64 ((ax * sz).tdiv 64), .int .i64 ((ay * sz).tdiv 64)] 27))
      have hLit := Rd.lit w8 2 1 [.int .i64 ((ax * sz).tdiv 64), .int .i64 ((ay * sz).tdiv 64)] #[.int .i64 ((ax * sz).tdiv 64), .int .i64 ((ay * sz).tdiv 64)] 27 rfl rfl (by decide)
      have HB2 := hd hB2
      have hgs8 : g + 1 ≤ w8.heap.size := by have := (Rd.lt HB.out.r (by decide) (by decide) g rfl); omega
      clear hB2
      go_wp2_with (at_builtin; refine wpApp rowV rfl _ _ rfl (g + 1) (.slice ao A.length c) A.length (A.flatMap cV) rfl HB2.out.o _ 1 [.int .i64 ((ax * sz).tdiv 64), .int .i64 ((ay * sz).tdiv 64)] rfl hLit (by simp [Value.oneCell']) (by omega) (by omega) (by simp; omega) ?_; intro ao6 c6 w6 hr6 hg6 hm6 hno6; have t6 := (HB2.out.t.grown hg6 (ownsRow_apart HB2.out.o HB2.out.t (by decide))).cell 2; have f6 := (HB2.out.t.grown hg6 (ownsRow_apart HB2.out.o HB2.out.t (by decide))).free 2; simp at t6)
      go_roundw
      case rel => exact ⟨j + 1, _, by omega, by go_num, HD.out _ _ (HB2.out.app hg6 hr6 HLO.out), by have := hg6.size; simp at this ⊢; omega⟩
      case measure => simp [intOf]; omega
    · have hjm : j = m := by omega
      subst hjm
      obtain ⟨A, hA⟩ : ∃ A, A = (List.range j).map (cornSd sz j uu) := ⟨_, rfl⟩
      rw [← hA] at hP
      have HA := hd hA
      clear hA
      obtain ⟨ao, c, rfl⟩ : ∃ ao c, v = .slice ao A.length c := by
        rcases hP.o.2 with ⟨rfl, hz⟩ | ⟨g, cap, cur, rfl, _⟩
        · exact ⟨none, 0, by rw [hz]⟩
        · exact ⟨_, cap, rfl⟩
      have k4 := hP.t
      have kB4 := hP.q
      have HP := hd hP
      clear hP
      go_wp2_with (first | (refine wpList_load_row rfl _ _ rfl tb rfl 32 _ (0, 0) _ k4 Tryz.underlying32 rfl (by kernel_rfl) ?_) | (refine wpList_store_row rfl _ _ _ rfl rb #[.int .i64 2, .int .i64 0, .slice ao A.length c] rfl rfl 32 _ kB4 (by kernel_rfl) (by simp) (by simp [Value.oneCell']) ?_))
      have k5 : Blk (wr.setRow rb #[.int .i64 2, .int .i64 0, .slice ao A.length c]) rb #[.int .i64 2, .int .i64 0, .slice ao A.length c] 32 := kB4.row
      have hs5 := Chg.row (Chg.refl [rb] wr) rb #[.int .i64 2, .int .i64 0, .slice ao A.length c] (by simp)
      refine bodyPost_ret (results_cell_row rfl _ _ rb 32 _ (0, 0) _ rfl k5 Tryz.underlying32 rfl (by kernel_rfl)) rfl ⟨_, rfl, ?_, ?_, fun k' hk' => by have := (World.ownsRow.lt HP.out.o k' hk').1; have := HLO.out; omega⟩
      · rw [← HA.out]
        exact Rd.ofOwn (ownsRow_chg HP.out.o hs5 (fun k hk hx => by rw [List.mem_singleton.mp hx] at hk; exact ownsRow_apart HP.out.o kB4 (by decide) hk))
      · exact HP.out.c.trans hs5 (fun x hx hl => by have := HT.out; simp at hx; omega)
theorem SeedShape_any (s : Sd) (w : World) : Calls Tryz.prog 94 #[vSd s] w fun e w' => ∃ pv, e = .returned (vS (shapeSd s) pv) ∧ VsS w' pv (shapeSd s).p ∧ Chg [] w w' ∧ ∀ k, pv.ownBlock = some k → w.heap.size ≤ k := by
  by_cases h0 : s.kind % 4 = 0
  · exact SeedShape0 s w (.inl h0)
  by_cases h1 : s.kind % 4 = 1
  · exact SeedShape0 s w (.inr h1)
  exact SeedShapeP s w h0 h1
end Go.Proofs.YtpadflhffiiglaaGreat
