/- Words and walks that SweepPairs rests on, part 4. -/
import Derived.Test.YtnlkeacchogmeaaWSweepPairs3
import Derived.Test.YtnlkeacchogmeaaWSweepPairs2
import Derived.Deep.Strs
/- SweepPairs: the walk. -/
namespace Go.Proofs.Ytnlkeacchogmeaa
open Go.RowKit Go.Sort Go.Shelf

theorem tame_nodup (l : List Itm) (hl : l.length ≤ 200) : ((tameL l).map (·.id)).Nodup := by
  rw [List.Nodup, List.pairwise_map, List.pairwise_iff_getElem]
  intro i j hi hj hij
  rw [tameL_len] at hi hj
  simp only [tameL, List.getElem_mapIdx, tameI]
  omega
theorem tame_ids (l : List Itm) (hl : l.length ≤ 200) : ∀ x ∈ tameL l, 0 ≤ x.id ∧ x.id < 4294967296 := by
  intro x hx
  obtain ⟨i, hi, rfl⟩ := List.getElem_of_mem hx
  rw [tameL_len] at hi
  simp only [tameL, List.getElem_mapIdx, tameI]
  omega
theorem pairs_in {m : List Itm} {p : Int × Int} (h : p ∈ pairsS m) (hid : ∀ x ∈ m, 0 ≤ x.id ∧ x.id < 4294967296) : p ∈ accP m m.length ∧ OkP p := by
  have h1 : p ∈ allP m := (List.mergeSort_perm _ _).mem_iff.1 h
  have h2 : p ∈ accP m m.length := (accP_all m m.length (Nat.le_refl _)).mem_iff.2 (by rw [List.take_length]; exact h1)
  obtain ⟨⟨a, ha, e1⟩, b, hb, e2⟩ := allP_ids h1
  refine ⟨h2, ?_⟩
  unfold OkP
  rw [e1, e2]
  exact ⟨hid a ha, hid b hb⟩
theorem pairs_count (m : List Itm) : (accP m m.length).length = (pairsS m).length := by
  have h2 := (accP_all m m.length (Nat.le_refl _)).length_eq
  rw [List.take_length] at h2
  have h3 : (pairsS m).length = (allP m).length := (List.mergeSort_perm _ _).length_eq
  omega
set_option maxRecDepth 100000 in
set_option maxHeartbeats 8000000 in
theorem SweepPairs_law (v : Value) (l : List Itm) (w : World) (hv : ItS w v l) :
    Calls Try.prog 4 #[v] w fun e w' => e = .returned (.bool true) ∧ Chg [] w w' := by
  have HV := hd hv
  have hl40 : (l.take 40).length ≤ 200 := by rw [List.length_take]; omega
  have htl : (tameL (l.take 40)).length ≤ 40 := by rw [tameL_len, List.length_take]; omega
  have HN := hd (tame_nodup _ hl40)
  have HID := hd (tame_ids _ hl40)
  obtain ⟨ao0, c0, hv0⟩ : ∃ ao c, v = .slice ao l.length c := by
    obtain ⟨_, ao, cap, b, off, rfl, _⟩ := hv
    exact ⟨ao, cap, rfl⟩
  subst hv0
  clear hv
  have htame := fun (W : World) (hc : Chg [] w W) => Tame_any W _ l 40 (HV.out.k hc) (by decide)
  unfold TameOut at htame
  generalize tameL (l.take 40) = m at *
  go_enter Try.func4, Try.ntmps4
  go_upto_region 4 with (first
    | (go_at_call 7; refine (fit08_any _).mono ?_; rintro e w1 ⟨rfl, hc1⟩)
    | (go_at_call 9; refine (htame _ hc1).mono ?_; rintro e w2 ⟨ao, c, rfl, hr, hc2⟩))
  have HC2 := hd (hc1.k hc2)
  have hall := fun W (hc : Chg [] w2 W) => All08_any W _ m (hr.k hc).s (by omega) HN.out HID.out
  have hpairs := fun W (hc : Chg [] w2 W) => Pairs_any W _ m (hr.k hc).s (by omega)
  unfold PairsOut at hpairs
  have hin := fun p (hp : p ∈ pairsS m) => pairs_in hp HID.out
  have hlt : ∀ (i : Nat) (p q : Int × Int), (pairsS m)[i]? = some p → (pairsS m)[i + 1]? = some q → p.1 < q.1 ∨ (p.1 = q.1 ∧ p.2 < q.2) := fun i p q hp hq => by
    obtain ⟨h2, rfl⟩ := List.getElem?_eq_some_iff.1 hq
    obtain ⟨h1, rfl⟩ := List.getElem?_eq_some_iff.1 hp
    exact pairsS_lt HN.out h2
  have hcount := pairs_count m
  have hPl := pairsS_len m
  have hPl2 : m.length * m.length ≤ 40 * 40 := Nat.mul_le_mul htl htl
  have HIN := hd hin
  have HLT := hd hlt
  have HCOUNT := hd hcount
  clear htame hc1 hc2 hin hlt hcount
  generalize pairsS m = P at *
  generalize accP m m.length = T at *
  go_upto_region 6 with (first
    | (go_at_call 10; (with_reducible refine (hall _ (Chg.refl _ _)).mono ?_); rintro e w3 ⟨mb, rfl, hm3, hc3⟩)
    | (go_at_call 8; (with_reducible refine (hpairs _ hc3).mono ?_); rintro e w4 ⟨ao4, c4, rfl, hp4, hc4⟩))
  have HM4 := hd (hm3.k hc4)
  have HP4 := hd hp4
  have HC4 := hd (HC2.out.k (hc3.k hc4))
  have hlenm := (hm3.k hc4).len
  clear hall hpairs hm3 hp4 hc3 hc4 hr HC2 hlenm
  have hPP : P.length ≤ 1600 := by omega
  clear hPl hPl2
  go_wp2_with fail
  go_loopw [18] (fun i wr => ∃ j : Nat, i = .int .i64 (j : Int) ∧ j ≤ P.length ∧ Hd (Chg [] w4 wr)) (fun i _ => P.length - (intOf i).toNat)
  case atStart => exact ⟨0, rfl, Nat.zero_le _, hd (Chg.refl _ _)⟩
  case round =>
    obtain ⟨j, rfl, hj, hc⟩ := hrel
    by_cases hjl : j < P.length
    · have hp := HP4.out.k hc.out
      obtain ⟨g, rfl⟩ := hp.addr (by omega)
      obtain ⟨q0, q1⟩ := hp.at j hjl
      obtain ⟨hmem, hok⟩ := HIN.out _ (List.getElem_mem hjl)
      rcases Nat.eq_zero_or_pos j with rfl | hj0
      · generalize P[0] = p at *
        have HQ0 := hd q0
        have HQ1 := hd q1
        go_upto_region 9 with (fail)
        have kx := Blk.new wr #[.int .i64 p.1, .int .i64 p.2] 33
        have hcb := (Chg.refl [] wr).alloc (.cells #[.int .i64 p.1, .int .i64 p.2] 33)
        generalize wr.alloc (.cells #[.int .i64 p.1, .int .i64 p.2] 33) = w5 at *
        generalize wr.heap.size = xb at *
        have HL : Hd (∀ wx, Chg [] w5 wx → (Instr.lookup 36 (.map (some mb)) (.agg #[.int .i64 p.1, .int .i64 p.2]) false).run Try.prog wx = .ok (.int .i64 1) wx) := hd fun wx hx => by
          have := (HM4.out.k ((hc.out.k hcb).k hx)).look p hok
          rw [if_pos hmem] at this; exact this
        have HQ : Hd (∀ wx, Chg [] w5 wx → wx.cell? ⟨xb, 0, none⟩ = some (.int .i64 p.1) ∧ wx.cell? ⟨xb, 1, none⟩ = some (.int .i64 p.2)) := hd fun wx hx => ⟨hx.cellS (kx.cell 0), hx.cellS (kx.cell 1)⟩
        have HC := hd (hc.out.k hcb)
        clear kx hcb q0 q1 HQ0 HQ1 hp hok hmem
        refine anyH_start (n := 41) (L := #[false, false, false, false, false, false, false, false, false, false, false, false, false, false, false, false, false, false, false, false, false, false, false, false, false, false, false, false, false, false, false, false, false, false, false, false, false, false, false, false, false]) (by kernel_rfl) (by kernel_rfl) (S := (fun wx => Chg [] w5 wx)) ((Chg.refl _ _).drew) (fun hHeld => ?_)
        refine anyH_take (i := 0) (d := 23) (L' := #[true, false, false, false, false, false, false, false, false, false, false, false, false, false, false, false, false, false, false, false, false, false, false, false, false, false, false, false, false, false, false, false, false, false, false, false, false, false, false, false, false]) (v := ?v2) rfl rfl (by kernel_rfl) (fun _ _ _ h => h) (by rfl) ?hy2 (by assumption) ?rest2
        case hy2 => (intro wx hSw; (try dsimp only at hSw); (obtain ⟨t0, t1⟩ := HQ.out _ hSw); go_simp; (try with_reducible rfl))
        simp only [Act.put, List.setIfInBounds_toArray, List.set_cons_zero, List.set_cons_succ]
        refine anyH_take (i := 1) (d := 24) (L' := #[true, true, false, false, false, false, false, false, false, false, false, false, false, false, false, false, false, false, false, false, false, false, false, false, false, false, false, false, false, false, false, false, false, false, false, false, false, false, false, false, false]) (v := ?v3) rfl rfl (by kernel_rfl) (fun _ _ _ h => h) (by rfl) ?hy3 (by assumption) ?rest3
        case hy3 => (intro wx hSw; (try dsimp only at hSw); (obtain ⟨t0, t1⟩ := HQ.out _ hSw); go_simp; (try with_reducible rfl))
        simp only [Act.put, List.setIfInBounds_toArray, List.set_cons_zero, List.set_cons_succ]
        refine anyH_take (i := 2) (d := 25) (L' := #[true, true, true, false, false, false, false, false, false, false, false, false, false, false, false, false, false, false, false, false, false, false, false, false, false, false, false, false, false, false, false, false, false, false, false, false, false, false, false, false, false]) (v := ?v4) rfl rfl (by kernel_rfl) (fun _ _ _ h => h) (by rfl) ?hy4 (by assumption) ?rest4
        case hy4 => (intro wx hSw; (try dsimp only at hSw); (have t2 := HL.out _ hSw); go_simp; (try with_reducible rfl))
        simp only [Act.put, List.setIfInBounds_toArray, List.set_cons_zero, List.set_cons_succ]
        refine anyH_take (i := 3) (d := 26) (L' := #[true, true, true, true, false, false, false, false, false, false, false, false, false, false, false, false, false, false, false, false, false, false, false, false, false, false, false, false, false, false, false, false, false, false, false, false, false, false, false, false, false]) (v := ?v5) rfl rfl (by kernel_rfl) (fun _ _ _ h => h) (by rfl) ?hy5 (by assumption) ?rest5
        case hy5 => (intro wx hSw; (try dsimp only at hSw); (obtain ⟨t0, t1⟩ := HQ.out _ hSw); go_simp; (try with_reducible rfl))
        simp only [Act.put, List.setIfInBounds_toArray, List.set_cons_zero, List.set_cons_succ]
        refine anyH_take (i := 4) (d := 27) (L' := #[true, true, true, true, true, false, false, false, false, false, false, false, false, false, false, false, false, false, false, false, false, false, false, false, false, false, false, false, false, false, false, false, false, false, false, false, false, false, false, false, false]) (v := ?v6) rfl rfl (by kernel_rfl) (fun _ _ _ h => h) (by rfl) ?hy6 (by assumption) ?rest6
        case hy6 => (intro wx hSw; (try dsimp only at hSw); (obtain ⟨t0, t1⟩ := HQ.out _ hSw); go_simp; (try with_reducible rfl))
        simp only [Act.put, List.setIfInBounds_toArray, List.set_cons_zero, List.set_cons_succ]
        refine anyH_take (i := 5) (d := 28) (L' := #[true, true, true, true, true, true, false, false, false, false, false, false, false, false, false, false, false, false, false, false, false, false, false, false, false, false, false, false, false, false, false, false, false, false, false, false, false, false, false, false, false]) (v := ?v7) rfl rfl (by kernel_rfl) (fun _ _ _ h => h) (by rfl) ?hy7 (by assumption) ?rest7
        case hy7 => (intro wx hSw; (try dsimp only at hSw); (obtain ⟨t0, t1⟩ := HQ.out _ hSw); go_simp; (try with_reducible rfl))
        simp only [Act.put, List.setIfInBounds_toArray, List.set_cons_zero, List.set_cons_succ]
        refine anyH_take (i := 6) (d := 29) (L' := #[true, true, true, true, true, true, true, false, false, false, false, false, false, false, false, false, false, false, false, false, false, false, false, false, false, false, false, false, false, false, false, false, false, false, false, false, false, false, false, false, false]) (v := ?v8) rfl rfl (by kernel_rfl) (fun _ _ _ h => h) (by rfl) ?hy8 (by assumption) ?rest8
        case hy8 => (intro wx hSw; (try dsimp only at hSw); (obtain ⟨t0, t1⟩ := HQ.out _ hSw); go_simp; (try with_reducible rfl))
        simp only [Act.put, List.setIfInBounds_toArray, List.set_cons_zero, List.set_cons_succ]
        refine anyH_take (i := 7) (d := 30) (L' := #[true, true, true, true, true, true, true, true, false, false, false, false, false, false, false, false, false, false, false, false, false, false, false, false, false, false, false, false, false, false, false, false, false, false, false, false, false, false, false, false, false]) (v := ?v9) rfl rfl (by kernel_rfl) (fun _ _ _ h => h) (by rfl) ?hy9 (by assumption) ?rest9
        case hy9 => (intro wx hSw; (try dsimp only at hSw); (obtain ⟨t0, t1⟩ := HQ.out _ hSw); go_simp; (try with_reducible rfl))
        simp only [Act.put, List.setIfInBounds_toArray, List.set_cons_zero, List.set_cons_succ]
        refine anyH_skip (i := 8) (d := 31) (L' := #[true, true, true, true, true, true, true, true, true, false, false, false, false, false, false, false, false, false, false, false, false, false, false, false, false, false, false, false, false, false, false, false, false, false, false, false, false, false, false, false, false]) rfl rfl (by kernel_rfl) (fun _ _ _ h => h) (by rfl) (by assumption) ?_
        simp only [Act.put, List.setIfInBounds_toArray, List.set_cons_zero, List.set_cons_succ]
        refine anyH_skip (i := 9) (d := 32) (L' := #[true, true, true, true, true, true, true, true, true, true, false, false, false, false, false, false, false, false, false, false, false, false, false, false, false, false, false, false, false, false, false, false, false, false, false, false, false, false, false, false, false]) rfl rfl (by kernel_rfl) (fun _ _ _ h => h) (by rfl) (by assumption) ?_
        simp only [Act.put, List.setIfInBounds_toArray, List.set_cons_zero, List.set_cons_succ]
        refine anyH_skip (i := 10) (d := 33) (L' := #[true, true, true, true, true, true, true, true, true, true, true, false, false, false, false, false, false, false, false, false, false, false, false, false, false, false, false, false, false, false, false, false, false, false, false, false, false, false, false, false, false]) rfl rfl (by kernel_rfl) (fun _ _ _ h => h) (by rfl) (by assumption) ?_
        simp only [Act.put, List.setIfInBounds_toArray, List.set_cons_zero, List.set_cons_succ]
        refine anyH_skip (i := 11) (d := 34) (L' := #[true, true, true, true, true, true, true, true, true, true, true, true, false, false, false, false, false, false, false, false, false, false, false, false, false, false, false, false, false, false, false, false, false, false, false, false, false, false, false, false, false]) rfl rfl (by kernel_rfl) (fun _ _ _ h => h) (by rfl) (by assumption) ?_
        simp only [Act.put, List.setIfInBounds_toArray, List.set_cons_zero, List.set_cons_succ]
        refine anyH_skip (i := 12) (d := 35) (L' := #[true, true, true, true, true, true, true, true, true, true, true, true, true, false, false, false, false, false, false, false, false, false, false, false, false, false, false, false, false, false, false, false, false, false, false, false, false, false, false, false, false]) rfl rfl (by kernel_rfl) (fun _ _ _ h => h) (by rfl) (by assumption) ?_
        simp only [Act.put, List.setIfInBounds_toArray, List.set_cons_zero, List.set_cons_succ]
        refine anyH_skip (i := 13) (d := 36) (L' := #[true, true, true, true, true, true, true, true, true, true, true, true, true, true, false, false, false, false, false, false, false, false, false, false, false, false, false, false, false, false, false, false, false, false, false, false, false, false, false, false, false]) rfl rfl (by kernel_rfl) (fun _ _ _ h => h) (by rfl) (by assumption) ?_
        simp only [Act.put, List.setIfInBounds_toArray, List.set_cons_zero, List.set_cons_succ]
        refine anyH_skip (i := 14) (d := 37) (L' := #[true, true, true, true, true, true, true, true, true, true, true, true, true, true, true, false, false, false, false, false, false, false, false, false, false, false, false, false, false, false, false, false, false, false, false, false, false, false, false, false, false]) rfl rfl (by kernel_rfl) (fun _ _ _ h => h) (by rfl) (by assumption) ?_
        simp only [Act.put, List.setIfInBounds_toArray, List.set_cons_zero, List.set_cons_succ]
        refine anyH_skip (i := 15) (d := 38) (L' := #[true, true, true, true, true, true, true, true, true, true, true, true, true, true, true, true, false, false, false, false, false, false, false, false, false, false, false, false, false, false, false, false, false, false, false, false, false, false, false, false, false]) rfl rfl (by kernel_rfl) (fun _ _ _ h => h) (by rfl) (by assumption) ?_
        simp only [Act.put, List.setIfInBounds_toArray, List.set_cons_zero, List.set_cons_succ]
        refine anyH_skip (i := 16) (d := 39) (L' := #[true, true, true, true, true, true, true, true, true, true, true, true, true, true, true, true, true, false, false, false, false, false, false, false, false, false, false, false, false, false, false, false, false, false, false, false, false, false, false, false, false]) rfl rfl (by kernel_rfl) (fun _ _ _ h => h) (by rfl) (by assumption) ?_
        simp only [Act.put, List.setIfInBounds_toArray, List.set_cons_zero, List.set_cons_succ]
        refine anyH_skip (i := 17) (d := 40) (L' := #[true, true, true, true, true, true, true, true, true, true, true, true, true, true, true, true, true, true, false, false, false, false, false, false, false, false, false, false, false, false, false, false, false, false, false, false, false, false, false, false, false]) rfl rfl (by kernel_rfl) (fun _ _ _ h => h) (by rfl) (by assumption) ?_
        simp only [Act.put, List.setIfInBounds_toArray, List.set_cons_zero, List.set_cons_succ]
        refine anyH_skip (i := 18) (d := 41) (L' := #[true, true, true, true, true, true, true, true, true, true, true, true, true, true, true, true, true, true, true, false, false, false, false, false, false, false, false, false, false, false, false, false, false, false, false, false, false, false, false, false, false]) rfl rfl (by kernel_rfl) (fun _ _ _ h => h) (by rfl) (by assumption) ?_
        simp only [Act.put, List.setIfInBounds_toArray, List.set_cons_zero, List.set_cons_succ]
        refine anyH_skip (i := 19) (d := 42) (L' := #[true, true, true, true, true, true, true, true, true, true, true, true, true, true, true, true, true, true, true, true, false, false, false, false, false, false, false, false, false, false, false, false, false, false, false, false, false, false, false, false, false]) rfl rfl (by kernel_rfl) (fun _ _ _ h => h) (by rfl) (by assumption) ?_
        simp only [Act.put, List.setIfInBounds_toArray, List.set_cons_zero, List.set_cons_succ]
        refine anyH_skip (i := 20) (d := 43) (L' := #[true, true, true, true, true, true, true, true, true, true, true, true, true, true, true, true, true, true, true, true, true, false, false, false, false, false, false, false, false, false, false, false, false, false, false, false, false, false, false, false, false]) rfl rfl (by kernel_rfl) (fun _ _ _ h => h) (by rfl) (by assumption) ?_
        simp only [Act.put, List.setIfInBounds_toArray, List.set_cons_zero, List.set_cons_succ]
        refine anyH_skip (i := 21) (d := 44) (L' := #[true, true, true, true, true, true, true, true, true, true, true, true, true, true, true, true, true, true, true, true, true, true, false, false, false, false, false, false, false, false, false, false, false, false, false, false, false, false, false, false, false]) rfl rfl (by kernel_rfl) (fun _ _ _ h => h) (by rfl) (by assumption) ?_
        simp only [Act.put, List.setIfInBounds_toArray, List.set_cons_zero, List.set_cons_succ]
        refine anyH_skip (i := 22) (d := 45) (L' := #[true, true, true, true, true, true, true, true, true, true, true, true, true, true, true, true, true, true, true, true, true, true, true, false, false, false, false, false, false, false, false, false, false, false, false, false, false, false, false, false, false]) rfl rfl (by kernel_rfl) (fun _ _ _ h => h) (by rfl) (by assumption) ?_
        simp only [Act.put, List.setIfInBounds_toArray, List.set_cons_zero, List.set_cons_succ]
        refine anyH_skip (i := 23) (d := 46) (L' := #[true, true, true, true, true, true, true, true, true, true, true, true, true, true, true, true, true, true, true, true, true, true, true, true, false, false, false, false, false, false, false, false, false, false, false, false, false, false, false, false, false]) rfl rfl (by kernel_rfl) (fun _ _ _ h => h) (by rfl) (by assumption) ?_
        simp only [Act.put, List.setIfInBounds_toArray, List.set_cons_zero, List.set_cons_succ]
        refine anyH_skip (i := 24) (d := 47) (L' := #[true, true, true, true, true, true, true, true, true, true, true, true, true, true, true, true, true, true, true, true, true, true, true, true, true, false, false, false, false, false, false, false, false, false, false, false, false, false, false, false, false]) rfl rfl (by kernel_rfl) (fun _ _ _ h => h) (by rfl) (by assumption) ?_
        simp only [Act.put, List.setIfInBounds_toArray, List.set_cons_zero, List.set_cons_succ]
        refine anyH_skip (i := 25) (d := 48) (L' := #[true, true, true, true, true, true, true, true, true, true, true, true, true, true, true, true, true, true, true, true, true, true, true, true, true, true, false, false, false, false, false, false, false, false, false, false, false, false, false, false, false]) rfl rfl (by kernel_rfl) (fun _ _ _ h => h) (by rfl) (by assumption) ?_
        simp only [Act.put, List.setIfInBounds_toArray, List.set_cons_zero, List.set_cons_succ]
        refine anyH_skip (i := 26) (d := 49) (L' := #[true, true, true, true, true, true, true, true, true, true, true, true, true, true, true, true, true, true, true, true, true, true, true, true, true, true, true, false, false, false, false, false, false, false, false, false, false, false, false, false, false]) rfl rfl (by kernel_rfl) (fun _ _ _ h => h) (by rfl) (by assumption) ?_
        simp only [Act.put, List.setIfInBounds_toArray, List.set_cons_zero, List.set_cons_succ]
        refine anyH_skip (i := 27) (d := 50) (L' := #[true, true, true, true, true, true, true, true, true, true, true, true, true, true, true, true, true, true, true, true, true, true, true, true, true, true, true, true, false, false, false, false, false, false, false, false, false, false, false, false, false]) rfl rfl (by kernel_rfl) (fun _ _ _ h => h) (by rfl) (by assumption) ?_
        simp only [Act.put, List.setIfInBounds_toArray, List.set_cons_zero, List.set_cons_succ]
        refine anyH_skip (i := 28) (d := 51) (L' := #[true, true, true, true, true, true, true, true, true, true, true, true, true, true, true, true, true, true, true, true, true, true, true, true, true, true, true, true, true, false, false, false, false, false, false, false, false, false, false, false, false]) rfl rfl (by kernel_rfl) (fun _ _ _ h => h) (by rfl) (by assumption) ?_
        simp only [Act.put, List.setIfInBounds_toArray, List.set_cons_zero, List.set_cons_succ]
        refine anyH_skip (i := 29) (d := 52) (L' := #[true, true, true, true, true, true, true, true, true, true, true, true, true, true, true, true, true, true, true, true, true, true, true, true, true, true, true, true, true, true, false, false, false, false, false, false, false, false, false, false, false]) rfl rfl (by kernel_rfl) (fun _ _ _ h => h) (by rfl) (by assumption) ?_
        simp only [Act.put, List.setIfInBounds_toArray, List.set_cons_zero, List.set_cons_succ]
        refine anyH_skip (i := 30) (d := 53) (L' := #[true, true, true, true, true, true, true, true, true, true, true, true, true, true, true, true, true, true, true, true, true, true, true, true, true, true, true, true, true, true, true, false, false, false, false, false, false, false, false, false, false]) rfl rfl (by kernel_rfl) (fun _ _ _ h => h) (by rfl) (by assumption) ?_
        simp only [Act.put, List.setIfInBounds_toArray, List.set_cons_zero, List.set_cons_succ]
        refine anyH_skip (i := 31) (d := 54) (L' := #[true, true, true, true, true, true, true, true, true, true, true, true, true, true, true, true, true, true, true, true, true, true, true, true, true, true, true, true, true, true, true, true, false, false, false, false, false, false, false, false, false]) rfl rfl (by kernel_rfl) (fun _ _ _ h => h) (by rfl) (by assumption) ?_
        simp only [Act.put, List.setIfInBounds_toArray, List.set_cons_zero, List.set_cons_succ]
        refine anyH_skip (i := 32) (d := 55) (L' := #[true, true, true, true, true, true, true, true, true, true, true, true, true, true, true, true, true, true, true, true, true, true, true, true, true, true, true, true, true, true, true, true, true, false, false, false, false, false, false, false, false]) rfl rfl (by kernel_rfl) (fun _ _ _ h => h) (by rfl) (by assumption) ?_
        simp only [Act.put, List.setIfInBounds_toArray, List.set_cons_zero, List.set_cons_succ]
        refine anyH_skip (i := 33) (d := 56) (L' := #[true, true, true, true, true, true, true, true, true, true, true, true, true, true, true, true, true, true, true, true, true, true, true, true, true, true, true, true, true, true, true, true, true, true, false, false, false, false, false, false, false]) rfl rfl (by kernel_rfl) (fun _ _ _ h => h) (by rfl) (by assumption) ?_
        simp only [Act.put, List.setIfInBounds_toArray, List.set_cons_zero, List.set_cons_succ]
        refine anyH_skip (i := 34) (d := 57) (L' := #[true, true, true, true, true, true, true, true, true, true, true, true, true, true, true, true, true, true, true, true, true, true, true, true, true, true, true, true, true, true, true, true, true, true, true, false, false, false, false, false, false]) rfl rfl (by kernel_rfl) (fun _ _ _ h => h) (by rfl) (by assumption) ?_
        simp only [Act.put, List.setIfInBounds_toArray, List.set_cons_zero, List.set_cons_succ]
        refine anyH_skip (i := 35) (d := 58) (L' := #[true, true, true, true, true, true, true, true, true, true, true, true, true, true, true, true, true, true, true, true, true, true, true, true, true, true, true, true, true, true, true, true, true, true, true, true, false, false, false, false, false]) rfl rfl (by kernel_rfl) (fun _ _ _ h => h) (by rfl) (by assumption) ?_
        simp only [Act.put, List.setIfInBounds_toArray, List.set_cons_zero, List.set_cons_succ]
        refine anyH_skip (i := 36) (d := 59) (L' := #[true, true, true, true, true, true, true, true, true, true, true, true, true, true, true, true, true, true, true, true, true, true, true, true, true, true, true, true, true, true, true, true, true, true, true, true, true, false, false, false, false]) rfl rfl (by kernel_rfl) (fun _ _ _ h => h) (by rfl) (by assumption) ?_
        simp only [Act.put, List.setIfInBounds_toArray, List.set_cons_zero, List.set_cons_succ]
        refine anyH_skip (i := 37) (d := 60) (L' := #[true, true, true, true, true, true, true, true, true, true, true, true, true, true, true, true, true, true, true, true, true, true, true, true, true, true, true, true, true, true, true, true, true, true, true, true, true, true, false, false, false]) rfl rfl (by kernel_rfl) (fun _ _ _ h => h) (by rfl) (by assumption) ?_
        simp only [Act.put, List.setIfInBounds_toArray, List.set_cons_zero, List.set_cons_succ]
        refine anyH_skip (i := 38) (d := 61) (L' := #[true, true, true, true, true, true, true, true, true, true, true, true, true, true, true, true, true, true, true, true, true, true, true, true, true, true, true, true, true, true, true, true, true, true, true, true, true, true, true, false, false]) rfl rfl (by kernel_rfl) (fun _ _ _ h => h) (by rfl) (by assumption) ?_
        simp only [Act.put, List.setIfInBounds_toArray, List.set_cons_zero, List.set_cons_succ]
        refine anyH_take (i := 39) (d := 62) (L' := #[true, true, true, true, true, true, true, true, true, true, true, true, true, true, true, true, true, true, true, true, true, true, true, true, true, true, true, true, true, true, true, true, true, true, true, true, true, true, true, true, false]) (v := ?v41) rfl rfl (by kernel_rfl) (fun _ _ _ h => h) (by rfl) ?hy41 (by assumption) ?rest41
        case hy41 => (intro wx hSw; (try dsimp only at hSw); (obtain ⟨t0, t1⟩ := HQ.out _ hSw); go_simp; (try with_reducible rfl))
        simp only [Act.put, List.setIfInBounds_toArray, List.set_cons_zero, List.set_cons_succ]
        refine anyH_take (i := 40) (d := 63) (L' := #[true, true, true, true, true, true, true, true, true, true, true, true, true, true, true, true, true, true, true, true, true, true, true, true, true, true, true, true, true, true, true, true, true, true, true, true, true, true, true, true, true]) (v := ?v42) rfl rfl (by kernel_rfl) (fun _ _ _ h => h) (by rfl) ?hy42 (by assumption) ?rest42
        case hy42 => (intro wx hSw; (try dsimp only at hSw); (obtain ⟨t0, t1⟩ := HQ.out _ hSw); go_simp; (try with_reducible rfl))
        simp only [Act.put, List.setIfInBounds_toArray, List.set_cons_zero, List.set_cons_succ]
        refine wpAnyH_done (by kernel_rfl) ?_ _
        skip
        go_wp2_with fail
        go_roundw
        case rel => exact ⟨1, rfl, by omega, hd HC.out.drew⟩
        case measure => simp [intOf]; omega
      · obtain ⟨i, rfl⟩ : ∃ i, j = i + 1 := ⟨j - 1, by omega⟩
        obtain ⟨r0, r1⟩ := hp.at i (by omega)
        have hrise := HLT.out i P[i] P[i + 1] (List.getElem?_eq_getElem (by omega)) (List.getElem?_eq_getElem hjl)
        generalize P[i + 1] = p at *
        generalize P[i] = q at *
        have HQ0 := hd q0
        have HQ1 := hd q1
        have HR0 := hd r0
        have HR1 := hd r1
        go_upto_region 9 with (fail)
        have kx := Blk.new wr #[.int .i64 p.1, .int .i64 p.2] 33
        have hcb := (Chg.refl [] wr).alloc (.cells #[.int .i64 p.1, .int .i64 p.2] 33)
        generalize wr.alloc (.cells #[.int .i64 p.1, .int .i64 p.2] 33) = w5 at *
        generalize wr.heap.size = xb at *
        have HL : Hd (∀ wx, Chg [] w5 wx → (Instr.lookup 36 (.map (some mb)) (.agg #[.int .i64 p.1, .int .i64 p.2]) false).run Try.prog wx = .ok (.int .i64 1) wx) := hd fun wx hx => by
          have := (HM4.out.k ((hc.out.k hcb).k hx)).look p hok
          rw [if_pos hmem] at this; exact this
        have HQ : Hd (∀ wx, Chg [] w5 wx → wx.cell? ⟨xb, 0, none⟩ = some (.int .i64 p.1) ∧ wx.cell? ⟨xb, 1, none⟩ = some (.int .i64 p.2) ∧ wx.cell? ⟨g, i * 2, none⟩ = some (.int .i64 q.1) ∧ wx.cell? ⟨g, i * 2 + 1, none⟩ = some (.int .i64 q.2)) := hd fun wx hx => ⟨hx.cellS (kx.cell 0), hx.cellS (kx.cell 1), (hcb.k hx).cellS HR0.out, (hcb.k hx).cellS HR1.out⟩
        have HC := hd (hc.out.k hcb)
        clear kx hcb q0 q1 r0 r1 HQ0 HQ1 HR0 HR1 hp hok hmem
        have hip : (i : Int) < (P.length : Int) := by omega
        have hin : i < P.length := by omega
        have hwr : IntKind.i64.wrap (i : Int) = (i : Int) := IntWalk.i64_in _ ⟨by omega, by omega⟩
        rcases hrise with h1 | ⟨h1, h2⟩
        · have g1 : decide (p.1 < q.1) = false := by rw [decide_eq_false_iff_not]; omega
          have g2 : (q.1 == p.1) = false := by rw [beq_eq_false_iff_ne]; omega
          clear h1
          refine anyH_start (n := 41) (L := #[false, false, false, false, false, false, false, false, false, false, false, false, false, false, false, false, false, false, false, false, false, false, false, false, false, false, false, false, false, false, false, false, false, false, false, false, false, false, false, false, false]) (by kernel_rfl) (by kernel_rfl) (S := (fun wx => Chg [] w5 wx)) ((Chg.refl _ _).drew) (fun hHeld => ?_)
          refine anyH_take (i := 0) (d := 23) (L' := #[true, false, false, false, false, false, false, false, false, false, false, false, false, false, false, false, false, false, false, false, false, false, false, false, false, false, false, false, false, false, false, false, false, false, false, false, false, false, false, false, false]) (v := ?v45) rfl rfl (by kernel_rfl) (fun _ _ _ h => h) (by rfl) ?hy45 (by assumption) ?rest45
          case hy45 => (intro wx hSw; (try dsimp only at hSw); (obtain ⟨t0, t1, t3, t4⟩ := HQ.out _ hSw); go_simp; (try with_reducible rfl))
          simp only [Act.put, List.setIfInBounds_toArray, List.set_cons_zero, List.set_cons_succ]
          refine anyH_take (i := 1) (d := 24) (L' := #[true, true, false, false, false, false, false, false, false, false, false, false, false, false, false, false, false, false, false, false, false, false, false, false, false, false, false, false, false, false, false, false, false, false, false, false, false, false, false, false, false]) (v := ?v46) rfl rfl (by kernel_rfl) (fun _ _ _ h => h) (by rfl) ?hy46 (by assumption) ?rest46
          case hy46 => (intro wx hSw; (try dsimp only at hSw); (obtain ⟨t0, t1, t3, t4⟩ := HQ.out _ hSw); go_simp; (try with_reducible rfl))
          simp only [Act.put, List.setIfInBounds_toArray, List.set_cons_zero, List.set_cons_succ]
          refine anyH_take (i := 2) (d := 25) (L' := #[true, true, true, false, false, false, false, false, false, false, false, false, false, false, false, false, false, false, false, false, false, false, false, false, false, false, false, false, false, false, false, false, false, false, false, false, false, false, false, false, false]) (v := ?v47) rfl rfl (by kernel_rfl) (fun _ _ _ h => h) (by rfl) ?hy47 (by assumption) ?rest47
          case hy47 => (intro wx hSw; (try dsimp only at hSw); (have t2 := HL.out _ hSw); go_simp; (try with_reducible rfl))
          simp only [Act.put, List.setIfInBounds_toArray, List.set_cons_zero, List.set_cons_succ]
          refine anyH_take (i := 3) (d := 26) (L' := #[true, true, true, true, false, false, false, false, false, false, false, false, false, false, false, false, false, false, false, false, false, false, false, false, false, false, false, false, false, false, false, false, false, false, false, false, false, false, false, false, false]) (v := ?v48) rfl rfl (by kernel_rfl) (fun _ _ _ h => h) (by rfl) ?hy48 (by assumption) ?rest48
          case hy48 => (intro wx hSw; (try dsimp only at hSw); (obtain ⟨t0, t1, t3, t4⟩ := HQ.out _ hSw); go_simp; (try with_reducible rfl))
          simp only [Act.put, List.setIfInBounds_toArray, List.set_cons_zero, List.set_cons_succ]
          refine anyH_take (i := 4) (d := 27) (L' := #[true, true, true, true, true, false, false, false, false, false, false, false, false, false, false, false, false, false, false, false, false, false, false, false, false, false, false, false, false, false, false, false, false, false, false, false, false, false, false, false, false]) (v := ?v49) rfl rfl (by kernel_rfl) (fun _ _ _ h => h) (by rfl) ?hy49 (by assumption) ?rest49
          case hy49 => (intro wx hSw; (try dsimp only at hSw); (obtain ⟨t0, t1, t3, t4⟩ := HQ.out _ hSw); go_simp; (try with_reducible rfl))
          simp only [Act.put, List.setIfInBounds_toArray, List.set_cons_zero, List.set_cons_succ]
          refine anyH_take (i := 5) (d := 28) (L' := #[true, true, true, true, true, true, false, false, false, false, false, false, false, false, false, false, false, false, false, false, false, false, false, false, false, false, false, false, false, false, false, false, false, false, false, false, false, false, false, false, false]) (v := ?v50) rfl rfl (by kernel_rfl) (fun _ _ _ h => h) (by rfl) ?hy50 (by assumption) ?rest50
          case hy50 => (intro wx hSw; (try dsimp only at hSw); (obtain ⟨t0, t1, t3, t4⟩ := HQ.out _ hSw); go_simp; (try with_reducible rfl))
          simp only [Act.put, List.setIfInBounds_toArray, List.set_cons_zero, List.set_cons_succ]
          refine anyH_take (i := 6) (d := 29) (L' := #[true, true, true, true, true, true, true, false, false, false, false, false, false, false, false, false, false, false, false, false, false, false, false, false, false, false, false, false, false, false, false, false, false, false, false, false, false, false, false, false, false]) (v := ?v51) rfl rfl (by kernel_rfl) (fun _ _ _ h => h) (by rfl) ?hy51 (by assumption) ?rest51
          case hy51 => (intro wx hSw; (try dsimp only at hSw); (obtain ⟨t0, t1, t3, t4⟩ := HQ.out _ hSw); go_simp; (try with_reducible rfl))
          simp only [Act.put, List.setIfInBounds_toArray, List.set_cons_zero, List.set_cons_succ]
          refine anyH_take (i := 7) (d := 30) (L' := #[true, true, true, true, true, true, true, true, false, false, false, false, false, false, false, false, false, false, false, false, false, false, false, false, false, false, false, false, false, false, false, false, false, false, false, false, false, false, false, false, false]) (v := ?v52) rfl rfl (by kernel_rfl) (fun _ _ _ h => h) (by rfl) ?hy52 (by assumption) ?rest52
          case hy52 => (intro wx hSw; (try dsimp only at hSw); (obtain ⟨t0, t1, t3, t4⟩ := HQ.out _ hSw); go_simp; (try with_reducible rfl))
          simp only [Act.put, List.setIfInBounds_toArray, List.set_cons_zero, List.set_cons_succ]
          refine anyH_take (i := 8) (d := 31) (L' := #[true, true, true, true, true, true, true, true, true, false, false, false, false, false, false, false, false, false, false, false, false, false, false, false, false, false, false, false, false, false, false, false, false, false, false, false, false, false, false, false, false]) (v := ?v53) rfl rfl (by kernel_rfl) (fun _ _ _ h => h) (by rfl) ?hy53 (by assumption) ?rest53
          case hy53 => (intro wx hSw; (try dsimp only at hSw); (obtain ⟨t0, t1, t3, t4⟩ := HQ.out _ hSw); go_simp; (try with_reducible rfl))
          simp only [Act.put, List.setIfInBounds_toArray, List.set_cons_zero, List.set_cons_succ]
          refine anyH_take (i := 9) (d := 32) (L' := #[true, true, true, true, true, true, true, true, true, true, false, false, false, false, false, false, false, false, false, false, false, false, false, false, false, false, false, false, false, false, false, false, false, false, false, false, false, false, false, false, false]) (v := ?v54) rfl rfl (by kernel_rfl) (fun _ _ _ h => h) (by rfl) ?hy54 (by assumption) ?rest54
          case hy54 => (intro wx hSw; (try dsimp only at hSw); (obtain ⟨t0, t1, t3, t4⟩ := HQ.out _ hSw); go_simp; (try with_reducible rfl))
          simp only [Act.put, List.setIfInBounds_toArray, List.set_cons_zero, List.set_cons_succ]
          refine anyH_take (i := 10) (d := 33) (L' := #[true, true, true, true, true, true, true, true, true, true, true, false, false, false, false, false, false, false, false, false, false, false, false, false, false, false, false, false, false, false, false, false, false, false, false, false, false, false, false, false, false]) (v := ?v55) rfl rfl (by kernel_rfl) (fun _ _ _ h => h) (by rfl) ?hy55 (by assumption) ?rest55
          case hy55 => (intro wx hSw; (try dsimp only at hSw); (obtain ⟨t0, t1, t3, t4⟩ := HQ.out _ hSw); go_simp; (try with_reducible rfl))
          simp only [Act.put, List.setIfInBounds_toArray, List.set_cons_zero, List.set_cons_succ]
          refine anyH_take (i := 11) (d := 34) (L' := #[true, true, true, true, true, true, true, true, true, true, true, true, false, false, false, false, false, false, false, false, false, false, false, false, false, false, false, false, false, false, false, false, false, false, false, false, false, false, false, false, false]) (v := ?v56) rfl rfl (by kernel_rfl) (fun _ _ _ h => h) (by rfl) ?hy56 (by assumption) ?rest56
          case hy56 => (intro wx hSw; (try dsimp only at hSw); (obtain ⟨t0, t1, t3, t4⟩ := HQ.out _ hSw); go_simp; (try with_reducible rfl))
          simp only [Act.put, List.setIfInBounds_toArray, List.set_cons_zero, List.set_cons_succ]
          refine anyH_take (i := 12) (d := 35) (L' := #[true, true, true, true, true, true, true, true, true, true, true, true, true, false, false, false, false, false, false, false, false, false, false, false, false, false, false, false, false, false, false, false, false, false, false, false, false, false, false, false, false]) (v := ?v57) rfl rfl (by kernel_rfl) (fun _ _ _ h => h) (by rfl) ?hy57 (by assumption) ?rest57
          case hy57 => (intro wx hSw; (try dsimp only at hSw); (obtain ⟨t0, t1, t3, t4⟩ := HQ.out _ hSw); go_simp; (try with_reducible rfl))
          simp only [Act.put, List.setIfInBounds_toArray, List.set_cons_zero, List.set_cons_succ]
          refine anyH_take (i := 13) (d := 36) (L' := #[true, true, true, true, true, true, true, true, true, true, true, true, true, true, false, false, false, false, false, false, false, false, false, false, false, false, false, false, false, false, false, false, false, false, false, false, false, false, false, false, false]) (v := ?v58) rfl rfl (by kernel_rfl) (fun _ _ _ h => h) (by rfl) ?hy58 (by assumption) ?rest58
          case hy58 => (intro wx hSw; (try dsimp only at hSw); (obtain ⟨t0, t1, t3, t4⟩ := HQ.out _ hSw); go_simp; (try with_reducible rfl))
          simp only [Act.put, List.setIfInBounds_toArray, List.set_cons_zero, List.set_cons_succ]
          refine anyH_take (i := 14) (d := 37) (L' := #[true, true, true, true, true, true, true, true, true, true, true, true, true, true, true, false, false, false, false, false, false, false, false, false, false, false, false, false, false, false, false, false, false, false, false, false, false, false, false, false, false]) (v := ?v59) rfl rfl (by kernel_rfl) (fun _ _ _ h => h) (by rfl) ?hy59 (by assumption) ?rest59
          case hy59 => (intro wx hSw; (try dsimp only at hSw); (obtain ⟨t0, t1, t3, t4⟩ := HQ.out _ hSw); go_simp; (try with_reducible rfl))
          simp only [Act.put, List.setIfInBounds_toArray, List.set_cons_zero, List.set_cons_succ]
          refine anyH_take (i := 15) (d := 38) (L' := #[true, true, true, true, true, true, true, true, true, true, true, true, true, true, true, true, false, false, false, false, false, false, false, false, false, false, false, false, false, false, false, false, false, false, false, false, false, false, false, false, false]) (v := ?v60) rfl rfl (by kernel_rfl) (fun _ _ _ h => h) (by rfl) ?hy60 (by assumption) ?rest60
          case hy60 => (intro wx hSw; (try dsimp only at hSw); (obtain ⟨t0, t1, t3, t4⟩ := HQ.out _ hSw); go_simp; (try with_reducible rfl))
          simp only [Act.put, List.setIfInBounds_toArray, List.set_cons_zero, List.set_cons_succ]
          refine anyH_take (i := 16) (d := 39) (L' := #[true, true, true, true, true, true, true, true, true, true, true, true, true, true, true, true, true, false, false, false, false, false, false, false, false, false, false, false, false, false, false, false, false, false, false, false, false, false, false, false, false]) (v := ?v61) rfl rfl (by kernel_rfl) (fun _ _ _ h => h) (by rfl) ?hy61 (by assumption) ?rest61
          case hy61 => (intro wx hSw; (try dsimp only at hSw); (obtain ⟨t0, t1, t3, t4⟩ := HQ.out _ hSw); go_simp; (try with_reducible rfl))
          simp only [Act.put, List.setIfInBounds_toArray, List.set_cons_zero, List.set_cons_succ]
          refine anyH_take (i := 17) (d := 40) (L' := #[true, true, true, true, true, true, true, true, true, true, true, true, true, true, true, true, true, true, false, false, false, false, false, false, false, false, false, false, false, false, false, false, false, false, false, false, false, false, false, false, false]) (v := ?v62) rfl rfl (by kernel_rfl) (fun _ _ _ h => h) (by rfl) ?hy62 (by assumption) ?rest62
          case hy62 => (intro wx hSw; (try dsimp only at hSw); (obtain ⟨t0, t1, t3, t4⟩ := HQ.out _ hSw); go_simp; (try with_reducible rfl))
          simp only [Act.put, List.setIfInBounds_toArray, List.set_cons_zero, List.set_cons_succ]
          refine anyH_take (i := 18) (d := 41) (L' := #[true, true, true, true, true, true, true, true, true, true, true, true, true, true, true, true, true, true, true, false, false, false, false, false, false, false, false, false, false, false, false, false, false, false, false, false, false, false, false, false, false]) (v := ?v63) rfl rfl (by kernel_rfl) (fun _ _ _ h => h) (by rfl) ?hy63 (by assumption) ?rest63
          case hy63 => (intro wx hSw; (try dsimp only at hSw); (obtain ⟨t0, t1, t3, t4⟩ := HQ.out _ hSw); go_simp; (try with_reducible rfl))
          simp only [Act.put, List.setIfInBounds_toArray, List.set_cons_zero, List.set_cons_succ]
          refine anyH_take (i := 19) (d := 42) (L' := #[true, true, true, true, true, true, true, true, true, true, true, true, true, true, true, true, true, true, true, true, false, false, false, false, false, false, false, false, false, false, false, false, false, false, false, false, false, false, false, false, false]) (v := ?v64) rfl rfl (by kernel_rfl) (fun _ _ _ h => h) (by rfl) ?hy64 (by assumption) ?rest64
          case hy64 => (intro wx hSw; (try dsimp only at hSw); (obtain ⟨t0, t1, t3, t4⟩ := HQ.out _ hSw); go_simp; (try with_reducible rfl))
          simp only [Act.put, List.setIfInBounds_toArray, List.set_cons_zero, List.set_cons_succ]
          refine anyH_take (i := 20) (d := 43) (L' := #[true, true, true, true, true, true, true, true, true, true, true, true, true, true, true, true, true, true, true, true, true, false, false, false, false, false, false, false, false, false, false, false, false, false, false, false, false, false, false, false, false]) (v := ?v65) rfl rfl (by kernel_rfl) (fun _ _ _ h => h) (by rfl) ?hy65 (by assumption) ?rest65
          case hy65 => (intro wx hSw; (try dsimp only at hSw); (obtain ⟨t0, t1, t3, t4⟩ := HQ.out _ hSw); go_simp; (try with_reducible rfl))
          simp only [Act.put, List.setIfInBounds_toArray, List.set_cons_zero, List.set_cons_succ]
          refine anyH_take (i := 21) (d := 44) (L' := #[true, true, true, true, true, true, true, true, true, true, true, true, true, true, true, true, true, true, true, true, true, true, false, false, false, false, false, false, false, false, false, false, false, false, false, false, false, false, false, false, false]) (v := ?v66) rfl rfl (by kernel_rfl) (fun _ _ _ h => h) (by rfl) ?hy66 (by assumption) ?rest66
          case hy66 => (intro wx hSw; (try dsimp only at hSw); (obtain ⟨t0, t1, t3, t4⟩ := HQ.out _ hSw); go_simp; (try with_reducible rfl))
          simp only [Act.put, List.setIfInBounds_toArray, List.set_cons_zero, List.set_cons_succ]
          refine anyH_take (i := 22) (d := 45) (L' := #[true, true, true, true, true, true, true, true, true, true, true, true, true, true, true, true, true, true, true, true, true, true, true, false, false, false, false, false, false, false, false, false, false, false, false, false, false, false, false, false, false]) (v := ?v67) rfl rfl (by kernel_rfl) (fun _ _ _ h => h) (by rfl) ?hy67 (by assumption) ?rest67
          case hy67 => (intro wx hSw; (try dsimp only at hSw); (obtain ⟨t0, t1, t3, t4⟩ := HQ.out _ hSw); go_simp; (try with_reducible rfl))
          simp only [Act.put, List.setIfInBounds_toArray, List.set_cons_zero, List.set_cons_succ]
          refine anyH_take (i := 23) (d := 46) (L' := #[true, true, true, true, true, true, true, true, true, true, true, true, true, true, true, true, true, true, true, true, true, true, true, true, false, false, false, false, false, false, false, false, false, false, false, false, false, false, false, false, false]) (v := ?v68) rfl rfl (by kernel_rfl) (fun _ _ _ h => h) (by rfl) ?hy68 (by assumption) ?rest68
          case hy68 => (intro wx hSw; (try dsimp only at hSw); (obtain ⟨t0, t1, t3, t4⟩ := HQ.out _ hSw); go_simp; (try with_reducible rfl))
          simp only [Act.put, List.setIfInBounds_toArray, List.set_cons_zero, List.set_cons_succ]
          refine anyH_take (i := 24) (d := 47) (L' := #[true, true, true, true, true, true, true, true, true, true, true, true, true, true, true, true, true, true, true, true, true, true, true, true, true, false, false, false, false, false, false, false, false, false, false, false, false, false, false, false, false]) (v := ?v69) rfl rfl (by kernel_rfl) (fun _ _ _ h => h) (by rfl) ?hy69 (by assumption) ?rest69
          case hy69 => (intro wx hSw; (try dsimp only at hSw); (obtain ⟨t0, t1, t3, t4⟩ := HQ.out _ hSw); go_simp; (try with_reducible rfl))
          simp only [Act.put, List.setIfInBounds_toArray, List.set_cons_zero, List.set_cons_succ]
          refine anyH_take (i := 25) (d := 48) (L' := #[true, true, true, true, true, true, true, true, true, true, true, true, true, true, true, true, true, true, true, true, true, true, true, true, true, true, false, false, false, false, false, false, false, false, false, false, false, false, false, false, false]) (v := ?v70) rfl rfl (by kernel_rfl) (fun _ _ _ h => h) (by rfl) ?hy70 (by assumption) ?rest70
          case hy70 => (intro wx hSw; (try dsimp only at hSw); (obtain ⟨t0, t1, t3, t4⟩ := HQ.out _ hSw); go_simp; (try with_reducible rfl))
          simp only [Act.put, List.setIfInBounds_toArray, List.set_cons_zero, List.set_cons_succ]
          refine anyH_take (i := 26) (d := 49) (L' := #[true, true, true, true, true, true, true, true, true, true, true, true, true, true, true, true, true, true, true, true, true, true, true, true, true, true, true, false, false, false, false, false, false, false, false, false, false, false, false, false, false]) (v := ?v71) rfl rfl (by kernel_rfl) (fun _ _ _ h => h) (by rfl) ?hy71 (by assumption) ?rest71
          case hy71 => (intro wx hSw; (try dsimp only at hSw); (obtain ⟨t0, t1, t3, t4⟩ := HQ.out _ hSw); go_simp; (try with_reducible rfl))
          simp only [Act.put, List.setIfInBounds_toArray, List.set_cons_zero, List.set_cons_succ]
          refine anyH_take (i := 27) (d := 50) (L' := #[true, true, true, true, true, true, true, true, true, true, true, true, true, true, true, true, true, true, true, true, true, true, true, true, true, true, true, true, false, false, false, false, false, false, false, false, false, false, false, false, false]) (v := ?v72) rfl rfl (by kernel_rfl) (fun _ _ _ h => h) (by rfl) ?hy72 (by assumption) ?rest72
          case hy72 => (intro wx hSw; (try dsimp only at hSw); (obtain ⟨t0, t1, t3, t4⟩ := HQ.out _ hSw); go_simp; (try with_reducible rfl))
          simp only [Act.put, List.setIfInBounds_toArray, List.set_cons_zero, List.set_cons_succ]
          refine anyH_skip (i := 28) (d := 51) (L' := #[true, true, true, true, true, true, true, true, true, true, true, true, true, true, true, true, true, true, true, true, true, true, true, true, true, true, true, true, true, false, false, false, false, false, false, false, false, false, false, false, false]) rfl rfl (by kernel_rfl) (fun _ _ _ h => h) (by rfl) (by assumption) ?_
          simp only [Act.put, List.setIfInBounds_toArray, List.set_cons_zero, List.set_cons_succ]
          refine anyH_skip (i := 29) (d := 52) (L' := #[true, true, true, true, true, true, true, true, true, true, true, true, true, true, true, true, true, true, true, true, true, true, true, true, true, true, true, true, true, true, false, false, false, false, false, false, false, false, false, false, false]) rfl rfl (by kernel_rfl) (fun _ _ _ h => h) (by rfl) (by assumption) ?_
          simp only [Act.put, List.setIfInBounds_toArray, List.set_cons_zero, List.set_cons_succ]
          refine anyH_skip (i := 30) (d := 53) (L' := #[true, true, true, true, true, true, true, true, true, true, true, true, true, true, true, true, true, true, true, true, true, true, true, true, true, true, true, true, true, true, true, false, false, false, false, false, false, false, false, false, false]) rfl rfl (by kernel_rfl) (fun _ _ _ h => h) (by rfl) (by assumption) ?_
          simp only [Act.put, List.setIfInBounds_toArray, List.set_cons_zero, List.set_cons_succ]
          refine anyH_skip (i := 31) (d := 54) (L' := #[true, true, true, true, true, true, true, true, true, true, true, true, true, true, true, true, true, true, true, true, true, true, true, true, true, true, true, true, true, true, true, true, false, false, false, false, false, false, false, false, false]) rfl rfl (by kernel_rfl) (fun _ _ _ h => h) (by rfl) (by assumption) ?_
          simp only [Act.put, List.setIfInBounds_toArray, List.set_cons_zero, List.set_cons_succ]
          refine anyH_skip (i := 32) (d := 55) (L' := #[true, true, true, true, true, true, true, true, true, true, true, true, true, true, true, true, true, true, true, true, true, true, true, true, true, true, true, true, true, true, true, true, true, false, false, false, false, false, false, false, false]) rfl rfl (by kernel_rfl) (fun _ _ _ h => h) (by rfl) (by assumption) ?_
          simp only [Act.put, List.setIfInBounds_toArray, List.set_cons_zero, List.set_cons_succ]
          refine anyH_skip (i := 33) (d := 56) (L' := #[true, true, true, true, true, true, true, true, true, true, true, true, true, true, true, true, true, true, true, true, true, true, true, true, true, true, true, true, true, true, true, true, true, true, false, false, false, false, false, false, false]) rfl rfl (by kernel_rfl) (fun _ _ _ h => h) (by rfl) (by assumption) ?_
          simp only [Act.put, List.setIfInBounds_toArray, List.set_cons_zero, List.set_cons_succ]
          refine anyH_skip (i := 34) (d := 57) (L' := #[true, true, true, true, true, true, true, true, true, true, true, true, true, true, true, true, true, true, true, true, true, true, true, true, true, true, true, true, true, true, true, true, true, true, true, false, false, false, false, false, false]) rfl rfl (by kernel_rfl) (fun _ _ _ h => h) (by rfl) (by assumption) ?_
          simp only [Act.put, List.setIfInBounds_toArray, List.set_cons_zero, List.set_cons_succ]
          refine anyH_skip (i := 35) (d := 58) (L' := #[true, true, true, true, true, true, true, true, true, true, true, true, true, true, true, true, true, true, true, true, true, true, true, true, true, true, true, true, true, true, true, true, true, true, true, true, false, false, false, false, false]) rfl rfl (by kernel_rfl) (fun _ _ _ h => h) (by rfl) (by assumption) ?_
          simp only [Act.put, List.setIfInBounds_toArray, List.set_cons_zero, List.set_cons_succ]
          refine anyH_skip (i := 36) (d := 59) (L' := #[true, true, true, true, true, true, true, true, true, true, true, true, true, true, true, true, true, true, true, true, true, true, true, true, true, true, true, true, true, true, true, true, true, true, true, true, true, false, false, false, false]) rfl rfl (by kernel_rfl) (fun _ _ _ h => h) (by rfl) (by assumption) ?_
          simp only [Act.put, List.setIfInBounds_toArray, List.set_cons_zero, List.set_cons_succ]
          refine anyH_take (i := 37) (d := 60) (L' := #[true, true, true, true, true, true, true, true, true, true, true, true, true, true, true, true, true, true, true, true, true, true, true, true, true, true, true, true, true, true, true, true, true, true, true, true, true, true, false, false, false]) (v := ?v82) rfl rfl (by kernel_rfl) (fun _ _ _ h => h) (by rfl) ?hy82 (by assumption) ?rest82
          case hy82 => (intro wx hSw; (try dsimp only at hSw); (obtain ⟨t0, t1, t3, t4⟩ := HQ.out _ hSw); go_simp; (try with_reducible rfl))
          simp only [Act.put, List.setIfInBounds_toArray, List.set_cons_zero, List.set_cons_succ]
          refine anyH_take (i := 38) (d := 61) (L' := #[true, true, true, true, true, true, true, true, true, true, true, true, true, true, true, true, true, true, true, true, true, true, true, true, true, true, true, true, true, true, true, true, true, true, true, true, true, true, true, false, false]) (v := ?v83) rfl rfl (by kernel_rfl) (fun _ _ _ h => h) (by rfl) ?hy83 (by assumption) ?rest83
          case hy83 => (intro wx hSw; (try dsimp only at hSw); (obtain ⟨t0, t1, t3, t4⟩ := HQ.out _ hSw); go_simp; (try with_reducible rfl))
          simp only [Act.put, List.setIfInBounds_toArray, List.set_cons_zero, List.set_cons_succ]
          refine anyH_take (i := 39) (d := 62) (L' := #[true, true, true, true, true, true, true, true, true, true, true, true, true, true, true, true, true, true, true, true, true, true, true, true, true, true, true, true, true, true, true, true, true, true, true, true, true, true, true, true, false]) (v := ?v84) rfl rfl (by kernel_rfl) (fun _ _ _ h => h) (by rfl) ?hy84 (by assumption) ?rest84
          case hy84 => (intro wx hSw; (try dsimp only at hSw); (obtain ⟨t0, t1, t3, t4⟩ := HQ.out _ hSw); go_simp; (try with_reducible rfl))
          simp only [Act.put, List.setIfInBounds_toArray, List.set_cons_zero, List.set_cons_succ]
          refine anyH_take (i := 40) (d := 63) (L' := #[true, true, true, true, true, true, true, true, true, true, true, true, true, true, true, true, true, true, true, true, true, true, true, true, true, true, true, true, true, true, true, true, true, true, true, true, true, true, true, true, true]) (v := ?v85) rfl rfl (by kernel_rfl) (fun _ _ _ h => h) (by rfl) ?hy85 (by assumption) ?rest85
          case hy85 => (intro wx hSw; (try dsimp only at hSw); (obtain ⟨t0, t1, t3, t4⟩ := HQ.out _ hSw); go_simp; (try with_reducible rfl))
          simp only [Act.put, List.setIfInBounds_toArray, List.set_cons_zero, List.set_cons_succ]
          refine wpAnyH_done (by kernel_rfl) ?_ _
          skip
          go_wp2_with fail
          go_roundw
          case rel => exact ⟨i + 1 + 1, by go_num, by omega, hd HC.out.drew⟩
          case measure => simp [intOf]; omega
        · have g1 : decide (p.1 < q.1) = false := by rw [decide_eq_false_iff_not]; omega
          have g2 : (q.1 == p.1) = true := by rw [beq_iff_eq]; exact h1
          have g3 : decide (p.2 ≤ q.2) = false := by rw [decide_eq_false_iff_not]; omega
          clear h1 h2
          refine anyH_start (n := 41) (L := #[false, false, false, false, false, false, false, false, false, false, false, false, false, false, false, false, false, false, false, false, false, false, false, false, false, false, false, false, false, false, false, false, false, false, false, false, false, false, false, false, false]) (by kernel_rfl) (by kernel_rfl) (S := (fun wx => Chg [] w5 wx)) ((Chg.refl _ _).drew) (fun hHeld => ?_)
          refine anyH_take (i := 0) (d := 23) (L' := #[true, false, false, false, false, false, false, false, false, false, false, false, false, false, false, false, false, false, false, false, false, false, false, false, false, false, false, false, false, false, false, false, false, false, false, false, false, false, false, false, false]) (v := ?v88) rfl rfl (by kernel_rfl) (fun _ _ _ h => h) (by rfl) ?hy88 (by assumption) ?rest88
          case hy88 => (intro wx hSw; (try dsimp only at hSw); (obtain ⟨t0, t1, t3, t4⟩ := HQ.out _ hSw); go_simp; (try with_reducible rfl))
          simp only [Act.put, List.setIfInBounds_toArray, List.set_cons_zero, List.set_cons_succ]
          refine anyH_take (i := 1) (d := 24) (L' := #[true, true, false, false, false, false, false, false, false, false, false, false, false, false, false, false, false, false, false, false, false, false, false, false, false, false, false, false, false, false, false, false, false, false, false, false, false, false, false, false, false]) (v := ?v89) rfl rfl (by kernel_rfl) (fun _ _ _ h => h) (by rfl) ?hy89 (by assumption) ?rest89
          case hy89 => (intro wx hSw; (try dsimp only at hSw); (obtain ⟨t0, t1, t3, t4⟩ := HQ.out _ hSw); go_simp; (try with_reducible rfl))
          simp only [Act.put, List.setIfInBounds_toArray, List.set_cons_zero, List.set_cons_succ]
          refine anyH_take (i := 2) (d := 25) (L' := #[true, true, true, false, false, false, false, false, false, false, false, false, false, false, false, false, false, false, false, false, false, false, false, false, false, false, false, false, false, false, false, false, false, false, false, false, false, false, false, false, false]) (v := ?v90) rfl rfl (by kernel_rfl) (fun _ _ _ h => h) (by rfl) ?hy90 (by assumption) ?rest90
          case hy90 => (intro wx hSw; (try dsimp only at hSw); (have t2 := HL.out _ hSw); go_simp; (try with_reducible rfl))
          simp only [Act.put, List.setIfInBounds_toArray, List.set_cons_zero, List.set_cons_succ]
          refine anyH_take (i := 3) (d := 26) (L' := #[true, true, true, true, false, false, false, false, false, false, false, false, false, false, false, false, false, false, false, false, false, false, false, false, false, false, false, false, false, false, false, false, false, false, false, false, false, false, false, false, false]) (v := ?v91) rfl rfl (by kernel_rfl) (fun _ _ _ h => h) (by rfl) ?hy91 (by assumption) ?rest91
          case hy91 => (intro wx hSw; (try dsimp only at hSw); (obtain ⟨t0, t1, t3, t4⟩ := HQ.out _ hSw); go_simp; (try with_reducible rfl))
          simp only [Act.put, List.setIfInBounds_toArray, List.set_cons_zero, List.set_cons_succ]
          refine anyH_take (i := 4) (d := 27) (L' := #[true, true, true, true, true, false, false, false, false, false, false, false, false, false, false, false, false, false, false, false, false, false, false, false, false, false, false, false, false, false, false, false, false, false, false, false, false, false, false, false, false]) (v := ?v92) rfl rfl (by kernel_rfl) (fun _ _ _ h => h) (by rfl) ?hy92 (by assumption) ?rest92
          case hy92 => (intro wx hSw; (try dsimp only at hSw); (obtain ⟨t0, t1, t3, t4⟩ := HQ.out _ hSw); go_simp; (try with_reducible rfl))
          simp only [Act.put, List.setIfInBounds_toArray, List.set_cons_zero, List.set_cons_succ]
          refine anyH_take (i := 5) (d := 28) (L' := #[true, true, true, true, true, true, false, false, false, false, false, false, false, false, false, false, false, false, false, false, false, false, false, false, false, false, false, false, false, false, false, false, false, false, false, false, false, false, false, false, false]) (v := ?v93) rfl rfl (by kernel_rfl) (fun _ _ _ h => h) (by rfl) ?hy93 (by assumption) ?rest93
          case hy93 => (intro wx hSw; (try dsimp only at hSw); (obtain ⟨t0, t1, t3, t4⟩ := HQ.out _ hSw); go_simp; (try with_reducible rfl))
          simp only [Act.put, List.setIfInBounds_toArray, List.set_cons_zero, List.set_cons_succ]
          refine anyH_take (i := 6) (d := 29) (L' := #[true, true, true, true, true, true, true, false, false, false, false, false, false, false, false, false, false, false, false, false, false, false, false, false, false, false, false, false, false, false, false, false, false, false, false, false, false, false, false, false, false]) (v := ?v94) rfl rfl (by kernel_rfl) (fun _ _ _ h => h) (by rfl) ?hy94 (by assumption) ?rest94
          case hy94 => (intro wx hSw; (try dsimp only at hSw); (obtain ⟨t0, t1, t3, t4⟩ := HQ.out _ hSw); go_simp; (try with_reducible rfl))
          simp only [Act.put, List.setIfInBounds_toArray, List.set_cons_zero, List.set_cons_succ]
          refine anyH_take (i := 7) (d := 30) (L' := #[true, true, true, true, true, true, true, true, false, false, false, false, false, false, false, false, false, false, false, false, false, false, false, false, false, false, false, false, false, false, false, false, false, false, false, false, false, false, false, false, false]) (v := ?v95) rfl rfl (by kernel_rfl) (fun _ _ _ h => h) (by rfl) ?hy95 (by assumption) ?rest95
          case hy95 => (intro wx hSw; (try dsimp only at hSw); (obtain ⟨t0, t1, t3, t4⟩ := HQ.out _ hSw); go_simp; (try with_reducible rfl))
          simp only [Act.put, List.setIfInBounds_toArray, List.set_cons_zero, List.set_cons_succ]
          refine anyH_take (i := 8) (d := 31) (L' := #[true, true, true, true, true, true, true, true, true, false, false, false, false, false, false, false, false, false, false, false, false, false, false, false, false, false, false, false, false, false, false, false, false, false, false, false, false, false, false, false, false]) (v := ?v96) rfl rfl (by kernel_rfl) (fun _ _ _ h => h) (by rfl) ?hy96 (by assumption) ?rest96
          case hy96 => (intro wx hSw; (try dsimp only at hSw); (obtain ⟨t0, t1, t3, t4⟩ := HQ.out _ hSw); go_simp; (try with_reducible rfl))
          simp only [Act.put, List.setIfInBounds_toArray, List.set_cons_zero, List.set_cons_succ]
          refine anyH_take (i := 9) (d := 32) (L' := #[true, true, true, true, true, true, true, true, true, true, false, false, false, false, false, false, false, false, false, false, false, false, false, false, false, false, false, false, false, false, false, false, false, false, false, false, false, false, false, false, false]) (v := ?v97) rfl rfl (by kernel_rfl) (fun _ _ _ h => h) (by rfl) ?hy97 (by assumption) ?rest97
          case hy97 => (intro wx hSw; (try dsimp only at hSw); (obtain ⟨t0, t1, t3, t4⟩ := HQ.out _ hSw); go_simp; (try with_reducible rfl))
          simp only [Act.put, List.setIfInBounds_toArray, List.set_cons_zero, List.set_cons_succ]
          refine anyH_take (i := 10) (d := 33) (L' := #[true, true, true, true, true, true, true, true, true, true, true, false, false, false, false, false, false, false, false, false, false, false, false, false, false, false, false, false, false, false, false, false, false, false, false, false, false, false, false, false, false]) (v := ?v98) rfl rfl (by kernel_rfl) (fun _ _ _ h => h) (by rfl) ?hy98 (by assumption) ?rest98
          case hy98 => (intro wx hSw; (try dsimp only at hSw); (obtain ⟨t0, t1, t3, t4⟩ := HQ.out _ hSw); go_simp; (try with_reducible rfl))
          simp only [Act.put, List.setIfInBounds_toArray, List.set_cons_zero, List.set_cons_succ]
          refine anyH_take (i := 11) (d := 34) (L' := #[true, true, true, true, true, true, true, true, true, true, true, true, false, false, false, false, false, false, false, false, false, false, false, false, false, false, false, false, false, false, false, false, false, false, false, false, false, false, false, false, false]) (v := ?v99) rfl rfl (by kernel_rfl) (fun _ _ _ h => h) (by rfl) ?hy99 (by assumption) ?rest99
          case hy99 => (intro wx hSw; (try dsimp only at hSw); (obtain ⟨t0, t1, t3, t4⟩ := HQ.out _ hSw); go_simp; (try with_reducible rfl))
          simp only [Act.put, List.setIfInBounds_toArray, List.set_cons_zero, List.set_cons_succ]
          refine anyH_take (i := 12) (d := 35) (L' := #[true, true, true, true, true, true, true, true, true, true, true, true, true, false, false, false, false, false, false, false, false, false, false, false, false, false, false, false, false, false, false, false, false, false, false, false, false, false, false, false, false]) (v := ?v100) rfl rfl (by kernel_rfl) (fun _ _ _ h => h) (by rfl) ?hy100 (by assumption) ?rest100
          case hy100 => (intro wx hSw; (try dsimp only at hSw); (obtain ⟨t0, t1, t3, t4⟩ := HQ.out _ hSw); go_simp; (try with_reducible rfl))
          simp only [Act.put, List.setIfInBounds_toArray, List.set_cons_zero, List.set_cons_succ]
          refine anyH_take (i := 13) (d := 36) (L' := #[true, true, true, true, true, true, true, true, true, true, true, true, true, true, false, false, false, false, false, false, false, false, false, false, false, false, false, false, false, false, false, false, false, false, false, false, false, false, false, false, false]) (v := ?v101) rfl rfl (by kernel_rfl) (fun _ _ _ h => h) (by rfl) ?hy101 (by assumption) ?rest101
          case hy101 => (intro wx hSw; (try dsimp only at hSw); (obtain ⟨t0, t1, t3, t4⟩ := HQ.out _ hSw); go_simp; (try with_reducible rfl))
          simp only [Act.put, List.setIfInBounds_toArray, List.set_cons_zero, List.set_cons_succ]
          refine anyH_take (i := 14) (d := 37) (L' := #[true, true, true, true, true, true, true, true, true, true, true, true, true, true, true, false, false, false, false, false, false, false, false, false, false, false, false, false, false, false, false, false, false, false, false, false, false, false, false, false, false]) (v := ?v102) rfl rfl (by kernel_rfl) (fun _ _ _ h => h) (by rfl) ?hy102 (by assumption) ?rest102
          case hy102 => (intro wx hSw; (try dsimp only at hSw); (obtain ⟨t0, t1, t3, t4⟩ := HQ.out _ hSw); go_simp; (try with_reducible rfl))
          simp only [Act.put, List.setIfInBounds_toArray, List.set_cons_zero, List.set_cons_succ]
          refine anyH_take (i := 15) (d := 38) (L' := #[true, true, true, true, true, true, true, true, true, true, true, true, true, true, true, true, false, false, false, false, false, false, false, false, false, false, false, false, false, false, false, false, false, false, false, false, false, false, false, false, false]) (v := ?v103) rfl rfl (by kernel_rfl) (fun _ _ _ h => h) (by rfl) ?hy103 (by assumption) ?rest103
          case hy103 => (intro wx hSw; (try dsimp only at hSw); (obtain ⟨t0, t1, t3, t4⟩ := HQ.out _ hSw); go_simp; (try with_reducible rfl))
          simp only [Act.put, List.setIfInBounds_toArray, List.set_cons_zero, List.set_cons_succ]
          refine anyH_take (i := 16) (d := 39) (L' := #[true, true, true, true, true, true, true, true, true, true, true, true, true, true, true, true, true, false, false, false, false, false, false, false, false, false, false, false, false, false, false, false, false, false, false, false, false, false, false, false, false]) (v := ?v104) rfl rfl (by kernel_rfl) (fun _ _ _ h => h) (by rfl) ?hy104 (by assumption) ?rest104
          case hy104 => (intro wx hSw; (try dsimp only at hSw); (obtain ⟨t0, t1, t3, t4⟩ := HQ.out _ hSw); go_simp; (try with_reducible rfl))
          simp only [Act.put, List.setIfInBounds_toArray, List.set_cons_zero, List.set_cons_succ]
          refine anyH_take (i := 17) (d := 40) (L' := #[true, true, true, true, true, true, true, true, true, true, true, true, true, true, true, true, true, true, false, false, false, false, false, false, false, false, false, false, false, false, false, false, false, false, false, false, false, false, false, false, false]) (v := ?v105) rfl rfl (by kernel_rfl) (fun _ _ _ h => h) (by rfl) ?hy105 (by assumption) ?rest105
          case hy105 => (intro wx hSw; (try dsimp only at hSw); (obtain ⟨t0, t1, t3, t4⟩ := HQ.out _ hSw); go_simp; (try with_reducible rfl))
          simp only [Act.put, List.setIfInBounds_toArray, List.set_cons_zero, List.set_cons_succ]
          refine anyH_take (i := 18) (d := 41) (L' := #[true, true, true, true, true, true, true, true, true, true, true, true, true, true, true, true, true, true, true, false, false, false, false, false, false, false, false, false, false, false, false, false, false, false, false, false, false, false, false, false, false]) (v := ?v106) rfl rfl (by kernel_rfl) (fun _ _ _ h => h) (by rfl) ?hy106 (by assumption) ?rest106
          case hy106 => (intro wx hSw; (try dsimp only at hSw); (obtain ⟨t0, t1, t3, t4⟩ := HQ.out _ hSw); go_simp; (try with_reducible rfl))
          simp only [Act.put, List.setIfInBounds_toArray, List.set_cons_zero, List.set_cons_succ]
          refine anyH_take (i := 19) (d := 42) (L' := #[true, true, true, true, true, true, true, true, true, true, true, true, true, true, true, true, true, true, true, true, false, false, false, false, false, false, false, false, false, false, false, false, false, false, false, false, false, false, false, false, false]) (v := ?v107) rfl rfl (by kernel_rfl) (fun _ _ _ h => h) (by rfl) ?hy107 (by assumption) ?rest107
          case hy107 => (intro wx hSw; (try dsimp only at hSw); (obtain ⟨t0, t1, t3, t4⟩ := HQ.out _ hSw); go_simp; (try with_reducible rfl))
          simp only [Act.put, List.setIfInBounds_toArray, List.set_cons_zero, List.set_cons_succ]
          refine anyH_take (i := 20) (d := 43) (L' := #[true, true, true, true, true, true, true, true, true, true, true, true, true, true, true, true, true, true, true, true, true, false, false, false, false, false, false, false, false, false, false, false, false, false, false, false, false, false, false, false, false]) (v := ?v108) rfl rfl (by kernel_rfl) (fun _ _ _ h => h) (by rfl) ?hy108 (by assumption) ?rest108
          case hy108 => (intro wx hSw; (try dsimp only at hSw); (obtain ⟨t0, t1, t3, t4⟩ := HQ.out _ hSw); go_simp; (try with_reducible rfl))
          simp only [Act.put, List.setIfInBounds_toArray, List.set_cons_zero, List.set_cons_succ]
          refine anyH_take (i := 21) (d := 44) (L' := #[true, true, true, true, true, true, true, true, true, true, true, true, true, true, true, true, true, true, true, true, true, true, false, false, false, false, false, false, false, false, false, false, false, false, false, false, false, false, false, false, false]) (v := ?v109) rfl rfl (by kernel_rfl) (fun _ _ _ h => h) (by rfl) ?hy109 (by assumption) ?rest109
          case hy109 => (intro wx hSw; (try dsimp only at hSw); (obtain ⟨t0, t1, t3, t4⟩ := HQ.out _ hSw); go_simp; (try with_reducible rfl))
          simp only [Act.put, List.setIfInBounds_toArray, List.set_cons_zero, List.set_cons_succ]
          refine anyH_take (i := 22) (d := 45) (L' := #[true, true, true, true, true, true, true, true, true, true, true, true, true, true, true, true, true, true, true, true, true, true, true, false, false, false, false, false, false, false, false, false, false, false, false, false, false, false, false, false, false]) (v := ?v110) rfl rfl (by kernel_rfl) (fun _ _ _ h => h) (by rfl) ?hy110 (by assumption) ?rest110
          case hy110 => (intro wx hSw; (try dsimp only at hSw); (obtain ⟨t0, t1, t3, t4⟩ := HQ.out _ hSw); go_simp; (try with_reducible rfl))
          simp only [Act.put, List.setIfInBounds_toArray, List.set_cons_zero, List.set_cons_succ]
          refine anyH_take (i := 23) (d := 46) (L' := #[true, true, true, true, true, true, true, true, true, true, true, true, true, true, true, true, true, true, true, true, true, true, true, true, false, false, false, false, false, false, false, false, false, false, false, false, false, false, false, false, false]) (v := ?v111) rfl rfl (by kernel_rfl) (fun _ _ _ h => h) (by rfl) ?hy111 (by assumption) ?rest111
          case hy111 => (intro wx hSw; (try dsimp only at hSw); (obtain ⟨t0, t1, t3, t4⟩ := HQ.out _ hSw); go_simp; (try with_reducible rfl))
          simp only [Act.put, List.setIfInBounds_toArray, List.set_cons_zero, List.set_cons_succ]
          refine anyH_take (i := 24) (d := 47) (L' := #[true, true, true, true, true, true, true, true, true, true, true, true, true, true, true, true, true, true, true, true, true, true, true, true, true, false, false, false, false, false, false, false, false, false, false, false, false, false, false, false, false]) (v := ?v112) rfl rfl (by kernel_rfl) (fun _ _ _ h => h) (by rfl) ?hy112 (by assumption) ?rest112
          case hy112 => (intro wx hSw; (try dsimp only at hSw); (obtain ⟨t0, t1, t3, t4⟩ := HQ.out _ hSw); go_simp; (try with_reducible rfl))
          simp only [Act.put, List.setIfInBounds_toArray, List.set_cons_zero, List.set_cons_succ]
          refine anyH_take (i := 25) (d := 48) (L' := #[true, true, true, true, true, true, true, true, true, true, true, true, true, true, true, true, true, true, true, true, true, true, true, true, true, true, false, false, false, false, false, false, false, false, false, false, false, false, false, false, false]) (v := ?v113) rfl rfl (by kernel_rfl) (fun _ _ _ h => h) (by rfl) ?hy113 (by assumption) ?rest113
          case hy113 => (intro wx hSw; (try dsimp only at hSw); (obtain ⟨t0, t1, t3, t4⟩ := HQ.out _ hSw); go_simp; (try with_reducible rfl))
          simp only [Act.put, List.setIfInBounds_toArray, List.set_cons_zero, List.set_cons_succ]
          refine anyH_take (i := 26) (d := 49) (L' := #[true, true, true, true, true, true, true, true, true, true, true, true, true, true, true, true, true, true, true, true, true, true, true, true, true, true, true, false, false, false, false, false, false, false, false, false, false, false, false, false, false]) (v := ?v114) rfl rfl (by kernel_rfl) (fun _ _ _ h => h) (by rfl) ?hy114 (by assumption) ?rest114
          case hy114 => (intro wx hSw; (try dsimp only at hSw); (obtain ⟨t0, t1, t3, t4⟩ := HQ.out _ hSw); go_simp; (try with_reducible rfl))
          simp only [Act.put, List.setIfInBounds_toArray, List.set_cons_zero, List.set_cons_succ]
          refine anyH_take (i := 27) (d := 50) (L' := #[true, true, true, true, true, true, true, true, true, true, true, true, true, true, true, true, true, true, true, true, true, true, true, true, true, true, true, true, false, false, false, false, false, false, false, false, false, false, false, false, false]) (v := ?v115) rfl rfl (by kernel_rfl) (fun _ _ _ h => h) (by rfl) ?hy115 (by assumption) ?rest115
          case hy115 => (intro wx hSw; (try dsimp only at hSw); (obtain ⟨t0, t1, t3, t4⟩ := HQ.out _ hSw); go_simp; (try with_reducible rfl))
          simp only [Act.put, List.setIfInBounds_toArray, List.set_cons_zero, List.set_cons_succ]
          refine anyH_take (i := 28) (d := 51) (L' := #[true, true, true, true, true, true, true, true, true, true, true, true, true, true, true, true, true, true, true, true, true, true, true, true, true, true, true, true, true, false, false, false, false, false, false, false, false, false, false, false, false]) (v := ?v116) rfl rfl (by kernel_rfl) (fun _ _ _ h => h) (by rfl) ?hy116 (by assumption) ?rest116
          case hy116 => (intro wx hSw; (try dsimp only at hSw); (obtain ⟨t0, t1, t3, t4⟩ := HQ.out _ hSw); go_simp; (try with_reducible rfl))
          simp only [Act.put, List.setIfInBounds_toArray, List.set_cons_zero, List.set_cons_succ]
          refine anyH_take (i := 29) (d := 52) (L' := #[true, true, true, true, true, true, true, true, true, true, true, true, true, true, true, true, true, true, true, true, true, true, true, true, true, true, true, true, true, true, false, false, false, false, false, false, false, false, false, false, false]) (v := ?v117) rfl rfl (by kernel_rfl) (fun _ _ _ h => h) (by rfl) ?hy117 (by assumption) ?rest117
          case hy117 => (intro wx hSw; (try dsimp only at hSw); (obtain ⟨t0, t1, t3, t4⟩ := HQ.out _ hSw); go_simp; (try with_reducible rfl))
          simp only [Act.put, List.setIfInBounds_toArray, List.set_cons_zero, List.set_cons_succ]
          refine anyH_take (i := 30) (d := 53) (L' := #[true, true, true, true, true, true, true, true, true, true, true, true, true, true, true, true, true, true, true, true, true, true, true, true, true, true, true, true, true, true, true, false, false, false, false, false, false, false, false, false, false]) (v := ?v118) rfl rfl (by kernel_rfl) (fun _ _ _ h => h) (by rfl) ?hy118 (by assumption) ?rest118
          case hy118 => (intro wx hSw; (try dsimp only at hSw); (obtain ⟨t0, t1, t3, t4⟩ := HQ.out _ hSw); go_simp; (try with_reducible rfl))
          simp only [Act.put, List.setIfInBounds_toArray, List.set_cons_zero, List.set_cons_succ]
          refine anyH_take (i := 31) (d := 54) (L' := #[true, true, true, true, true, true, true, true, true, true, true, true, true, true, true, true, true, true, true, true, true, true, true, true, true, true, true, true, true, true, true, true, false, false, false, false, false, false, false, false, false]) (v := ?v119) rfl rfl (by kernel_rfl) (fun _ _ _ h => h) (by rfl) ?hy119 (by assumption) ?rest119
          case hy119 => (intro wx hSw; (try dsimp only at hSw); (obtain ⟨t0, t1, t3, t4⟩ := HQ.out _ hSw); go_simp; (try with_reducible rfl))
          simp only [Act.put, List.setIfInBounds_toArray, List.set_cons_zero, List.set_cons_succ]
          refine anyH_take (i := 32) (d := 55) (L' := #[true, true, true, true, true, true, true, true, true, true, true, true, true, true, true, true, true, true, true, true, true, true, true, true, true, true, true, true, true, true, true, true, true, false, false, false, false, false, false, false, false]) (v := ?v120) rfl rfl (by kernel_rfl) (fun _ _ _ h => h) (by rfl) ?hy120 (by assumption) ?rest120
          case hy120 => (intro wx hSw; (try dsimp only at hSw); (obtain ⟨t0, t1, t3, t4⟩ := HQ.out _ hSw); go_simp; (try with_reducible rfl))
          simp only [Act.put, List.setIfInBounds_toArray, List.set_cons_zero, List.set_cons_succ]
          refine anyH_take (i := 33) (d := 56) (L' := #[true, true, true, true, true, true, true, true, true, true, true, true, true, true, true, true, true, true, true, true, true, true, true, true, true, true, true, true, true, true, true, true, true, true, false, false, false, false, false, false, false]) (v := ?v121) rfl rfl (by kernel_rfl) (fun _ _ _ h => h) (by rfl) ?hy121 (by assumption) ?rest121
          case hy121 => (intro wx hSw; (try dsimp only at hSw); (obtain ⟨t0, t1, t3, t4⟩ := HQ.out _ hSw); go_simp; (try with_reducible rfl))
          simp only [Act.put, List.setIfInBounds_toArray, List.set_cons_zero, List.set_cons_succ]
          refine anyH_take (i := 34) (d := 57) (L' := #[true, true, true, true, true, true, true, true, true, true, true, true, true, true, true, true, true, true, true, true, true, true, true, true, true, true, true, true, true, true, true, true, true, true, true, false, false, false, false, false, false]) (v := ?v122) rfl rfl (by kernel_rfl) (fun _ _ _ h => h) (by rfl) ?hy122 (by assumption) ?rest122
          case hy122 => (intro wx hSw; (try dsimp only at hSw); (obtain ⟨t0, t1, t3, t4⟩ := HQ.out _ hSw); go_simp; (try with_reducible rfl))
          simp only [Act.put, List.setIfInBounds_toArray, List.set_cons_zero, List.set_cons_succ]
          refine anyH_take (i := 35) (d := 58) (L' := #[true, true, true, true, true, true, true, true, true, true, true, true, true, true, true, true, true, true, true, true, true, true, true, true, true, true, true, true, true, true, true, true, true, true, true, true, false, false, false, false, false]) (v := ?v123) rfl rfl (by kernel_rfl) (fun _ _ _ h => h) (by rfl) ?hy123 (by assumption) ?rest123
          case hy123 => (intro wx hSw; (try dsimp only at hSw); (obtain ⟨t0, t1, t3, t4⟩ := HQ.out _ hSw); go_simp; (try with_reducible rfl))
          simp only [Act.put, List.setIfInBounds_toArray, List.set_cons_zero, List.set_cons_succ]
          refine anyH_take (i := 36) (d := 59) (L' := #[true, true, true, true, true, true, true, true, true, true, true, true, true, true, true, true, true, true, true, true, true, true, true, true, true, true, true, true, true, true, true, true, true, true, true, true, true, false, false, false, false]) (v := ?v124) rfl rfl (by kernel_rfl) (fun _ _ _ h => h) (by rfl) ?hy124 (by assumption) ?rest124
          case hy124 => (intro wx hSw; (try dsimp only at hSw); (obtain ⟨t0, t1, t3, t4⟩ := HQ.out _ hSw); go_simp; (try with_reducible rfl))
          simp only [Act.put, List.setIfInBounds_toArray, List.set_cons_zero, List.set_cons_succ]
          refine anyH_take (i := 37) (d := 60) (L' := #[true, true, true, true, true, true, true, true, true, true, true, true, true, true, true, true, true, true, true, true, true, true, true, true, true, true, true, true, true, true, true, true, true, true, true, true, true, true, false, false, false]) (v := ?v125) rfl rfl (by kernel_rfl) (fun _ _ _ h => h) (by rfl) ?hy125 (by assumption) ?rest125
          case hy125 => (intro wx hSw; (try dsimp only at hSw); (obtain ⟨t0, t1, t3, t4⟩ := HQ.out _ hSw); go_simp; (try with_reducible rfl))
          simp only [Act.put, List.setIfInBounds_toArray, List.set_cons_zero, List.set_cons_succ]
          refine anyH_take (i := 38) (d := 61) (L' := #[true, true, true, true, true, true, true, true, true, true, true, true, true, true, true, true, true, true, true, true, true, true, true, true, true, true, true, true, true, true, true, true, true, true, true, true, true, true, true, false, false]) (v := ?v126) rfl rfl (by kernel_rfl) (fun _ _ _ h => h) (by rfl) ?hy126 (by assumption) ?rest126
          case hy126 => (intro wx hSw; (try dsimp only at hSw); (obtain ⟨t0, t1, t3, t4⟩ := HQ.out _ hSw); go_simp; (try with_reducible rfl))
          simp only [Act.put, List.setIfInBounds_toArray, List.set_cons_zero, List.set_cons_succ]
          refine anyH_take (i := 39) (d := 62) (L' := #[true, true, true, true, true, true, true, true, true, true, true, true, true, true, true, true, true, true, true, true, true, true, true, true, true, true, true, true, true, true, true, true, true, true, true, true, true, true, true, true, false]) (v := ?v127) rfl rfl (by kernel_rfl) (fun _ _ _ h => h) (by rfl) ?hy127 (by assumption) ?rest127
          case hy127 => (intro wx hSw; (try dsimp only at hSw); (obtain ⟨t0, t1, t3, t4⟩ := HQ.out _ hSw); go_simp; (try with_reducible rfl))
          simp only [Act.put, List.setIfInBounds_toArray, List.set_cons_zero, List.set_cons_succ]
          refine anyH_take (i := 40) (d := 63) (L' := #[true, true, true, true, true, true, true, true, true, true, true, true, true, true, true, true, true, true, true, true, true, true, true, true, true, true, true, true, true, true, true, true, true, true, true, true, true, true, true, true, true]) (v := ?v128) rfl rfl (by kernel_rfl) (fun _ _ _ h => h) (by rfl) ?hy128 (by assumption) ?rest128
          case hy128 => (intro wx hSw; (try dsimp only at hSw); (obtain ⟨t0, t1, t3, t4⟩ := HQ.out _ hSw); go_simp; (try with_reducible rfl))
          simp only [Act.put, List.setIfInBounds_toArray, List.set_cons_zero, List.set_cons_succ]
          refine wpAnyH_done (by kernel_rfl) ?_ _
          skip
          go_wp2_with fail
          go_roundw
          case rel => exact ⟨i + 1 + 1, by go_num, by omega, hd HC.out.drew⟩
          case measure => simp [intOf]; omega
    · obtain rfl : j = P.length := by omega
      have hlenm := (HM4.out.k hc.out).len
      rw [HCOUNT.out] at hlenm
      go_wp2_with fail
      go_ret
      exact ⟨rfl, HC4.out.k hc.out⟩
end Go.Proofs.Ytnlkeacchogmeaa

/- sweep.Item as it is read. -/
namespace Go.Proofs.Ytnlkeacchogmeaa
open Go.RowKit Go.ChangeShapes Go.WideShapes

def EItm (_ : World) (x : Itm) (c : List Value) : Prop := c = cI x
section
variable {H : Type} {enc : TypeId × Value → H} {w : World} {base : Nat} {spare : Nat → Bool} {held : Bool}
theorem trod_v {fuel : Nat} {cs : List Value} {x : DataW H × List MemPlace} (h : DataW.trod enc Try.prog w base spare held fuel 26 cs = some x) : ∃ a b : Int, cs = [.int .i64 a, .int .i64 b] := by
  obtain ⟨y0, y1, n, -, hl, h0, h1⟩ := trod_struct2 Try.underlying26 h
  rw [show Try.prog.cellsOf 26 = 2 by kernel_rfl] at hl
  simp only [show Try.prog.cellsOf 24 = 1 by kernel_rfl] at h0 h1
  obtain ⟨a, ha, -⟩ := trod_i64 (by kernel_rfl) h0
  obtain ⟨b, hb, -⟩ := trod_i64 (by kernel_rfl) h1
  match cs, hl with
  | [c0, c1], _ =>
    simp at ha hb
    exact ⟨a, b, by rw [ha, hb]⟩
theorem trod_rect {fuel : Nat} {cs : List Value} {x : DataW H × List MemPlace} (h : DataW.trod enc Try.prog w base spare held fuel 28 cs = some x) : ∃ a b c d : Int, cs = [.int .i64 a, .int .i64 b, .int .i64 c, .int .i64 d] := by
  obtain ⟨y0, y1, n, -, hl, h0, h1⟩ := trod_struct2 Try.underlying28 h
  rw [show Try.prog.cellsOf 28 = 4 by kernel_rfl] at hl
  simp only [show Try.prog.cellsOf 26 = 2 by kernel_rfl] at h0 h1
  obtain ⟨a, b, hab⟩ := trod_v h0
  obtain ⟨c, d, hcd⟩ := trod_v h1
  match cs, hl with
  | [c0, c1, c2, c3], _ =>
    simp at hab hcd
    exact ⟨a, b, c, d, by rw [hab.1, hab.2, hcd.1, hcd.2]⟩
theorem trod_item {fuel : Nat} {cs : List Value} {x : DataW H × List MemPlace} (h : DataW.trod enc Try.prog w base spare held fuel 30 cs = some x) : ∃ y, EItm w y cs := by
  obtain ⟨y0, y1, y2, n, -, hl, h0, h1, h2⟩ := Go.Deep.trod_struct3 Try.underlying30 h
  rw [show Try.prog.cellsOf 30 = 6 by kernel_rfl] at hl
  simp only [show Try.prog.cellsOf 3 = 1 by kernel_rfl, show Try.prog.cellsOf 28 = 4 by kernel_rfl, show Try.prog.cellsOf 4 = 1 by kernel_rfl] at h0 h1 h2
  obtain ⟨i, hi, -⟩ := trod_i64 (by kernel_rfl) h0
  obtain ⟨a, b, c, d, hr⟩ := trod_rect h1
  obtain ⟨s, hs, -⟩ := DataW.trod_bool (by kernel_rfl) h2
  match cs, hl with
  | [c0, c1, c2, c3, c4, c5], _ =>
    simp at hi hr hs
    exact ⟨⟨i, a, b, c, d, s⟩, by unfold EItm cI; simp only; rw [hi, hr.1, hr.2.1, hr.2.2.1, hr.2.2.2, hs]⟩
theorem open_item08 {r : Reach} {b0 : Nat} {v : Value} {d : DataW H} {ps : List MemPlace} (hv : Value.okWide Try.prog w r b0 30 v) (h : DataW.Trod enc Try.prog w base spare held 30 v d ps) : ∃ x, v = aI x := by
  obtain ⟨cs, rfl, hsz⟩ := okWide_struct Try.underlying30 hv
  obtain ⟨fuel, hf⟩ := h
  obtain ⟨y, hc⟩ := trod_item hf
  refine ⟨y, ?_⟩
  simp only [Value.cells, EItm] at hc
  rw [← Array.toArray_toList (xs := cs), hc]
  rfl
theorem rds_items {v : Value} {l : List Itm} (h : Rds EItm 6 w v l) : ItS w v l := by
  obtain ⟨css, h1, h2, h3⟩ := h
  have : css.flatten = l.flatMap cI := by
    have hcss : css = l.map cI := by
      apply List.ext_getElem
      · simp [h1]
      · intro i a b
        simp only [List.getElem_map]
        exact (h2 i (by simpa using b) a).1
    rw [hcss, List.flatMap_def]
  unfold ItS
  rw [← this]; exact h3
theorem open_items08 {v : Value} {d : DataW H} {ps : List MemPlace} (h : DataW.Trod enc Try.prog w base spare held 23 v d ps) (hs : v.cells = #[v]) : ∃ l, ItS w v l := by
  obtain ⟨fuel, hf⟩ := h
  obtain ⟨u, l, hc, hr⟩ := trod_rds (size := 6) EItm Try.underlying23 (by kernel_rfl) (by decide) (fun n cs x hx _ => trod_item hx) hf
  rw [hs] at hc
  obtain rfl : v = u := by simpa using hc
  exact ⟨l, rds_items hr⟩
end
end Go.Proofs.Ytnlkeacchogmeaa
