/- FrameAny: for every input the law returns true. -/
import Derived.Test.YteeanpbdnpmpaaaFrameFit
namespace Go.Proofs.Yteeanpbdnpmpaaa
open Go.RowKit

set_option maxRecDepth 100000 in
set_option maxHeartbeats 2000000 in
theorem FrameAny_law (v0 : Value) (l0 : List UInt8) (most : Int) (w : World) (h0 : Bs w v0 l0) (_hl0 : l0.length ≤ 140737488351232) (_lo : -9223372036854775808 ≤ most) (_hi : most ≤ 9223372036854775807) :
    Calls Try.prog 10 #[v0, .int .i64 most] w fun e w' => e = .returned (.bool true) ∧ Chg [] w w' := by
  obtain ⟨ao0, cap0, b0, off0, rfl, -⟩ := h0.open
  go_enter Try.func10, Try.ntmps10
  go_wp2_with fail
  refine (fit16_any _).mono ?_
  rintro e w1 ⟨rfl, hc1⟩
  by_cases hbig : 2000 < (l0.length : Int)
  · go_wp2_with fail
    go_ret
    exact ⟨rfl, hc1⟩
  have g0 := h0.stays hc1
  go_wp2_with fail
  refine (Next_any _ l0 most _ g0 (by omega)).mono ?_
  rcases hN : nextB l0 most with _ | ⟨no, p, q⟩
  · rintro e w2 ⟨rfl, hc2⟩
    have hc2' := hc1.trans hc2 (by simp)
    clear hN g0 hc1 hc2 h0
    go_wp2_with fail
    go_ret
    exact ⟨rfl, hc2'.alloc _⟩
  · obtain ⟨hq, hm, hn0, hn1, hpl, ht, hqle⟩ := nextB_some hN
    rintro e w2 ⟨ao2, c2, rfl, ho, hc2⟩
    have hc2' := hc1.trans hc2 (by simp)
    have hg2 := g0.stays hc2
    clear hN g0 hc1 hc2 h0
    have Hq := hd hq
    have Ht := hd ht
    have Hpl := hd hpl
    clear hq ht hpl
    go_wp2_with fail
    have hk := Blk.new w2 #[.int .i64 no, .slice ao2 p.length c2] 55
    have hc3 := hc2'.alloc (.cells #[.int .i64 no, .slice ao2 p.length c2] 55)
    have hp3 := ho.bs.alloc (.cells #[.int .i64 no, .slice ao2 p.length c2] 55)
    have hg3 := hg2.alloc (.cells #[.int .i64 no, .slice ao2 p.length c2] 55)
    generalize w2.alloc (.cells #[.int .i64 no, .slice ao2 p.length c2] 55) = w3 at *
    have q0 := hk.cell 0
    have q1 := hk.cell 1
    simp at q0 q1
    obtain ⟨ao4, c4, hcut, hb4, -⟩ := run_cutB hg3 (lo := none) (hi := some (.int .i64 (q : Int))) (.inl ⟨rfl, rfl⟩) (.inr ⟨.i64, rfl⟩) (Nat.zero_le q) hqle
    rw [List.drop_zero, Nat.sub_zero, Ht.out] at hb4
    rw [Nat.sub_zero] at hcut
    have s4 := hb4.strs
    have hql : (q : Int) ≤ (l0.length : Int) := by omega
    have HK := hd hk
    have HQ0 := hd q0
    have HQ1 := hd q1
    have Hcut := hd hcut
    have Hs4 := hd s4
    have HP := hd hp3
    clear hk q0 q1 hcut s4 hb4 hg3 hg2 ho hp3 hc2' hqle
    refine anyH_start (n := 30) (L := #[false, false, false, false, false, false, false, false, false, false, false, false, false, false, false, false, false, false, false, false, false, false, false, false, false, false, false, false, false, false]) (by kernel_rfl) (by kernel_rfl) (S := (fun wx => Chg [] w3 wx)) ((Chg.refl _ _).drew) (fun hHeld => ?_)
    refine anyH_take (i := 0) (d := 35) (L' := #[true, false, false, false, false, false, false, false, false, false, false, false, false, false, false, false, false, false, false, false, false, false, false, false, false, false, false, false, false, false]) (v := ?v2) rfl rfl (by kernel_rfl) (fun _ _ _ h => h) (by rfl) ?hy2 (by assumption) ?rest2
    case hy2 => (intro wx hSw; (try dsimp only at hSw); (have t0 := Chg.cellS hSw HQ0.out; have t1 := Chg.cellS hSw HQ1.out; have t2 := Hcut.out); go_simp; (try with_reducible rfl))
    simp only [Act.put, List.setIfInBounds_toArray, List.set_cons_zero, List.set_cons_succ]
    refine anyH_take (i := 1) (d := 36) (L' := #[true, true, false, false, false, false, false, false, false, false, false, false, false, false, false, false, false, false, false, false, false, false, false, false, false, false, false, false, false, false]) (v := ?v3) rfl rfl (by kernel_rfl) (fun _ _ _ h => h) (by rfl) ?hy3 (by assumption) ?rest3
    case hy3 => (intro wx hSw; (try dsimp only at hSw); (have t0 := Chg.cellS hSw HQ0.out; have t1 := Chg.cellS hSw HQ1.out; have t2 := Hcut.out); go_simp; (try with_reducible rfl))
    simp only [Act.put, List.setIfInBounds_toArray, List.set_cons_zero, List.set_cons_succ]
    refine anyH_take (i := 2) (d := 37) (L' := #[true, true, true, false, false, false, false, false, false, false, false, false, false, false, false, false, false, false, false, false, false, false, false, false, false, false, false, false, false, false]) (v := ?v4) rfl rfl (by kernel_rfl) (fun _ _ _ h => h) (by rfl) ?hy4 (by assumption) ?rest4
    case hy4 => (intro wx hSw; (try dsimp only at hSw); (have t0 := Chg.cellS hSw HQ0.out; have t1 := Chg.cellS hSw HQ1.out; have t2 := Hcut.out); go_simp; (try with_reducible rfl))
    simp only [Act.put, List.setIfInBounds_toArray, List.set_cons_zero, List.set_cons_succ]
    refine anyH_take (i := 3) (d := 38) (L' := #[true, true, true, true, false, false, false, false, false, false, false, false, false, false, false, false, false, false, false, false, false, false, false, false, false, false, false, false, false, false]) (v := ?v5) rfl rfl (by kernel_rfl) (fun _ _ _ h => h) (by rfl) ?hy5 (by assumption) ?rest5
    case hy5 => (intro wx hSw; (try dsimp only at hSw); (have t0 := Chg.cellS hSw HQ0.out; have t1 := Chg.cellS hSw HQ1.out; have t2 := Hcut.out); go_simp; (try with_reducible rfl))
    simp only [Act.put, List.setIfInBounds_toArray, List.set_cons_zero, List.set_cons_succ]
    refine anyH_take (i := 4) (d := 39) (L' := #[true, true, true, true, true, false, false, false, false, false, false, false, false, false, false, false, false, false, false, false, false, false, false, false, false, false, false, false, false, false]) (v := ?v6) rfl rfl (by kernel_rfl) (fun _ _ _ h => h) (by rfl) ?hy6 (by assumption) ?rest6
    case hy6 => (intro wx hSw; (try dsimp only at hSw); (have t0 := Chg.cellS hSw HQ0.out; have t1 := Chg.cellS hSw HQ1.out; have t2 := Hcut.out); go_simp; (try with_reducible rfl))
    simp only [Act.put, List.setIfInBounds_toArray, List.set_cons_zero, List.set_cons_succ]
    refine anyH_take (i := 5) (d := 40) (L' := #[true, true, true, true, true, true, false, false, false, false, false, false, false, false, false, false, false, false, false, false, false, false, false, false, false, false, false, false, false, false]) (v := ?v7) rfl rfl (by kernel_rfl) (fun _ _ _ h => h) (by rfl) ?hy7 (by assumption) ?rest7
    case hy7 => (intro wx hSw; (try dsimp only at hSw); (have t0 := Chg.cellS hSw HQ0.out; have t1 := Chg.cellS hSw HQ1.out; have t2 := Hcut.out); go_simp; (try with_reducible rfl))
    simp only [Act.put, List.setIfInBounds_toArray, List.set_cons_zero, List.set_cons_succ]
    refine anyH_take (i := 6) (d := 41) (L' := #[true, true, true, true, true, true, true, false, false, false, false, false, false, false, false, false, false, false, false, false, false, false, false, false, false, false, false, false, false, false]) (v := ?v8) rfl rfl (by kernel_rfl) (fun _ _ _ h => h) (by rfl) ?hy8 (by assumption) ?rest8
    case hy8 => (intro wx hSw; (try dsimp only at hSw); (have t0 := Chg.cellS hSw HQ0.out; have t1 := Chg.cellS hSw HQ1.out; have t2 := Hcut.out); go_simp; (try with_reducible rfl))
    simp only [Act.put, List.setIfInBounds_toArray, List.set_cons_zero, List.set_cons_succ]
    refine anyH_take (i := 7) (d := 42) (L' := #[true, true, true, true, true, true, true, true, false, false, false, false, false, false, false, false, false, false, false, false, false, false, false, false, false, false, false, false, false, false]) (v := ?v9) rfl rfl (by kernel_rfl) (fun _ _ _ h => h) (by rfl) ?hy9 (by assumption) ?rest9
    case hy9 => (intro wx hSw; (try dsimp only at hSw); (have t0 := Chg.cellS hSw HQ0.out; have t1 := Chg.cellS hSw HQ1.out; have t2 := Hcut.out); go_simp; (try with_reducible rfl))
    simp only [Act.put, List.setIfInBounds_toArray, List.set_cons_zero, List.set_cons_succ]
    refine anyH_take (i := 8) (d := 43) (L' := #[true, true, true, true, true, true, true, true, true, false, false, false, false, false, false, false, false, false, false, false, false, false, false, false, false, false, false, false, false, false]) (v := ?v10) rfl rfl (by kernel_rfl) (fun _ _ _ h => h) (by rfl) ?hy10 (by assumption) ?rest10
    case hy10 => (intro wx hSw; (try dsimp only at hSw); (have t0 := Chg.cellS hSw HQ0.out; have t1 := Chg.cellS hSw HQ1.out; have t2 := Hcut.out); go_simp; (try with_reducible rfl))
    simp only [Act.put, List.setIfInBounds_toArray, List.set_cons_zero, List.set_cons_succ]
    refine anyH_take (i := 9) (d := 44) (L' := #[true, true, true, true, true, true, true, true, true, true, false, false, false, false, false, false, false, false, false, false, false, false, false, false, false, false, false, false, false, false]) (v := ?v11) rfl rfl (by kernel_rfl) (fun _ _ _ h => h) (by rfl) ?hy11 (by assumption) ?rest11
    case hy11 => (intro wx hSw; (try dsimp only at hSw); (have t0 := Chg.cellS hSw HQ0.out; have t1 := Chg.cellS hSw HQ1.out; have t2 := Hcut.out); go_simp; (try with_reducible rfl))
    simp only [Act.put, List.setIfInBounds_toArray, List.set_cons_zero, List.set_cons_succ]
    refine anyH_take (i := 10) (d := 45) (L' := #[true, true, true, true, true, true, true, true, true, true, true, false, false, false, false, false, false, false, false, false, false, false, false, false, false, false, false, false, false, false]) (v := ?v12) rfl rfl (by kernel_rfl) (fun _ _ _ h => h) (by rfl) ?hy12 (by assumption) ?rest12
    case hy12 => (intro wx hSw; (try dsimp only at hSw); (have t0 := Chg.cellS hSw HQ0.out; have t1 := Chg.cellS hSw HQ1.out; have t2 := Hcut.out); go_simp; (try with_reducible rfl))
    simp only [Act.put, List.setIfInBounds_toArray, List.set_cons_zero, List.set_cons_succ]
    refine anyH_take (i := 11) (d := 46) (L' := #[true, true, true, true, true, true, true, true, true, true, true, true, false, false, false, false, false, false, false, false, false, false, false, false, false, false, false, false, false, false]) (v := ?v13) rfl rfl (by kernel_rfl) (fun _ _ _ h => h) (by rfl) ?hy13 (by assumption) ?rest13
    case hy13 => (intro wx hSw; (try dsimp only at hSw); (have t0 := Chg.cellS hSw HQ0.out; have t1 := Chg.cellS hSw HQ1.out; have t2 := Hcut.out); go_simp; (try with_reducible rfl))
    simp only [Act.put, List.setIfInBounds_toArray, List.set_cons_zero, List.set_cons_succ]
    refine anyH_take (i := 12) (d := 47) (L' := #[true, true, true, true, true, true, true, true, true, true, true, true, true, false, false, false, false, false, false, false, false, false, false, false, false, false, false, false, false, false]) (v := ?v14) rfl rfl (by kernel_rfl) (fun _ _ _ h => h) (by rfl) ?hy14 (by assumption) ?rest14
    case hy14 => (intro wx hSw; (try dsimp only at hSw); (have t0 := Chg.cellS hSw HQ0.out; have t1 := Chg.cellS hSw HQ1.out; have t2 := Hcut.out); go_simp; (try with_reducible rfl))
    simp only [Act.put, List.setIfInBounds_toArray, List.set_cons_zero, List.set_cons_succ]
    refine anyH_take (i := 13) (d := 48) (L' := #[true, true, true, true, true, true, true, true, true, true, true, true, true, true, false, false, false, false, false, false, false, false, false, false, false, false, false, false, false, false]) (v := ?v15) rfl rfl (by kernel_rfl) (fun _ _ _ h => h) (by rfl) ?hy15 (by assumption) ?rest15
    case hy15 => (intro wx hSw; (try dsimp only at hSw); (have t0 := Chg.cellS hSw HQ0.out; have t1 := Chg.cellS hSw HQ1.out; have t2 := Hcut.out); go_simp; (try with_reducible rfl))
    simp only [Act.put, List.setIfInBounds_toArray, List.set_cons_zero, List.set_cons_succ]
    refine anyH_take (i := 14) (d := 49) (L' := #[true, true, true, true, true, true, true, true, true, true, true, true, true, true, true, false, false, false, false, false, false, false, false, false, false, false, false, false, false, false]) (v := ?v16) rfl rfl (by kernel_rfl) (fun _ _ _ h => h) (by rfl) ?hy16 (by assumption) ?rest16
    case hy16 => (intro wx hSw; (try dsimp only at hSw); (have t0 := Chg.cellS hSw HQ0.out; have t1 := Chg.cellS hSw HQ1.out; have t2 := Hcut.out); go_simp; (try with_reducible rfl))
    simp only [Act.put, List.setIfInBounds_toArray, List.set_cons_zero, List.set_cons_succ]
    refine anyH_take (i := 15) (d := 50) (L' := #[true, true, true, true, true, true, true, true, true, true, true, true, true, true, true, true, false, false, false, false, false, false, false, false, false, false, false, false, false, false]) (v := ?v17) rfl rfl (by kernel_rfl) (fun _ _ _ h => h) (by rfl) ?hy17 (by assumption) ?rest17
    case hy17 => (intro wx hSw; (try dsimp only at hSw); (have t0 := Chg.cellS hSw HQ0.out; have t1 := Chg.cellS hSw HQ1.out; have t2 := Hcut.out); go_simp; (try with_reducible rfl))
    simp only [Act.put, List.setIfInBounds_toArray, List.set_cons_zero, List.set_cons_succ]
    refine anyH_take (i := 16) (d := 51) (L' := #[true, true, true, true, true, true, true, true, true, true, true, true, true, true, true, true, true, false, false, false, false, false, false, false, false, false, false, false, false, false]) (v := ?v18) rfl rfl (by kernel_rfl) (fun _ _ _ h => h) (by rfl) ?hy18 (by assumption) ?rest18
    case hy18 => (intro wx hSw; (try dsimp only at hSw); (have t0 := Chg.cellS hSw HQ0.out; have t1 := Chg.cellS hSw HQ1.out; have t2 := Hcut.out); go_simp; (try with_reducible rfl))
    simp only [Act.put, List.setIfInBounds_toArray, List.set_cons_zero, List.set_cons_succ]
    refine anyH_take (i := 17) (d := 52) (L' := #[true, true, true, true, true, true, true, true, true, true, true, true, true, true, true, true, true, true, false, false, false, false, false, false, false, false, false, false, false, false]) (v := ?v19) rfl rfl (by kernel_rfl) (fun _ _ _ h => h) (by rfl) ?hy19 (by assumption) ?rest19
    case hy19 => (intro wx hSw; (try dsimp only at hSw); (have t0 := Chg.cellS hSw HQ0.out; have t1 := Chg.cellS hSw HQ1.out; have t2 := Hcut.out); go_simp; (try with_reducible rfl))
    simp only [Act.put, List.setIfInBounds_toArray, List.set_cons_zero, List.set_cons_succ]
    refine anyH_take (i := 18) (d := 53) (L' := #[true, true, true, true, true, true, true, true, true, true, true, true, true, true, true, true, true, true, true, false, false, false, false, false, false, false, false, false, false, false]) (v := ?v20) rfl rfl (by kernel_rfl) (fun _ _ _ h => h) (by rfl) ?hy20 (by assumption) ?rest20
    case hy20 => (intro wx hSw; (try dsimp only at hSw); (have t0 := Chg.cellS hSw HQ0.out; have t1 := Chg.cellS hSw HQ1.out; have t2 := Hcut.out); go_simp; (try with_reducible rfl))
    simp only [Act.put, List.setIfInBounds_toArray, List.set_cons_zero, List.set_cons_succ]
    refine anyH_take (i := 19) (d := 54) (L' := #[true, true, true, true, true, true, true, true, true, true, true, true, true, true, true, true, true, true, true, true, false, false, false, false, false, false, false, false, false, false]) (v := ?v21) rfl rfl (by kernel_rfl) (fun _ _ _ h => h) (by rfl) ?hy21 (by assumption) ?rest21
    case hy21 => (intro wx hSw; (try dsimp only at hSw); (have t0 := Chg.cellS hSw HQ0.out; have t1 := Chg.cellS hSw HQ1.out; have t2 := Hcut.out); go_simp; (try with_reducible rfl))
    simp only [Act.put, List.setIfInBounds_toArray, List.set_cons_zero, List.set_cons_succ]
    refine anyH_take (i := 20) (d := 55) (L' := #[true, true, true, true, true, true, true, true, true, true, true, true, true, true, true, true, true, true, true, true, true, false, false, false, false, false, false, false, false, false]) (v := ?v22) rfl rfl (by kernel_rfl) (fun _ _ _ h => h) (by rfl) ?hy22 (by assumption) ?rest22
    case hy22 => (intro wx hSw; (try dsimp only at hSw); (have t0 := Chg.cellS hSw HQ0.out; have t1 := Chg.cellS hSw HQ1.out; have t2 := Hcut.out); go_simp; (try with_reducible rfl))
    simp only [Act.put, List.setIfInBounds_toArray, List.set_cons_zero, List.set_cons_succ]
    refine anyH_take (i := 23) (d := 58) (L' := #[true, true, true, true, true, true, true, true, true, true, true, true, true, true, true, true, true, true, true, true, true, false, false, true, false, false, false, false, false, false]) (v := ?v23) rfl rfl (by kernel_rfl) (fun _ _ _ h => h) (by rfl) ?hy23 (by assumption) ?rest23
    case hy23 => (intro wx hSw; (try dsimp only at hSw); (have t0 := Chg.cellS hSw HQ0.out; have t1 := Chg.cellS hSw HQ1.out; have t2 := Hcut.out); go_simp; (try with_reducible rfl))
    simp only [Act.put, List.setIfInBounds_toArray, List.set_cons_zero, List.set_cons_succ]
    refine anyH_take (i := 24) (d := 59) (L' := #[true, true, true, true, true, true, true, true, true, true, true, true, true, true, true, true, true, true, true, true, true, false, false, true, true, false, false, false, false, false]) (v := ?v24) rfl rfl (by kernel_rfl) (fun _ _ _ h => h) (by rfl) ?hy24 (by assumption) ?rest24
    case hy24 => (intro wx hSw; (try dsimp only at hSw); (have t0 := Chg.cellS hSw HQ0.out; have t1 := Chg.cellS hSw HQ1.out; have t2 := Hcut.out); go_simp; (try with_reducible rfl))
    simp only [Act.put, List.setIfInBounds_toArray, List.set_cons_zero, List.set_cons_succ]
    refine anyH_take (i := 25) (d := 60) (L' := #[true, true, true, true, true, true, true, true, true, true, true, true, true, true, true, true, true, true, true, true, true, false, false, true, true, true, false, false, false, false]) (v := ?v25) rfl rfl (by kernel_rfl) (fun _ _ _ h => h) (by rfl) ?hy25 (by assumption) ?rest25
    case hy25 => (intro wx hSw; (try dsimp only at hSw); (have t0 := Chg.cellS hSw HQ0.out; have t1 := Chg.cellS hSw HQ1.out; have t2 := Hcut.out); go_simp; (try with_reducible rfl))
    simp only [Act.put, List.setIfInBounds_toArray, List.set_cons_zero, List.set_cons_succ]
    refine anyH_take (i := 26) (d := 61) (L' := #[true, true, true, true, true, true, true, true, true, true, true, true, true, true, true, true, true, true, true, true, true, false, false, true, true, true, true, false, false, false]) (v := ?v26) rfl rfl (by kernel_rfl) (fun _ _ _ h => h) (by rfl) ?hy26 (by assumption) ?rest26
    case hy26 => (intro wx hSw; (try dsimp only at hSw); (have t4 := Hs4.out _ hSw); go_simp; (try with_reducible rfl))
    simp only [Act.put, List.setIfInBounds_toArray, List.set_cons_zero, List.set_cons_succ]
    refine anyH_run (i := 21) (L' := #[true, true, true, true, true, true, true, true, true, true, true, true, true, true, true, true, true, true, true, true, true, true, false, true, true, true, true, false, false, false]) rfl (by kernel_rfl) (by rfl) (fun KK hKK => ?_)
    go_simp
    (go_at_call 37; refine (FBytes_any no _ p _ (HP.out.stays ((Chg.refl _ _).drew)) (by have := Hpl.out; omega)).mono ?_; rintro e w4 ⟨ao5, c5, rfl, ho5, hc5⟩; have s5 := run_str ho5.bs; have hm := (Chg.refl [] w3).drew.trans hc5 (by simp); clear ho5 hc5; try go_simp)
    refine hKK.out _ _ (by assumption) (fun hHeld => ?_)
    clear hKK KK
    try simp only [Act.put, List.setIfInBounds_toArray, List.set_cons_zero, List.set_cons_succ]
    refine anyH_run (i := 22) (L' := #[true, true, true, true, true, true, true, true, true, true, true, true, true, true, true, true, true, true, true, true, true, true, true, true, true, true, true, false, false, false]) rfl (by kernel_rfl) (by rfl) (fun KK hKK => ?_)
    go_simp
    (skip)
    refine hKK.out _ _ (by assumption) (fun hHeld => ?_)
    clear hKK KK
    try simp only [Act.put, List.setIfInBounds_toArray, List.set_cons_zero, List.set_cons_succ]
    refine anyH_run (i := 27) (L' := #[true, true, true, true, true, true, true, true, true, true, true, true, true, true, true, true, true, true, true, true, true, true, true, true, true, true, true, true, false, false]) rfl (by kernel_rfl) (by rfl) (fun KK hKK => ?_)
    go_simp
    (skip)
    refine hKK.out _ _ (by assumption) (fun hHeld => ?_)
    clear hKK KK
    try simp only [Act.put, List.setIfInBounds_toArray, List.set_cons_zero, List.set_cons_succ]
    refine anyH_run (i := 28) (L' := #[true, true, true, true, true, true, true, true, true, true, true, true, true, true, true, true, true, true, true, true, true, true, true, true, true, true, true, true, true, false]) rfl (by kernel_rfl) (by rfl) (fun KK hKK => ?_)
    go_simp
    (skip)
    refine hKK.out _ _ (by assumption) (fun hHeld => ?_)
    clear hKK KK
    try simp only [Act.put, List.setIfInBounds_toArray, List.set_cons_zero, List.set_cons_succ]
    refine anyH_run (i := 29) (L' := #[true, true, true, true, true, true, true, true, true, true, true, true, true, true, true, true, true, true, true, true, true, true, true, true, true, true, true, true, true, true]) rfl (by kernel_rfl) (by rfl) (fun KK hKK => ?_)
    go_simp
    (skip)
    refine hKK.out _ _ (by assumption) (fun hHeld => ?_)
    clear hKK KK
    try simp only [Act.put, List.setIfInBounds_toArray, List.set_cons_zero, List.set_cons_succ]
    refine wpAnyH_done (by kernel_rfl) ?_ _
    go_wp2_with fail
    go_ret
    exact ⟨rfl, hc3.trans (by assumption) (by simp)⟩
end Go.Proofs.Yteeanpbdnpmpaaa
