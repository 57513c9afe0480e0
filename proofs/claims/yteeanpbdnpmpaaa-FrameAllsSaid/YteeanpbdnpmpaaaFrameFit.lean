/- frame.One, bagatellelaw16.fit and .Laid. -/
import Derived.Test.YteeanpbdnpmpaaaFrameMath
import Derived.Test.YteeanpbdnpmpaaaKitB
import Derived.Test.YteeanpbdnpmpaaaRegKit
import Derived.OrdersHeld
import Derived.Deep.RegionHeld
namespace Go.Proofs.Yteeanpbdnpmpaaa
open Go.RowKit

def oneB (l : List UInt8) (most : Int) : Option (Int × List UInt8) :=
  match nextB l most with
  | none => none
  | some (no, p, q) => if q = l.length then some (no, p) else none
def OnePost (w : World) (r : Option (Int × List UInt8)) (e : Ending) (w' : World) : Prop :=
  match r with
  | none => e = .returned (.tuple #[.agg #[.int .i64 0, .slice none 0 0], .bool false]) ∧ Chg [] w w'
  | some (no, p) => ∃ ao c, e = .returned (.tuple #[.agg #[.int .i64 no, .slice ao p.length c], .bool true]) ∧ Bs w' (.slice ao p.length c) p ∧ Chg [] w w'

set_option maxHeartbeats 1000000 in
theorem One_any (v : Value) (l : List UInt8) (most : Int) (w : World) (hl : Bs w v l) (hlen : l.length ≤ 140737488354000) :
    Calls Try.prog 40 #[v, .int .i64 most] w (OnePost w (oneB l most)) := by
  obtain ⟨ao, cap, b, off, rfl, -⟩ := hl.open
  have hk := Blk.new w #[.int .i64 0, .slice none 0 0] 55
  have hc0 : Chg [] w (w.alloc (.cells #[.int .i64 0, .slice none 0 0] 55)) := (Chg.refl [] w).alloc _
  have hl0 := hl.stays hc0
  generalize hR : oneB l most = R
  have HR := hd hR
  clear hR
  go_enter Try.func40, Try.ntmps40
  go_wp2_with fail
  refine (Next_any _ l most _ hl0 hlen).mono ?_
  rcases hN : nextB l most with _ | ⟨no, p, q⟩
  · rintro e w1 ⟨rfl, hc1⟩
    have hR : R = none := by rw [← HR.out]; unfold oneB; rw [hN]
    clear HR
    subst hR
    have hc1' := hc0.trans hc1 (by simp)
    have hk1 := hk.chg hc1 (by simp)
    have hk1' := hk1.alloc (.cells #[.int .i64 0, .slice none 0 0] 55)
    have q0 := hk1'.cell 0
    have q1 := hk1'.cell 1
    have f0 := hk1'.free 0
    have f1 := hk1'.free 1
    have hk3 := (hk1'.set 0 (.int .i64 0)).set 1 (.slice none 0 0)
    have p0 := hk3.cell 0
    have p1 := hk3.cell 1
    simp at q0 q1 p0 p1
    clear hk hk1 hc1 hl hl0 hN
    go_wp2_with fail
    refine bodyPost_ret (v := .tuple #[.agg #[.int .i64 0, .slice none 0 0], .bool false]) ?_ rfl ?_
    · simp only [results]
      go_simp
    · refine ⟨rfl, ?_⟩
      refine Chg.setCell (Chg.setCell (hc1'.alloc _) _ _ ?_) _ _ ?_ <;> simp
  · obtain ⟨hq, -, -, -, -, -, hqle⟩ := nextB_some hN
    rintro e w1 ⟨ao1, c1, rfl, ho, hc1⟩
    have hc1' := hc0.trans hc1 (by simp)
    have hk1 := hk.chg hc1 (by simp)
    have hk1' := hk1.alloc (.cells #[.int .i64 no, .slice ao1 p.length c1] 55)
    have q0 := hk1'.cell 0
    have q1 := hk1'.cell 1
    have f0 := hk1'.free 0
    have f1 := hk1'.free 1
    simp at q0 q1
    by_cases hql : q = l.length
    · have hk3 := (hk1'.set 0 (.int .i64 no)).set 1 (.slice ao1 p.length c1)
      have p0 := hk3.cell 0
      have p1 := hk3.cell 1
      simp at p0 p1
      have HO := hd ho
      have HAP := hd (ho.apart hk1 (by decide))
      have hR : R = some (no, p) := by rw [← HR.out]; unfold oneB; rw [hN]; simp only; rw [if_pos hql]
      clear HR
      subst hR
      have hqi : (q : Int) = (l.length : Int) := by omega
      clear hk hk1 hc1 hl hl0 hN ho hql hq hqle
      go_wp2_with fail
      refine bodyPost_ret (v := .tuple #[.agg #[.int .i64 no, .slice ao1 p.length c1], .bool true]) ?_ rfl ?_
      · simp only [results]
        go_simp
      · have hap := HAP.out
        refine ⟨ao1, c1, rfl, ?_, ?_⟩
        · exact ((HO.out.bs.alloc _).setCell _ _ (fun _ => hap)).setCell _ _ (fun _ => hap)
        · refine Chg.setCell (Chg.setCell (hc1'.alloc _) _ _ ?_) _ _ ?_ <;> simp
    · have hk3 := (hk1'.set 0 (.int .i64 0)).set 1 (.slice none 0 0)
      have p0 := hk3.cell 0
      have p1 := hk3.cell 1
      simp at p0 p1
      have hR : R = none := by rw [← HR.out]; unfold oneB; rw [hN]; simp only; rw [if_neg hql]
      clear HR
      subst hR
      have hqi : ¬ (q : Int) = (l.length : Int) := by omega
      clear hk hk1 hc1 hl hl0 hN ho hql hq hqle
      go_wp2_with fail
      refine bodyPost_ret (v := .tuple #[.agg #[.int .i64 0, .slice none 0 0], .bool false]) ?_ rfl ?_
      · simp only [results]
        go_simp
      · refine ⟨rfl, ?_⟩
        refine Chg.setCell (Chg.setCell (hc1'.alloc _) _ _ ?_) _ _ ?_ <;> simp

set_option maxHeartbeats 800000 in
theorem fit16_any (w : World) : Calls Try.prog 35 #[] w fun e w' => e = .returned (.bool true) ∧ Chg [] w w' := by
  have kc := bsConst
  go_enter Try.func35, Try.ntmps35
  go_wp2_with fail
  have b1 := Bs.marked w [97, 98] #[.int .u8 97, .int .u8 98] 2 rfl rfl (by decide)
  refine (FBytes_any 7 _ [97, 98] _ b1 (by decide)).mono ?_
  rintro e w1 ⟨ao, c, rfl, h1, h2⟩
  have hc1 : Chg [] w w1 := ((Chg.refl [] w).alloc _).trans h2 (by simp)
  have hN := nextB_yes 7 [97, 98] [] 10 (by decide) (by decide) (by decide) (by decide)
  rw [List.append_nil] at hN
  have HN := hd hN
  clear hN h2 b1
  go_wp2_with fail
  refine (Next_any _ (frameB 7 [97, 98]) 10 _ h1.bs (by rw [frameB_length]; decide)).mono ?_
  rw [HN.out]
  rintro e w2 ⟨ao2, c2, rfl, ho, hc2⟩
  have hc2' := hc1.trans hc2 (by simp)
  have hb := ho.bs.alloc (.cells #[.int .i64 7, .slice ao2 ([97, 98] : List UInt8).length c2] 55)
  clear hc1 h1 hc2 HN
  go_wp2_with (refine wpStr rfl _ rfl _ _ rfl hb ?_)
  go_ret
  exact ⟨rfl, hc2'.alloc _⟩

theorem wrap_n32 (s : UInt32) : IntKind.i64.wrap (n32 s) = n32 s := by
  have h0 := n32_lo s
  have h1 := n32_hi s
  rw [IntKind.wrap_i64]; omega
section
attribute [local go_sem] strB_app wrap_n32
set_option maxHeartbeats 2000000 in
theorem Laid_any (no : Int) (v : Value) (l : List UInt8) (w : World) (hl : Bs w v l) (hlen : l.length ≤ 140737488354000) :
    Calls Try.prog 39 #[.int .i64 no, v] w fun e w' => e = .returned (.string (strB (frameB no l))) ∧ Chg [] w w' := by
  obtain ⟨ao, cap, b, off, rfl, -⟩ := hl.open
  go_enter Try.func39, Try.ntmps39
  go_wp2_with fail
  refine (num_any 4 l.length _ (by decide)).mono ?_
  rintro e w1 ⟨rfl, hc⟩
  go_wp2_with fail
  refine (num_any 8 no _ (by decide)).mono ?_
  rintro e w2 ⟨rfl, hc2⟩
  replace hc := hc.k hc2
  replace hl := hl.k hc
  clear hc2
  go_wp2_with fail
  obtain ⟨H, hH⟩ : ∃ H, H = leB 4 l.length ++ leB 8 no := ⟨_, rfl⟩
  rw [← hH]
  have HH := hd hH
  have hHl : H.length = 12 := by rw [hH]; simp
  have HHl := hd hHl
  have HL := hd hl
  have HS := hd hl.strs
  clear hH hHl
  refine anyH_start (n := 16) (L := #[false, false, false, false, false, false, false, false, false, false, false, false, false, false, false, false]) (by kernel_rfl) (by kernel_rfl) (S := (fun wx => Chg [] w2 wx)) ((Chg.refl _ _).drew) (fun hHeld => ?_)
  refine anyH_take (i := 0) (d := 12) (L' := #[true, false, false, false, false, false, false, false, false, false, false, false, false, false, false, false]) (v := ?v6) rfl rfl (by kernel_rfl) (fun _ _ _ h => h) (by rfl) ?hy6 (by assumption) ?rest6
  case hy6 => (intro wx hSw; (try dsimp only at hSw); (skip); go_simp; (try with_reducible rfl))
  simp only [Act.put, List.setIfInBounds_toArray, List.set_cons_zero, List.set_cons_succ]
  refine anyH_take (i := 1) (d := 13) (L' := #[true, true, false, false, false, false, false, false, false, false, false, false, false, false, false, false]) (v := ?v7) rfl rfl (by kernel_rfl) (fun _ _ _ h => h) (by rfl) ?hy7 (by assumption) ?rest7
  case hy7 => (intro wx hSw; (try dsimp only at hSw); (skip); go_simp; (try with_reducible rfl))
  simp only [Act.put, List.setIfInBounds_toArray, List.set_cons_zero, List.set_cons_succ]
  refine anyH_take (i := 7) (d := 19) (L' := #[true, true, false, false, false, false, false, true, false, false, false, false, false, false, false, false]) (v := ?v8) rfl rfl (by kernel_rfl) (fun _ _ _ h => h) (by rfl) ?hy8 (by assumption) ?rest8
  case hy8 => (intro wx hSw; (try dsimp only at hSw); (skip); go_simp; (try with_reducible rfl))
  simp only [Act.put, List.setIfInBounds_toArray, List.set_cons_zero, List.set_cons_succ]
  refine anyH_take (i := 8) (d := 20) (L' := #[true, true, false, false, false, false, false, true, true, false, false, false, false, false, false, false]) (v := ?v9) rfl rfl (by kernel_rfl) (fun _ _ _ h => h) (by rfl) ?hy9 (by assumption) ?rest9
  case hy9 => (intro wx hSw; (try dsimp only at hSw); (have t0 := HS.out _ hSw); go_simp; (try with_reducible rfl))
  simp only [Act.put, List.setIfInBounds_toArray, List.set_cons_zero, List.set_cons_succ]
  refine anyH_take (i := 10) (d := 22) (L' := #[true, true, false, false, false, false, false, true, true, false, true, false, false, false, false, false]) (v := ?v10) rfl rfl (by kernel_rfl) (fun _ _ _ h => h) (by rfl) ?hy10 (by assumption) ?rest10
  case hy10 => (intro wx hSw; (try dsimp only at hSw); (skip); go_simp; (try with_reducible rfl))
  simp only [Act.put, List.setIfInBounds_toArray, List.set_cons_zero, List.set_cons_succ]
  refine anyH_run (i := 2) (L' := #[true, true, true, false, false, false, false, true, true, false, true, false, false, false, false, false]) rfl (by kernel_rfl) (by rfl) (fun KK hKK => ?_)
  go_simp
  (obtain ⟨c4, w4, hr4, hb4, hc4⟩ := run_ofStr w2.drew (strB H) (by simp; have := HHl.out; omega); rw [hr4]; have hm4 := (Chg.refl [] w2).drew.k hc4; rw [strB_data] at hb4; clear hr4 hc4; try go_simp)
  refine hKK.out _ _ (by assumption) (fun hHeld => ?_)
  clear hKK KK
  try simp only [Act.put, List.setIfInBounds_toArray, List.set_cons_zero, List.set_cons_succ]
  refine anyH_run (i := 3) (L' := #[true, true, true, true, false, false, false, true, true, false, true, false, false, false, false, false]) rfl (by kernel_rfl) (by rfl) (fun KK hKK => ?_)
  go_simp
  (go_at_call 16; refine (Sum_any _ H _ hb4).mono ?_; rintro e w5 ⟨rfl, rfl⟩; try go_simp)
  refine hKK.out _ _ (by assumption) (fun hHeld => ?_)
  clear hKK KK
  try simp only [Act.put, List.setIfInBounds_toArray, List.set_cons_zero, List.set_cons_succ]
  refine anyH_run (i := 4) (L' := #[true, true, true, true, true, false, false, true, true, false, true, false, false, false, false, false]) rfl (by kernel_rfl) (by rfl) (fun KK hKK => ?_)
  go_simp
  (skip)
  refine hKK.out _ _ (by assumption) (fun hHeld => ?_)
  clear hKK KK
  try simp only [Act.put, List.setIfInBounds_toArray, List.set_cons_zero, List.set_cons_succ]
  refine anyH_run (i := 5) (L' := #[true, true, true, true, true, true, false, true, true, false, true, false, false, false, false, false]) rfl (by kernel_rfl) (by rfl) (fun KK hKK => ?_)
  go_simp
  (refine (num_any 4 _ _ (by decide)).mono ?_; rintro e w6 ⟨rfl, hc6⟩; replace hm4 := hm4.k hc6; have hq1 := HHl.out; clear hc6; try go_simp)
  refine hKK.out _ _ (by assumption) (fun hHeld => ?_)
  clear hKK KK
  try simp only [Act.put, List.setIfInBounds_toArray, List.set_cons_zero, List.set_cons_succ]
  refine anyH_take (i := 6) (d := 18) (L' := #[true, true, true, true, true, true, true, true, true, false, true, false, false, false, false, false]) (v := ?v15) rfl rfl (by kernel_rfl) (fun _ _ _ h => h) (by rfl) ?hy15 (by assumption) ?rest15
  case hy15 => (intro wx hSw; (try dsimp only at hSw); (skip); go_simp; (try with_reducible rfl))
  simp only [Act.put, List.setIfInBounds_toArray, List.set_cons_zero, List.set_cons_succ]
  refine anyH_take (i := 9) (d := 21) (L' := #[true, true, true, true, true, true, true, true, true, true, true, false, false, false, false, false]) (v := ?v16) rfl rfl (by kernel_rfl) (fun _ _ _ h => h) (by rfl) ?hy16 (by assumption) ?rest16
  case hy16 => (intro wx hSw; (try dsimp only at hSw); (have hq2 : ¬ 9223372036854775807 < 16 + l.length := by omega); go_simp; (try with_reducible rfl))
  simp only [Act.put, List.setIfInBounds_toArray, List.set_cons_zero, List.set_cons_succ]
  refine anyH_run (i := 11) (L' := #[true, true, true, true, true, true, true, true, true, true, true, true, false, false, false, false]) rfl (by kernel_rfl) (by rfl) (fun KK hKK => ?_)
  go_simp
  (go_at_call 16; refine (Sum_any _ l _ (HL.out.k hm4)).mono ?_; rintro e w7 ⟨rfl, rfl⟩; try go_simp)
  refine hKK.out _ _ (by assumption) (fun hHeld => ?_)
  clear hKK KK
  try simp only [Act.put, List.setIfInBounds_toArray, List.set_cons_zero, List.set_cons_succ]
  refine anyH_run (i := 12) (L' := #[true, true, true, true, true, true, true, true, true, true, true, true, true, false, false, false]) rfl (by kernel_rfl) (by rfl) (fun KK hKK => ?_)
  go_simp
  (skip)
  refine hKK.out _ _ (by assumption) (fun hHeld => ?_)
  clear hKK KK
  try simp only [Act.put, List.setIfInBounds_toArray, List.set_cons_zero, List.set_cons_succ]
  refine anyH_run (i := 13) (L' := #[true, true, true, true, true, true, true, true, true, true, true, true, true, true, false, false]) rfl (by kernel_rfl) (by rfl) (fun KK hKK => ?_)
  go_simp
  (refine (num_any 4 _ _ (by decide)).mono ?_; rintro e w8 ⟨rfl, hc8⟩; replace hm4 := hm4.k hc8; clear hc8; try go_simp)
  refine hKK.out _ _ (by assumption) (fun hHeld => ?_)
  clear hKK KK
  try simp only [Act.put, List.setIfInBounds_toArray, List.set_cons_zero, List.set_cons_succ]
  refine anyH_take (i := 14) (d := 26) (L' := #[true, true, true, true, true, true, true, true, true, true, true, true, true, true, true, false]) (v := ?v20) rfl rfl (by kernel_rfl) (fun _ _ _ h => h) (by rfl) ?hy20 (by assumption) ?rest20
  case hy20 => (intro wx hSw; (try dsimp only at hSw); (have hq2 : ¬ 9223372036854775807 < 12 + (4 + l.length) + 4 := by omega); go_simp; (try with_reducible rfl))
  simp only [Act.put, List.setIfInBounds_toArray, List.set_cons_zero, List.set_cons_succ]
  refine anyH_run (i := 15) (L' := #[true, true, true, true, true, true, true, true, true, true, true, true, true, true, true, true]) rfl (by kernel_rfl) (by rfl) (fun KK hKK => ?_)
  go_simp
  (skip)
  refine hKK.out _ _ (by assumption) (fun hHeld => ?_)
  clear hKK KK
  try simp only [Act.put, List.setIfInBounds_toArray, List.set_cons_zero, List.set_cons_succ]
  refine wpAnyH_done (by kernel_rfl) ?_ _
  go_wp2_with fail
  go_ret
  exact ⟨ret_of (congrArg (fun z => Value.string (strB z)) (by unfold frameB; rw [← HH.out]; simp [sealB, le4, List.append_assoc])), hc.k hm4⟩
end
end Go.Proofs.Yteeanpbdnpmpaaa
