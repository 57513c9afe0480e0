/- Words and walks that Apart rests on: WorldJ. -/
import Derived.Test.YtpadflhffiiglaaGreatWApart38
import Derived.Laws.StructEq
/- Joints and contacts compared. -/
namespace Go.Proofs.YtpadflhffiiglaaGreat
open Go.RowKit

theorem exec_neq {P : Program} {o : Oper} {a : Act} {t ty2 : TypeId} {x y : Operand} {xs ys : Array Value} {r : Value} {w : World} (ho : o.op = .binOp .neq t x y ty2) (hx : a.eval x = .agg xs) (hy : a.eval y = .agg ys) (hm : P.eqGuardType P.depth t = false)
    (hr : (binOp .neq t (.agg xs) (.agg ys)).run P w = .ok r w) : (execOp a.eval o).run P w = .ok (.value r) w := by
  unfold execOp
  simp only [ho, hx, hy, Sem.run_bind, Sem.run_pure, Result.andThen_ok, run_eqGuard_agg w .neq t x y xs ys hm, hr]

set_option maxRecDepth 100000 in
set_option maxHeartbeats 2000000 in
theorem neqJ_run (x y : Jnt) (w : World) : (binOp .neq 67 (.agg (cJt x).toArray) (.agg (cJt y).toArray)).run Tryz.prog w = .ok (.bool (!(x.id == y.id && x.a == y.a && x.b == y.b && x.at_.1 == y.at_.1 && x.at_.2 == y.at_.2 && x.to_.1 == y.to_.1 && x.to_.2 == y.to_.2 && x.len == y.len))) w := by
  obtain ⟨i, a, b, ⟨ax, ay⟩, ⟨tx, ty⟩, le⟩ := x
  obtain ⟨i2, a2, b2, ⟨ax2, ay2⟩, ⟨tx2, ty2⟩, le2⟩ := y
  unfold cJt
  simp only
  generalize he0 : (i == i2) = e0
  generalize he1 : (a == a2) = e1
  generalize he2 : (b == b2) = e2
  generalize he3 : (ax == ax2) = e3
  generalize he4 : (ay == ay2) = e4
  generalize he5 : (tx == tx2) = e5
  generalize he6 : (ty == ty2) = e6
  generalize he7 : (le == le2) = e7
  cases e0 with
  | false => go_simp
  | true =>
    cases e1 with
    | false => go_simp
    | true =>
      cases e2 with
      | false => go_simp
      | true =>
        cases e3 with
        | false => go_simp
        | true =>
          cases e4 with
          | false => go_simp
          | true =>
            cases e5 with
            | false => go_simp
            | true =>
              cases e6 with
              | false => go_simp
              | true =>
                cases e7 with
                | false => go_simp
                | true =>
                  go_simp
theorem neqJ_eq (x y : Jnt) : (x.id == y.id && x.a == y.a && x.b == y.b && x.at_.1 == y.at_.1 && x.at_.2 == y.at_.2 && x.to_.1 == y.to_.1 && x.to_.2 == y.to_.2 && x.len == y.len) = true ↔ x = y := by
  obtain ⟨i, a, b, ⟨ax, ay⟩, ⟨tx, ty⟩, le⟩ := x
  obtain ⟨i2, a2, b2, ⟨ax2, ay2⟩, ⟨tx2, ty2⟩, le2⟩ := y
  simp only [Bool.and_eq_true, beq_iff_eq, Jnt.mk.injEq, Prod.mk.injEq, and_assoc]
set_option maxRecDepth 100000 in
set_option maxHeartbeats 4000000 in
theorem EqualJ_any (w : World) (va vb : Value) (A B : List Jnt) (ha : Rd w 8 va A.length (A.flatMap cJt)) (hb : Rd w 8 vb B.length (B.flatMap cJt)) :
    Calls Tryz.prog 33 #[va, vb] w fun e w' => EqOut (A = B) e ∧ Chg [] w w' := by
  obtain ⟨aa, ca, rfl, hma, haa⟩ := Rd.form (enc := cJt) (by decide) ha
  obtain ⟨ab, cb, rfl, hmb, hab⟩ := Rd.form (enc := cJt) (by decide) hb
  have HA : Hd (Rd w 8 (.slice aa A.length ca) A.length (A.flatMap cJt)) := hd ha
  have HB : Hd (Rd w 8 (.slice ab B.length cb) B.length (B.flatMap cJt)) := hd hb
  have HAA := hd haa
  have HAB := hd hab
  clear ha hb haa hab
  by_cases hlen : A.length = B.length
  case neg =>
    have h1 : ¬ ((A.length : Int) = (B.length : Int)) := by omega
    have h2 : ((A.length : Int) == (B.length : Int)) = false := by rw [beq_eq_false_iff_ne]; exact h1
    obtain ⟨P, hP⟩ : ∃ P : Ending → World → Prop, P = fun e w' => EqOut (A = B) e ∧ Chg [] w w' := ⟨_, rfl⟩
    rw [← hP]
    have HP := hd hP
    clear hP
    go_enter Tryz.func33, Tryz.ntmps33
    go_wp2
    rw [HP.out]
    exact ⟨⟨false, rfl, by simp; intro h; exact hlen (by rw [h])⟩, Chg.refl _ _⟩
  case pos =>
  have HLE := hd hlen
  rw [← hlen]
  clear hlen
  obtain ⟨P, hP⟩ : ∃ P : Ending → World → Prop, P = fun e w' => EqOut (A = B) e ∧ Chg [] w w' := ⟨_, rfl⟩
  rw [← hP]
  have HP := hd hP
  clear hP
  go_enter Tryz.func33, Tryz.ntmps33
  go_wp2_with (fail)
  go_loopw [5, 13] (fun _ i wr => ∃ k : Nat, k ≤ A.length ∧ i = .int .i64 k ∧ Chg [] w wr ∧ A.take k = B.take k)
    (fun _ i _ => A.length - (intOf i).toNat)
  case atStart => exact ⟨0, by omega, rfl, Chg.refl _ _, by simp⟩
  case round =>
    obtain ⟨j, hj, rfl, hc, hmap⟩ := hrel
    have HC := hd hc
    have HM := hd hmap
    clear hmap
    by_cases hlt : j < A.length
    · have hltB : j < B.length := by have := HLE.out; omega
      obtain ⟨ga, offa, e1, hga⟩ := HAA.out (by omega)
      obtain ⟨gb, offb, e2, hgb⟩ := HAB.out (by omega)
      subst e1
      subst e2
      have HCA := hd (cellsChg (Rd.cellsAt cJt_len HA.out j hlt) hc hga)
      have HCB := hd (cellsChg (Rd.cellsAt cJt_len HB.out j hltB) hc hgb)
      have hga2 : ga < wr.heap.size := Nat.lt_of_lt_of_le hga hc.size
      have hgb2 : gb < wr.heap.size := Nat.lt_of_lt_of_le hgb hc.size
      have HSA := hd (List.take_succ_eq_append_getElem hlt)
      have HSB := hd (List.take_succ_eq_append_getElem hltB)
      have hne : A[j] ≠ B[j] → A ≠ B := fun h he => h (by
        have h1 : A[j]? = B[j]? := by rw [he]
        simpa [hlt, hltB] using h1)
      have HNE := hd hne
      clear hne hc
      generalize A[j] = x at *
      generalize B[j] = y at *
      have HX := hd (neqJ_eq x y)
      have HR := hd (fun wx => neqJ_run x y wx)
      have hlti : (j : Int) < (A.length : Int) := by omega
      have hwj : IntKind.i64.wrap (j : Int) = (j : Int) := by rw [IntKind.wrap_i64]; omega
      generalize (x.id == y.id && x.a == y.a && x.b == y.b && x.at_.1 == y.at_.1 && x.at_.2 == y.at_.2 && x.to_.1 == y.to_.1 && x.to_.2 == y.to_.2 && x.len == y.len) = r at *
      cases r with
      | true =>
        have HXY := hd (HX.out.mp rfl)
        clear HX
        go_upto_region 6 with (fail)
        refine anyH_start (n := 9) (L := #[false, false, false, false, false, false, false, false, false]) (by kernel_rfl) (by kernel_rfl) (S := (fun wx => Chg [] wr wx)) ((Chg.refl _ _).drew) (fun hHeld => ?_)
        refine anyH_take (i := 0) (d := 16) (L' := #[true, false, false, false, false, false, false, false, false]) (v := ?v2) rfl rfl (by kernel_rfl) (fun _ _ _ h => h) (by rfl) ?hy2 (by assumption) ?rest2
        case hy2 => (intro wx hSw; (try dsimp only at hSw); (have t0 := hlti; have t1 := hwj); go_simp; (try with_reducible rfl))
        simp only [Act.put, List.setIfInBounds_toArray, List.set_cons_zero, List.set_cons_succ]
        refine anyH_take (i := 1) (d := 17) (L' := #[true, true, false, false, false, false, false, false, false]) (v := ?v3) rfl rfl (by kernel_rfl) (fun _ _ _ h => h) (by rfl) ?hy3 (by assumption) ?rest3
        case hy3 => (intro wx hSw; (try dsimp only at hSw); (have t0 := hlti; have t1 := hwj); go_simp; (try with_reducible rfl))
        simp only [Act.put, List.setIfInBounds_toArray, List.set_cons_zero, List.set_cons_succ]
        refine anyH_take (i := 2) (d := 18) (L' := #[true, true, true, false, false, false, false, false, false]) (v := ?v4) rfl rfl (by kernel_rfl) (fun _ _ _ h => h) (by rfl) ?hy4 (by assumption) ?rest4
        case hy4 => (intro wx hSw; (try dsimp only at hSw); (have t0 := hlti; have t1 := hwj); go_simp; (try with_reducible rfl))
        simp only [Act.put, List.setIfInBounds_toArray, List.set_cons_zero, List.set_cons_succ]
        refine anyH_take (i := 3) (d := 19) (L' := #[true, true, true, true, false, false, false, false, false]) (v := ?v5) rfl rfl (by kernel_rfl) (fun _ _ _ h => h) (by rfl) ?hy5 (by assumption) ?rest5
        case hy5 => (intro wx hSw; (try dsimp only at hSw); (refine exec_load_at (x := .tmp 18) (cs := cJt x) ?_ ?_ (cellsChg HCA.out hSw hga2) Tryz.underlying67 rfl (by kernel_rfl) <;> rfl))
        simp only [Act.put, List.setIfInBounds_toArray, List.set_cons_zero, List.set_cons_succ]
        refine anyH_take (i := 4) (d := 20) (L' := #[true, true, true, true, true, false, false, false, false]) (v := ?v6) rfl rfl (by kernel_rfl) (fun _ _ _ h => h) (by rfl) ?hy6 (by assumption) ?rest6
        case hy6 => (intro wx hSw; (try dsimp only at hSw); (have t0 := hlti; have t1 := hwj); go_simp; (try with_reducible rfl))
        simp only [Act.put, List.setIfInBounds_toArray, List.set_cons_zero, List.set_cons_succ]
        refine anyH_take (i := 5) (d := 21) (L' := #[true, true, true, true, true, true, false, false, false]) (v := ?v7) rfl rfl (by kernel_rfl) (fun _ _ _ h => h) (by rfl) ?hy7 (by assumption) ?rest7
        case hy7 => (intro wx hSw; (try dsimp only at hSw); (have t0 := hlti; have t1 := hwj); go_simp; (try with_reducible rfl))
        simp only [Act.put, List.setIfInBounds_toArray, List.set_cons_zero, List.set_cons_succ]
        refine anyH_take (i := 6) (d := 22) (L' := #[true, true, true, true, true, true, true, false, false]) (v := ?v8) rfl rfl (by kernel_rfl) (fun _ _ _ h => h) (by rfl) ?hy8 (by assumption) ?rest8
        case hy8 => (intro wx hSw; (try dsimp only at hSw); (have t0 := hlti; have t1 := hwj); go_simp; (try with_reducible rfl))
        simp only [Act.put, List.setIfInBounds_toArray, List.set_cons_zero, List.set_cons_succ]
        refine anyH_take (i := 7) (d := 23) (L' := #[true, true, true, true, true, true, true, true, false]) (v := ?v9) rfl rfl (by kernel_rfl) (fun _ _ _ h => h) (by rfl) ?hy9 (by assumption) ?rest9
        case hy9 => (intro wx hSw; (try dsimp only at hSw); (refine exec_load_at (x := .tmp 22) (cs := cJt y) ?_ ?_ (cellsChg HCB.out hSw hgb2) Tryz.underlying67 rfl (by kernel_rfl) <;> rfl))
        simp only [Act.put, List.setIfInBounds_toArray, List.set_cons_zero, List.set_cons_succ]
        refine anyH_take (i := 8) (d := 24) (L' := #[true, true, true, true, true, true, true, true, true]) (v := ?v10) rfl rfl (by kernel_rfl) (fun _ _ _ h => h) (by rfl) ?hy10 (by assumption) ?rest10
        case hy10 => (intro wx hSw; (try dsimp only at hSw); (refine exec_neq (r := .bool (!true)) (t := 67) (ty2 := 67) (x := .tmp 19) (y := .tmp 23) (xs := (cJt x).toArray) (ys := (cJt y).toArray) ?_ ?_ ?_ (by kernel_rfl) (HR.out wx) <;> rfl))
        simp only [Act.put, List.setIfInBounds_toArray, List.set_cons_zero, List.set_cons_succ]
        refine wpAnyH_done (by kernel_rfl) ?_ _
        skip
        have HMM := hd (HC.out.k' hHeld)
        clear hHeld
        go_wp2_with (fail)
        go_roundw
        case rel => exact ⟨j + 1, by omega, by go_num, HMM.out, by rw [HSA.out, HSB.out, HM.out, HXY.out]⟩
        case measure => simp [intOf]; omega
      | false =>
        have HXY : Hd (x ≠ y) := hd (fun h => by have := HX.out.mpr h; cases this)
        clear HX
        go_upto_region 6 with (fail)
        refine anyH_start (n := 9) (L := #[false, false, false, false, false, false, false, false, false]) (by kernel_rfl) (by kernel_rfl) (S := (fun wx => Chg [] wr wx)) ((Chg.refl _ _).drew) (fun hHeld => ?_)
        refine anyH_take (i := 0) (d := 16) (L' := #[true, false, false, false, false, false, false, false, false]) (v := ?v13) rfl rfl (by kernel_rfl) (fun _ _ _ h => h) (by rfl) ?hy13 (by assumption) ?rest13
        case hy13 => (intro wx hSw; (try dsimp only at hSw); (have t0 := hlti; have t1 := hwj); go_simp; (try with_reducible rfl))
        simp only [Act.put, List.setIfInBounds_toArray, List.set_cons_zero, List.set_cons_succ]
        refine anyH_take (i := 1) (d := 17) (L' := #[true, true, false, false, false, false, false, false, false]) (v := ?v14) rfl rfl (by kernel_rfl) (fun _ _ _ h => h) (by rfl) ?hy14 (by assumption) ?rest14
        case hy14 => (intro wx hSw; (try dsimp only at hSw); (have t0 := hlti; have t1 := hwj); go_simp; (try with_reducible rfl))
        simp only [Act.put, List.setIfInBounds_toArray, List.set_cons_zero, List.set_cons_succ]
        refine anyH_take (i := 2) (d := 18) (L' := #[true, true, true, false, false, false, false, false, false]) (v := ?v15) rfl rfl (by kernel_rfl) (fun _ _ _ h => h) (by rfl) ?hy15 (by assumption) ?rest15
        case hy15 => (intro wx hSw; (try dsimp only at hSw); (have t0 := hlti; have t1 := hwj); go_simp; (try with_reducible rfl))
        simp only [Act.put, List.setIfInBounds_toArray, List.set_cons_zero, List.set_cons_succ]
        refine anyH_take (i := 3) (d := 19) (L' := #[true, true, true, true, false, false, false, false, false]) (v := ?v16) rfl rfl (by kernel_rfl) (fun _ _ _ h => h) (by rfl) ?hy16 (by assumption) ?rest16
        case hy16 => (intro wx hSw; (try dsimp only at hSw); (refine exec_load_at (x := .tmp 18) (cs := cJt x) ?_ ?_ (cellsChg HCA.out hSw hga2) Tryz.underlying67 rfl (by kernel_rfl) <;> rfl))
        simp only [Act.put, List.setIfInBounds_toArray, List.set_cons_zero, List.set_cons_succ]
        refine anyH_take (i := 4) (d := 20) (L' := #[true, true, true, true, true, false, false, false, false]) (v := ?v17) rfl rfl (by kernel_rfl) (fun _ _ _ h => h) (by rfl) ?hy17 (by assumption) ?rest17
        case hy17 => (intro wx hSw; (try dsimp only at hSw); (have t0 := hlti; have t1 := hwj); go_simp; (try with_reducible rfl))
        simp only [Act.put, List.setIfInBounds_toArray, List.set_cons_zero, List.set_cons_succ]
        refine anyH_take (i := 5) (d := 21) (L' := #[true, true, true, true, true, true, false, false, false]) (v := ?v18) rfl rfl (by kernel_rfl) (fun _ _ _ h => h) (by rfl) ?hy18 (by assumption) ?rest18
        case hy18 => (intro wx hSw; (try dsimp only at hSw); (have t0 := hlti; have t1 := hwj); go_simp; (try with_reducible rfl))
        simp only [Act.put, List.setIfInBounds_toArray, List.set_cons_zero, List.set_cons_succ]
        refine anyH_take (i := 6) (d := 22) (L' := #[true, true, true, true, true, true, true, false, false]) (v := ?v19) rfl rfl (by kernel_rfl) (fun _ _ _ h => h) (by rfl) ?hy19 (by assumption) ?rest19
        case hy19 => (intro wx hSw; (try dsimp only at hSw); (have t0 := hlti; have t1 := hwj); go_simp; (try with_reducible rfl))
        simp only [Act.put, List.setIfInBounds_toArray, List.set_cons_zero, List.set_cons_succ]
        refine anyH_take (i := 7) (d := 23) (L' := #[true, true, true, true, true, true, true, true, false]) (v := ?v20) rfl rfl (by kernel_rfl) (fun _ _ _ h => h) (by rfl) ?hy20 (by assumption) ?rest20
        case hy20 => (intro wx hSw; (try dsimp only at hSw); (refine exec_load_at (x := .tmp 22) (cs := cJt y) ?_ ?_ (cellsChg HCB.out hSw hgb2) Tryz.underlying67 rfl (by kernel_rfl) <;> rfl))
        simp only [Act.put, List.setIfInBounds_toArray, List.set_cons_zero, List.set_cons_succ]
        refine anyH_take (i := 8) (d := 24) (L' := #[true, true, true, true, true, true, true, true, true]) (v := ?v21) rfl rfl (by kernel_rfl) (fun _ _ _ h => h) (by rfl) ?hy21 (by assumption) ?rest21
        case hy21 => (intro wx hSw; (try dsimp only at hSw); (refine exec_neq (r := .bool (!false)) (t := 67) (ty2 := 67) (x := .tmp 19) (y := .tmp 23) (xs := (cJt x).toArray) (ys := (cJt y).toArray) ?_ ?_ ?_ (by kernel_rfl) (HR.out wx) <;> rfl))
        simp only [Act.put, List.setIfInBounds_toArray, List.set_cons_zero, List.set_cons_succ]
        refine wpAnyH_done (by kernel_rfl) ?_ _
        skip
        have HMM := hd (HC.out.k' hHeld)
        clear hHeld
        go_wp2_with (fail)
        rw [HP.out]
        exact ⟨⟨false, rfl, by simp; exact HNE.out HXY.out⟩, HMM.out⟩
    · have hA : A.take j = A := List.take_of_length_le (by omega)
      have hB : B.take j = B := List.take_of_length_le (by have := HLE.out; omega)
      have hm := HM.out
      rw [hA, hB] at hm
      have HM3 := hd hm
      clear hA hB hm hc
      go_wp2_with (fail)
      rw [HP.out]
      exact ⟨⟨true, rfl, by simp; exact HM3.out⟩, HC.out⟩
set_option maxRecDepth 100000 in
set_option maxHeartbeats 2000000 in
theorem neqC_run (x y : Cnt) (w : World) : (binOp .neq 70 (.agg (cCt x).toArray) (.agg (cCt y).toArray)).run Tryz.prog w = .ok (.bool (!(x.a == y.a && x.b == y.b && x.key == y.key && x.n == y.n && x.t == y.t))) w := by
  obtain ⟨a, b, k, n, t⟩ := x
  obtain ⟨a2, b2, k2, n2, t2⟩ := y
  unfold cCt
  simp only
  generalize he0 : (a == a2) = e0
  generalize he1 : (b == b2) = e1
  generalize he2 : (k == k2) = e2
  generalize he3 : (n == n2) = e3
  generalize he4 : (t == t2) = e4
  cases e0 with
  | false => go_simp
  | true =>
    cases e1 with
    | false => go_simp
    | true =>
      cases e2 with
      | false => go_simp
      | true =>
        cases e3 with
        | false => go_simp
        | true =>
          cases e4 with
          | false => go_simp
          | true =>
            go_simp
theorem neqC_eq (x y : Cnt) : (x.a == y.a && x.b == y.b && x.key == y.key && x.n == y.n && x.t == y.t) = true ↔ x = y := by
  obtain ⟨a, b, k, n, t⟩ := x
  obtain ⟨a2, b2, k2, n2, t2⟩ := y
  simp only [Bool.and_eq_true, beq_iff_eq, Cnt.mk.injEq, and_assoc]
set_option maxRecDepth 100000 in
set_option maxHeartbeats 4000000 in
theorem EqualC_any (w : World) (va vb : Value) (A B : List Cnt) (ha : Rd w 5 va A.length (A.flatMap cCt)) (hb : Rd w 5 vb B.length (B.flatMap cCt)) :
    Calls Tryz.prog 34 #[va, vb] w fun e w' => EqOut (A = B) e ∧ Chg [] w w' := by
  obtain ⟨aa, ca, rfl, hma, haa⟩ := Rd.form (enc := cCt) (by decide) ha
  obtain ⟨ab, cb, rfl, hmb, hab⟩ := Rd.form (enc := cCt) (by decide) hb
  have HA : Hd (Rd w 5 (.slice aa A.length ca) A.length (A.flatMap cCt)) := hd ha
  have HB : Hd (Rd w 5 (.slice ab B.length cb) B.length (B.flatMap cCt)) := hd hb
  have HAA := hd haa
  have HAB := hd hab
  clear ha hb haa hab
  by_cases hlen : A.length = B.length
  case neg =>
    have h1 : ¬ ((A.length : Int) = (B.length : Int)) := by omega
    have h2 : ((A.length : Int) == (B.length : Int)) = false := by rw [beq_eq_false_iff_ne]; exact h1
    obtain ⟨P, hP⟩ : ∃ P : Ending → World → Prop, P = fun e w' => EqOut (A = B) e ∧ Chg [] w w' := ⟨_, rfl⟩
    rw [← hP]
    have HP := hd hP
    clear hP
    go_enter Tryz.func34, Tryz.ntmps34
    go_wp2
    rw [HP.out]
    exact ⟨⟨false, rfl, by simp; intro h; exact hlen (by rw [h])⟩, Chg.refl _ _⟩
  case pos =>
  have HLE := hd hlen
  rw [← hlen]
  clear hlen
  obtain ⟨P, hP⟩ : ∃ P : Ending → World → Prop, P = fun e w' => EqOut (A = B) e ∧ Chg [] w w' := ⟨_, rfl⟩
  rw [← hP]
  have HP := hd hP
  clear hP
  go_enter Tryz.func34, Tryz.ntmps34
  go_wp2_with (fail)
  go_loopw [5, 13] (fun _ i wr => ∃ k : Nat, k ≤ A.length ∧ i = .int .i64 k ∧ Chg [] w wr ∧ A.take k = B.take k)
    (fun _ i _ => A.length - (intOf i).toNat)
  case atStart => exact ⟨0, by omega, rfl, Chg.refl _ _, by simp⟩
  case round =>
    obtain ⟨j, hj, rfl, hc, hmap⟩ := hrel
    have HC := hd hc
    have HM := hd hmap
    clear hmap
    by_cases hlt : j < A.length
    · have hltB : j < B.length := by have := HLE.out; omega
      obtain ⟨ga, offa, e1, hga⟩ := HAA.out (by omega)
      obtain ⟨gb, offb, e2, hgb⟩ := HAB.out (by omega)
      subst e1
      subst e2
      have HCA := hd (cellsChg (Rd.cellsAt cCt_len HA.out j hlt) hc hga)
      have HCB := hd (cellsChg (Rd.cellsAt cCt_len HB.out j hltB) hc hgb)
      have hga2 : ga < wr.heap.size := Nat.lt_of_lt_of_le hga hc.size
      have hgb2 : gb < wr.heap.size := Nat.lt_of_lt_of_le hgb hc.size
      have HSA := hd (List.take_succ_eq_append_getElem hlt)
      have HSB := hd (List.take_succ_eq_append_getElem hltB)
      have hne : A[j] ≠ B[j] → A ≠ B := fun h he => h (by
        have h1 : A[j]? = B[j]? := by rw [he]
        simpa [hlt, hltB] using h1)
      have HNE := hd hne
      clear hne hc
      generalize A[j] = x at *
      generalize B[j] = y at *
      have HX := hd (neqC_eq x y)
      have HR := hd (fun wx => neqC_run x y wx)
      have hlti : (j : Int) < (A.length : Int) := by omega
      have hwj : IntKind.i64.wrap (j : Int) = (j : Int) := by rw [IntKind.wrap_i64]; omega
      generalize (x.a == y.a && x.b == y.b && x.key == y.key && x.n == y.n && x.t == y.t) = r at *
      cases r with
      | true =>
        have HXY := hd (HX.out.mp rfl)
        clear HX
        go_upto_region 6 with (fail)
        refine anyH_start (n := 9) (L := #[false, false, false, false, false, false, false, false, false]) (by kernel_rfl) (by kernel_rfl) (S := (fun wx => Chg [] wr wx)) ((Chg.refl _ _).drew) (fun hHeld => ?_)
        refine anyH_take (i := 0) (d := 16) (L' := #[true, false, false, false, false, false, false, false, false]) (v := ?v24) rfl rfl (by kernel_rfl) (fun _ _ _ h => h) (by rfl) ?hy24 (by assumption) ?rest24
        case hy24 => (intro wx hSw; (try dsimp only at hSw); (have t0 := hlti; have t1 := hwj); go_simp; (try with_reducible rfl))
        simp only [Act.put, List.setIfInBounds_toArray, List.set_cons_zero, List.set_cons_succ]
        refine anyH_take (i := 1) (d := 17) (L' := #[true, true, false, false, false, false, false, false, false]) (v := ?v25) rfl rfl (by kernel_rfl) (fun _ _ _ h => h) (by rfl) ?hy25 (by assumption) ?rest25
        case hy25 => (intro wx hSw; (try dsimp only at hSw); (have t0 := hlti; have t1 := hwj); go_simp; (try with_reducible rfl))
        simp only [Act.put, List.setIfInBounds_toArray, List.set_cons_zero, List.set_cons_succ]
        refine anyH_take (i := 2) (d := 18) (L' := #[true, true, true, false, false, false, false, false, false]) (v := ?v26) rfl rfl (by kernel_rfl) (fun _ _ _ h => h) (by rfl) ?hy26 (by assumption) ?rest26
        case hy26 => (intro wx hSw; (try dsimp only at hSw); (have t0 := hlti; have t1 := hwj); go_simp; (try with_reducible rfl))
        simp only [Act.put, List.setIfInBounds_toArray, List.set_cons_zero, List.set_cons_succ]
        refine anyH_take (i := 3) (d := 19) (L' := #[true, true, true, true, false, false, false, false, false]) (v := ?v27) rfl rfl (by kernel_rfl) (fun _ _ _ h => h) (by rfl) ?hy27 (by assumption) ?rest27
        case hy27 => (intro wx hSw; (try dsimp only at hSw); (refine exec_load_at (x := .tmp 18) (cs := cCt x) ?_ ?_ (cellsChg HCA.out hSw hga2) Tryz.underlying70 rfl (by kernel_rfl) <;> rfl))
        simp only [Act.put, List.setIfInBounds_toArray, List.set_cons_zero, List.set_cons_succ]
        refine anyH_take (i := 4) (d := 20) (L' := #[true, true, true, true, true, false, false, false, false]) (v := ?v28) rfl rfl (by kernel_rfl) (fun _ _ _ h => h) (by rfl) ?hy28 (by assumption) ?rest28
        case hy28 => (intro wx hSw; (try dsimp only at hSw); (have t0 := hlti; have t1 := hwj); go_simp; (try with_reducible rfl))
        simp only [Act.put, List.setIfInBounds_toArray, List.set_cons_zero, List.set_cons_succ]
        refine anyH_take (i := 5) (d := 21) (L' := #[true, true, true, true, true, true, false, false, false]) (v := ?v29) rfl rfl (by kernel_rfl) (fun _ _ _ h => h) (by rfl) ?hy29 (by assumption) ?rest29
        case hy29 => (intro wx hSw; (try dsimp only at hSw); (have t0 := hlti; have t1 := hwj); go_simp; (try with_reducible rfl))
        simp only [Act.put, List.setIfInBounds_toArray, List.set_cons_zero, List.set_cons_succ]
        refine anyH_take (i := 6) (d := 22) (L' := #[true, true, true, true, true, true, true, false, false]) (v := ?v30) rfl rfl (by kernel_rfl) (fun _ _ _ h => h) (by rfl) ?hy30 (by assumption) ?rest30
        case hy30 => (intro wx hSw; (try dsimp only at hSw); (have t0 := hlti; have t1 := hwj); go_simp; (try with_reducible rfl))
        simp only [Act.put, List.setIfInBounds_toArray, List.set_cons_zero, List.set_cons_succ]
        refine anyH_take (i := 7) (d := 23) (L' := #[true, true, true, true, true, true, true, true, false]) (v := ?v31) rfl rfl (by kernel_rfl) (fun _ _ _ h => h) (by rfl) ?hy31 (by assumption) ?rest31
        case hy31 => (intro wx hSw; (try dsimp only at hSw); (refine exec_load_at (x := .tmp 22) (cs := cCt y) ?_ ?_ (cellsChg HCB.out hSw hgb2) Tryz.underlying70 rfl (by kernel_rfl) <;> rfl))
        simp only [Act.put, List.setIfInBounds_toArray, List.set_cons_zero, List.set_cons_succ]
        refine anyH_take (i := 8) (d := 24) (L' := #[true, true, true, true, true, true, true, true, true]) (v := ?v32) rfl rfl (by kernel_rfl) (fun _ _ _ h => h) (by rfl) ?hy32 (by assumption) ?rest32
        case hy32 => (intro wx hSw; (try dsimp only at hSw); (refine exec_neq (r := .bool (!true)) (t := 70) (ty2 := 70) (x := .tmp 19) (y := .tmp 23) (xs := (cCt x).toArray) (ys := (cCt y).toArray) ?_ ?_ ?_ (by kernel_rfl) (HR.out wx) <;> rfl))
        simp only [Act.put, List.setIfInBounds_toArray, List.set_cons_zero, List.set_cons_succ]
        refine wpAnyH_done (by kernel_rfl) ?_ _
        skip
        have HMM := hd (HC.out.k' hHeld)
        clear hHeld
        go_wp2_with (fail)
        go_roundw
        case rel => exact ⟨j + 1, by omega, by go_num, HMM.out, by rw [HSA.out, HSB.out, HM.out, HXY.out]⟩
        case measure => simp [intOf]; omega
      | false =>
        have HXY : Hd (x ≠ y) := hd (fun h => by have := HX.out.mpr h; cases this)
        clear HX
        go_upto_region 6 with (fail)
        refine anyH_start (n := 9) (L := #[false, false, false, false, false, false, false, false, false]) (by kernel_rfl) (by kernel_rfl) (S := (fun wx => Chg [] wr wx)) ((Chg.refl _ _).drew) (fun hHeld => ?_)
        refine anyH_take (i := 0) (d := 16) (L' := #[true, false, false, false, false, false, false, false, false]) (v := ?v35) rfl rfl (by kernel_rfl) (fun _ _ _ h => h) (by rfl) ?hy35 (by assumption) ?rest35
        case hy35 => (intro wx hSw; (try dsimp only at hSw); (have t0 := hlti; have t1 := hwj); go_simp; (try with_reducible rfl))
        simp only [Act.put, List.setIfInBounds_toArray, List.set_cons_zero, List.set_cons_succ]
        refine anyH_take (i := 1) (d := 17) (L' := #[true, true, false, false, false, false, false, false, false]) (v := ?v36) rfl rfl (by kernel_rfl) (fun _ _ _ h => h) (by rfl) ?hy36 (by assumption) ?rest36
        case hy36 => (intro wx hSw; (try dsimp only at hSw); (have t0 := hlti; have t1 := hwj); go_simp; (try with_reducible rfl))
        simp only [Act.put, List.setIfInBounds_toArray, List.set_cons_zero, List.set_cons_succ]
        refine anyH_take (i := 2) (d := 18) (L' := #[true, true, true, false, false, false, false, false, false]) (v := ?v37) rfl rfl (by kernel_rfl) (fun _ _ _ h => h) (by rfl) ?hy37 (by assumption) ?rest37
        case hy37 => (intro wx hSw; (try dsimp only at hSw); (have t0 := hlti; have t1 := hwj); go_simp; (try with_reducible rfl))
        simp only [Act.put, List.setIfInBounds_toArray, List.set_cons_zero, List.set_cons_succ]
        refine anyH_take (i := 3) (d := 19) (L' := #[true, true, true, true, false, false, false, false, false]) (v := ?v38) rfl rfl (by kernel_rfl) (fun _ _ _ h => h) (by rfl) ?hy38 (by assumption) ?rest38
        case hy38 => (intro wx hSw; (try dsimp only at hSw); (refine exec_load_at (x := .tmp 18) (cs := cCt x) ?_ ?_ (cellsChg HCA.out hSw hga2) Tryz.underlying70 rfl (by kernel_rfl) <;> rfl))
        simp only [Act.put, List.setIfInBounds_toArray, List.set_cons_zero, List.set_cons_succ]
        refine anyH_take (i := 4) (d := 20) (L' := #[true, true, true, true, true, false, false, false, false]) (v := ?v39) rfl rfl (by kernel_rfl) (fun _ _ _ h => h) (by rfl) ?hy39 (by assumption) ?rest39
        case hy39 => (intro wx hSw; (try dsimp only at hSw); (have t0 := hlti; have t1 := hwj); go_simp; (try with_reducible rfl))
        simp only [Act.put, List.setIfInBounds_toArray, List.set_cons_zero, List.set_cons_succ]
        refine anyH_take (i := 5) (d := 21) (L' := #[true, true, true, true, true, true, false, false, false]) (v := ?v40) rfl rfl (by kernel_rfl) (fun _ _ _ h => h) (by rfl) ?hy40 (by assumption) ?rest40
        case hy40 => (intro wx hSw; (try dsimp only at hSw); (have t0 := hlti; have t1 := hwj); go_simp; (try with_reducible rfl))
        simp only [Act.put, List.setIfInBounds_toArray, List.set_cons_zero, List.set_cons_succ]
        refine anyH_take (i := 6) (d := 22) (L' := #[true, true, true, true, true, true, true, false, false]) (v := ?v41) rfl rfl (by kernel_rfl) (fun _ _ _ h => h) (by rfl) ?hy41 (by assumption) ?rest41
        case hy41 => (intro wx hSw; (try dsimp only at hSw); (have t0 := hlti; have t1 := hwj); go_simp; (try with_reducible rfl))
        simp only [Act.put, List.setIfInBounds_toArray, List.set_cons_zero, List.set_cons_succ]
        refine anyH_take (i := 7) (d := 23) (L' := #[true, true, true, true, true, true, true, true, false]) (v := ?v42) rfl rfl (by kernel_rfl) (fun _ _ _ h => h) (by rfl) ?hy42 (by assumption) ?rest42
        case hy42 => (intro wx hSw; (try dsimp only at hSw); (refine exec_load_at (x := .tmp 22) (cs := cCt y) ?_ ?_ (cellsChg HCB.out hSw hgb2) Tryz.underlying70 rfl (by kernel_rfl) <;> rfl))
        simp only [Act.put, List.setIfInBounds_toArray, List.set_cons_zero, List.set_cons_succ]
        refine anyH_take (i := 8) (d := 24) (L' := #[true, true, true, true, true, true, true, true, true]) (v := ?v43) rfl rfl (by kernel_rfl) (fun _ _ _ h => h) (by rfl) ?hy43 (by assumption) ?rest43
        case hy43 => (intro wx hSw; (try dsimp only at hSw); (refine exec_neq (r := .bool (!false)) (t := 70) (ty2 := 70) (x := .tmp 19) (y := .tmp 23) (xs := (cCt x).toArray) (ys := (cCt y).toArray) ?_ ?_ ?_ (by kernel_rfl) (HR.out wx) <;> rfl))
        simp only [Act.put, List.setIfInBounds_toArray, List.set_cons_zero, List.set_cons_succ]
        refine wpAnyH_done (by kernel_rfl) ?_ _
        skip
        have HMM := hd (HC.out.k' hHeld)
        clear hHeld
        go_wp2_with (fail)
        rw [HP.out]
        exact ⟨⟨false, rfl, by simp; exact HNE.out HXY.out⟩, HMM.out⟩
    · have hA : A.take j = A := List.take_of_length_le (by omega)
      have hB : B.take j = B := List.take_of_length_le (by have := HLE.out; omega)
      have hm := HM.out
      rw [hA, hB] at hm
      have HM3 := hd hm
      clear hA hB hm hc
      go_wp2_with (fail)
      rw [HP.out]
      exact ⟨⟨true, rfl, by simp; exact HM3.out⟩, HC.out⟩
end Go.Proofs.YtpadflhffiiglaaGreat
