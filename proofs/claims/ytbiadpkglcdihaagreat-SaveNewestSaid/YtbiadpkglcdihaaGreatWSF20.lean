/- Words and walks that SF rests on: WorldJ, WorldSm, Do, Made, At. -/
import Derived.Test.YtbiadpkglcdihaaGreatWSF7
import Derived.Laws.StructEq
import Derived.Test.YtbiadpkglcdihaaGreatWSF10
import Derived.Test.YtbiadpkglcdihaaGreatWSF6
import Derived.Shelf.Abstract
/- Joints and contacts compared. -/
namespace Go.Proofs.YtbiadpkglcdihaaGreat
open Go.RowKit

theorem exec_neq {P : Program} {o : Oper} {a : Act} {t ty2 : TypeId} {x y : Operand} {xs ys : Array Value} {r : Value} {w : World} (ho : o.op = .binOp .neq t x y ty2) (hx : a.eval x = .agg xs) (hy : a.eval y = .agg ys) (hm : P.eqGuardType P.depth t = false)
    (hr : (binOp .neq t (.agg xs) (.agg ys)).run P w = .ok r w) : (execOp a.eval o).run P w = .ok (.value r) w := by
  unfold execOp
  simp only [ho, hx, hy, Sem.run_bind, Sem.run_pure, Result.andThen_ok, run_eqGuard_agg w .neq t x y xs ys hm, hr]

set_option maxRecDepth 100000 in
set_option maxHeartbeats 2000000 in
theorem neqJ_run (x y : Jnt) (w : World) : (binOp .neq 101 (.agg (cJt x).toArray) (.agg (cJt y).toArray)).run Tryz.prog w = .ok (.bool (!(x.id == y.id && x.a == y.a && x.b == y.b && x.at_.1 == y.at_.1 && x.at_.2 == y.at_.2 && x.to_.1 == y.to_.1 && x.to_.2 == y.to_.2 && x.len == y.len))) w := by
  obtain ⟨i, a, b, ⟨ax, ay⟩, ⟨tx, ty⟩, le⟩ := x
  obtain ⟨i2, a2, b2, ⟨ax2, ay2⟩, ⟨tx2, ty2⟩, le2⟩ := y
  unfold cJt
  simp only
  generalize he0 : (i == i2) = e0
  generalize he1 : (a == a2) = e1
  generalize he2 : (b == b2) = e2
  generalize he3 : (ax == ax2) = e3
  generalize he4 : (ay == ay2) = e4
  generalize he5 : (tx == tx2) = e5
  generalize he6 : (ty == ty2) = e6
  generalize he7 : (le == le2) = e7
  cases e0 with
  | false => go_simp
  | true =>
    cases e1 with
    | false => go_simp
    | true =>
      cases e2 with
      | false => go_simp
      | true =>
        cases e3 with
        | false => go_simp
        | true =>
          cases e4 with
          | false => go_simp
          | true =>
            cases e5 with
            | false => go_simp
            | true =>
              cases e6 with
              | false => go_simp
              | true =>
                cases e7 with
                | false => go_simp
                | true =>
                  go_simp
theorem neqJ_eq (x y : Jnt) : (x.id == y.id && x.a == y.a && x.b == y.b && x.at_.1 == y.at_.1 && x.at_.2 == y.at_.2 && x.to_.1 == y.to_.1 && x.to_.2 == y.to_.2 && x.len == y.len) = true ↔ x = y := by
  obtain ⟨i, a, b, ⟨ax, ay⟩, ⟨tx, ty⟩, le⟩ := x
  obtain ⟨i2, a2, b2, ⟨ax2, ay2⟩, ⟨tx2, ty2⟩, le2⟩ := y
  simp only [Bool.and_eq_true, beq_iff_eq, Jnt.mk.injEq, Prod.mk.injEq, and_assoc]
set_option maxRecDepth 100000 in
set_option maxHeartbeats 4000000 in
theorem EqualJ_any (w : World) (va vb : Value) (A B : List Jnt) (ha : Rd w 8 va A.length (A.flatMap cJt)) (hb : Rd w 8 vb B.length (B.flatMap cJt)) :
    Calls Tryz.prog 48 #[va, vb] w fun e w' => EqOut (A = B) e ∧ Chg [] w w' := by
  obtain ⟨aa, ca, rfl, hma, haa⟩ := Rd.form (enc := cJt) (by decide) ha
  obtain ⟨ab, cb, rfl, hmb, hab⟩ := Rd.form (enc := cJt) (by decide) hb
  have HA : Hd (Rd w 8 (.slice aa A.length ca) A.length (A.flatMap cJt)) := hd ha
  have HB : Hd (Rd w 8 (.slice ab B.length cb) B.length (B.flatMap cJt)) := hd hb
  have HAA := hd haa
  have HAB := hd hab
  clear ha hb haa hab
  by_cases hlen : A.length = B.length
  case neg =>
    have h1 : ¬ ((A.length : Int) = (B.length : Int)) := by omega
    have h2 : ((A.length : Int) == (B.length : Int)) = false := by rw [beq_eq_false_iff_ne]; exact h1
    obtain ⟨P, hP⟩ : ∃ P : Ending → World → Prop, P = fun e w' => EqOut (A = B) e ∧ Chg [] w w' := ⟨_, rfl⟩
    rw [← hP]
    have HP := hd hP
    clear hP
    go_enter Tryz.func48, Tryz.ntmps48
    go_wp2
    rw [HP.out]
    exact ⟨⟨false, rfl, by simp; intro h; exact hlen (by rw [h])⟩, Chg.refl _ _⟩
  case pos =>
  have HLE := hd hlen
  rw [← hlen]
  clear hlen
  obtain ⟨P, hP⟩ : ∃ P : Ending → World → Prop, P = fun e w' => EqOut (A = B) e ∧ Chg [] w w' := ⟨_, rfl⟩
  rw [← hP]
  have HP := hd hP
  clear hP
  go_enter Tryz.func48, Tryz.ntmps48
  go_wp2_with (fail)
  go_loopw [5, 13] (fun _ i wr => ∃ k : Nat, k ≤ A.length ∧ i = .int .i64 k ∧ Chg [] w wr ∧ A.take k = B.take k)
    (fun _ i _ => A.length - (intOf i).toNat)
  case atStart => exact ⟨0, by omega, rfl, Chg.refl _ _, by simp⟩
  case round =>
    obtain ⟨j, hj, rfl, hc, hmap⟩ := hrel
    have HC := hd hc
    have HM := hd hmap
    clear hmap
    by_cases hlt : j < A.length
    · have hltB : j < B.length := by have := HLE.out; omega
      obtain ⟨ga, offa, e1, hga⟩ := HAA.out (by omega)
      obtain ⟨gb, offb, e2, hgb⟩ := HAB.out (by omega)
      subst e1
      subst e2
      have HCA := hd (cellsChg (Rd.cellsAt cJt_len HA.out j hlt) hc hga)
      have HCB := hd (cellsChg (Rd.cellsAt cJt_len HB.out j hltB) hc hgb)
      have hga2 : ga < wr.heap.size := Nat.lt_of_lt_of_le hga hc.size
      have hgb2 : gb < wr.heap.size := Nat.lt_of_lt_of_le hgb hc.size
      have HSA := hd (List.take_succ_eq_append_getElem hlt)
      have HSB := hd (List.take_succ_eq_append_getElem hltB)
      have hne : A[j] ≠ B[j] → A ≠ B := fun h he => h (by
        have h1 : A[j]? = B[j]? := by rw [he]
        simpa [hlt, hltB] using h1)
      have HNE := hd hne
      clear hne hc
      generalize A[j] = x at *
      generalize B[j] = y at *
      have HX := hd (neqJ_eq x y)
      have HR := hd (fun wx => neqJ_run x y wx)
      have hlti : (j : Int) < (A.length : Int) := by omega
      have hwj : IntKind.i64.wrap (j : Int) = (j : Int) := by rw [IntKind.wrap_i64]; omega
      generalize (x.id == y.id && x.a == y.a && x.b == y.b && x.at_.1 == y.at_.1 && x.at_.2 == y.at_.2 && x.to_.1 == y.to_.1 && x.to_.2 == y.to_.2 && x.len == y.len) = r at *
      cases r with
      | true =>
        have HXY := hd (HX.out.mp rfl)
        clear HX
        go_upto_region 6 with (fail)
        refine rg (N := 9) (by kernel_rfl) (by kernel_rfl) (S := (fun wx => Chg [] wr wx)) ((Chg.refl _ _).drew) (fun hHeld => ?_)
        refine tks [0, 1, 2, 3, 4, 5, 6, 7, 8] (by kernel_rfl) (fun _ _ _ _ _ h => h) (by assumption) ?_
        iterate 3 (refine tkc rfl rfl (by rfl) (fun wx hSw => by (try dsimp only at hSw); (have t0 := hlti; have t1 := hwj); go_simp; (try with_reducible rfl)) ?_; simp only [List.set])
        refine tkc rfl rfl (by rfl) (fun wx hSw => by (try dsimp only at hSw); (refine exec_load_at (x := .tmp 18) (cs := cJt x) ?_ ?_ (cellsChg HCA.out hSw hga2) Tryz.underlying101 rfl (by kernel_rfl) <;> rfl)) ?_; simp only [List.set]
        iterate 3 (refine tkc rfl rfl (by rfl) (fun wx hSw => by (try dsimp only at hSw); (have t0 := hlti; have t1 := hwj); go_simp; (try with_reducible rfl)) ?_; simp only [List.set])
        refine tkc rfl rfl (by rfl) (fun wx hSw => by (try dsimp only at hSw); (refine exec_load_at (x := .tmp 22) (cs := cJt y) ?_ ?_ (cellsChg HCB.out hSw hgb2) Tryz.underlying101 rfl (by kernel_rfl) <;> rfl)) ?_; simp only [List.set]
        refine tkc rfl rfl (by rfl) (fun wx hSw => by (try dsimp only at hSw); (refine exec_neq (r := .bool (!true)) (t := 101) (ty2 := 101) (x := .tmp 19) (y := .tmp 23) (xs := (cJt x).toArray) (ys := (cJt y).toArray) ?_ ?_ ?_ (by kernel_rfl) (HR.out wx) <;> rfl)) ?_; simp only [List.set]
        refine tk0 ?_
        refine wpAnyH_done (by kernel_rfl) ?_ _
        skip
        have HMM := hd (HC.out.k' hHeld)
        clear hHeld
        go_wp2_with (fail)
        go_roundw
        case rel => exact ⟨j + 1, by omega, by go_num, HMM.out, by rw [HSA.out, HSB.out, HM.out, HXY.out]⟩
        case measure => simp [intOf]; omega
      | false =>
        have HXY : Hd (x ≠ y) := hd (fun h => by have := HX.out.mpr h; cases this)
        clear HX
        go_upto_region 6 with (fail)
        refine rg (N := 9) (by kernel_rfl) (by kernel_rfl) (S := (fun wx => Chg [] wr wx)) ((Chg.refl _ _).drew) (fun hHeld => ?_)
        refine tks [0, 1, 2, 3, 4, 5, 6, 7, 8] (by kernel_rfl) (fun _ _ _ _ _ h => h) (by assumption) ?_
        iterate 3 (refine tkc rfl rfl (by rfl) (fun wx hSw => by (try dsimp only at hSw); (have t0 := hlti; have t1 := hwj); go_simp; (try with_reducible rfl)) ?_; simp only [List.set])
        refine tkc rfl rfl (by rfl) (fun wx hSw => by (try dsimp only at hSw); (refine exec_load_at (x := .tmp 18) (cs := cJt x) ?_ ?_ (cellsChg HCA.out hSw hga2) Tryz.underlying101 rfl (by kernel_rfl) <;> rfl)) ?_; simp only [List.set]
        iterate 3 (refine tkc rfl rfl (by rfl) (fun wx hSw => by (try dsimp only at hSw); (have t0 := hlti; have t1 := hwj); go_simp; (try with_reducible rfl)) ?_; simp only [List.set])
        refine tkc rfl rfl (by rfl) (fun wx hSw => by (try dsimp only at hSw); (refine exec_load_at (x := .tmp 22) (cs := cJt y) ?_ ?_ (cellsChg HCB.out hSw hgb2) Tryz.underlying101 rfl (by kernel_rfl) <;> rfl)) ?_; simp only [List.set]
        refine tkc rfl rfl (by rfl) (fun wx hSw => by (try dsimp only at hSw); (refine exec_neq (r := .bool (!false)) (t := 101) (ty2 := 101) (x := .tmp 19) (y := .tmp 23) (xs := (cJt x).toArray) (ys := (cJt y).toArray) ?_ ?_ ?_ (by kernel_rfl) (HR.out wx) <;> rfl)) ?_; simp only [List.set]
        refine tk0 ?_
        refine wpAnyH_done (by kernel_rfl) ?_ _
        skip
        have HMM := hd (HC.out.k' hHeld)
        clear hHeld
        go_wp2_with (fail)
        rw [HP.out]
        exact ⟨⟨false, rfl, by simp; exact HNE.out HXY.out⟩, HMM.out⟩
    · have hA : A.take j = A := List.take_of_length_le (by omega)
      have hB : B.take j = B := List.take_of_length_le (by have := HLE.out; omega)
      have hm := HM.out
      rw [hA, hB] at hm
      have HM3 := hd hm
      clear hA hB hm hc
      go_wp2_with (fail)
      rw [HP.out]
      exact ⟨⟨true, rfl, by simp; exact HM3.out⟩, HC.out⟩
set_option maxRecDepth 100000 in
set_option maxHeartbeats 2000000 in
theorem neqC_run (x y : Cnt) (w : World) : (binOp .neq 104 (.agg (cCt x).toArray) (.agg (cCt y).toArray)).run Tryz.prog w = .ok (.bool (!(x.a == y.a && x.b == y.b && x.key == y.key && x.n == y.n && x.t == y.t))) w := by
  obtain ⟨a, b, k, n, t⟩ := x
  obtain ⟨a2, b2, k2, n2, t2⟩ := y
  unfold cCt
  simp only
  generalize he0 : (a == a2) = e0
  generalize he1 : (b == b2) = e1
  generalize he2 : (k == k2) = e2
  generalize he3 : (n == n2) = e3
  generalize he4 : (t == t2) = e4
  cases e0 with
  | false => go_simp
  | true =>
    cases e1 with
    | false => go_simp
    | true =>
      cases e2 with
      | false => go_simp
      | true =>
        cases e3 with
        | false => go_simp
        | true =>
          cases e4 with
          | false => go_simp
          | true =>
            go_simp
theorem neqC_eq (x y : Cnt) : (x.a == y.a && x.b == y.b && x.key == y.key && x.n == y.n && x.t == y.t) = true ↔ x = y := by
  obtain ⟨a, b, k, n, t⟩ := x
  obtain ⟨a2, b2, k2, n2, t2⟩ := y
  simp only [Bool.and_eq_true, beq_iff_eq, Cnt.mk.injEq, and_assoc]
set_option maxRecDepth 100000 in
set_option maxHeartbeats 4000000 in
theorem EqualC_any (w : World) (va vb : Value) (A B : List Cnt) (ha : Rd w 5 va A.length (A.flatMap cCt)) (hb : Rd w 5 vb B.length (B.flatMap cCt)) :
    Calls Tryz.prog 49 #[va, vb] w fun e w' => EqOut (A = B) e ∧ Chg [] w w' := by
  obtain ⟨aa, ca, rfl, hma, haa⟩ := Rd.form (enc := cCt) (by decide) ha
  obtain ⟨ab, cb, rfl, hmb, hab⟩ := Rd.form (enc := cCt) (by decide) hb
  have HA : Hd (Rd w 5 (.slice aa A.length ca) A.length (A.flatMap cCt)) := hd ha
  have HB : Hd (Rd w 5 (.slice ab B.length cb) B.length (B.flatMap cCt)) := hd hb
  have HAA := hd haa
  have HAB := hd hab
  clear ha hb haa hab
  by_cases hlen : A.length = B.length
  case neg =>
    have h1 : ¬ ((A.length : Int) = (B.length : Int)) := by omega
    have h2 : ((A.length : Int) == (B.length : Int)) = false := by rw [beq_eq_false_iff_ne]; exact h1
    obtain ⟨P, hP⟩ : ∃ P : Ending → World → Prop, P = fun e w' => EqOut (A = B) e ∧ Chg [] w w' := ⟨_, rfl⟩
    rw [← hP]
    have HP := hd hP
    clear hP
    go_enter Tryz.func49, Tryz.ntmps49
    go_wp2
    rw [HP.out]
    exact ⟨⟨false, rfl, by simp; intro h; exact hlen (by rw [h])⟩, Chg.refl _ _⟩
  case pos =>
  have HLE := hd hlen
  rw [← hlen]
  clear hlen
  obtain ⟨P, hP⟩ : ∃ P : Ending → World → Prop, P = fun e w' => EqOut (A = B) e ∧ Chg [] w w' := ⟨_, rfl⟩
  rw [← hP]
  have HP := hd hP
  clear hP
  go_enter Tryz.func49, Tryz.ntmps49
  go_wp2_with (fail)
  go_loopw [5, 13] (fun _ i wr => ∃ k : Nat, k ≤ A.length ∧ i = .int .i64 k ∧ Chg [] w wr ∧ A.take k = B.take k)
    (fun _ i _ => A.length - (intOf i).toNat)
  case atStart => exact ⟨0, by omega, rfl, Chg.refl _ _, by simp⟩
  case round =>
    obtain ⟨j, hj, rfl, hc, hmap⟩ := hrel
    have HC := hd hc
    have HM := hd hmap
    clear hmap
    by_cases hlt : j < A.length
    · have hltB : j < B.length := by have := HLE.out; omega
      obtain ⟨ga, offa, e1, hga⟩ := HAA.out (by omega)
      obtain ⟨gb, offb, e2, hgb⟩ := HAB.out (by omega)
      subst e1
      subst e2
      have HCA := hd (cellsChg (Rd.cellsAt cCt_len HA.out j hlt) hc hga)
      have HCB := hd (cellsChg (Rd.cellsAt cCt_len HB.out j hltB) hc hgb)
      have hga2 : ga < wr.heap.size := Nat.lt_of_lt_of_le hga hc.size
      have hgb2 : gb < wr.heap.size := Nat.lt_of_lt_of_le hgb hc.size
      have HSA := hd (List.take_succ_eq_append_getElem hlt)
      have HSB := hd (List.take_succ_eq_append_getElem hltB)
      have hne : A[j] ≠ B[j] → A ≠ B := fun h he => h (by
        have h1 : A[j]? = B[j]? := by rw [he]
        simpa [hlt, hltB] using h1)
      have HNE := hd hne
      clear hne hc
      generalize A[j] = x at *
      generalize B[j] = y at *
      have HX := hd (neqC_eq x y)
      have HR := hd (fun wx => neqC_run x y wx)
      have hlti : (j : Int) < (A.length : Int) := by omega
      have hwj : IntKind.i64.wrap (j : Int) = (j : Int) := by rw [IntKind.wrap_i64]; omega
      generalize (x.a == y.a && x.b == y.b && x.key == y.key && x.n == y.n && x.t == y.t) = r at *
      cases r with
      | true =>
        have HXY := hd (HX.out.mp rfl)
        clear HX
        go_upto_region 6 with (fail)
        refine rg (N := 9) (by kernel_rfl) (by kernel_rfl) (S := (fun wx => Chg [] wr wx)) ((Chg.refl _ _).drew) (fun hHeld => ?_)
        refine tks [0, 1, 2, 3, 4, 5, 6, 7, 8] (by kernel_rfl) (fun _ _ _ _ _ h => h) (by assumption) ?_
        iterate 3 (refine tkc rfl rfl (by rfl) (fun wx hSw => by (try dsimp only at hSw); (have t0 := hlti; have t1 := hwj); go_simp; (try with_reducible rfl)) ?_; simp only [List.set])
        refine tkc rfl rfl (by rfl) (fun wx hSw => by (try dsimp only at hSw); (refine exec_load_at (x := .tmp 18) (cs := cCt x) ?_ ?_ (cellsChg HCA.out hSw hga2) Tryz.underlying104 rfl (by kernel_rfl) <;> rfl)) ?_; simp only [List.set]
        iterate 3 (refine tkc rfl rfl (by rfl) (fun wx hSw => by (try dsimp only at hSw); (have t0 := hlti; have t1 := hwj); go_simp; (try with_reducible rfl)) ?_; simp only [List.set])
        refine tkc rfl rfl (by rfl) (fun wx hSw => by (try dsimp only at hSw); (refine exec_load_at (x := .tmp 22) (cs := cCt y) ?_ ?_ (cellsChg HCB.out hSw hgb2) Tryz.underlying104 rfl (by kernel_rfl) <;> rfl)) ?_; simp only [List.set]
        refine tkc rfl rfl (by rfl) (fun wx hSw => by (try dsimp only at hSw); (refine exec_neq (r := .bool (!true)) (t := 104) (ty2 := 104) (x := .tmp 19) (y := .tmp 23) (xs := (cCt x).toArray) (ys := (cCt y).toArray) ?_ ?_ ?_ (by kernel_rfl) (HR.out wx) <;> rfl)) ?_; simp only [List.set]
        refine tk0 ?_
        refine wpAnyH_done (by kernel_rfl) ?_ _
        skip
        have HMM := hd (HC.out.k' hHeld)
        clear hHeld
        go_wp2_with (fail)
        go_roundw
        case rel => exact ⟨j + 1, by omega, by go_num, HMM.out, by rw [HSA.out, HSB.out, HM.out, HXY.out]⟩
        case measure => simp [intOf]; omega
      | false =>
        have HXY : Hd (x ≠ y) := hd (fun h => by have := HX.out.mpr h; cases this)
        clear HX
        go_upto_region 6 with (fail)
        refine rg (N := 9) (by kernel_rfl) (by kernel_rfl) (S := (fun wx => Chg [] wr wx)) ((Chg.refl _ _).drew) (fun hHeld => ?_)
        refine tks [0, 1, 2, 3, 4, 5, 6, 7, 8] (by kernel_rfl) (fun _ _ _ _ _ h => h) (by assumption) ?_
        iterate 3 (refine tkc rfl rfl (by rfl) (fun wx hSw => by (try dsimp only at hSw); (have t0 := hlti; have t1 := hwj); go_simp; (try with_reducible rfl)) ?_; simp only [List.set])
        refine tkc rfl rfl (by rfl) (fun wx hSw => by (try dsimp only at hSw); (refine exec_load_at (x := .tmp 18) (cs := cCt x) ?_ ?_ (cellsChg HCA.out hSw hga2) Tryz.underlying104 rfl (by kernel_rfl) <;> rfl)) ?_; simp only [List.set]
        iterate 3 (refine tkc rfl rfl (by rfl) (fun wx hSw => by (try dsimp only at hSw); (have t0 := hlti; have t1 := hwj); go_simp; (try with_reducible rfl)) ?_; simp only [List.set])
        refine tkc rfl rfl (by rfl) (fun wx hSw => by (try dsimp only at hSw); (refine exec_load_at (x := .tmp 22) (cs := cCt y) ?_ ?_ (cellsChg HCB.out hSw hgb2) Tryz.underlying104 rfl (by kernel_rfl) <;> rfl)) ?_; simp only [List.set]
        refine tkc rfl rfl (by rfl) (fun wx hSw => by (try dsimp only at hSw); (refine exec_neq (r := .bool (!false)) (t := 104) (ty2 := 104) (x := .tmp 19) (y := .tmp 23) (xs := (cCt x).toArray) (ys := (cCt y).toArray) ?_ ?_ ?_ (by kernel_rfl) (HR.out wx) <;> rfl)) ?_; simp only [List.set]
        refine tk0 ?_
        refine wpAnyH_done (by kernel_rfl) ?_ _
        skip
        have HMM := hd (HC.out.k' hHeld)
        clear hHeld
        go_wp2_with (fail)
        rw [HP.out]
        exact ⟨⟨false, rfl, by simp; exact HNE.out HXY.out⟩, HMM.out⟩
    · have hA : A.take j = A := List.take_of_length_le (by omega)
      have hB : B.take j = B := List.take_of_length_le (by have := HLE.out; omega)
      have hm := HM.out
      rw [hA, hB] at hm
      have HM3 := hd hm
      clear hA hB hm hc
      go_wp2_with (fail)
      rw [HP.out]
      exact ⟨⟨true, rfl, by simp; exact HM3.out⟩, HC.out⟩
end Go.Proofs.YtbiadpkglcdihaaGreat

/- world.Same. -/
namespace Go.Proofs.YtbiadpkglcdihaaGreat
open Go.RowKit

set_option maxRecDepth 100000 in
set_option maxHeartbeats 8000000 in
theorem WSame_any (w : World) (x y : Value) (X Y : Wld) (hx : WlS w x X) (hy : WlS w y Y) (hn : X.bodies.length ≤ 1099511627776) :
    Calls Tryz.prog 18 #[x, y] w fun e w' => EqOut (X = Y) e ∧ Chg [] w w' := by
  obtain ⟨bv, jv, kv, L, rfl, hx⟩ := hx
  obtain ⟨bv2, jv2, kv2, L2, rfl, hy⟩ := hy
  obtain ⟨tk, nb, nj, ⟨gx, gy⟩, bs, js, ks⟩ := X
  obtain ⟨tk2, nb2, nj2, ⟨gx2, gy2⟩, bs2, js2, ks2⟩ := Y
  have hl := hx.l
  have hl2 := hy.l
  simp only at hl hl2 hn
  subst hl hl2
  rw [List.length_map] at hn
  obtain ⟨ab, cb, rfl, -, -⟩ := Rd.form (by decide) hx.b.rd
  obtain ⟨aj, cj, rfl, -, -⟩ := Rd.form (by decide) hx.j
  obtain ⟨ak, ck, rfl, -, -⟩ := Rd.form (by decide) hx.c
  obtain ⟨ab2, cb2, rfl, -, -⟩ := Rd.form (by decide) hy.b.rd
  obtain ⟨aj2, cj2, rfl, -, -⟩ := Rd.form (by decide) hy.j
  obtain ⟨ak2, ck2, rfl, -, -⟩ := Rd.form (by decide) hy.c
  have hB := fun W (h : Chg [] w W) => EqualB_any W _ _ L L2 (hx.b.k h) (hy.b.k h) hn
  have hJ := fun W (h : Chg [] w W) => EqualJ_any W _ _ js js2 (hx.j.k h) (hy.j.k h)
  have hC := fun W (h : Chg [] w W) => EqualC_any W _ _ ks ks2 (hx.c.k h) (hy.c.k h)
  simp only at hJ hC
  unfold vW
  simp only
  have HB := hd hB
  have HJ := hd hJ
  have HC := hd hC
  clear hB hJ hC hx hy
  obtain ⟨P, hP⟩ : ∃ P : Ending → World → Prop, P = fun e w' => EqOut ((⟨tk, nb, nj, (gx, gy), L.map (·.1), js, ks⟩ : Wld) = ⟨tk2, nb2, nj2, (gx2, gy2), L2.map (·.1), js2, ks2⟩) e ∧ Chg [] w w' := ⟨_, rfl⟩
  rw [← hP]
  have HP := hd hP
  clear hP
  by_cases h0 : tk = tk2
  case neg =>
    have HH := hd h0
    have g : (tk == tk2) = false := by rw [beq_eq_false_iff_ne]; exact h0
    go_enter Tryz.func18, Tryz.ntmps18
    go_wp2
    rw [HP.out]
    exact ⟨⟨false, rfl, by simp only [Bool.false_eq_true, false_iff]; intro h; injection h with e1 e2 e3 e4 e5 e6 e7;  exact HH.out e1⟩, ((Chg.refl [] w).alloc _).alloc _⟩
  case pos =>
  subst h0
  by_cases h1 : nb = nb2
  case neg =>
    have HH := hd h1
    have g : (nb == nb2) = false := by rw [beq_eq_false_iff_ne]; exact h1
    go_enter Tryz.func18, Tryz.ntmps18
    go_wp2
    rw [HP.out]
    exact ⟨⟨false, rfl, by simp only [Bool.false_eq_true, false_iff]; intro h; injection h with e1 e2 e3 e4 e5 e6 e7;  exact HH.out e2⟩, ((Chg.refl [] w).alloc _).alloc _⟩
  case pos =>
  subst h1
  by_cases h2 : nj = nj2
  case neg =>
    have HH := hd h2
    have g : (nj == nj2) = false := by rw [beq_eq_false_iff_ne]; exact h2
    go_enter Tryz.func18, Tryz.ntmps18
    go_wp2
    rw [HP.out]
    exact ⟨⟨false, rfl, by simp only [Bool.false_eq_true, false_iff]; intro h; injection h with e1 e2 e3 e4 e5 e6 e7;  exact HH.out e3⟩, ((Chg.refl [] w).alloc _).alloc _⟩
  case pos =>
  subst h2
  by_cases h3 : gx = gx2
  case neg =>
    have HH := hd h3
    have g : (gx == gx2) = false := by rw [beq_eq_false_iff_ne]; exact h3
    go_enter Tryz.func18, Tryz.ntmps18
    go_wp2
    rw [HP.out]
    exact ⟨⟨false, rfl, by simp only [Bool.false_eq_true, false_iff]; intro h; injection h with e1 e2 e3 e4 e5 e6 e7;  exact HH.out (Prod.mk.inj e4).1⟩, ((Chg.refl [] w).alloc _).alloc _⟩
  case pos =>
  subst h3
  by_cases h4 : gy = gy2
  case neg =>
    have HH := hd h4
    have g : (gy == gy2) = false := by rw [beq_eq_false_iff_ne]; exact h4
    go_enter Tryz.func18, Tryz.ntmps18
    go_wp2
    rw [HP.out]
    exact ⟨⟨false, rfl, by simp only [Bool.false_eq_true, false_iff]; intro h; injection h with e1 e2 e3 e4 e5 e6 e7;  exact HH.out (Prod.mk.inj e4).2⟩, ((Chg.refl [] w).alloc _).alloc _⟩
  case pos =>
  subst h4
  have hcb := ((Chg.refl [] w).alloc (.cells #[.int .i64 tk, .int .i64 nb, .int .i64 nj, .int .i64 gx, .int .i64 gy, .slice ab L.length cb, .slice aj js.length cj, .slice ak ks.length ck] 32)).alloc (.cells #[.int .i64 tk, .int .i64 nb, .int .i64 nj, .int .i64 gx, .int .i64 gy, .slice ab2 L2.length cb2, .slice aj2 js2.length cj2, .slice ak2 ks2.length ck2] 32)
  have hk1 := (Blk.new w #[.int .i64 tk, .int .i64 nb, .int .i64 nj, .int .i64 gx, .int .i64 gy, .slice ab L.length cb, .slice aj js.length cj, .slice ak ks.length ck] 32).alloc (.cells #[.int .i64 tk, .int .i64 nb, .int .i64 nj, .int .i64 gx, .int .i64 gy, .slice ab2 L2.length cb2, .slice aj2 js2.length cj2, .slice ak2 ks2.length ck2] 32)
  have hk2 := Blk.new (w.alloc (.cells #[.int .i64 tk, .int .i64 nb, .int .i64 nj, .int .i64 gx, .int .i64 gy, .slice ab L.length cb, .slice aj js.length cj, .slice ak ks.length ck] 32)) #[.int .i64 tk, .int .i64 nb, .int .i64 nj, .int .i64 gx, .int .i64 gy, .slice ab2 L2.length cb2, .slice aj2 js2.length cj2, .slice ak2 ks2.length ck2] 32
  rw [World.size_alloc] at hk2
  go_enter Tryz.func18, Tryz.ntmps18
  go_upto_region 3 with (fail)
  generalize (w.alloc (.cells #[.int .i64 tk, .int .i64 nb, .int .i64 nj, .int .i64 gx, .int .i64 gy, .slice ab L.length cb, .slice aj js.length cj, .slice ak ks.length ck] 32)).alloc (.cells #[.int .i64 tk, .int .i64 nb, .int .i64 nj, .int .i64 gx, .int .i64 gy, .slice ab2 L2.length cb2, .slice aj2 js2.length cj2, .slice ak2 ks2.length ck2] 32) = w0 at *
  generalize w.heap.size + 1 = b2 at *
  generalize w.heap.size = b1 at *
  have K1 := hd hk1
  have K2 := hd hk2
  have HCB := hd hcb
  clear hk1 hk2 hcb
  have p5 := K1.out.cell 5
  have q5 := K2.out.cell 5
  simp at p5 q5
  go_wp2_with fail
  refine (HB.out _ HCB.out).mono ?_
  rintro e w1 ⟨⟨r1, rfl, hr1⟩, h1⟩
  have HR1 := hd hr1
  have HC1 := hd (HCB.out.k' h1)
  have L1 := hd (K1.out.k h1)
  have L2' := hd (K2.out.k h1)
  clear hr1 h1 p5 q5
  cases r1 with
  | false =>
    go_wp2_with (fail)
    rw [HP.out]
    exact ⟨⟨false, rfl, by simp only [Bool.false_eq_true, false_iff]; intro h; injection h with e1 e2 e3 e4 e5 e6 e7; exact absurd (HR1.out.mpr e5) (by simp)⟩, HC1.out⟩
  | true =>
  have p6 := L1.out.cell 6
  have q6 := L2'.out.cell 6
  simp at p6 q6
  go_wp2_with fail
  refine (HJ.out _ HC1.out).mono ?_
  rintro e w2 ⟨⟨r2, rfl, hr2⟩, h2⟩
  have HR2 := hd hr2
  have HC2 := hd (HC1.out.k' h2)
  have M1 := hd (L1.out.k h2)
  have M2 := hd (L2'.out.k h2)
  clear hr2 h2 p6 q6
  cases r2 with
  | false =>
    go_wp2_with (fail)
    rw [HP.out]
    exact ⟨⟨false, rfl, by simp only [Bool.false_eq_true, false_iff]; intro h; injection h with e1 e2 e3 e4 e5 e6 e7; exact absurd (HR2.out.mpr e6) (by simp)⟩, HC2.out⟩
  | true =>
  have p7 := M1.out.cell 7
  have q7 := M2.out.cell 7
  simp at p7 q7
  go_wp2_with fail
  refine (HC.out _ HC2.out).mono ?_
  rintro e w3 ⟨⟨r3, rfl, hr3⟩, h3⟩
  have HR3 := hd hr3
  have HC3 := hd (HC2.out.k' h3)
  clear hr3 h3 p7 q7
  go_wp2_with (fail)
  rw [HP.out]
  refine ⟨⟨r3, rfl, ?_⟩, HC3.out⟩
  rw [HR3.out]
  constructor
  · intro h; rw [h, HR1.out.mp trivial, HR2.out.mp trivial]
  · intro h; injection h
end Go.Proofs.YtbiadpkglcdihaaGreat

/- law09: a deed is done to a world. -/
namespace Go.Proofs.YtbiadpkglcdihaaGreat
open Go.RowKit

def DoOut (w : World) (wb : Nat) (S : List Nat) (X : Wld) (d : Deed) (e : Ending) (w' : World) : Prop :=
  e = .returned (.tuple #[.int .i64 (doW X d).2.1, .int .i64 (doW X d).2.2.1, .bool (doW X d).2.2.2]) ∧ Chg [wb] w w' ∧ ∃ bv' jv' kv' L', WB w' wb S bv' jv' kv' L' (doW X d).1
set_option maxRecDepth 100000 in
set_option maxHeartbeats 8000000 in
theorem Do_any (w : World) (wb : Nat) (S : List Nat) (bv jv kv : Value) (L : List BV) (X : Wld) (d : Deed) (pv : Value) (h : WB w wb S bv jv kv L X) (hg : GW X) (hpv : VsS w pv d.raw.shape.p) (hI : ID d) :
    Calls Tryz.prog 68 #[vD d pv, .pointer (some ⟨wb, 0, none⟩)] w (DoOut w wb S X d) := by
  have hJ := fun W (hW : VsS W pv d.raw.shape.p) => DeedJoint_any d pv W hW
  have hB := fun W (hW : VsS W pv d.raw.shape.p) => DeedBody_any d pv W hW
  have hbl : X.bodies.length ≤ 100000000000 := by have := hg.fit.bl; omega
  have hjl : X.joints.length ≤ 100000000000 := by have := hg.fit.jl; omega
  have hcl : X.contacts.length ≤ 100000000000 := by have := hg.fit.cl; omega
  have hij := jointD_IJ d hI
  have hib := bodyD_IB d hI
  have hAJ := fun W (hW : WB W wb S bv jv kv L X) => AddJoint_any W wb S bv jv kv L X (jointD d) hW hij.at_ hij.to_ hbl hg.rb hjl hg.fit.nj
  have hAB := fun W bw (hW : WB W wb S bv jv kv L X) (hb : VsS W bw (bodyD d).shape.p) => AddBody_any W wb S bv jv kv L X (bodyD d) bw hW hb hib.sp hib.pos hib.vel hib.spin hbl hg.fit.nb
  have hRB := fun W (hW : WB W wb S bv jv kv L X) => RemBody_any W wb S bv jv kv L X (d.a % 16) hW hbl hg.rb hjl hcl
  have hRJ := fun W (hW : WB W wb S bv jv kv L X) => RemJoint_any W wb S bv jv kv L X (d.a % 16) hW hjl hg.rj
  obtain ⟨P, hP⟩ : ∃ P : Ending → World → Prop, P = DoOut w wb S X d := ⟨_, rfl⟩
  rw [← hP]
  have HP := hd hP
  unfold DoOut doW at HP
  clear hP hbl hjl hcl hij hib hg hI
  have u1 : bits .and .i64 d.kind 7 = d.kind % 8 := and_mask d.kind 3 (by decide)
  have u2 : bits .and .i64 d.a 15 = d.a % 16 := and_mask d.a 4 (by decide)
  generalize d.kind % 8 = m at *
  generalize d.a % 16 = a16 at *
  have hc0 := (Chg.refl [] w).alloc (.cells (cD d pv).toArray 140)
  have hk0 := Blk.new w (cD d pv).toArray 140
  unfold vD at *
  go_enter Tryz.func68, Tryz.ntmps68
  go_upto_region 1 with (fail)
  have HW0 := hd (h.k hc0)
  have HV0 := hd (hpv.k hc0)
  have HC0 := hd hc0
  clear h hpv hc0
  generalize w.alloc (.cells (cD d pv).toArray 140) = w0 at *
  generalize w.heap.size = xb at *
  have q0 := hk0.cell 0
  have q12 := hk0.cell 12
  simp [cD] at q0 q12
  have HK := hd hk0
  clear hk0
  by_cases m4 : m = 4 ∨ m = 5
  · rw [if_pos m4] at HP
    rcases m4 with rfl | rfl
    all_goals
      go_wp2_with (first
        | (refine wpList_load_row rfl _ _ rfl xb rfl 140 _ (0, 0) _ HK.out Tryz.underlying140 rfl (by kernel_rfl) ?_)
        | (go_at_call 95; refine (hJ _ HV0.out).mono ?_; rintro e w1 ⟨rfl, h1⟩)
        | (go_at_call 94; refine (hAJ _ (HW0.out.k h1)).mono ?_; rintro e w2 ⟨rfl, h2, jv', hW2⟩))
      rw [HP.out]
      refine bodyPost_ret (v := .tuple #[.int .i64 (addJ X (jointD d)).2.1, .int .i64 (addJ X (jointD d)).2.2, .bool false]) (by simp only [results]; go_simp) rfl ⟨rfl, (HC0.out.k h1).mono (by simp) |>.trans h2 (fun x hx _ => hx), _, _, _, _, hW2⟩
  rw [if_neg m4] at HP
  have g4 : (m == 4) = false := by rw [beq_eq_false_iff_ne]; omega
  have g5 : (m == 5) = false := by rw [beq_eq_false_iff_ne]; omega
  by_cases m6 : m = 6
  · rw [if_pos m6] at HP
    subst m6
    go_wp2_with (go_at_call 96; refine (hRB _ HW0.out).mono ?_; rintro e w2 ⟨rfl, h2, bv', jv', kv', L', hW2⟩)
    rw [HP.out]
    refine bodyPost_ret (v := .tuple #[.int .i64 0, .int .i64 0, .bool (remB X a16).2]) (by simp only [results]; go_simp) rfl ⟨rfl, HC0.out.mono (by simp) |>.trans h2 (fun x hx _ => hx), _, _, _, _, hW2⟩
  rw [if_neg m6] at HP
  have g6 : (m == 6) = false := by rw [beq_eq_false_iff_ne]; omega
  by_cases m3 : m = 3
  · rw [if_pos m3] at HP
    subst m3
    go_wp2_with (go_at_call 97; refine (hRJ _ HW0.out).mono ?_; rintro e w2 ⟨rfl, h2, jv', hW2⟩)
    rw [HP.out]
    refine bodyPost_ret (v := .tuple #[.int .i64 0, .int .i64 0, .bool (remJ X a16).2]) (by simp only [results]; go_simp) rfl ⟨rfl, HC0.out.mono (by simp) |>.trans h2 (fun x hx _ => hx), _, _, _, _, hW2⟩
  rw [if_neg m3] at HP
  have g3 : (m == 3) = false := by rw [beq_eq_false_iff_ne]; omega
  clear m4 m6 m3
  go_wp2_with (first
    | (refine wpList_load_row rfl _ _ rfl xb rfl 140 _ (0, 0) _ HK.out Tryz.underlying140 rfl (by kernel_rfl) ?_)
    | (go_at_call 99; refine (hB _ HV0.out).mono ?_; rintro e w1 ⟨bw, rfl, hbw, h1, -⟩)
    | (go_at_call 98; refine (hAB _ _ (HW0.out.k h1) hbw).mono ?_; rintro e w2 ⟨rfl, h2, bv', L', hW2⟩))
  rw [HP.out]
  refine bodyPost_ret (v := .tuple #[.int .i64 (addB X (bodyD d)).2.1, .int .i64 (addB X (bodyD d)).2.2, .bool false]) (by simp only [results]; go_simp) rfl ⟨rfl, (HC0.out.k h1).mono (by simp) |>.trans h2 (fun x hx _ => hx), _, _, _, _, hW2⟩
end Go.Proofs.YtbiadpkglcdihaaGreat

/- law09: worlds made of deeds. -/
namespace Go.Proofs.YtbiadpkglcdihaaGreat
open Go.RowKit

theorem wC_W0 : wC W0 (.slice none 0 0) (.slice none 0 0) (.slice none 0 0) = #[.int .i64 0, .int .i64 1, .int .i64 1, .int .i64 0, .int .i64 0, .slice none 0 0, .slice none 0 0, .slice none 0 0] := rfl
theorem W0_parts (w : World) : WlP w (.slice none 0 0) (.slice none 0 0) (.slice none 0 0) [] W0 :=
  ⟨⟨Rd.ofOwn (e := 97) (base := 0) (World.ownsRow_nil _ _ _ _), by simp⟩, rfl, Rd.ofOwn (e := 101) (base := 0) (World.ownsRow_nil _ _ _ _), Rd.ofOwn (e := 104) (base := 0) (World.ownsRow_nil _ _ _ _)⟩
theorem W0_apart (S : List Nat) : Apart S (.slice none 0 0) (.slice none 0 0) (.slice none 0 0) [] W0 := ⟨by simp, by simp [W0], by simp [W0], by simp⟩
theorem wC_all {w : World} {bv jv kv : Value} {L : List BV} {X : Wld} (h : WlP w bv jv kv L X) : (wC X bv jv kv).all (·.oneCell') = true := by
  obtain ⟨ab, cb, rfl, -, -⟩ := Rd.form (by decide) h.b.rd
  obtain ⟨aj, cj, rfl, -, -⟩ := Rd.form (by decide) h.j
  obtain ⟨ak, ck, rfl, -, -⟩ := Rd.form (by decide) h.c
  simp [wC, Value.oneCell']
def MadeNew (w : World) (X : Wld) (e : Ending) (w' : World) : Prop := ∃ bv jv kv L, e = .returned (vW X bv jv kv) ∧ WlP w' bv jv kv L X ∧ (∀ S : List Nat, (∀ x ∈ S, x < w.heap.size) → Apart S bv jv kv L X) ∧ Chg [] w w'
theorem Apart.sub {S T : List Nat} {bv jv kv : Value} {L : List BV} {X : Wld} (h : Apart S bv jv kv L X) (hs : ∀ x ∈ T, x ∈ S) : Apart T bv jv kv L X :=
  ⟨fun hn k hk hm => h.b hn k hk (hs k hm), fun hn k hk hm => h.j hn k hk (hs k hm), fun hn k hk hm => h.k hn k hk (hs k hm), fun x hx hn k hk hm => h.s x hx hn k hk (hs k hm)⟩
set_option maxRecDepth 100000 in
set_option maxHeartbeats 8000000 in
theorem Made_new (w : World) (v : Value) (l : List DV) (m : Nat) (hl : DsS w v l) (hI : ∀ x ∈ l, ID x.1) (hm : m ≤ 1048576) :
    Calls Tryz.prog 30 #[v, .int .i64 m] w (MadeNew w (madeW ((l.take m).map (·.1)))) := by
  obtain ⟨av, cv, rfl, hmb, hav⟩ := Rd.form (by decide) hl.rd
  obtain ⟨q, hq⟩ : ∃ q, q = min l.length m := ⟨_, rfl⟩
  have HQ := hd hq
  have hq1 : min (l.length : Int) (m : Int) = (q : Int) := by rw [hq]; omega
  have hq2 : q ≤ l.length ∧ q ≤ m := by omega
  clear hq
  have hcap : l.length ≤ cv := (Rd.caps hl.rd).1
  have HL := hd hl
  have HI := hd hI
  have HAV := hd hav
  clear hl hI hav
  obtain ⟨P, hP⟩ : ∃ P : Ending → World → Prop, P = MadeNew w (madeW ((l.take m).map (·.1))) := ⟨_, rfl⟩
  rw [← hP]
  have HP := hd hP
  clear hP
  have hcr := (Chg.refl [] w).alloc (.cells #[.int .i64 0, .int .i64 0, .int .i64 0, .int .i64 0, .int .i64 0, .slice none 0 0, .slice none 0 0, .slice none 0 0] 32)
  have hkr := Blk.new w #[.int .i64 0, .int .i64 0, .int .i64 0, .int .i64 0, .int .i64 0, .slice none 0 0, .slice none 0 0, .slice none 0 0] 32
  go_enter Tryz.func30, Tryz.ntmps30
  go_upto_region 1 with (fail)
  generalize w.alloc (.cells #[.int .i64 0, .int .i64 0, .int .i64 0, .int .i64 0, .int .i64 0, .slice none 0 0, .slice none 0 0, .slice none 0 0] 32) = wr0 at *
  obtain ⟨rb, hrb⟩ : ∃ rb, rb = w.heap.size := ⟨_, rfl⟩
  rw [← hrb] at hkr ⊢
  have HRB := hd hrb
  have HKR := hd hkr
  have HCR := hd hcr
  clear hrb hkr hcr
  go_upto_region 2 with (go_at_call 29; refine (WNew_any _).mono ?_; rintro e w1 ⟨rfl, h1⟩; unfold vW0)
  have hcW := (Chg.refl [] w1).alloc (.cells #[.int .i64 0, .int .i64 1, .int .i64 1, .int .i64 0, .int .i64 0, .slice none 0 0, .slice none 0 0, .slice none 0 0] 32)
  have hkW := Blk.new w1 #[.int .i64 0, .int .i64 1, .int .i64 1, .int .i64 0, .int .i64 0, .slice none 0 0, .slice none 0 0, .slice none 0 0] 32
  generalize w1.alloc (.cells #[.int .i64 0, .int .i64 1, .int .i64 1, .int .i64 0, .int .i64 0, .slice none 0 0, .slice none 0 0, .slice none 0 0] 32) = w2 at *
  obtain ⟨wb, hwb⟩ : ∃ wb, wb = w1.heap.size := ⟨_, rfl⟩
  rw [← hwb] at hkW ⊢
  have HWB : Hd (rb < wb ∧ w.heap.size ≤ wb) := hd (by have := HKR.out.lt; have := h1.size; have := HRB.out; omega)
  have HC2 := hd ((HCR.out.k h1).k hcW)
  have HKR2 := hd ((HKR.out.k h1).k hcW)
  obtain ⟨S0, hS0⟩ : ∃ S0, S0 = wb :: rb :: List.range w.heap.size := ⟨_, rfl⟩
  have HS0 : Hd (wb ∈ S0 ∧ rb ∈ S0 ∧ (∀ x, x < w.heap.size → x ∈ S0) ∧ ∀ x ∈ S0, x < w2.heap.size) := hd (by
    rw [hS0]
    refine ⟨by simp, by simp, fun x hx => by simp [hx], fun x hx => ?_⟩
    have := hkW.lt; have := HWB.out; simp at hx; omega)
  clear hS0
  have HW2 := hd (show WB w2 wb S0 _ _ _ [] W0 from ⟨by rw [wC_W0]; exact hkW, W0_parts w2, W0_apart _, HS0.out.1, HS0.out.2.2.2⟩)
  clear hwb hkW hcW h1 HKR HCR
  go_cut [13, 14, 15, 16] from 400 (fun t13 t14 t15 t16 wx => t14 = .slice av q cv ∧ t15 = .int .i64 q ∧ t16 = .int .i64 0 ∧ wx = w2)
  case first =>
    by_cases h : l.length ≤ m
    · have hql : l.length = q := by rw [HQ.out]; omega
      have h' : (l.length : Int) ≤ (m : Int) := by omega
      have h2 : (l.length : Int) ≤ (cv : Int) := by omega
      have HQL := hd hql
      clear hql hq1 hq2
      go_wp2
      go_meet
      case rel => rw [← HQL.out]; exact ⟨rfl, rfl, rfl, rfl⟩
    · have hql : m = q := by rw [HQ.out]; omega
      have h' : (m : Int) < (l.length : Int) := by omega
      have h2 : (m : Int) ≤ (cv : Int) := by omega
      have HQL := hd hql
      clear hql hq1 hq2
      go_wp2
      go_meet
      case rel => rw [← HQL.out]; exact ⟨rfl, rfl, rfl, rfl⟩
  case rest =>
  obtain ⟨rfl, rfl, rfl, rfl⟩ := hcut
  have htm : l.take q = l.take m := by rw [HQ.out]; by_cases h : l.length ≤ m <;> simp [h, List.take_of_length_le] <;> omega
  have htl : (l.take q).length = q := by rw [List.length_take]; omega
  have hT : DsS w (.slice av q cv) (l.take q) := ⟨by
    rw [htl]
    have := Rd.takeN HL.out.rd q hq2.1
    have e := flat_cut cDV 30 cDV_len l 0 q
    simp only [Nat.zero_mul, List.drop_zero] at e
    rwa [e] at this, fun x hx => HL.out.ps x (List.mem_of_mem_take hx)⟩
  have hIT : ∀ x ∈ l.take q, ID x.1 := fun x hx => HI.out x (List.mem_of_mem_take hx)
  rw [← htm] at HP
  generalize l.take q = T at *
  have HTL := hd htl
  have hqq : q ≤ 1048576 := by omega
  obtain ⟨ac', cc', hce, hmc, hac⟩ := Rd.form (by decide) hT.rd
  injection hce with hce1 hce2 hce3
  subst hce1 hce3
  have HT := hd hT
  have HIT := hd hIT
  have HAC := hd hac
  clear hT hIT htm htl hac hce2 HL HI HQ hmb hmc hq1 hq2 hcap
  go_wp2_with (fail)
  go_loopw [7, 16] (fun _ i wr => ∃ (j : Nat) (bv jv kv : Value) (L : List BV), j ≤ q ∧ i = .int .i64 j ∧ WB wr wb S0 bv jv kv L (madeW ((T.take j).map (·.1))) ∧ Chg [] w wr ∧ Blk wr rb #[.int .i64 0, .int .i64 0, .int .i64 0, .int .i64 0, .int .i64 0, .slice none 0 0, .slice none 0 0, .slice none 0 0] 32 ∧ Chg [wb] wc wr)
    (fun _ i _ => q - (intOf i).toNat)
  case atStart => exact ⟨0, _, _, _, _, by omega, rfl, by simpa [madeW] using HW2.out, HC2.out, HKR2.out, Chg.refl _ _⟩
  case round =>
    obtain ⟨j, bv, jv, kv, L, hj, rfl, hW, hc, hkr, hcc⟩ := hrel
    have HW := hd hW
    have HC := hd hc
    have HKRr := hd hkr
    have HCC := hd hcc
    clear hW hc hkr hcc
    by_cases hlt : j < q
    · have hlT : j < T.length := by have := HTL.out; omega
      obtain ⟨gb, off, hao, hgb⟩ := HAC.out (by omega)
      subst hao
      have hrg := hd (rangeAt_k (Rd.rangeAt cDV_len HT.out.rd j hlT) HC.out)
      have hps := (HT.out.ps _ (List.getElem_mem hlT)).k HC.out
      have hid := HIT.out _ (List.getElem_mem hlT)
      have hsn := List.take_succ_eq_append_getElem hlT
      generalize T[j] = x at *
      obtain ⟨d, pv⟩ := x
      simp only at hps hid
      obtain ⟨ap, cp, rfl, -⟩ := hps.form
      have kA := Blk.new wr #[.int .i64 0, .int .i64 0, .int .i64 0, .int .i64 0, .int .i64 0, .int .i64 0, .int .i64 0, .int .i64 0, .int .i64 0, .int .i64 0, .int .i64 0, .int .i64 0, .int .i64 0, .int .i64 0, .int .i64 0, .int .i64 0, .int .i64 0, .int .i64 0, .int .i64 0, .int .i64 0, .int .i64 0, .int .i64 0, .int .i64 0, .int .i64 0, .int .i64 0, .int .i64 0, .int .i64 0, .int .i64 0, .int .i64 0, .slice none 0 0] 140
      have kB := kA.row (cs' := (cDV (d, .slice ap d.raw.shape.p.length cp)).toArray)
      have hcB : Chg [] wr ((wr.alloc (.cells #[.int .i64 0, .int .i64 0, .int .i64 0, .int .i64 0, .int .i64 0, .int .i64 0, .int .i64 0, .int .i64 0, .int .i64 0, .int .i64 0, .int .i64 0, .int .i64 0, .int .i64 0, .int .i64 0, .int .i64 0, .int .i64 0, .int .i64 0, .int .i64 0, .int .i64 0, .int .i64 0, .int .i64 0, .int .i64 0, .int .i64 0, .int .i64 0, .int .i64 0, .int .i64 0, .int .i64 0, .int .i64 0, .int .i64 0, .slice none 0 0] 140)).setRow wr.heap.size (cDV (d, .slice ap d.raw.shape.p.length cp)).toArray) := Chg.row ((Chg.refl [] wr).alloc _) wr.heap.size _ (fun h => absurd h (Nat.lt_irrefl _))
      go_upto_region 5 with (first
        | (refine wpList_load_mid rfl _ _ rfl _ _ rfl (cDV (d, .slice ap d.raw.shape.p.length cp)) _ hrg.out Tryz.underlying140 rfl (by kernel_rfl) ?_)
        | (refine wpList_store_row rfl _ _ _ rfl wr.heap.size (cDV (d, .slice ap d.raw.shape.p.length cp)).toArray rfl rfl 140 _ kA (by kernel_rfl) rfl (cDV_all _ _ _ _) ?_))
      clear kA
      generalize (wr.alloc (.cells #[.int .i64 0, .int .i64 0, .int .i64 0, .int .i64 0, .int .i64 0, .int .i64 0, .int .i64 0, .int .i64 0, .int .i64 0, .int .i64 0, .int .i64 0, .int .i64 0, .int .i64 0, .int .i64 0, .int .i64 0, .int .i64 0, .int .i64 0, .int .i64 0, .int .i64 0, .int .i64 0, .int .i64 0, .int .i64 0, .int .i64 0, .int .i64 0, .int .i64 0, .int .i64 0, .int .i64 0, .int .i64 0, .int .i64 0, .slice none 0 0] 140)).setRow wr.heap.size (cDV (d, .slice ap d.raw.shape.p.length cp)).toArray = w3 at *
      generalize wr.heap.size = tb at *
      have hdo := Do_any w3 wb S0 bv jv kv L _ d _ (HW.out.k hcB) (made_GW _ (fun y hy => by obtain ⟨z, hz, rfl⟩ := List.mem_map.1 hy; exact HIT.out z (List.mem_of_mem_take hz))) (hps.k hcB) hid
      have HM := hd (show (doW (madeW ((T.take j).map (·.1))) d).1 = madeW ((T.take (j + 1)).map (·.1)) by rw [hsn, List.map_append]; exact (made_snoc _ d).symm)
      unfold DoOut at hdo
      rw [HM.out] at hdo
      have HC3 := hd (HC.out.k hcB)
      have HKR3 := hd (HKRr.out.k hcB)
      have HCC3 := hd (HCC.out.k' hcB)
      have HKB := hd kB
      clear kB hcB hps hid hsn HM hrg HC HKRr HCC HW
      generalize (doW (madeW ((T.take j).map (·.1))) d).2 = r at *
      obtain ⟨r1, r2, r3⟩ := r
      simp only at hdo
      go_wp2_with (first
        | (refine wpList_load_row rfl _ _ rfl tb rfl 140 _ (0, 0) _ HKB.out Tryz.underlying140 rfl (by kernel_rfl) ?_)
        | (go_at_call 68; refine hdo.mono ?_; rintro e w4 ⟨rfl, h4, bv', jv', kv', L', hW4⟩))
      go_roundw
      case rel => exact ⟨j + 1, bv', jv', kv', L', by omega, by go_num, hW4, HC3.out.trans h4 (fun x hx hl => by have := HWB.out; simp at hx; omega), HKR3.out.chg h4 (by have := HWB.out; simp; omega), HCC3.out.trans h4 (fun x hx _ => hx)⟩
      case measure => simp [intOf]; omega
    · have hj2 : T.take j = T := List.take_of_length_le (by have := HTL.out; omega)
      rw [hj2] at HW
      have hWf := HW.out
      obtain ⟨X, hX⟩ : ∃ X, X = madeW (T.map (·.1)) := ⟨_, rfl⟩
      rw [← hX] at hWf HP
      have HWf := hd hWf
      have hall := wC_all hWf.p
      clear hX HW hWf hj2
      go_wp2_with (first
        | (refine wpList_load_row rfl _ _ rfl wb rfl 32 _ (0, 0) _ HWf.out.blk Tryz.underlying32 rfl (by kernel_rfl) ?_)
        | (refine wpList_store_row rfl _ _ _ rfl rb (wC X bv jv kv) rfl rfl 32 _ HKRr.out (by kernel_rfl) rfl hall ?_))
      have k5 := HKRr.out.row (cs' := wC X bv jv kv)
      have hs5 := Chg.row HC.out rb (wC X bv jv kv) (fun h => by have := HRB.out; omega)
      refine bodyPost_ret (results_cell_row rfl _ _ rb 32 _ (0, 0) _ rfl k5 Tryz.underlying32 rfl (by kernel_rfl)) rfl ?_
      rw [HP.out]
      exact ⟨bv, jv, kv, L, rfl, HWf.out.p.chg (Chg.row (Chg.refl [rb] wr) rb (wC X bv jv kv) (by simp)) (HWf.out.a.one HS0.out.2.1), fun S hS => HWf.out.a.sub (fun x hx => HS0.out.2.2.1 x (hS x hx)), hs5⟩
end Go.Proofs.YtbiadpkglcdihaaGreat

/- law20: At. -/
namespace Go.Proofs.YtbiadpkglcdihaaGreat
open Go.RowKit

def atW (l : List Deed) (tick : Int) : Wld := { madeW (l.take 6) with tick := tick % 65536 }
set_option maxRecDepth 100000 in
set_option maxHeartbeats 4000000 in
theorem At_any (w : World) (v : Value) (l : List DV) (t : Int) (_ht : I64 t) (hl : DsS w v l) (hI : ∀ x ∈ l, ID x.1) :
    Calls Tryz.prog 10 #[v, .int .i64 t] w (MadeNew w (atW (l.map (·.1)) t)) := by
  have hM0 := made_GW ((l.take 6).map (·.1)) (fun x hx => by obtain ⟨y, hy, rfl⟩ := List.mem_map.1 hx; exact hI y (List.mem_of_mem_take hy))
  clear hM0
  have hMd := fun W (hW : Chg [] w W) => Made_new W v l 6 (hl.k hW) hI (by decide)
  unfold atW
  rw [← List.map_take]
  generalize madeW ((l.take 6).map (·.1)) = M at *
  obtain ⟨P, hP⟩ : ∃ P : Ending → World → Prop, P = MadeNew w { M with tick := t % 65536 } := ⟨_, rfl⟩
  rw [← hP]
  have HP := hd hP
  clear hP
  have hk0 := Blk.new w #[.int .i64 0, .int .i64 0, .int .i64 0, .int .i64 0, .int .i64 0, .slice none 0 0, .slice none 0 0, .slice none 0 0] 32
  have hc0 := (Chg.refl [] w).alloc (.cells #[.int .i64 0, .int .i64 0, .int .i64 0, .int .i64 0, .int .i64 0, .slice none 0 0, .slice none 0 0, .slice none 0 0] 32)
  obtain ⟨kb, hkb⟩ : ∃ kb, kb = w.heap.size := ⟨_, rfl⟩
  go_enter Tryz.func10, Tryz.ntmps10
  go_upto_region 1 with (fail)
  generalize w.alloc (.cells #[.int .i64 0, .int .i64 0, .int .i64 0, .int .i64 0, .int .i64 0, .slice none 0 0, .slice none 0 0, .slice none 0 0] 32) = w0 at *
  rw [← hkb] at hk0 ⊢
  have HKB := hd hkb
  have HK0 := hd hk0
  have HC0 := hd hc0
  have hMd0 := hMd w0 hc0
  clear hMd hkb hk0 hc0 hl hI
  go_upto_region 2 with (go_at_call 30; refine hMd0.mono ?_; rintro e w1 ⟨bv5, jv5, kv5, L5, rfl, hx6, hap, h1⟩; obtain ⟨a6, c6, rfl, -, -⟩ := Rd.form (by decide) hx6.b.rd; obtain ⟨a7, c7, rfl, -, -⟩ := Rd.form (by decide) hx6.j; obtain ⟨a8, c8, rfl, -, -⟩ := Rd.form (by decide) hx6.c; unfold vW; go_simp)
  have HK1 := hd ((HK0.out.k h1).alloc (.cells #[.int .i64 M.tick, .int .i64 M.nb, .int .i64 M.nj, .int .i64 M.grav.1, .int .i64 M.grav.2, .slice a6 L5.length c6, .slice a7 M.joints.length c7, .slice a8 M.contacts.length c8] 32))
  have HC1 := hd ((HC0.out.k h1).k ((Chg.refl [] w1).alloc (.cells #[.int .i64 M.tick, .int .i64 M.nb, .int .i64 M.nj, .int .i64 M.grav.1, .int .i64 M.grav.2, .slice a6 L5.length c6, .slice a7 M.joints.length c7, .slice a8 M.contacts.length c8] 32)))
  have hN1 := Blk.new w1 #[.int .i64 M.tick, .int .i64 M.nb, .int .i64 M.nj, .int .i64 M.grav.1, .int .i64 M.grav.2, .slice a6 L5.length c6, .slice a7 M.joints.length c7, .slice a8 M.contacts.length c8] 32
  have HX1 := hd (hx6.k ((Chg.refl [] w1).alloc (.cells #[.int .i64 M.tick, .int .i64 M.nb, .int .i64 M.nj, .int .i64 M.grav.1, .int .i64 M.grav.2, .slice a6 L5.length c6, .slice a7 M.joints.length c7, .slice a8 M.contacts.length c8] 32)))
  have HLT : Hd (kb < w1.heap.size) := hd (Nat.lt_of_lt_of_le HK0.out.lt h1.size)
  have HLO := hd (show Apart [kb, w1.heap.size] (.slice a6 L5.length c6) (.slice a7 M.joints.length c7) (.slice a8 M.contacts.length c8) L5 M from ⟨fun h0 k hk hm => by have := hx6.b.rd; have := Rd.lt hx6.b.rd h0 (by decide) k hk; have := (hap [kb] (by simp; exact HK0.out.lt)).b h0 k hk; simp at hm this; omega, fun h0 k hk hm => by have := Rd.lt hx6.j h0 (by decide) k hk; have := (hap [kb] (by simp; exact HK0.out.lt)).j h0 k hk; simp at hm this; omega, fun h0 k hk hm => by have := Rd.lt hx6.c h0 (by decide) k hk; have := (hap [kb] (by simp; exact HK0.out.lt)).k h0 k hk; simp at hm this; omega, fun x hx h0 k hk hm => by have := Rd.lt (hx6.b.ps x hx) h0 (by decide) k hk; have := (hap [kb] (by simp; exact HK0.out.lt)).s x hx h0 k hk; simp at hm this; omega⟩)
  have HAL := hd (show ∀ S : List Nat, (∀ x ∈ S, x < w.heap.size) → Apart S _ _ _ L5 M from fun S hS => hap S (fun x hx => by have := hS x hx; have := HC0.out.size; omega))
  clear h1 hMd0 hx6 hap
  generalize w1.alloc (.cells #[.int .i64 M.tick, .int .i64 M.nb, .int .i64 M.nj, .int .i64 M.grav.1, .int .i64 M.grav.2, .slice a6 L5.length c6, .slice a7 M.joints.length c7, .slice a8 M.contacts.length c8] 32) = w2 at *
  obtain ⟨sb, hsb⟩ : ∃ sb, sb = w1.heap.size := ⟨_, rfl⟩
  rw [← hsb] at hN1 HLT HLO ⊢
  clear hsb
  have n0 := hN1.cell 0
  have f0 := hN1.free 0
  simp at n0
  have hY := hN1.set 0 (.int .i64 (t % 65536))
  simp at hY
  have hK2 := HK1.out.chg (Chg.setCell (Chg.refl [sb] w2) ⟨sb, 0, none⟩ (.int .i64 (t % 65536)) (by simp)) (by have := HLT.out; simp; omega)
  have hs := (Chg.setCell (Chg.refl [sb, kb] w2) ⟨sb, 0, none⟩ (.int .i64 (t % 65536)) (by simp)).row kb #[.int .i64 (t % 65536), .int .i64 M.nb, .int .i64 M.nj, .int .i64 M.grav.1, .int .i64 M.grav.2, .slice a6 L5.length c6, .slice a7 M.joints.length c7, .slice a8 M.contacts.length c8] (by simp)
  have hZ := hK2.row (cs' := #[.int .i64 (t % 65536), .int .i64 M.nb, .int .i64 M.nj, .int .i64 M.grav.1, .int .i64 M.grav.2, .slice a6 L5.length c6, .slice a7 M.joints.length c7, .slice a8 M.contacts.length c8])
  go_wp2_with (first
    | (rw [andFFFF])
    | (refine wpList_load_row rfl _ _ rfl sb rfl 32 _ (0, 0) _ hY Tryz.underlying32 rfl (by kernel_rfl) ?_)
    | (refine wpList_load_row rfl _ _ rfl kb rfl 32 _ (0, 0) _ hZ Tryz.underlying32 rfl (by kernel_rfl) ?_)
    | (refine wpList_store_row rfl _ _ _ rfl kb #[.int .i64 (t % 65536), .int .i64 M.nb, .int .i64 M.nj, .int .i64 M.grav.1, .int .i64 M.grav.2, .slice a6 L5.length c6, .slice a7 M.joints.length c7, .slice a8 M.contacts.length c8] rfl rfl 32 _ hK2 (by kernel_rfl) (by simp) (by simp [Value.oneCell']) ?_))
  have r0 := hZ.cell 0
  have r1 := hZ.cell 1
  have r2 := hZ.cell 2
  have r3 := hZ.cell 3
  have r4 := hZ.cell 4
  have r5 := hZ.cell 5
  have r6 := hZ.cell 6
  have r7 := hZ.cell 7
  simp at r0 r1 r2 r3 r4 r5 r6 r7
  refine bodyPost_ret (v := .agg #[.int .i64 (t % 65536), .int .i64 M.nb, .int .i64 M.nj, .int .i64 M.grav.1, .int .i64 M.grav.2, .slice a6 L5.length c6, .slice a7 M.joints.length c7, .slice a8 M.contacts.length c8]) ?_ rfl ?_
  · simp only [results]
    go_simp
  · rw [HP.out]
    have hA := HAL.out
    exact ⟨_, _, _, L5, rfl, let q := HX1.out.chg hs (HLO.out.sub (fun x hx => by simp at hx ⊢; omega)); ⟨q.b, q.l, q.j, q.c⟩, fun S hS => let q := hA S hS; ⟨q.b, q.j, q.k, q.s⟩, HC1.out.trans hs (fun x hx hl => by have := HKB.out; have := HLT.out; simp at hx; omega)⟩
end Go.Proofs.YtbiadpkglcdihaaGreat
