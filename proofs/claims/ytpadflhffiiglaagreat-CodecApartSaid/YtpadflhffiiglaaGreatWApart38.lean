/- Words and walks that Apart rests on: WorldEq. -/
import Derived.Test.YtpadflhffiiglaaGreatWApart24
import Derived.Test.YtpadflhffiiglaaGreatWApart37
/- slices.EqualFunc over bodies. -/
namespace Go.Proofs.YtpadflhffiiglaaGreat
open Go.RowKit

theorem sameB_iff (x y : Bdy) : sameB x y = true ↔ x = y := by
  obtain ⟨i, ⟨px, py⟩, ⟨vx, vy⟩, an, sp, de, ⟨sk, sr, p⟩⟩ := x
  obtain ⟨i2, ⟨px2, py2⟩, ⟨vx2, vy2⟩, an2, sp2, de2, ⟨sk2, sr2, p2⟩⟩ := y
  unfold sameB sameS
  simp only [Bool.and_eq_true, decide_eq_true_eq, Bdy.mk.injEq, Prod.mk.injEq, Shp.mk.injEq, and_assoc]
theorem cBV_all (x : Bdy) (a : Option Addr) (n c : Nat) : ((cBV (x, .slice a n c)).toArray).all (·.oneCell') = true := by simp [cBV, Value.oneCell']
def EqOut (p : Prop) (e : Ending) : Prop := ∃ r, e = .returned (.bool r) ∧ (r = true ↔ p)
set_option maxRecDepth 100000 in
set_option maxHeartbeats 8000000 in
theorem EqualB_any (w : World) (va vb : Value) (A B : List BV) (ha : BsS w va A) (hb : BsS w vb B) (hn : A.length ≤ 1099511627776) :
    Calls Tryz.prog 31 #[va, vb, .func (.func 32) #[] #[]] w fun e w' => EqOut (A.map (·.1) = B.map (·.1)) e ∧ Chg [] w w' := by
  obtain ⟨aa, ca, rfl, hma, haa⟩ := Rd.form (by decide) ha.rd
  obtain ⟨ab, cb, rfl, hmb, hab⟩ := Rd.form (by decide) hb.rd
  have HA := hd ha
  have HB := hd hb
  have HAA := hd haa
  have HAB := hd hab
  clear ha hb haa hab
  by_cases hlen : A.length = B.length
  case neg =>
    have h1 : ¬ ((A.length : Int) = (B.length : Int)) := by omega
    have h2 : ((A.length : Int) == (B.length : Int)) = false := by rw [beq_eq_false_iff_ne]; exact h1
    obtain ⟨P, hP⟩ : ∃ P : Ending → World → Prop, P = fun e w' => EqOut (A.map (·.1) = B.map (·.1)) e ∧ Chg [] w w' := ⟨_, rfl⟩
    rw [← hP]
    have HP := hd hP
    clear hP
    go_enter Tryz.func31, Tryz.ntmps31
    go_wp2
    rw [HP.out]
    exact ⟨⟨false, rfl, by simp; intro h; have := congrArg List.length h; simp at this; exact hlen this⟩, Chg.refl _ _⟩
  case pos =>
  have HLE := hd hlen
  rw [← hlen]
  clear hlen
  obtain ⟨P, hP⟩ : ∃ P : Ending → World → Prop, P = fun e w' => EqOut (A.map (·.1) = B.map (·.1)) e ∧ Chg [] w w' := ⟨_, rfl⟩
  rw [← hP]
  have HP := hd hP
  clear hP
  go_enter Tryz.func31, Tryz.ntmps31
  go_wp2_with (fail)
  go_loopw [7, 8, 9, 17] (fun _ _ _ i wr => ∃ k : Nat, k ≤ A.length ∧ i = .int .i64 k ∧ Chg [] w wr ∧ (A.take k).map (·.1) = (B.take k).map (·.1))
    (fun _ _ _ i _ => A.length - (intOf i).toNat)
  case atStart => exact ⟨0, by omega, rfl, Chg.refl _ _, by simp⟩
  case round =>
    obtain ⟨j, hj, rfl, hc, hmap⟩ := hrel
    have HC := hd hc
    have HM := hd hmap
    clear hmap
    by_cases hlt : j < A.length
    · have hltB : j < B.length := by have := HLE.out; omega
      obtain ⟨ga, offa, e1, hga⟩ := HAA.out (by omega)
      obtain ⟨gb, offb, e2, hgb⟩ := HAB.out (by omega)
      subst e1
      subst e2
      have hca := cellsChg (Rd.cellsAt cBV_len HA.out.rd j hlt) hc hga
      have hcb := cellsChg (Rd.cellsAt cBV_len HB.out.rd j hltB) hc hgb
      have hgb2 : gb < wr.heap.size := Nat.lt_of_lt_of_le hgb hc.size
      have hpa := (HA.out.ps _ (List.getElem_mem hlt)).k hc
      have hpb := (HB.out.ps _ (List.getElem_mem hltB)).k hc
      have hsA : (A.take (j + 1)).map (·.1) = (A.take j).map (·.1) ++ [A[j].1] := by rw [List.take_succ_eq_append_getElem hlt, List.map_append]; rfl
      have hsB : (B.take (j + 1)).map (·.1) = (B.take j).map (·.1) ++ [B[j].1] := by rw [List.take_succ_eq_append_getElem hltB, List.map_append]; rfl
      have hne : A[j].1 ≠ B[j].1 → A.map (·.1) ≠ B.map (·.1) := fun h he => h (by
        have h1 : (A.map (·.1))[j]? = (B.map (·.1))[j]? := by rw [he]
        simpa [hlt, hltB] using h1)
      have HSA := hd hsA
      have HSB := hd hsB
      have HNE := hd hne
      clear hsA hsB hne hc
      generalize A[j] = x at *
      generalize B[j] = y at *
      obtain ⟨x, pv⟩ := x
      obtain ⟨y, qv⟩ := y
      simp only at hpa hpb
      obtain ⟨ap, cp, rfl, -⟩ := hpa.form
      obtain ⟨aq, cq, rfl, -⟩ := hpb.form
      have HCA := hd hca
      clear hca
      have kA := Blk.new wr #[.int .i64 0, .int .i64 0, .int .i64 0, .int .i64 0, .int .i64 0, .int .i64 0, .int .i64 0, .int .i64 0, .int .i64 0, .int .i64 0, .slice none 0 0] 34
      have k1 := kA.row (cs' := (cBV (x, .slice ap x.shape.p.length cp)).toArray)
      have hc1 : Chg [] wr ((wr.alloc (.cells #[.int .i64 0, .int .i64 0, .int .i64 0, .int .i64 0, .int .i64 0, .int .i64 0, .int .i64 0, .int .i64 0, .int .i64 0, .int .i64 0, .slice none 0 0] 34)).setRow wr.heap.size (cBV (x, .slice ap x.shape.p.length cp)).toArray) := Chg.row ((Chg.refl [] wr).alloc _) wr.heap.size _ (fun h => absurd h (Nat.lt_irrefl _))
      go_upto_region 6 with (first
        | (refine wpList_load_at rfl _ _ rfl _ rfl (cBV (x, .slice ap x.shape.p.length cp)) _ HCA.out Tryz.underlying34 rfl (by kernel_rfl) ?_)
        | (refine wpList_store_row rfl _ _ _ rfl wr.heap.size (cBV (x, .slice ap x.shape.p.length cp)).toArray rfl rfl 34 _ kA (by kernel_rfl) rfl (cBV_all _ _ _ _) ?_))
      clear kA
      generalize (wr.alloc (.cells #[.int .i64 0, .int .i64 0, .int .i64 0, .int .i64 0, .int .i64 0, .int .i64 0, .int .i64 0, .int .i64 0, .int .i64 0, .int .i64 0, .slice none 0 0] 34)).setRow wr.heap.size (cBV (x, .slice ap x.shape.p.length cp)).toArray = w1 at *
      have HCB := hd (cellsChg hcb hc1 hgb2)
      have kA2 := Blk.new w1 #[.int .i64 0, .int .i64 0, .int .i64 0, .int .i64 0, .int .i64 0, .int .i64 0, .int .i64 0, .int .i64 0, .int .i64 0, .int .i64 0, .slice none 0 0] 34
      have k2 := kA2.row (cs' := (cBV (y, .slice aq y.shape.p.length cq)).toArray)
      have hc2 : Chg [] w1 ((w1.alloc (.cells #[.int .i64 0, .int .i64 0, .int .i64 0, .int .i64 0, .int .i64 0, .int .i64 0, .int .i64 0, .int .i64 0, .int .i64 0, .int .i64 0, .slice none 0 0] 34)).setRow w1.heap.size (cBV (y, .slice aq y.shape.p.length cq)).toArray) := Chg.row ((Chg.refl [] w1).alloc _) w1.heap.size _ (fun h => absurd h (Nat.lt_irrefl _))
      clear hcb
      go_upto_region 7 with (first
        | (refine wpList_load_at rfl _ _ rfl _ rfl (cBV (y, .slice aq y.shape.p.length cq)) _ HCB.out Tryz.underlying34 rfl (by kernel_rfl) ?_)
        | (refine wpList_store_row rfl _ _ _ rfl w1.heap.size (cBV (y, .slice aq y.shape.p.length cq)).toArray rfl rfl 34 _ kA2 (by kernel_rfl) rfl (cBV_all _ _ _ _) ?_))
      clear kA2
      generalize (w1.alloc (.cells #[.int .i64 0, .int .i64 0, .int .i64 0, .int .i64 0, .int .i64 0, .int .i64 0, .int .i64 0, .int .i64 0, .int .i64 0, .int .i64 0, .slice none 0 0] 34)).setRow w1.heap.size (cBV (y, .slice aq y.shape.p.length cq)).toArray = w2 at *
      have hcon := BSame_any w2 x y _ _ (hpa.k (hc1.k' hc2)) (hpb.k (hc1.k' hc2))
      have K1 := hd (k1.k hc2)
      have K2 := hd k2
      have HM2 := hd ((HC.out.k' hc1).k' hc2)
      clear k1 k2 hc1 hc2 hpa hpb
      cases hs : sameB x y with
      | true =>
        have hxy := (sameB_iff x y).mp hs
        rw [hs] at hcon
        have HXY := hd hxy
        clear hs hxy
        go_wp2_with (first
          | (refine wpList_load_row rfl _ _ rfl wr.heap.size rfl 34 _ (0, 0) _ K1.out Tryz.underlying34 rfl (by kernel_rfl) ?_)
          | (refine wpList_load_row rfl _ _ rfl w1.heap.size rfl 34 _ (0, 0) _ K2.out Tryz.underlying34 rfl (by kernel_rfl) ?_)
          | (go_at_call 32; refine hcon.mono ?_; rintro e w5 ⟨rfl, h5⟩))
        go_roundw
        case rel => exact ⟨j + 1, by omega, by go_num, HM2.out.k' h5, by rw [HSA.out, HSB.out, HM.out]; exact congrArg (fun z => _ ++ [z]) HXY.out⟩
        case measure => simp [intOf]; omega
      | false =>
        have hxy : x ≠ y := fun h => by rw [(sameB_iff x y).mpr h] at hs; cases hs
        rw [hs] at hcon
        have HXY := hd hxy
        clear hs hxy
        go_wp2_with (first
          | (refine wpList_load_row rfl _ _ rfl wr.heap.size rfl 34 _ (0, 0) _ K1.out Tryz.underlying34 rfl (by kernel_rfl) ?_)
          | (refine wpList_load_row rfl _ _ rfl w1.heap.size rfl 34 _ (0, 0) _ K2.out Tryz.underlying34 rfl (by kernel_rfl) ?_)
          | (go_at_call 32; refine hcon.mono ?_; rintro e w5 ⟨rfl, h5⟩))
        rw [HP.out]
        exact ⟨⟨false, rfl, by simp; exact HNE.out HXY.out⟩, HM2.out.k' h5⟩
    · have hA : A.take j = A := List.take_of_length_le (by omega)
      have hB : B.take j = B := List.take_of_length_le (by have := HLE.out; omega)
      have hm := HM.out
      rw [hA, hB] at hm
      have HM3 := hd hm
      clear hA hB hm hc
      go_wp2_with (fail)
      rw [HP.out]
      exact ⟨⟨true, rfl, by simp; exact HM3.out⟩, HC.out⟩
end Go.Proofs.YtpadflhffiiglaaGreat
