/- Words and walks that Codec rests on: Like, LShape. -/
import Derived.Test.YtlicefbgcoddbaaWCodec42
import Derived.Test.YtlicefbgcoddbaaWCodec43
import Derived.Test.YtlicefbgcoddbaaWCodec16
import Derived.Test.YtlicefbgcoddbaaWCodec27
import Derived.Test.YtlicefbgcoddbaaWCodec29
/- law15.Like: the same orders. -/
namespace Go.Proofs.Ytlicefbgcoddbaa
open Go.RowKit

theorem exec_load_at {P : Program} {o : Oper} {a : Act} {ty : TypeId} {x : Operand} {w : World} {ad : Addr} {cs : List Value} {d : TypeDesc} (ho : o.op = .load ty x) (hx : a.eval x = .pointer (some ad)) (hc : ∀ j v, cs[j]? = some v → w.cell? (ad.add j) = some v)
    (hu : P.underlying ty = some d) (hd : (match d with | .struct _ | .array _ _ => true | _ => false) = true) (hi : (P.info? ty).map (·.size) = some cs.length) : (execOp a.eval o).run P w = .ok (.value (.agg cs.toArray)) w := by
  unfold execOp
  simp only [ho, hx, Instr.loadAt, Instr.sureAddr, Sem.run_bind, Sem.run_pure, Result.andThen_ok, run_loadVar_at w ad ty cs d hc hu hd hi]
theorem cellsChg {w wx : World} {b k : Nat} {cs : List Value} (h : ∀ j v, cs[j]? = some v → w.cell? ((⟨b, k, none⟩ : Addr).add j) = some v) (hc : Chg [] w wx) (hb : b < w.heap.size) : ∀ j v, cs[j]? = some v → wx.cell? ((⟨b, k, none⟩ : Addr).add j) = some v := fun j v hv => by
  rw [hc.cell (p := (⟨b, k, none⟩ : Addr).add j) (by unfold Addr.add; split <;> simpa using hb) (by simp)]
  exact h j v hv
theorem sameO_refl (x : Ord) : sameO x x = true := by unfold sameO sameS; simp
set_option maxRecDepth 100000 in
set_option maxHeartbeats 4000000 in
theorem Like_any (w : World) (va vb : Value) (A B : List OV) (ha : OsS w va A) (hb : OsS w vb B) (he : A.map (·.1) = B.map (·.1)) (hn : A.length ≤ 1048576) :
    Calls Try.prog 15 #[va, vb] w fun e w' => e = .returned (.bool true) ∧ Chg [] w w' := by
  obtain ⟨aa, ca, rfl, haa⟩ := ha.form
  obtain ⟨ab, cb, rfl, hab⟩ := hb.form
  have hlen : B.length = A.length := by have := congrArg List.length he; simpa using this.symm
  have HB := hd hb
  have HE := hd he
  have HLE := hd hlen
  have HAA := hd haa
  have HAB := hd hab
  have HA := hd ha
  rw [hlen]
  clear ha hb he hlen haa hab
  go_enter Try.func15, Try.ntmps15
  go_wp2_with (fail)
  go_loopw [5, 13] (fun _ i wr => ∃ k : Nat, k ≤ A.length ∧ i = .int .i64 k ∧ Chg [] w wr)
    (fun _ i _ => A.length - (intOf i).toNat)
  case atStart => exact ⟨0, by omega, rfl, Chg.refl _ _⟩
  case round =>
    obtain ⟨j, hj, rfl, hc⟩ := hrel
    by_cases hlt : j < A.length
    · have hltB : j < B.length := by have := HLE.out; omega
      obtain ⟨ga, offa, e1, hga⟩ := HAA.out (by omega)
      obtain ⟨gb, offb, e2, hgb⟩ := HAB.out (by omega)
      subst e1
      subst e2
      have hca := cellsChg (Rd.cellsAt cOV_len HA.out.rd j hlt) hc hga
      have hcb := cellsChg (Rd.cellsAt cOV_len HB.out.rd j hltB) hc hgb
      have hga2 : ga < wr.heap.size := Nat.lt_of_lt_of_le hga hc.size
      have hgb2 : gb < wr.heap.size := Nat.lt_of_lt_of_le hgb hc.size
      have hpa := (HA.out.ps _ (List.getElem_mem hlt)).k hc
      have hpb := (HB.out.ps _ (List.getElem_mem hltB)).k hc
      have heq : A[j].1 = B[j].1 := by
        have := HE.out
        have h1 : (A.map (·.1))[j]? = (B.map (·.1))[j]? := by rw [this]
        simpa [hlt, hltB] using h1
      generalize A[j] = x at *
      generalize B[j] = y at *
      obtain ⟨x, pv⟩ := x
      obtain ⟨y, qv⟩ := y
      simp only at heq hpa hpb
      subst heq
      have hcon := fun W (h : Chg [] wr W) => OSame_any W x x pv qv (hpa.k h) (hpb.k h)
      rw [sameO_refl] at hcon
      have HCA := hd hca
      have HCB := hd hcb
      have HC := hd hc
      have HCON := hd hcon
      have hlti : (j : Int) < (A.length : Int) := by omega
      have hwj : IntKind.i64.wrap (j : Int) = (j : Int) := by rw [IntKind.wrap_i64]; omega
      clear hca hcb hc hcon hpa hpb
      go_upto_region 6 with (fail)
      refine anyH_start (n := 10) (L := #[false, false, false, false, false, false, false, false, false, false]) (by kernel_rfl) (by kernel_rfl) (S := (fun wx => Chg [] wr wx)) ((Chg.refl _ _).drew) (fun hHeld => ?_)
      generalize wr.drew = wd at *
      refine anyH_take (i := 0) (d := 16) (L' := #[true, false, false, false, false, false, false, false, false, false]) (v := ?v2) rfl rfl (by kernel_rfl) (fun _ _ _ h => h) (by rfl) ?hy2 (by assumption) ?rest2
      case hy2 => (intro wx hSw; (try dsimp only at hSw); (have t0 := hlti; have t1 := hwj); go_simp; (try with_reducible rfl))
      simp only [Act.put, List.setIfInBounds_toArray, List.set_cons_zero, List.set_cons_succ]
      refine anyH_take (i := 1) (d := 17) (L' := #[true, true, false, false, false, false, false, false, false, false]) (v := ?v3) rfl rfl (by kernel_rfl) (fun _ _ _ h => h) (by rfl) ?hy3 (by assumption) ?rest3
      case hy3 => (intro wx hSw; (try dsimp only at hSw); (have t0 := hlti; have t1 := hwj); go_simp; (try with_reducible rfl))
      simp only [Act.put, List.setIfInBounds_toArray, List.set_cons_zero, List.set_cons_succ]
      refine anyH_take (i := 2) (d := 18) (L' := #[true, true, true, false, false, false, false, false, false, false]) (v := ?v4) rfl rfl (by kernel_rfl) (fun _ _ _ h => h) (by rfl) ?hy4 (by assumption) ?rest4
      case hy4 => (intro wx hSw; (try dsimp only at hSw); (have t0 := hlti; have t1 := hwj); go_simp; (try with_reducible rfl))
      simp only [Act.put, List.setIfInBounds_toArray, List.set_cons_zero, List.set_cons_succ]
      refine anyH_take (i := 3) (d := 19) (L' := #[true, true, true, true, false, false, false, false, false, false]) (v := ?v5) rfl rfl (by kernel_rfl) (fun _ _ _ h => h) (by rfl) ?hy5 (by assumption) ?rest5
      case hy5 => (intro wx hSw; (try dsimp only at hSw); (refine exec_load_at (x := .tmp 18) (cs := cOV (x, pv)) ?_ ?_ (cellsChg HCA.out hSw hga2) Try.underlying35 rfl (by kernel_rfl) <;> rfl))
      simp only [Act.put, List.setIfInBounds_toArray, List.set_cons_zero, List.set_cons_succ]
      refine anyH_take (i := 4) (d := 20) (L' := #[true, true, true, true, true, false, false, false, false, false]) (v := ?v6) rfl rfl (by kernel_rfl) (fun _ _ _ h => h) (by rfl) ?hy6 (by assumption) ?rest6
      case hy6 => (intro wx hSw; (try dsimp only at hSw); (have t0 := hlti; have t1 := hwj); go_simp; (try with_reducible rfl))
      simp only [Act.put, List.setIfInBounds_toArray, List.set_cons_zero, List.set_cons_succ]
      refine anyH_take (i := 5) (d := 21) (L' := #[true, true, true, true, true, true, false, false, false, false]) (v := ?v7) rfl rfl (by kernel_rfl) (fun _ _ _ h => h) (by rfl) ?hy7 (by assumption) ?rest7
      case hy7 => (intro wx hSw; (try dsimp only at hSw); (have t0 := hlti; have t1 := hwj); go_simp; (try with_reducible rfl))
      simp only [Act.put, List.setIfInBounds_toArray, List.set_cons_zero, List.set_cons_succ]
      refine anyH_take (i := 6) (d := 22) (L' := #[true, true, true, true, true, true, true, false, false, false]) (v := ?v8) rfl rfl (by kernel_rfl) (fun _ _ _ h => h) (by rfl) ?hy8 (by assumption) ?rest8
      case hy8 => (intro wx hSw; (try dsimp only at hSw); (have t0 := hlti; have t1 := hwj); go_simp; (try with_reducible rfl))
      simp only [Act.put, List.setIfInBounds_toArray, List.set_cons_zero, List.set_cons_succ]
      refine anyH_take (i := 7) (d := 23) (L' := #[true, true, true, true, true, true, true, true, false, false]) (v := ?v9) rfl rfl (by kernel_rfl) (fun _ _ _ h => h) (by rfl) ?hy9 (by assumption) ?rest9
      case hy9 => (intro wx hSw; (try dsimp only at hSw); (refine exec_load_at (x := .tmp 22) (cs := cOV (x, qv)) ?_ ?_ (cellsChg HCB.out hSw hgb2) Try.underlying35 rfl (by kernel_rfl) <;> rfl))
      simp only [Act.put, List.setIfInBounds_toArray, List.set_cons_zero, List.set_cons_succ]
      refine anyH_run (i := 8) (L' := #[true, true, true, true, true, true, true, true, true, false]) rfl (by kernel_rfl) (by rfl) (fun KK hKK => ?_)
      go_simp
      (refine (HCON.out _ hHeld).mono ?_; rintro e w5 ⟨rfl, hm0⟩; have hm := Chg.k' hHeld hm0; clear hm0; (try go_simp))
      refine hKK.out _ _ (by assumption) (fun hHeld => ?_)
      clear hKK KK
      try simp only [Act.put, List.setIfInBounds_toArray, List.set_cons_zero, List.set_cons_succ]
      refine anyH_run (i := 9) (L' := #[true, true, true, true, true, true, true, true, true, true]) rfl (by kernel_rfl) (by rfl) (fun KK hKK => ?_)
      go_simp
      (skip)
      refine hKK.out _ _ (by assumption) (fun hHeld => ?_)
      clear hKK KK
      try simp only [Act.put, List.setIfInBounds_toArray, List.set_cons_zero, List.set_cons_succ]
      refine wpAnyH_done (by kernel_rfl) ?_ _
      skip
      have HM := hd (HC.out.k' hHeld)
      clear hHeld hm
      go_wp2_with (fail)
      go_roundw
      case rel => exact ⟨j + 1, by omega, by go_num, HM.out⟩
      case measure => simp [intOf]; omega
    · have HC := hd hc
      clear hc
      go_wp2_with (fail)
      go_ret
      exact ⟨rfl, HC.out⟩
end Go.Proofs.Ytlicefbgcoddbaa

/- law15.shape: a shape's bytes, by the document. -/
namespace Go.Proofs.Ytlicefbgcoddbaa
open Go.RowKit

set_option maxRecDepth 100000 in
set_option maxHeartbeats 4000000 in
theorem LShape_any (base b : Nat) (l : List UInt8) (s : Shp) (pv : Value) (w : World) (hw : WrT 41 w base b l) (hb : base ≤ b) (hz : ∀ w', Fr base b w w' → VsS w' pv s.p) (hl : l.length + 16 * s.p.length + 64 ≤ 140737488355000) :
    Calls Try.prog 36 #[.pointer (some ⟨b, 0, none⟩), vS s pv] w fun e w' =>
      e = .returned (.tuple #[]) ∧ WrT 41 w' base b (l ++ leS s) ∧ Fr base b w w' := by
  obtain ⟨k, r, p⟩ := s
  simp only at hz hl
  have hblt := hw.lt
  obtain ⟨ao, c, rfl, hmx, hao⟩ := Rd.form (by decide) (hz w (Fr.refl _ _ _))
  have hcb := (Chg.refl [] w).alloc (.cells #[.int .i64 k, .int .i64 r, .slice ao p.length c] 33)
  have hkb := Blk.new w #[.int .i64 k, .int .i64 r, .slice ao p.length c] 33
  have hf0 : Fr base b w (w.alloc (.cells #[.int .i64 k, .int .i64 r, .slice ao p.length c] 33)) := Fr.chg hcb (by omega)
  have hw0 := hw.k hcb
  have hz0 : ∀ w', Fr base b (w.alloc (.cells #[.int .i64 k, .int .i64 r, .slice ao p.length c] 33)) w' → VsS w' (.slice ao p.length c) p := fun w' h => hz w' (hf0.trans h)
  have hsz : (w.alloc (.cells #[.int .i64 k, .int .i64 r, .slice ao p.length c] 33)).heap.size = w.heap.size + 1 := by simp
  unfold vS
  obtain ⟨L, hL⟩ : ∃ L, L = leS ⟨k, r, p⟩ := ⟨_, rfl⟩
  rw [← hL]
  unfold leS at hL
  simp only at hL ⊢
  have HLL := hd hL
  clear hL
  clear hw hz hcb
  go_enter Try.func36, Try.ntmps36
  go_upto_region 1 with (fail)
  generalize w.alloc (.cells #[.int .i64 k, .int .i64 r, .slice ao p.length c] 33) = w0 at *
  have hbn : b ≠ w.heap.size := by omega
  generalize w.heap.size = bk at *
  have HQ : Hd (∀ wx, Fr base b w0 wx → wx.cell? ⟨bk, 0, none⟩ = some (.int .i64 k) ∧ wx.cell? ⟨bk, 1, none⟩ = some (.int .i64 r) ∧ wx.cell? ⟨bk, 2, none⟩ = some (.slice ao p.length c)) := hd fun wx hx => by
    have := hx.kp _ _ _ hkb (by decide) (fun e => hbn e.symm)
    exact ⟨this.cell 0, this.cell 1, this.cell 2⟩
  have HW0 := hd hw0
  have HF0 := hd hf0
  have HZ0 := hd hz0
  have HL := hd hl
  have HAO := hd hao
  clear hw0 hf0 hz0 hkb hbn hsz hl hblt hao
  obtain ⟨q0, q1, q2⟩ := HQ.out w0 (Fr.refl _ _ _)
  by_cases h1 : k = 1
  · subst h1
    go_wp2_with (first
      | (go_at_call 10; refine (WTNum_any _ (by decide) 1 1 base b _ _ HW0.out hb (by omega) (by omega) (by have := HL.out; omega)).mono ?_; rintro e w1 ⟨rfl, hw1, hf1⟩; obtain ⟨q0, q1, q2⟩ := HQ.out w1 hf1; have hF := Fs.fr (base := base) (b := b) (l := [r]) (n := 1) (Blk.new w1 #[.int .i64 r] 28) (by decide) (by have := hw1.lt; omega) rfl rfl (by simp); have hw2 := hw1.k ((Chg.refl [] w1).alloc (.cells #[.int .i64 r] 28)); have hf2 := hf1.trans (Fr.chg (base := base) (b := b) ((Chg.refl [] w1).alloc (.cells #[.int .i64 r] 28)) (by have := hw1.lt; omega)))
      | (go_at_call 34; refine (WTF_any _ (by decide) base b _ _ [r] _ hw2 hb hF (by have := HL.out; simp; omega)).mono ?_; rintro e w3 ⟨rfl, hw3, hf3⟩))
    go_end0
    exact ⟨rfl, by rw [HLL.out]; simpa using hw3, (HF0.out.trans hf2).trans hf3⟩
  · have g1 : (k == 1) = false := by rw [beq_eq_false_iff_ne]; exact h1
    go_wp2_with (first
      | (go_at_call 10; (with_reducible refine (WTNum_any _ (by decide) 1 k base b _ _ HW0.out hb (by omega) (by omega) (by have := HL.out; omega)).mono ?_); rintro e w1 ⟨rfl, hw1, hf1⟩; obtain ⟨q0, q1, q2⟩ := HQ.out w1 hf1)
      | (go_at_call 10; (with_reducible refine (WTNum_any _ (by decide) 1 p.length base b _ _ hw1 hb (by omega) (by omega) (by have := HL.out; simp; omega)).mono ?_); rintro e w2 ⟨rfl, hw2, hf2⟩; obtain ⟨q0, q1, q2⟩ := HQ.out w2 (hf1.trans hf2)))
    have HF2 := hd (hf1.trans hf2)
    have HW2 := hd hw2
    clear hf1 hf2 hw1 hw2 q0 q1 q2
    go_loopw [5, 26] (fun _ i wr => ∃ j : Nat, j ≤ p.length ∧ i = .int .i64 j ∧ WrT 41 wr base b (l ++ leB 1 k ++ leB 1 p.length ++ leF (fV (p.take j))) ∧ Fr base b w0 wr)
      (fun _ i _ => p.length - (intOf i).toNat)
    case atStart => exact ⟨0, by omega, rfl, by simpa [fV, leF] using HW2.out, HF2.out⟩
    case round =>
      obtain ⟨j, hj, rfl, hW, hF⟩ := hrel
      have hlen : (l ++ leB 1 k ++ leB 1 (p.length : Int) ++ leF (fV (p.take j))).length ≤ l.length + 2 + 16 * p.length := by
        simp only [List.length_append, leB_length, leF_length, fV_length, List.length_take]; omega
      have HLN := hd hlen
      clear hlen
      by_cases hlt : j < p.length
      · obtain ⟨gb, off, rfl, hgb⟩ := HAO.out (by omega)
        have hV := HZ0.out _ hF
        have q0 := Rd.cellAt cV_len hV j hlt 0 (by decide)
        have q1 := Rd.cellAt cV_len hV j hlt 1 (by decide)
        have hsn := hd (fV_snoc p j hlt)
        generalize p[j] = x at *
        obtain ⟨x, y⟩ := x
        simp only [cV, List.getElem_cons_zero, List.getElem_cons_succ, Nat.add_zero] at q0 q1
        have hcA := (Chg.refl [] wr).alloc (.cells #[.int .i64 x, .int .i64 y] 30)
        have hW2 := hW.k (hcA.alloc (.cells #[.int .i64 x, .int .i64 y] 28))
        have hF2 := hF.trans (Fr.chg (base := base) (b := b) (hcA.alloc (.cells #[.int .i64 x, .int .i64 y] 28)) (by have := hW.lt; omega))
        have hS := Fs.fr (base := base) (b := b) (l := [x, y]) (n := 2) (Blk.new (wr.alloc (.cells #[.int .i64 x, .int .i64 y] 30)) #[.int .i64 x, .int .i64 y] 28) (by decide) (by have := hW.lt; simp; omega) rfl rfl (by simp)
        rw [World.size_alloc] at hS
        have HFF := hd hF2
        clear hF hF2 hcA hV
        go_wp2_with (go_at_call 34; refine (WTF_any _ (by decide) base b _ _ [x, y] _ hW2 hb hS (by have := HL.out; have := HLN.out; simp only [List.length_cons, List.length_nil]; omega)).mono ?_; rintro e w3 ⟨rfl, hw3, hf3⟩)
        go_roundw
        case rel => exact ⟨j + 1, by omega, by go_num, by rw [hsn.out, ← List.append_assoc]; exact hw3, HFF.out.trans hf3⟩
        case measure => simp [intOf]; omega
      · have hjp : p.take j = p := List.take_of_length_le (by omega)
        rw [hjp] at hW
        have HW := hd hW
        have HF := hd hF
        clear hW hF hjp
        go_wp2_with (fail)
        go_end0
        exact ⟨rfl, by have := HW.out; rw [HLL.out, if_neg h1]; simpa using this, HF0.out.trans HF.out⟩
end Go.Proofs.Ytlicefbgcoddbaa
