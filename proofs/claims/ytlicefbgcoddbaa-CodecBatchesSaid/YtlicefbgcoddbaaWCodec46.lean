/- Words and walks that Codec rests on: LBatch. -/
import Derived.Test.YtlicefbgcoddbaaWCodec45
import Derived.Test.YtlicefbgcoddbaaWCodec28
import Derived.Test.YtlicefbgcoddbaaWCodec43
import Derived.Test.YtlicefbgcoddbaaWCodec1
/- law15.batch: a batch's bytes, by the document. -/
namespace Go.Proofs.Ytlicefbgcoddbaa
open Go.RowKit

set_option maxRecDepth 100000 in
set_option maxHeartbeats 16000000 in
theorem LBatch_any (w : World) (v : Value) (l : List OV) (hl : OsS w v l) (hn : l.length ≤ 1048576) (hp : ∀ x ∈ l, x.1.shape.p.length ≤ 4096) :
    Calls Try.prog 14 #[v] w fun e w' => e = .returned (.string (strB (leBatch (l.map (·.1))))) ∧ Chg [] w w' := by
  have hB : leBatch (l.map (·.1)) = leB 2 l.length ++ l.flatMap fun x => leO x.1 := by unfold leBatch; rw [List.length_map, List.flatMap_map]
  rw [hB]
  clear hB
  have hO := leOs_le l hp
  obtain ⟨LL, hLL⟩ : ∃ LL, LL = leB 2 l.length ++ l.flatMap fun x => leO x.1 := ⟨_, rfl⟩
  rw [← hLL]
  have HLB : Hd (LL.length ≤ 140737488000000) := hd (by rw [hLL, List.length_append, leB_length]; omega)
  have HLL := hd hLL
  clear hLL hO
  obtain ⟨av, cv, rfl, hav⟩ := hl.form
  have hw0 : WrT 41 (w.alloc (.cells #[.slice none 0 0] 41)) w.heap.size w.heap.size [] := ⟨_, Blk.new _ _ _, OwB.nil _ _⟩
  have hc0 := (Chg.refl [] w).alloc (.cells #[.slice none 0 0] 41)
  obtain ⟨B, hB⟩ : ∃ B, B = w.heap.size := ⟨_, rfl⟩
  have hb0 : Below B w (w.alloc (.cells #[.slice none 0 0] 41)) := hB ▸ hc0.new
  rw [← hB] at hw0
  have HB := hd hB
  have HL := hd hl
  have HP := hd hp
  have HAV := hd hav
  clear hp hc0 hl hB hav
  go_enter Try.func14, Try.ntmps14
  go_upto_region 2 with (fail)
  rw [← HB.out]
  generalize w.alloc (.cells #[.slice none 0 0] 41) = w0 at *
  have HB0 := hd hb0
  clear hb0
  go_wp2_with (go_at_call 10; refine (WTNum_any _ (by decide) 2 l.length B B _ _ hw0 (Nat.le_refl _) (by omega) (by omega) (by simp)).mono ?_; rintro e w1 ⟨rfl, hw1, hf1⟩)
  have HF1 := hd hf1
  have HW1 := hd hw1
  clear hw0 hw1 hf1
  go_loopw [5, 11] (fun _ i wr => ∃ k : Nat, k ≤ l.length ∧ i = .int .i64 k ∧ WrT 41 wr B B (leB 2 l.length ++ ((l.take k).flatMap fun x => leO x.1)) ∧ Fr B B w0 wr)
    (fun _ i _ => l.length - (intOf i).toNat)
  case atStart => exact ⟨0, by omega, rfl, by simpa using HW1.out, HF1.out⟩
  case round =>
    clear HF1 HW1
    obtain ⟨j, hj, rfl, hW, hF0⟩ := hrel
    by_cases hlt : j < l.length
    · obtain ⟨gb, off, hao, hgb⟩ := HAV.out (by omega)
      subst hao
      have HS := hd (leOs_snoc l j hlt)
      have hle : 2 + ((l.take j).flatMap fun x => leO x.1).length ≤ 140737488000000 := by
        have h1 := fm_le (fun x : OV => leO x.1) l j
        have h2 := HLB.out
        rw [HLL.out] at h2
        rw [List.length_append, leB_length] at h2
        omega
      have HLN := hd hle
      clear hle
      have hcells : ∀ j' v', (cOV l[j])[j']? = some v' → wr.cell? ((⟨gb, off + j * 15, none⟩ : Addr).add j') = some v' := fun j' v' hv' => by
        have hgB : gb < B := by have := HB.out; omega
        have hb : ((⟨gb, off + j * 15, none⟩ : Addr).add j').block < B := by unfold Addr.add; split <;> simpa using hgB
        rw [hF0.below.cell hb, HB0.out.cell hb]
        exact Rd.cellsAt cOV_len HL.out.rd j hlt j' v' hv'
      have HCE := hd hcells
      clear hcells
      have hps := HL.out.ps _ (List.getElem_mem hlt)
      have hpl := HP.out _ (List.getElem_mem hlt)
      generalize l[j] = x at *
      obtain ⟨⟨k, i, a, b1, ⟨px, py⟩, ⟨vx, vy⟩, an, sp, de, ln, ⟨sk, sr, p⟩⟩, pv⟩ := x
      simp only at hps hpl
      obtain ⟨ap, cp, rfl, -⟩ := hps.form
      have hz := hps.own
      rw [← HB.out] at hz
      have HZ : Hd (∀ w', Fr B B w0 w' → VsS w' (.slice ap p.length cp) p) := hd (fun w' h => hps.bel (HB0.out.trans h.below) hz)
      have HPL : Hd (p.length ≤ 4096) := hd hpl
      clear hps hz hpl
      have kA := Blk.new wr #[.int .i64 0, .int .i64 0, .int .i64 0, .int .i64 0, .int .i64 0, .int .i64 0, .int .i64 0, .int .i64 0, .int .i64 0, .int .i64 0, .int .i64 0, .int .i64 0, .int .i64 0, .int .i64 0, .slice none 0 0] 35
      have hkb := kA.row (cs' := (cOV (⟨k, i, a, b1, (px, py), (vx, vy), an, sp, de, ln, ⟨sk, sr, p⟩⟩, .slice ap p.length cp)).toArray)
      have hcb : Chg [] wr ((wr.alloc (.cells #[.int .i64 0, .int .i64 0, .int .i64 0, .int .i64 0, .int .i64 0, .int .i64 0, .int .i64 0, .int .i64 0, .int .i64 0, .int .i64 0, .int .i64 0, .int .i64 0, .int .i64 0, .int .i64 0, .slice none 0 0] 35)).setRow wr.heap.size (cOV (⟨k, i, a, b1, (px, py), (vx, vy), an, sp, de, ln, ⟨sk, sr, p⟩⟩, .slice ap p.length cp)).toArray) := Chg.row ((Chg.refl [] wr).alloc _) wr.heap.size _ (fun h => absurd h (Nat.lt_irrefl _))
      have hf1 := hF0.trans (Fr.chg (base := B) (b := B) hcb (by have := hW.lt; omega))
      have hW1 := hW.k hcb
      have hbn : B ≠ wr.heap.size := by have := hW.lt; omega
      go_upto_region 6 with (first
        | (refine wpList_load_at rfl _ _ rfl _ rfl (cOV (⟨k, i, a, b1, (px, py), (vx, vy), an, sp, de, ln, ⟨sk, sr, p⟩⟩, .slice ap p.length cp)) _ HCE.out Try.underlying35 rfl (by kernel_rfl) ?_)
        | (refine wpList_store_row rfl _ _ _ rfl wr.heap.size (cOV (⟨k, i, a, b1, (px, py), (vx, vy), an, sp, de, ln, ⟨sk, sr, p⟩⟩, .slice ap p.length cp)).toArray rfl rfl 35 _ kA (by kernel_rfl) rfl (by simp [cOV, cO, Value.oneCell']) ?_))
      clear kA
      generalize (wr.alloc (.cells #[.int .i64 0, .int .i64 0, .int .i64 0, .int .i64 0, .int .i64 0, .int .i64 0, .int .i64 0, .int .i64 0, .int .i64 0, .int .i64 0, .int .i64 0, .int .i64 0, .int .i64 0, .int .i64 0, .slice none 0 0] 35)).setRow wr.heap.size (cOV (⟨k, i, a, b1, (px, py), (vx, vy), an, sp, de, ln, ⟨sk, sr, p⟩⟩, .slice ap p.length cp)).toArray = w1 at *
      generalize wr.heap.size = bk at *
      have HQ : Hd (∀ wx, Fr B B w1 wx → wx.cell? ⟨bk, 0, none⟩ = some (.int .i64 k) ∧ wx.cell? ⟨bk, 1, none⟩ = some (.int .i64 i) ∧ wx.cell? ⟨bk, 2, none⟩ = some (.int .i64 a) ∧ wx.cell? ⟨bk, 3, none⟩ = some (.int .i64 b1) ∧ wx.cell? ⟨bk, 4, none⟩ = some (.int .i64 px) ∧ wx.cell? ⟨bk, 5, none⟩ = some (.int .i64 py) ∧ wx.cell? ⟨bk, 6, none⟩ = some (.int .i64 vx) ∧ wx.cell? ⟨bk, 7, none⟩ = some (.int .i64 vy) ∧ wx.cell? ⟨bk, 8, none⟩ = some (.int .i64 an) ∧ wx.cell? ⟨bk, 9, none⟩ = some (.int .i64 sp) ∧ wx.cell? ⟨bk, 10, none⟩ = some (.int .i64 de) ∧ wx.cell? ⟨bk, 11, none⟩ = some (.int .i64 ln) ∧ wx.cell? ⟨bk, 12, none⟩ = some (.int .i64 sk) ∧ wx.cell? ⟨bk, 13, none⟩ = some (.int .i64 sr) ∧ wx.cell? ⟨bk, 14, none⟩ = some (.slice ap p.length cp)) := hd fun wx hx => by
        have := hx.kp _ _ _ hkb (by decide) (fun e => hbn e.symm)
        exact ⟨this.cell 0, this.cell 1, this.cell 2, this.cell 3, this.cell 4, this.cell 5, this.cell 6, this.cell 7, this.cell 8, this.cell 9, this.cell 10, this.cell 11, this.cell 12, this.cell 13, this.cell 14⟩
      have HF1 := hd hf1
      have HW1 := hd hW1
      clear hkb hbn hW1 hf1 hcb hW hF0
      obtain ⟨q0, q1, q2, q3, q4, q5, q6, q7, q8, q9, q10, q11, q12, q13, q14⟩ := HQ.out w1 (Fr.refl _ _ _)
      go_upto_region 7 with (go_at_call 10; refine (WTNum_any _ (by decide) 1 k B B _ _ HW1.out (Nat.le_refl _) (by omega) (by omega) (by have := HLN.out; simp only [List.length_append, leB_length]; omega)).mono ?_; rintro e w2 ⟨rfl, hW2, hf2⟩)
      have HF2 := hd (HF1.out.trans hf2)
      have HQ2 : Hd (∀ wx, Fr B B w2 wx → wx.cell? ⟨bk, 0, none⟩ = some (.int .i64 k) ∧ wx.cell? ⟨bk, 1, none⟩ = some (.int .i64 i) ∧ wx.cell? ⟨bk, 2, none⟩ = some (.int .i64 a) ∧ wx.cell? ⟨bk, 3, none⟩ = some (.int .i64 b1) ∧ wx.cell? ⟨bk, 4, none⟩ = some (.int .i64 px) ∧ wx.cell? ⟨bk, 5, none⟩ = some (.int .i64 py) ∧ wx.cell? ⟨bk, 6, none⟩ = some (.int .i64 vx) ∧ wx.cell? ⟨bk, 7, none⟩ = some (.int .i64 vy) ∧ wx.cell? ⟨bk, 8, none⟩ = some (.int .i64 an) ∧ wx.cell? ⟨bk, 9, none⟩ = some (.int .i64 sp) ∧ wx.cell? ⟨bk, 10, none⟩ = some (.int .i64 de) ∧ wx.cell? ⟨bk, 11, none⟩ = some (.int .i64 ln) ∧ wx.cell? ⟨bk, 12, none⟩ = some (.int .i64 sk) ∧ wx.cell? ⟨bk, 13, none⟩ = some (.int .i64 sr) ∧ wx.cell? ⟨bk, 14, none⟩ = some (.slice ap p.length cp)) := hd fun wx hx => HQ.out wx (hf2.trans hx)
      have HW2 := hd hW2
      clear hf2 hW2 q0 q1 q2 q3 q4 q5 q6 q7 q8 q9 q10 q11 q12 q13 q14 HQ
      obtain ⟨q0, q1, q2, q3, q4, q5, q6, q7, q8, q9, q10, q11, q12, q13, q14⟩ := HQ2.out w2 (Fr.refl _ _ _)
      by_cases k1 : k = 1
      · subst k1
        have hS := Fs.fr (base := B) (b := B) (l := [px, py, vx, vy, an, sp, de]) (n := 7) (Blk.new w2 #[.int .i64 px, .int .i64 py, .int .i64 vx, .int .i64 vy, .int .i64 an, .int .i64 sp, .int .i64 de] 28) (by decide) (by have := HW2.out.lt; omega) rfl rfl (by simp); have hWl := HW2.out.k ((Chg.refl [] w2).alloc (.cells #[.int .i64 px, .int .i64 py, .int .i64 vx, .int .i64 vy, .int .i64 an, .int .i64 sp, .int .i64 de] 28)); have hfl := (Fr.chg (base := B) (b := B) ((Chg.refl [] w2).alloc (.cells #[.int .i64 px, .int .i64 py, .int .i64 vx, .int .i64 vy, .int .i64 an, .int .i64 sp, .int .i64 de] 28)) (by have := HW2.out.lt; omega))
        go_wp2_with (first
          | (go_at_call 34; refine (WTF_any _ (by decide) B B _ _ [px, py, vx, vy, an, sp, de] _ hWl (Nat.le_refl _) hS (by have := HLN.out; simp only [List.length_append, leB_length, List.length_cons, List.length_nil]; omega)).mono ?_; rintro e w3 ⟨rfl, hW3, hf3⟩; obtain ⟨q0, q1, q2, q3, q4, q5, q6, q7, q8, q9, q10, q11, q12, q13, q14⟩ := HQ2.out w3 (hfl.trans hf3))
          | (go_at_call 36; refine (LShape_any B B _ ⟨sk, sr, p⟩ _ _ hW3 (Nat.le_refl _) (fun w' h => HZ.out w' ((HF2.out.trans hfl).trans (hf3.trans h))) (by have := HLN.out; have := HPL.out; simp only [List.length_append, leB_length, leF_length, List.length_cons, List.length_nil]; omega)).mono ?_; rintro e w4 ⟨rfl, hW4, hf4⟩))
        go_roundw
        case rel => exact ⟨j + 1, by omega, by go_num, by have := hW4; rw [HS.out, ← List.append_assoc]; simpa [leO, leF, fV, leS] using this, ((HF2.out.trans hfl).trans hf3).trans hf4⟩
        case measure => simp [intOf]; omega
      by_cases k2 : k = 2
      · subst k2
        go_wp2_with ((go_at_call 10; refine (WTNum_any _ (by decide) 8 i B B _ _ HW2.out (Nat.le_refl _) (by omega) (by omega) (by have := HLN.out; simp only [List.length_append, leB_length]; omega)).mono ?_; rintro e w3 ⟨rfl, hW3, hf3⟩))
        go_roundw
        case rel => exact ⟨j + 1, by omega, by go_num, by have := hW3; rw [HS.out, ← List.append_assoc]; simpa [leO, leF, fV] using this, HF2.out.trans hf3⟩
        case measure => simp [intOf]; omega
      by_cases k4 : k = 4
      · subst k4
        go_wp2_with ((go_at_call 10; refine (WTNum_any _ (by decide) 8 i B B _ _ HW2.out (Nat.le_refl _) (by omega) (by omega) (by have := HLN.out; simp only [List.length_append, leB_length]; omega)).mono ?_; rintro e w3 ⟨rfl, hW3, hf3⟩))
        go_roundw
        case rel => exact ⟨j + 1, by omega, by go_num, by have := hW3; rw [HS.out, ← List.append_assoc]; simpa [leO, leF, fV] using this, HF2.out.trans hf3⟩
        case measure => simp [intOf]; omega
      by_cases k3 : k = 3
      · subst k3
        go_upto_region 15 with (fail)
        have hW := HW2.out.k (Chg.refl [] w2).drew
        have HB2 : Hd (B ≤ w2.heap.size) := hd (by have := HW2.out.lt; omega)
        clear q0 q1 q2 q3 q4 q5 q6 q7 q8 q9 q10 q11 q12 q13 q14
        refine anyH_start (n := 22) (L := #[false, false, false, false, false, false, false, false, false, false, false, false, false, false, false, false, false, false, false, false, false, false]) (by kernel_rfl) (by kernel_rfl) (S := (fun wx => Fr B B w2 wx)) (Fr.chg (Chg.refl _ _).drew HB2.out) (fun hHeld => ?_)
        generalize w2.drew = w2d at *
        refine anyH_take (i := 0) (d := 53) (L' := #[true, false, false, false, false, false, false, false, false, false, false, false, false, false, false, false, false, false, false, false, false, false]) (v := ?v4) rfl rfl (by kernel_rfl) (fun _ _ _ h => h) (by rfl) ?hy4 (by assumption) ?rest4
        case hy4 => (intro wx hSw; (try dsimp only at hSw); (obtain ⟨q0, q1, q2, q3, q4, q5, q6, q7, q8, q9, q10, q11, q12, q13, q14⟩ := HQ2.out _ hSw); go_simp; (try with_reducible rfl))
        simp only [Act.put, List.setIfInBounds_toArray, List.set_cons_zero, List.set_cons_succ]
        refine anyH_take (i := 1) (d := 54) (L' := #[true, true, false, false, false, false, false, false, false, false, false, false, false, false, false, false, false, false, false, false, false, false]) (v := ?v5) rfl rfl (by kernel_rfl) (fun _ _ _ h => h) (by rfl) ?hy5 (by assumption) ?rest5
        case hy5 => (intro wx hSw; (try dsimp only at hSw); (obtain ⟨q0, q1, q2, q3, q4, q5, q6, q7, q8, q9, q10, q11, q12, q13, q14⟩ := HQ2.out _ hSw); go_simp; (try with_reducible rfl))
        simp only [Act.put, List.setIfInBounds_toArray, List.set_cons_zero, List.set_cons_succ]
        refine anyH_take (i := 3) (d := 56) (L' := #[true, true, false, true, false, false, false, false, false, false, false, false, false, false, false, false, false, false, false, false, false, false]) (v := ?v6) rfl rfl (by kernel_rfl) (fun _ _ _ h => h) (by rfl) ?hy6 (by assumption) ?rest6
        case hy6 => (intro wx hSw; (try dsimp only at hSw); (obtain ⟨q0, q1, q2, q3, q4, q5, q6, q7, q8, q9, q10, q11, q12, q13, q14⟩ := HQ2.out _ hSw); go_simp; (try with_reducible rfl))
        simp only [Act.put, List.setIfInBounds_toArray, List.set_cons_zero, List.set_cons_succ]
        refine anyH_take (i := 4) (d := 57) (L' := #[true, true, false, true, true, false, false, false, false, false, false, false, false, false, false, false, false, false, false, false, false, false]) (v := ?v7) rfl rfl (by kernel_rfl) (fun _ _ _ h => h) (by rfl) ?hy7 (by assumption) ?rest7
        case hy7 => (intro wx hSw; (try dsimp only at hSw); (obtain ⟨q0, q1, q2, q3, q4, q5, q6, q7, q8, q9, q10, q11, q12, q13, q14⟩ := HQ2.out _ hSw); go_simp; (try with_reducible rfl))
        simp only [Act.put, List.setIfInBounds_toArray, List.set_cons_zero, List.set_cons_succ]
        refine anyH_take (i := 6) (d := 59) (L' := #[true, true, false, true, true, false, true, false, false, false, false, false, false, false, false, false, false, false, false, false, false, false]) (v := ?v8) rfl rfl (by kernel_rfl) (fun _ _ _ h => h) (by rfl) ?hy8 (by assumption) ?rest8
        case hy8 => (intro wx hSw; (try dsimp only at hSw); (obtain ⟨q0, q1, q2, q3, q4, q5, q6, q7, q8, q9, q10, q11, q12, q13, q14⟩ := HQ2.out _ hSw); go_simp; (try with_reducible rfl))
        simp only [Act.put, List.setIfInBounds_toArray, List.set_cons_zero, List.set_cons_succ]
        refine anyH_take (i := 7) (d := 60) (L' := #[true, true, false, true, true, false, true, true, false, false, false, false, false, false, false, false, false, false, false, false, false, false]) (v := ?v9) rfl rfl (by kernel_rfl) (fun _ _ _ h => h) (by rfl) ?hy9 (by assumption) ?rest9
        case hy9 => (intro wx hSw; (try dsimp only at hSw); (obtain ⟨q0, q1, q2, q3, q4, q5, q6, q7, q8, q9, q10, q11, q12, q13, q14⟩ := HQ2.out _ hSw); go_simp; (try with_reducible rfl))
        simp only [Act.put, List.setIfInBounds_toArray, List.set_cons_zero, List.set_cons_succ]
        refine anyH_take (i := 8) (d := 61) (L' := #[true, true, false, true, true, false, true, true, true, false, false, false, false, false, false, false, false, false, false, false, false, false]) (v := ?v10) rfl rfl (by kernel_rfl) (fun _ _ _ h => h) (by rfl) ?hy10 (by assumption) ?rest10
        case hy10 => (intro wx hSw; (try dsimp only at hSw); (obtain ⟨q0, q1, q2, q3, q4, q5, q6, q7, q8, q9, q10, q11, q12, q13, q14⟩ := HQ2.out _ hSw); go_simp; (try with_reducible rfl))
        simp only [Act.put, List.setIfInBounds_toArray, List.set_cons_zero, List.set_cons_succ]
        refine anyH_take (i := 9) (d := 62) (L' := #[true, true, false, true, true, false, true, true, true, true, false, false, false, false, false, false, false, false, false, false, false, false]) (v := ?v11) rfl rfl (by kernel_rfl) (fun _ _ _ h => h) (by rfl) ?hy11 (by assumption) ?rest11
        case hy11 => (intro wx hSw; (try dsimp only at hSw); (obtain ⟨q0, q1, q2, q3, q4, q5, q6, q7, q8, q9, q10, q11, q12, q13, q14⟩ := HQ2.out _ hSw); go_simp; (try with_reducible rfl))
        simp only [Act.put, List.setIfInBounds_toArray, List.set_cons_zero, List.set_cons_succ]
        refine anyH_take (i := 10) (d := 63) (L' := #[true, true, false, true, true, false, true, true, true, true, true, false, false, false, false, false, false, false, false, false, false, false]) (v := ?v12) rfl rfl (by kernel_rfl) (fun _ _ _ h => h) (by rfl) ?hy12 (by assumption) ?rest12
        case hy12 => (intro wx hSw; (try dsimp only at hSw); (obtain ⟨q0, q1, q2, q3, q4, q5, q6, q7, q8, q9, q10, q11, q12, q13, q14⟩ := HQ2.out _ hSw); go_simp; (try with_reducible rfl))
        simp only [Act.put, List.setIfInBounds_toArray, List.set_cons_zero, List.set_cons_succ]
        refine anyH_take (i := 11) (d := 64) (L' := #[true, true, false, true, true, false, true, true, true, true, true, true, false, false, false, false, false, false, false, false, false, false]) (v := ?v13) rfl rfl (by kernel_rfl) (fun _ _ _ h => h) (by rfl) ?hy13 (by assumption) ?rest13
        case hy13 => (intro wx hSw; (try dsimp only at hSw); (obtain ⟨q0, q1, q2, q3, q4, q5, q6, q7, q8, q9, q10, q11, q12, q13, q14⟩ := HQ2.out _ hSw); go_simp; (try with_reducible rfl))
        simp only [Act.put, List.setIfInBounds_toArray, List.set_cons_zero, List.set_cons_succ]
        refine anyH_take (i := 12) (d := 65) (L' := #[true, true, false, true, true, false, true, true, true, true, true, true, true, false, false, false, false, false, false, false, false, false]) (v := ?v14) rfl rfl (by kernel_rfl) (fun _ _ _ h => h) (by rfl) ?hy14 (by assumption) ?rest14
        case hy14 => (intro wx hSw; (try dsimp only at hSw); (obtain ⟨q0, q1, q2, q3, q4, q5, q6, q7, q8, q9, q10, q11, q12, q13, q14⟩ := HQ2.out _ hSw); go_simp; (try with_reducible rfl))
        simp only [Act.put, List.setIfInBounds_toArray, List.set_cons_zero, List.set_cons_succ]
        refine anyH_take (i := 13) (d := 66) (L' := #[true, true, false, true, true, false, true, true, true, true, true, true, true, true, false, false, false, false, false, false, false, false]) (v := ?v15) rfl rfl (by kernel_rfl) (fun _ _ _ h => h) (by rfl) ?hy15 (by assumption) ?rest15
        case hy15 => (intro wx hSw; (try dsimp only at hSw); (obtain ⟨q0, q1, q2, q3, q4, q5, q6, q7, q8, q9, q10, q11, q12, q13, q14⟩ := HQ2.out _ hSw); go_simp; (try with_reducible rfl))
        simp only [Act.put, List.setIfInBounds_toArray, List.set_cons_zero, List.set_cons_succ]
        refine anyH_take (i := 14) (d := 67) (L' := #[true, true, false, true, true, false, true, true, true, true, true, true, true, true, true, false, false, false, false, false, false, false]) (v := ?v16) rfl rfl (by kernel_rfl) (fun _ _ _ h => h) (by rfl) ?hy16 (by assumption) ?rest16
        case hy16 => (intro wx hSw; (try dsimp only at hSw); (obtain ⟨q0, q1, q2, q3, q4, q5, q6, q7, q8, q9, q10, q11, q12, q13, q14⟩ := HQ2.out _ hSw); go_simp; (try with_reducible rfl))
        simp only [Act.put, List.setIfInBounds_toArray, List.set_cons_zero, List.set_cons_succ]
        refine anyH_take (i := 15) (d := 68) (L' := #[true, true, false, true, true, false, true, true, true, true, true, true, true, true, true, true, false, false, false, false, false, false]) (v := ?v17) rfl rfl (by kernel_rfl) (fun _ _ _ h => h) (by rfl) ?hy17 (by assumption) ?rest17
        case hy17 => (intro wx hSw; (try dsimp only at hSw); (obtain ⟨q0, q1, q2, q3, q4, q5, q6, q7, q8, q9, q10, q11, q12, q13, q14⟩ := HQ2.out _ hSw); go_simp; (try with_reducible rfl))
        simp only [Act.put, List.setIfInBounds_toArray, List.set_cons_zero, List.set_cons_succ]
        refine anyH_take (i := 16) (d := 69) (L' := #[true, true, false, true, true, false, true, true, true, true, true, true, true, true, true, true, true, false, false, false, false, false]) (v := ?v18) rfl rfl (by kernel_rfl) (fun _ _ _ h => h) (by rfl) ?hy18 (by assumption) ?rest18
        case hy18 => (intro wx hSw; (try dsimp only at hSw); (obtain ⟨q0, q1, q2, q3, q4, q5, q6, q7, q8, q9, q10, q11, q12, q13, q14⟩ := HQ2.out _ hSw); go_simp; (try with_reducible rfl))
        simp only [Act.put, List.setIfInBounds_toArray, List.set_cons_zero, List.set_cons_succ]
        refine anyH_take (i := 17) (d := 70) (L' := #[true, true, false, true, true, false, true, true, true, true, true, true, true, true, true, true, true, true, false, false, false, false]) (v := ?v19) rfl rfl (by kernel_rfl) (fun _ _ _ h => h) (by rfl) ?hy19 (by assumption) ?rest19
        case hy19 => (intro wx hSw; (try dsimp only at hSw); (obtain ⟨q0, q1, q2, q3, q4, q5, q6, q7, q8, q9, q10, q11, q12, q13, q14⟩ := HQ2.out _ hSw); go_simp; (try with_reducible rfl))
        simp only [Act.put, List.setIfInBounds_toArray, List.set_cons_zero, List.set_cons_succ]
        refine anyH_take (i := 18) (d := 71) (L' := #[true, true, false, true, true, false, true, true, true, true, true, true, true, true, true, true, true, true, true, false, false, false]) (v := ?v20) rfl rfl (by kernel_rfl) (fun _ _ _ h => h) (by rfl) ?hy20 (by assumption) ?rest20
        case hy20 => (intro wx hSw; (try dsimp only at hSw); (obtain ⟨q0, q1, q2, q3, q4, q5, q6, q7, q8, q9, q10, q11, q12, q13, q14⟩ := HQ2.out _ hSw); go_simp; (try with_reducible rfl))
        simp only [Act.put, List.setIfInBounds_toArray, List.set_cons_zero, List.set_cons_succ]
        refine anyH_take (i := 19) (d := 72) (L' := #[true, true, false, true, true, false, true, true, true, true, true, true, true, true, true, true, true, true, true, true, false, false]) (v := ?v21) rfl rfl (by kernel_rfl) (fun _ _ _ h => h) (by rfl) ?hy21 (by assumption) ?rest21
        case hy21 => (intro wx hSw; (try dsimp only at hSw); (obtain ⟨q0, q1, q2, q3, q4, q5, q6, q7, q8, q9, q10, q11, q12, q13, q14⟩ := HQ2.out _ hSw); go_simp; (try with_reducible rfl))
        simp only [Act.put, List.setIfInBounds_toArray, List.set_cons_zero, List.set_cons_succ]
        refine anyH_run2 (i := 2) (j := 20) (L1 := #[true, true, true, true, true, false, true, true, true, true, true, true, true, true, true, true, true, true, true, true, false, false]) (L2 := #[true, true, false, true, true, false, true, true, true, true, true, true, true, true, true, true, true, true, true, true, true, false]) rfl rfl (by kernel_rfl) (by rfl) (by rfl) (fun KK hKK => ?ra0) (fun KK hKK => ?rb0)
        case' ra0 =>
          go_simp
          (refine (WTNum_any _ (by decide) 8 a B B _ _ hW (Nat.le_refl _) (by omega) (by omega) (by have := HLN.out; simp only [List.length_append, leB_length]; omega)).mono ?_; rintro e w2 ⟨rfl, hW2, hf⟩; have hm := Fr.trans hHeld hf; (try replace hF := fun w' h => hF w' (hf.trans h)); replace hW := hW2; clear hf hW2; (try go_simp))
          refine hKK.out _ _ (by assumption) (fun hHeld => ?_)
          clear hKK KK
          try simp only [Act.put, List.setIfInBounds_toArray, List.set_cons_zero, List.set_cons_succ]
          refine anyH_run2 (i := 5) (j := 20) (L1 := #[true, true, true, true, true, true, true, true, true, true, true, true, true, true, true, true, true, true, true, true, false, false]) (L2 := #[true, true, true, true, true, false, true, true, true, true, true, true, true, true, true, true, true, true, true, true, true, false]) rfl rfl (by kernel_rfl) (by rfl) (by rfl) (fun KK hKK => ?ra1) (fun KK hKK => ?rb1)
          case' ra1 =>
            go_simp
            (refine (WTNum_any _ (by decide) 8 b1 B B _ _ hW (Nat.le_refl _) (by omega) (by omega) (by have := HLN.out; simp only [List.length_append, leB_length]; omega)).mono ?_; rintro e w5 ⟨rfl, hW5, hf⟩; have hm := Fr.trans hHeld hf; (try replace hF := fun w' h => hF w' (hf.trans h)); replace hW := hW5; clear hf hW5; (try go_simp))
            refine hKK.out _ _ (by assumption) (fun hHeld => ?_)
            clear hKK KK
            try simp only [Act.put, List.setIfInBounds_toArray, List.set_cons_zero, List.set_cons_succ]
            refine anyH_run (i := 20) (L' := #[true, true, true, true, true, true, true, true, true, true, true, true, true, true, true, true, true, true, true, true, true, false]) rfl (by kernel_rfl) (by rfl) (fun KK hKK => ?_)
            (obtain ⟨m1, m2, hF⟩ := Fr.litF hHeld hW (Nat.le_refl _) [px, py, vx, vy, ln] #[.int .i64 px, .int .i64 py, .int .i64 vx, .int .i64 vy, .int .i64 ln] 28 5 (by decide) rfl rfl (by simp); (try simp only [World.size_alloc] at hF); replace hW := m1; go_simp)
            refine hKK.out _ _ (by assumption) (fun hHeld => ?_)
            clear hKK KK
            try simp only [Act.put, List.setIfInBounds_toArray, List.set_cons_zero, List.set_cons_succ]
            refine anyH_run (i := 21) (L' := #[true, true, true, true, true, true, true, true, true, true, true, true, true, true, true, true, true, true, true, true, true, true]) rfl (by kernel_rfl) (by rfl) (fun KK hKK => ?_)
            go_simp
            (refine (WTF_any _ (by decide) B B _ _ [px, py, vx, vy, ln] _ hW (Nat.le_refl _) hF (by have := HLN.out; simp only [List.length_append, leB_length, List.length_cons, List.length_nil]; omega)).mono ?_; rintro e w21 ⟨rfl, hW21, hf⟩; have hm := Fr.trans hHeld hf; clear hF; replace hW := hW21; clear hf hW21; (try go_simp))
            refine hKK.out _ _ (by assumption) (fun hHeld => ?_)
            clear hKK KK
            try simp only [Act.put, List.setIfInBounds_toArray, List.set_cons_zero, List.set_cons_succ]
            refine wpAnyH_done (by kernel_rfl) ?_ _
            (go_wp2_with (fail); go_roundw; (case rel => exact ⟨j + 1, by omega, by go_num, by have := hW; rw [HS.out, ← List.append_assoc]; simpa [leO, leF, fV] using this, HF2.out.trans hHeld⟩); (case measure => simp [intOf]; omega))
          case' rb1 =>
            (obtain ⟨m1, m2, hF⟩ := Fr.litF hHeld hW (Nat.le_refl _) [px, py, vx, vy, ln] #[.int .i64 px, .int .i64 py, .int .i64 vx, .int .i64 vy, .int .i64 ln] 28 5 (by decide) rfl rfl (by simp); (try simp only [World.size_alloc] at hF); replace hW := m1; go_simp)
            refine hKK.out _ _ (by assumption) (fun hHeld => ?_)
            clear hKK KK
            try simp only [Act.put, List.setIfInBounds_toArray, List.set_cons_zero, List.set_cons_succ]
            refine anyH_run (i := 5) (L' := #[true, true, true, true, true, true, true, true, true, true, true, true, true, true, true, true, true, true, true, true, true, false]) rfl (by kernel_rfl) (by rfl) (fun KK hKK => ?_)
            go_simp
            (refine (WTNum_any _ (by decide) 8 b1 B B _ _ hW (Nat.le_refl _) (by omega) (by omega) (by have := HLN.out; simp only [List.length_append, leB_length]; omega)).mono ?_; rintro e w5 ⟨rfl, hW5, hf⟩; have hm := Fr.trans hHeld hf; (try replace hF := fun w' h => hF w' (hf.trans h)); replace hW := hW5; clear hf hW5; (try go_simp))
            refine hKK.out _ _ (by assumption) (fun hHeld => ?_)
            clear hKK KK
            try simp only [Act.put, List.setIfInBounds_toArray, List.set_cons_zero, List.set_cons_succ]
            refine anyH_run (i := 21) (L' := #[true, true, true, true, true, true, true, true, true, true, true, true, true, true, true, true, true, true, true, true, true, true]) rfl (by kernel_rfl) (by rfl) (fun KK hKK => ?_)
            go_simp
            (refine (WTF_any _ (by decide) B B _ _ [px, py, vx, vy, ln] _ hW (Nat.le_refl _) hF (by have := HLN.out; simp only [List.length_append, leB_length, List.length_cons, List.length_nil]; omega)).mono ?_; rintro e w21 ⟨rfl, hW21, hf⟩; have hm := Fr.trans hHeld hf; clear hF; replace hW := hW21; clear hf hW21; (try go_simp))
            refine hKK.out _ _ (by assumption) (fun hHeld => ?_)
            clear hKK KK
            try simp only [Act.put, List.setIfInBounds_toArray, List.set_cons_zero, List.set_cons_succ]
            refine wpAnyH_done (by kernel_rfl) ?_ _
            (go_wp2_with (fail); go_roundw; (case rel => exact ⟨j + 1, by omega, by go_num, by have := hW; rw [HS.out, ← List.append_assoc]; simpa [leO, leF, fV] using this, HF2.out.trans hHeld⟩); (case measure => simp [intOf]; omega))
        case' rb0 =>
          (obtain ⟨m1, m2, hF⟩ := Fr.litF hHeld hW (Nat.le_refl _) [px, py, vx, vy, ln] #[.int .i64 px, .int .i64 py, .int .i64 vx, .int .i64 vy, .int .i64 ln] 28 5 (by decide) rfl rfl (by simp); (try simp only [World.size_alloc] at hF); replace hW := m1; go_simp)
          refine hKK.out _ _ (by assumption) (fun hHeld => ?_)
          clear hKK KK
          try simp only [Act.put, List.setIfInBounds_toArray, List.set_cons_zero, List.set_cons_succ]
          refine anyH_run (i := 2) (L' := #[true, true, true, true, true, false, true, true, true, true, true, true, true, true, true, true, true, true, true, true, true, false]) rfl (by kernel_rfl) (by rfl) (fun KK hKK => ?_)
          go_simp
          (refine (WTNum_any _ (by decide) 8 a B B _ _ hW (Nat.le_refl _) (by omega) (by omega) (by have := HLN.out; simp only [List.length_append, leB_length]; omega)).mono ?_; rintro e w2 ⟨rfl, hW2, hf⟩; have hm := Fr.trans hHeld hf; (try replace hF := fun w' h => hF w' (hf.trans h)); replace hW := hW2; clear hf hW2; (try go_simp))
          refine hKK.out _ _ (by assumption) (fun hHeld => ?_)
          clear hKK KK
          try simp only [Act.put, List.setIfInBounds_toArray, List.set_cons_zero, List.set_cons_succ]
          refine anyH_run (i := 5) (L' := #[true, true, true, true, true, true, true, true, true, true, true, true, true, true, true, true, true, true, true, true, true, false]) rfl (by kernel_rfl) (by rfl) (fun KK hKK => ?_)
          go_simp
          (refine (WTNum_any _ (by decide) 8 b1 B B _ _ hW (Nat.le_refl _) (by omega) (by omega) (by have := HLN.out; simp only [List.length_append, leB_length]; omega)).mono ?_; rintro e w5 ⟨rfl, hW5, hf⟩; have hm := Fr.trans hHeld hf; (try replace hF := fun w' h => hF w' (hf.trans h)); replace hW := hW5; clear hf hW5; (try go_simp))
          refine hKK.out _ _ (by assumption) (fun hHeld => ?_)
          clear hKK KK
          try simp only [Act.put, List.setIfInBounds_toArray, List.set_cons_zero, List.set_cons_succ]
          refine anyH_run (i := 21) (L' := #[true, true, true, true, true, true, true, true, true, true, true, true, true, true, true, true, true, true, true, true, true, true]) rfl (by kernel_rfl) (by rfl) (fun KK hKK => ?_)
          go_simp
          (refine (WTF_any _ (by decide) B B _ _ [px, py, vx, vy, ln] _ hW (Nat.le_refl _) hF (by have := HLN.out; simp only [List.length_append, leB_length, List.length_cons, List.length_nil]; omega)).mono ?_; rintro e w21 ⟨rfl, hW21, hf⟩; have hm := Fr.trans hHeld hf; clear hF; replace hW := hW21; clear hf hW21; (try go_simp))
          refine hKK.out _ _ (by assumption) (fun hHeld => ?_)
          clear hKK KK
          try simp only [Act.put, List.setIfInBounds_toArray, List.set_cons_zero, List.set_cons_succ]
          refine wpAnyH_done (by kernel_rfl) ?_ _
          (go_wp2_with (fail); go_roundw; (case rel => exact ⟨j + 1, by omega, by go_num, by have := hW; rw [HS.out, ← List.append_assoc]; simpa [leO, leF, fV] using this, HF2.out.trans hHeld⟩); (case measure => simp [intOf]; omega))
      by_cases k5 : k = 5
      · subst k5
        go_upto_region 17 with (fail)
        have hW := HW2.out.k (Chg.refl [] w2).drew
        have HB2 : Hd (B ≤ w2.heap.size) := hd (by have := HW2.out.lt; omega)
        clear q0 q1 q2 q3 q4 q5 q6 q7 q8 q9 q10 q11 q12 q13 q14
        refine anyH_start (n := 13) (L := #[false, false, false, false, false, false, false, false, false, false, false, false, false]) (by kernel_rfl) (by kernel_rfl) (S := (fun wx => Fr B B w2 wx)) (Fr.chg (Chg.refl _ _).drew HB2.out) (fun hHeld => ?_)
        generalize w2.drew = w2d at *
        refine anyH_take (i := 0) (d := 77) (L' := #[true, false, false, false, false, false, false, false, false, false, false, false, false]) (v := ?v34) rfl rfl (by kernel_rfl) (fun _ _ _ h => h) (by rfl) ?hy34 (by assumption) ?rest34
        case hy34 => (intro wx hSw; (try dsimp only at hSw); (obtain ⟨q0, q1, q2, q3, q4, q5, q6, q7, q8, q9, q10, q11, q12, q13, q14⟩ := HQ2.out _ hSw); go_simp; (try with_reducible rfl))
        simp only [Act.put, List.setIfInBounds_toArray, List.set_cons_zero, List.set_cons_succ]
        refine anyH_take (i := 1) (d := 78) (L' := #[true, true, false, false, false, false, false, false, false, false, false, false, false]) (v := ?v35) rfl rfl (by kernel_rfl) (fun _ _ _ h => h) (by rfl) ?hy35 (by assumption) ?rest35
        case hy35 => (intro wx hSw; (try dsimp only at hSw); (obtain ⟨q0, q1, q2, q3, q4, q5, q6, q7, q8, q9, q10, q11, q12, q13, q14⟩ := HQ2.out _ hSw); go_simp; (try with_reducible rfl))
        simp only [Act.put, List.setIfInBounds_toArray, List.set_cons_zero, List.set_cons_succ]
        refine anyH_take (i := 3) (d := 80) (L' := #[true, true, false, true, false, false, false, false, false, false, false, false, false]) (v := ?v36) rfl rfl (by kernel_rfl) (fun _ _ _ h => h) (by rfl) ?hy36 (by assumption) ?rest36
        case hy36 => (intro wx hSw; (try dsimp only at hSw); (obtain ⟨q0, q1, q2, q3, q4, q5, q6, q7, q8, q9, q10, q11, q12, q13, q14⟩ := HQ2.out _ hSw); go_simp; (try with_reducible rfl))
        simp only [Act.put, List.setIfInBounds_toArray, List.set_cons_zero, List.set_cons_succ]
        refine anyH_take (i := 4) (d := 81) (L' := #[true, true, false, true, true, false, false, false, false, false, false, false, false]) (v := ?v37) rfl rfl (by kernel_rfl) (fun _ _ _ h => h) (by rfl) ?hy37 (by assumption) ?rest37
        case hy37 => (intro wx hSw; (try dsimp only at hSw); (obtain ⟨q0, q1, q2, q3, q4, q5, q6, q7, q8, q9, q10, q11, q12, q13, q14⟩ := HQ2.out _ hSw); go_simp; (try with_reducible rfl))
        simp only [Act.put, List.setIfInBounds_toArray, List.set_cons_zero, List.set_cons_succ]
        refine anyH_take (i := 5) (d := 82) (L' := #[true, true, false, true, true, true, false, false, false, false, false, false, false]) (v := ?v38) rfl rfl (by kernel_rfl) (fun _ _ _ h => h) (by rfl) ?hy38 (by assumption) ?rest38
        case hy38 => (intro wx hSw; (try dsimp only at hSw); (obtain ⟨q0, q1, q2, q3, q4, q5, q6, q7, q8, q9, q10, q11, q12, q13, q14⟩ := HQ2.out _ hSw); go_simp; (try with_reducible rfl))
        simp only [Act.put, List.setIfInBounds_toArray, List.set_cons_zero, List.set_cons_succ]
        refine anyH_take (i := 6) (d := 83) (L' := #[true, true, false, true, true, true, true, false, false, false, false, false, false]) (v := ?v39) rfl rfl (by kernel_rfl) (fun _ _ _ h => h) (by rfl) ?hy39 (by assumption) ?rest39
        case hy39 => (intro wx hSw; (try dsimp only at hSw); (obtain ⟨q0, q1, q2, q3, q4, q5, q6, q7, q8, q9, q10, q11, q12, q13, q14⟩ := HQ2.out _ hSw); go_simp; (try with_reducible rfl))
        simp only [Act.put, List.setIfInBounds_toArray, List.set_cons_zero, List.set_cons_succ]
        refine anyH_take (i := 7) (d := 84) (L' := #[true, true, false, true, true, true, true, true, false, false, false, false, false]) (v := ?v40) rfl rfl (by kernel_rfl) (fun _ _ _ h => h) (by rfl) ?hy40 (by assumption) ?rest40
        case hy40 => (intro wx hSw; (try dsimp only at hSw); (obtain ⟨q0, q1, q2, q3, q4, q5, q6, q7, q8, q9, q10, q11, q12, q13, q14⟩ := HQ2.out _ hSw); go_simp; (try with_reducible rfl))
        simp only [Act.put, List.setIfInBounds_toArray, List.set_cons_zero, List.set_cons_succ]
        refine anyH_take (i := 8) (d := 85) (L' := #[true, true, false, true, true, true, true, true, true, false, false, false, false]) (v := ?v41) rfl rfl (by kernel_rfl) (fun _ _ _ h => h) (by rfl) ?hy41 (by assumption) ?rest41
        case hy41 => (intro wx hSw; (try dsimp only at hSw); (obtain ⟨q0, q1, q2, q3, q4, q5, q6, q7, q8, q9, q10, q11, q12, q13, q14⟩ := HQ2.out _ hSw); go_simp; (try with_reducible rfl))
        simp only [Act.put, List.setIfInBounds_toArray, List.set_cons_zero, List.set_cons_succ]
        refine anyH_take (i := 9) (d := 86) (L' := #[true, true, false, true, true, true, true, true, true, true, false, false, false]) (v := ?v42) rfl rfl (by kernel_rfl) (fun _ _ _ h => h) (by rfl) ?hy42 (by assumption) ?rest42
        case hy42 => (intro wx hSw; (try dsimp only at hSw); (obtain ⟨q0, q1, q2, q3, q4, q5, q6, q7, q8, q9, q10, q11, q12, q13, q14⟩ := HQ2.out _ hSw); go_simp; (try with_reducible rfl))
        simp only [Act.put, List.setIfInBounds_toArray, List.set_cons_zero, List.set_cons_succ]
        refine anyH_take (i := 10) (d := 87) (L' := #[true, true, false, true, true, true, true, true, true, true, true, false, false]) (v := ?v43) rfl rfl (by kernel_rfl) (fun _ _ _ h => h) (by rfl) ?hy43 (by assumption) ?rest43
        case hy43 => (intro wx hSw; (try dsimp only at hSw); (obtain ⟨q0, q1, q2, q3, q4, q5, q6, q7, q8, q9, q10, q11, q12, q13, q14⟩ := HQ2.out _ hSw); go_simp; (try with_reducible rfl))
        simp only [Act.put, List.setIfInBounds_toArray, List.set_cons_zero, List.set_cons_succ]
        refine anyH_run2 (i := 2) (j := 11) (L1 := #[true, true, true, true, true, true, true, true, true, true, true, false, false]) (L2 := #[true, true, false, true, true, true, true, true, true, true, true, true, false]) rfl rfl (by kernel_rfl) (by rfl) (by rfl) (fun KK hKK => ?ra31) (fun KK hKK => ?rb31)
        case' ra31 =>
          go_simp
          (refine (WTNum_any _ (by decide) 8 i B B _ _ hW (Nat.le_refl _) (by omega) (by omega) (by have := HLN.out; simp only [List.length_append, leB_length]; omega)).mono ?_; rintro e w2 ⟨rfl, hW2, hf⟩; have hm := Fr.trans hHeld hf; (try replace hF := fun w' h => hF w' (hf.trans h)); replace hW := hW2; clear hf hW2; (try go_simp))
          refine hKK.out _ _ (by assumption) (fun hHeld => ?_)
          clear hKK KK
          try simp only [Act.put, List.setIfInBounds_toArray, List.set_cons_zero, List.set_cons_succ]
          refine anyH_run (i := 11) (L' := #[true, true, true, true, true, true, true, true, true, true, true, true, false]) rfl (by kernel_rfl) (by rfl) (fun KK hKK => ?_)
          (obtain ⟨m1, m2, hF⟩ := Fr.litF hHeld hW (Nat.le_refl _) [vx, vy, sp] #[.int .i64 vx, .int .i64 vy, .int .i64 sp] 28 3 (by decide) rfl rfl (by simp); (try simp only [World.size_alloc] at hF); replace hW := m1; go_simp)
          refine hKK.out _ _ (by assumption) (fun hHeld => ?_)
          clear hKK KK
          try simp only [Act.put, List.setIfInBounds_toArray, List.set_cons_zero, List.set_cons_succ]
          refine anyH_run (i := 12) (L' := #[true, true, true, true, true, true, true, true, true, true, true, true, true]) rfl (by kernel_rfl) (by rfl) (fun KK hKK => ?_)
          go_simp
          (refine (WTF_any _ (by decide) B B _ _ [vx, vy, sp] _ hW (Nat.le_refl _) hF (by have := HLN.out; simp only [List.length_append, leB_length, List.length_cons, List.length_nil]; omega)).mono ?_; rintro e w12 ⟨rfl, hW12, hf⟩; have hm := Fr.trans hHeld hf; clear hF; replace hW := hW12; clear hf hW12; (try go_simp))
          refine hKK.out _ _ (by assumption) (fun hHeld => ?_)
          clear hKK KK
          try simp only [Act.put, List.setIfInBounds_toArray, List.set_cons_zero, List.set_cons_succ]
          refine wpAnyH_done (by kernel_rfl) ?_ _
          (go_wp2_with (fail); go_roundw; (case rel => exact ⟨j + 1, by omega, by go_num, by have := hW; rw [HS.out, ← List.append_assoc]; simpa [leO, leF, fV] using this, HF2.out.trans hHeld⟩); (case measure => simp [intOf]; omega))
        case' rb31 =>
          (obtain ⟨m1, m2, hF⟩ := Fr.litF hHeld hW (Nat.le_refl _) [vx, vy, sp] #[.int .i64 vx, .int .i64 vy, .int .i64 sp] 28 3 (by decide) rfl rfl (by simp); (try simp only [World.size_alloc] at hF); replace hW := m1; go_simp)
          refine hKK.out _ _ (by assumption) (fun hHeld => ?_)
          clear hKK KK
          try simp only [Act.put, List.setIfInBounds_toArray, List.set_cons_zero, List.set_cons_succ]
          refine anyH_run (i := 2) (L' := #[true, true, true, true, true, true, true, true, true, true, true, true, false]) rfl (by kernel_rfl) (by rfl) (fun KK hKK => ?_)
          go_simp
          (refine (WTNum_any _ (by decide) 8 i B B _ _ hW (Nat.le_refl _) (by omega) (by omega) (by have := HLN.out; simp only [List.length_append, leB_length]; omega)).mono ?_; rintro e w2 ⟨rfl, hW2, hf⟩; have hm := Fr.trans hHeld hf; (try replace hF := fun w' h => hF w' (hf.trans h)); replace hW := hW2; clear hf hW2; (try go_simp))
          refine hKK.out _ _ (by assumption) (fun hHeld => ?_)
          clear hKK KK
          try simp only [Act.put, List.setIfInBounds_toArray, List.set_cons_zero, List.set_cons_succ]
          refine anyH_run (i := 12) (L' := #[true, true, true, true, true, true, true, true, true, true, true, true, true]) rfl (by kernel_rfl) (by rfl) (fun KK hKK => ?_)
          go_simp
          (refine (WTF_any _ (by decide) B B _ _ [vx, vy, sp] _ hW (Nat.le_refl _) hF (by have := HLN.out; simp only [List.length_append, leB_length, List.length_cons, List.length_nil]; omega)).mono ?_; rintro e w12 ⟨rfl, hW12, hf⟩; have hm := Fr.trans hHeld hf; clear hF; replace hW := hW12; clear hf hW12; (try go_simp))
          refine hKK.out _ _ (by assumption) (fun hHeld => ?_)
          clear hKK KK
          try simp only [Act.put, List.setIfInBounds_toArray, List.set_cons_zero, List.set_cons_succ]
          refine wpAnyH_done (by kernel_rfl) ?_ _
          (go_wp2_with (fail); go_roundw; (case rel => exact ⟨j + 1, by omega, by go_num, by have := hW; rw [HS.out, ← List.append_assoc]; simpa [leO, leF, fV] using this, HF2.out.trans hHeld⟩); (case measure => simp [intOf]; omega))
      by_cases k6 : k = 6
      · subst k6
        have hS := Fs.fr (base := B) (b := B) (l := [vx, vy]) (n := 2) (Blk.new w2 #[.int .i64 vx, .int .i64 vy] 28) (by decide) (by have := HW2.out.lt; omega) rfl rfl (by simp); have hWl := HW2.out.k ((Chg.refl [] w2).alloc (.cells #[.int .i64 vx, .int .i64 vy] 28)); have hfl := (Fr.chg (base := B) (b := B) ((Chg.refl [] w2).alloc (.cells #[.int .i64 vx, .int .i64 vy] 28)) (by have := HW2.out.lt; omega))
        go_wp2_with ((go_at_call 34; refine (WTF_any _ (by decide) B B _ _ [vx, vy] _ hWl (Nat.le_refl _) hS (by have := HLN.out; simp only [List.length_append, leB_length, List.length_cons, List.length_nil]; omega)).mono ?_; rintro e w3 ⟨rfl, hW3, hf3⟩))
        go_roundw
        case rel => exact ⟨j + 1, by omega, by go_num, by have := hW3; rw [HS.out, ← List.append_assoc]; simpa [leO, leF, fV] using this, (HF2.out.trans hfl).trans hf3⟩
        case measure => simp [intOf]; omega
      have g1 : (k == 1) = false := by rw [beq_eq_false_iff_ne]; exact k1
      have g2 : (k == 2) = false := by rw [beq_eq_false_iff_ne]; exact k2
      have g4 : (k == 4) = false := by rw [beq_eq_false_iff_ne]; exact k4
      have g3 : (k == 3) = false := by rw [beq_eq_false_iff_ne]; exact k3
      have g5 : (k == 5) = false := by rw [beq_eq_false_iff_ne]; exact k5
      have g6 : (k == 6) = false := by rw [beq_eq_false_iff_ne]; exact k6
      go_wp2_with (fail)
      go_roundw
      case rel => exact ⟨j + 1, by omega, by go_num, by have := HW2.out; rw [HS.out, ← List.append_assoc]; simpa [leO, leF, fV, k1, k2, k3, k4, k5, k6] using this, HF2.out⟩
      case measure => simp [intOf]; omega
    · have hjn : j = l.length := by omega
      subst hjn
      rw [List.take_length, ← HLL.out] at hW
      go_wp2_with (first
        | (go_at_call 12; refine (WTBytes_any _ B B _ _ hW (by have := HLB.out; omega)).mono ?_; rintro e w2 ⟨ao2, c2, rfl, h2, h3⟩; have hbs := h2.bs)
        | (refine wpStr rfl _ rfl _ _ rfl hbs ?_))
      go_ret
      exact ⟨rfl, Chg.ofBelow (HB.out ▸ (HB0.out.trans hF0.below).trans (h3.below (Nat.le_of_lt hW.lt) (by simp)))⟩
end Go.Proofs.Ytlicefbgcoddbaa
