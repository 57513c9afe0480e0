/- Words and walks that Apart rests on: WorldW. -/
import Derived.Test.YtpadflhffiiglaaGreatWApart15
/- codec.World. -/
namespace Go.Proofs.YtpadflhffiiglaaGreat
open Go.RowKit

set_option maxRecDepth 100000 in
set_option maxHeartbeats 16000000 in
theorem World_any (w : World) (x : Value) (W : Wld) (hx : WlS w x W) (hP : ∀ b ∈ W.bodies, b.shape.p.length ≤ 4096) (hN : (leW W).length ≤ 140737488000000) :
    Calls Tryz.prog 9 #[x] w fun e w' => ∃ ao c, e = .returned (.slice ao (leW W).length c) ∧ OwB w' w.heap.size (.slice ao (leW W).length c) (leW W) ∧ Chg [] w w' := by
  obtain ⟨LL, hLL⟩ : ∃ LL, LL = leW W := ⟨_, rfl⟩
  rw [← hLL]
  have hN3 : (leW3 W ++ W.contacts.flatMap leCt).length ≤ 140737488000000 := hN
  have hN2 : (leW2 W ++ W.joints.flatMap leJt).length ≤ 140737488000000 := by
    unfold leW3 at hN3; simp only [List.length_append] at hN3 ⊢; omega
  have hN1 : (leW1 W ++ W.bodies.flatMap leBd).length ≤ 140737488000000 := by
    unfold leW2 at hN2; simp only [List.length_append] at hN2 ⊢; omega
  have HLN : Hd (LL.length ≤ 140737488355328) := hd (by rw [hLL]; omega)
  obtain ⟨bv, jv, kv, L, rfl, hx⟩ := hx
  obtain ⟨tk, nb, nj, ⟨gx, gy⟩, bs, js, ks⟩ := W
  have hlb := hx.l
  simp only at hlb
  subst hlb
  obtain ⟨ab, cb, rfl, hmb, hab⟩ := Rd.form (by decide) hx.b.rd
  obtain ⟨aj, cj, rfl, hmj, haj⟩ := Rd.form (by decide) hx.j
  obtain ⟨ak, ck, rfl, hmk, hak⟩ := Rd.form (by decide) hx.c
  simp only at haj hak hmj hmk
  obtain ⟨P0, hP0⟩ : ∃ P0, P0 = leW0 ⟨tk, nb, nj, (gx, gy), L.map (·.1), js, ks⟩ := ⟨_, rfl⟩
  obtain ⟨P1, hP1⟩ : ∃ P1, P1 = leW1 ⟨tk, nb, nj, (gx, gy), L.map (·.1), js, ks⟩ := ⟨_, rfl⟩
  obtain ⟨P2, hP2⟩ : ∃ P2, P2 = leW2 ⟨tk, nb, nj, (gx, gy), L.map (·.1), js, ks⟩ := ⟨_, rfl⟩
  obtain ⟨P3, hP3⟩ : ∃ P3, P3 = leW3 ⟨tk, nb, nj, (gx, gy), L.map (·.1), js, ks⟩ := ⟨_, rfl⟩
  simp only [← hP1, ← hP2, ← hP3, List.length_append] at hN1 hN2 hN3
  have HN_L := hd hN1
  have HN_js := hd hN2
  have HN_ks := hd hN3
  have E0 : P0 = leB 8 tk ++ leB 8 nb ++ leB 8 nj ++ leF (fV [(gx, gy)]) := hP0
  have E1 : P1 = P0 ++ leB 2 L.length := by rw [hP1, hP0]; simp [leW1]
  have E2 : P2 = P1 ++ (L.map (·.1)).flatMap leBd ++ leB 2 js.length := by rw [hP2, hP1]; rfl
  have E3 : P3 = P2 ++ js.flatMap leJt ++ leB 4 ks.length := by rw [hP3, hP2]; rfl
  have EL : LL = P3 ++ ks.flatMap leCt := by rw [hLL, hP3]; rfl
  have H0 := hd E0
  have H1 := hd E1
  have H2 := hd E2
  have H3 := hd E3
  have HLL := hd EL
  have HX := hd hx
  have HAB := hd hab
  have HRB : Hd (Rd w 11 (.slice ab L.length cb) L.length (L.flatMap cBV)) := hd hx.b.rd
  have HRJ : Hd (Rd w 8 (.slice aj js.length cj) js.length (js.flatMap cJt)) := hd hx.j
  have HRC : Hd (Rd w 5 (.slice ak ks.length ck) ks.length (ks.flatMap cCt)) := hd hx.c
  have HP : Hd (∀ x ∈ L, x.1.shape.p.length ≤ 4096) := hd fun x hx => hP _ (List.mem_map_of_mem hx)
  have HAJ := hd haj
  have HAK := hd hak
  clear hP hP0 hP1 hP2 hP3 hN1 hN2 hN3 hN hLL E0 E1 E2 E3 EL hx hab haj hak
  have hcx := (Chg.refl [] w).alloc (.cells #[.int .i64 tk, .int .i64 nb, .int .i64 nj, .int .i64 gx, .int .i64 gy, .slice ab L.length cb, .slice aj js.length cj, .slice ak ks.length ck] 42)
  have hkx := (Blk.new w #[.int .i64 tk, .int .i64 nb, .int .i64 nj, .int .i64 gx, .int .i64 gy, .slice ab L.length cb, .slice aj js.length cj, .slice ak ks.length ck] 42).alloc (.cells #[.slice none 0 0] 80)
  have hcy := hcx.alloc (.cells #[.slice none 0 0] 80)
  have hw0 : WrT 80 ((w.alloc (.cells #[.int .i64 tk, .int .i64 nb, .int .i64 nj, .int .i64 gx, .int .i64 gy, .slice ab L.length cb, .slice aj js.length cj, .slice ak ks.length ck] 42)).alloc (.cells #[.slice none 0 0] 80)) (w.heap.size + 1) (w.heap.size + 1) [] := ⟨_, by have := Blk.new (w.alloc (.cells #[.int .i64 tk, .int .i64 nb, .int .i64 nj, .int .i64 gx, .int .i64 gy, .slice ab L.length cb, .slice aj js.length cj, .slice ak ks.length ck] 42)) #[.slice none 0 0] 80; rwa [World.size_alloc] at this, OwB.nil _ _⟩
  have hb0 : Below w.heap.size w ((w.alloc (.cells #[.int .i64 tk, .int .i64 nb, .int .i64 nj, .int .i64 gx, .int .i64 gy, .slice ab L.length cb, .slice aj js.length cj, .slice ak ks.length ck] 42)).alloc (.cells #[.slice none 0 0] 80)) := hcy.new
  have hsz : ((w.alloc (.cells #[.int .i64 tk, .int .i64 nb, .int .i64 nj, .int .i64 gx, .int .i64 gy, .slice ab L.length cb, .slice aj js.length cj, .slice ak ks.length ck] 42)).alloc (.cells #[.slice none 0 0] 80)).heap.size = w.heap.size + 2 := by simp
  unfold vW
  simp only
  clear hcx
  go_enter Tryz.func9, Tryz.ntmps9
  go_upto_region 2 with (fail)
  (try rw [World.size_alloc])
  generalize (w.alloc (.cells #[.int .i64 tk, .int .i64 nb, .int .i64 nj, .int .i64 gx, .int .i64 gy, .slice ab L.length cb, .slice aj js.length cj, .slice ak ks.length ck] 42)).alloc (.cells #[.slice none 0 0] 80) = w0 at *
  obtain ⟨xb, hxb⟩ : ∃ xb, xb = w.heap.size := ⟨_, rfl⟩
  obtain ⟨b, hbe⟩ : ∃ b, b = w.heap.size + 1 := ⟨_, rfl⟩
  rw [← hbe] at hw0 ⊢
  rw [← hxb] at hkx hb0 hsz ⊢
  have hb : b ≤ b := Nat.le_refl _
  have HL : Hd (0 ≤ 1) := hd (by omega)
  have HXB := hd hxb
  have HB : Hd (w.heap.size ≤ b) := hd (by omega)
  have HB0 := hd hb0
  have hbn : b ≠ xb := by omega
  have HBW : Hd (b ≤ w0.heap.size) := hd (by omega)
  have HXQ : Hd (∀ wx, Fr b b w0 wx → wx.cell? ⟨xb, 0, none⟩ = some (.int .i64 tk) ∧ wx.cell? ⟨xb, 1, none⟩ = some (.int .i64 nb) ∧ wx.cell? ⟨xb, 2, none⟩ = some (.int .i64 nj) ∧ wx.cell? ⟨xb, 3, none⟩ = some (.int .i64 gx) ∧ wx.cell? ⟨xb, 4, none⟩ = some (.int .i64 gy) ∧ wx.cell? ⟨xb, 5, none⟩ = some (.slice ab L.length cb) ∧ wx.cell? ⟨xb, 6, none⟩ = some (.slice aj js.length cj) ∧ wx.cell? ⟨xb, 7, none⟩ = some (.slice ak ks.length ck)) := hd fun wx hx => by
    have := hx.kp _ _ _ hkx (by decide) (fun e => hbn e.symm)
    exact ⟨this.cell 0, this.cell 1, this.cell 2, this.cell 3, this.cell 4, this.cell 5, this.cell 6, this.cell 7⟩
  have hW := hw0.k (Chg.refl [] w0).drew
  clear hw0 hb0 hsz hxb hbe hbn hkx hcy
  go_cut [10] from 400 (fun _ wx => WrT 80 wx b b P0 ∧ Fr b b w0 wx)
  case first =>
    refine anyH_start (n := 14) (L := #[false, false, false, false, false, false, false, false, false, false, false, false, false, false]) (by kernel_rfl) (by kernel_rfl) (S := (fun wx => Fr b b w0 wx)) (Fr.chg (Chg.refl _ _).drew HBW.out) (fun hHeld => ?_)
    generalize w0.drew = w2 at *
    refine anyH_take (i := 0) (d := 10) (L' := #[true, false, false, false, false, false, false, false, false, false, false, false, false, false]) (v := ?v5) rfl rfl (by kernel_rfl) (fun _ _ _ h => h) (by rfl) ?hy5 (by assumption) ?rest5
    case hy5 => (intro wx hSw; (try dsimp only at hSw); (obtain ⟨q0, q1, q2, q3, q4, q5, q6, q7⟩ := HXQ.out _ hSw); go_simp; (try with_reducible rfl))
    simp only [Act.put, List.setIfInBounds_toArray, List.set_cons_zero, List.set_cons_succ]
    refine anyH_take (i := 1) (d := 11) (L' := #[true, true, false, false, false, false, false, false, false, false, false, false, false, false]) (v := ?v6) rfl rfl (by kernel_rfl) (fun _ _ _ h => h) (by rfl) ?hy6 (by assumption) ?rest6
    case hy6 => (intro wx hSw; (try dsimp only at hSw); (obtain ⟨q0, q1, q2, q3, q4, q5, q6, q7⟩ := HXQ.out _ hSw); go_simp; (try with_reducible rfl))
    simp only [Act.put, List.setIfInBounds_toArray, List.set_cons_zero, List.set_cons_succ]
    refine anyH_take (i := 2) (d := 12) (L' := #[true, true, true, false, false, false, false, false, false, false, false, false, false, false]) (v := ?v7) rfl rfl (by kernel_rfl) (fun _ _ _ h => h) (by rfl) ?hy7 (by assumption) ?rest7
    case hy7 => (intro wx hSw; (try dsimp only at hSw); (obtain ⟨q0, q1, q2, q3, q4, q5, q6, q7⟩ := HXQ.out _ hSw); go_simp; (try with_reducible rfl))
    simp only [Act.put, List.setIfInBounds_toArray, List.set_cons_zero, List.set_cons_succ]
    refine anyH_take (i := 4) (d := 14) (L' := #[true, true, true, false, true, false, false, false, false, false, false, false, false, false]) (v := ?v8) rfl rfl (by kernel_rfl) (fun _ _ _ h => h) (by rfl) ?hy8 (by assumption) ?rest8
    case hy8 => (intro wx hSw; (try dsimp only at hSw); (obtain ⟨q0, q1, q2, q3, q4, q5, q6, q7⟩ := HXQ.out _ hSw); go_simp; (try with_reducible rfl))
    simp only [Act.put, List.setIfInBounds_toArray, List.set_cons_zero, List.set_cons_succ]
    refine anyH_take (i := 5) (d := 15) (L' := #[true, true, true, false, true, true, false, false, false, false, false, false, false, false]) (v := ?v9) rfl rfl (by kernel_rfl) (fun _ _ _ h => h) (by rfl) ?hy9 (by assumption) ?rest9
    case hy9 => (intro wx hSw; (try dsimp only at hSw); (obtain ⟨q0, q1, q2, q3, q4, q5, q6, q7⟩ := HXQ.out _ hSw); go_simp; (try with_reducible rfl))
    simp only [Act.put, List.setIfInBounds_toArray, List.set_cons_zero, List.set_cons_succ]
    refine anyH_take (i := 7) (d := 17) (L' := #[true, true, true, false, true, true, false, true, false, false, false, false, false, false]) (v := ?v10) rfl rfl (by kernel_rfl) (fun _ _ _ h => h) (by rfl) ?hy10 (by assumption) ?rest10
    case hy10 => (intro wx hSw; (try dsimp only at hSw); (obtain ⟨q0, q1, q2, q3, q4, q5, q6, q7⟩ := HXQ.out _ hSw); go_simp; (try with_reducible rfl))
    simp only [Act.put, List.setIfInBounds_toArray, List.set_cons_zero, List.set_cons_succ]
    refine anyH_take (i := 8) (d := 18) (L' := #[true, true, true, false, true, true, false, true, true, false, false, false, false, false]) (v := ?v11) rfl rfl (by kernel_rfl) (fun _ _ _ h => h) (by rfl) ?hy11 (by assumption) ?rest11
    case hy11 => (intro wx hSw; (try dsimp only at hSw); (obtain ⟨q0, q1, q2, q3, q4, q5, q6, q7⟩ := HXQ.out _ hSw); go_simp; (try with_reducible rfl))
    simp only [Act.put, List.setIfInBounds_toArray, List.set_cons_zero, List.set_cons_succ]
    refine anyH_take (i := 10) (d := 20) (L' := #[true, true, true, false, true, true, false, true, true, false, true, false, false, false]) (v := ?v12) rfl rfl (by kernel_rfl) (fun _ _ _ h => h) (by rfl) ?hy12 (by assumption) ?rest12
    case hy12 => (intro wx hSw; (try dsimp only at hSw); (obtain ⟨q0, q1, q2, q3, q4, q5, q6, q7⟩ := HXQ.out _ hSw); go_simp; (try with_reducible rfl))
    simp only [Act.put, List.setIfInBounds_toArray, List.set_cons_zero, List.set_cons_succ]
    refine anyH_take (i := 11) (d := 21) (L' := #[true, true, true, false, true, true, false, true, true, false, true, true, false, false]) (v := ?v13) rfl rfl (by kernel_rfl) (fun _ _ _ h => h) (by rfl) ?hy13 (by assumption) ?rest13
    case hy13 => (intro wx hSw; (try dsimp only at hSw); (obtain ⟨q0, q1, q2, q3, q4, q5, q6, q7⟩ := HXQ.out _ hSw); go_simp; (try with_reducible rfl))
    simp only [Act.put, List.setIfInBounds_toArray, List.set_cons_zero, List.set_cons_succ]
    refine anyH_run2 (i := 3) (j := 12) (L1 := #[true, true, true, true, true, true, false, true, true, false, true, true, false, false]) (L2 := #[true, true, true, false, true, true, false, true, true, false, true, true, true, false]) rfl rfl (by kernel_rfl) (by rfl) (by rfl) (fun KK hKK => ?ra0) (fun KK hKK => ?rb0)
    case' ra0 =>
      go_simp
      (refine (WTNum_any _ (by decide) 8 tk b b _ _ hW hb (by omega) (by omega) (by have := HL.out; simp only [List.length_nil] <;> omega)).mono ?_; rintro e w3 ⟨rfl, hW3, hf⟩; have hm := Fr.trans hHeld hf; (try replace hV := fun w' h => hV w' (hf.trans h)); (try replace hF := fun w' h => hF w' (hf.trans h)); replace hW := hW3; clear hf hW3; (try go_simp))
      refine hKK.out _ _ (by assumption) (fun hHeld => ?_)
      clear hKK KK
      try simp only [Act.put, List.setIfInBounds_toArray, List.set_cons_zero, List.set_cons_succ]
      refine anyH_run2 (i := 6) (j := 12) (L1 := #[true, true, true, true, true, true, true, true, true, false, true, true, false, false]) (L2 := #[true, true, true, true, true, true, false, true, true, false, true, true, true, false]) rfl rfl (by kernel_rfl) (by rfl) (by rfl) (fun KK hKK => ?ra1) (fun KK hKK => ?rb1)
      case' ra1 =>
        go_simp
        (refine (WTNum_any _ (by decide) 8 nb b b _ _ hW hb (by omega) (by omega) (by have := HL.out; simp only [List.length_append, leB_length, List.length_nil] <;> omega)).mono ?_; rintro e w6 ⟨rfl, hW6, hf⟩; have hm := Fr.trans hHeld hf; (try replace hV := fun w' h => hV w' (hf.trans h)); (try replace hF := fun w' h => hF w' (hf.trans h)); replace hW := hW6; clear hf hW6; (try go_simp))
        refine hKK.out _ _ (by assumption) (fun hHeld => ?_)
        clear hKK KK
        try simp only [Act.put, List.setIfInBounds_toArray, List.set_cons_zero, List.set_cons_succ]
        refine anyH_run2 (i := 9) (j := 12) (L1 := #[true, true, true, true, true, true, true, true, true, true, true, true, false, false]) (L2 := #[true, true, true, true, true, true, true, true, true, false, true, true, true, false]) rfl rfl (by kernel_rfl) (by rfl) (by rfl) (fun KK hKK => ?ra2) (fun KK hKK => ?rb2)
        case' ra2 =>
          go_simp
          (refine (WTNum_any _ (by decide) 8 nj b b _ _ hW hb (by omega) (by omega) (by have := HL.out; simp only [List.length_append, leB_length, List.length_nil] <;> omega)).mono ?_; rintro e w9 ⟨rfl, hW9, hf⟩; have hm := Fr.trans hHeld hf; (try replace hV := fun w' h => hV w' (hf.trans h)); (try replace hF := fun w' h => hF w' (hf.trans h)); replace hW := hW9; clear hf hW9; (try go_simp))
          refine hKK.out _ _ (by assumption) (fun hHeld => ?_)
          clear hKK KK
          try simp only [Act.put, List.setIfInBounds_toArray, List.set_cons_zero, List.set_cons_succ]
          refine anyH_run (i := 12) (L' := #[true, true, true, true, true, true, true, true, true, true, true, true, true, false]) rfl (by kernel_rfl) (by rfl) (fun KK hKK => ?_)
          (obtain ⟨m1, m2, hV⟩ := Fr.litV hHeld hW hb [(gx, gy)] #[.int .i64 gx, .int .i64 gy] 27 1 (by decide) rfl rfl (by simp); (try simp only [World.size_alloc] at hV); (try replace hF := fun w' h => hF w' ((Fr.lit0 hHeld hW hb (.cells #[.int .i64 gx, .int .i64 gy] 27)).trans h)); replace hW := m1; go_simp)
          refine hKK.out _ _ (by assumption) (fun hHeld => ?_)
          clear hKK KK
          try simp only [Act.put, List.setIfInBounds_toArray, List.set_cons_zero, List.set_cons_succ]
          refine anyH_run (i := 13) (L' := #[true, true, true, true, true, true, true, true, true, true, true, true, true, true]) rfl (by kernel_rfl) (by rfl) (fun KK hKK => ?_)
          go_simp
          (refine (WTV_any _ (by decide) b b _ _ [(gx, gy)] _ hW hb hV (by have := HL.out; simp only [List.length_append, leB_length, List.length_cons, List.length_nil] <;> omega)).mono ?_; rintro e w13 ⟨rfl, hW13, hf⟩; have hm := Fr.trans hHeld hf; clear hV; (try replace hF := fun w' h => hF w' (hf.trans h)); replace hW := hW13; clear hf hW13; (try go_simp))
          refine hKK.out _ _ (by assumption) (fun hHeld => ?_)
          clear hKK KK
          try simp only [Act.put, List.setIfInBounds_toArray, List.set_cons_zero, List.set_cons_succ]
          refine wpAnyH_done (by kernel_rfl) ?_ _
          (go_wp2_with fail; go_meet; exact ⟨by rw [H0.out]; simpa using hW, hHeld⟩)
        case' rb2 =>
          (obtain ⟨m1, m2, hV⟩ := Fr.litV hHeld hW hb [(gx, gy)] #[.int .i64 gx, .int .i64 gy] 27 1 (by decide) rfl rfl (by simp); (try simp only [World.size_alloc] at hV); (try replace hF := fun w' h => hF w' ((Fr.lit0 hHeld hW hb (.cells #[.int .i64 gx, .int .i64 gy] 27)).trans h)); replace hW := m1; go_simp)
          refine hKK.out _ _ (by assumption) (fun hHeld => ?_)
          clear hKK KK
          try simp only [Act.put, List.setIfInBounds_toArray, List.set_cons_zero, List.set_cons_succ]
          refine anyH_run (i := 9) (L' := #[true, true, true, true, true, true, true, true, true, true, true, true, true, false]) rfl (by kernel_rfl) (by rfl) (fun KK hKK => ?_)
          go_simp
          (refine (WTNum_any _ (by decide) 8 nj b b _ _ hW hb (by omega) (by omega) (by have := HL.out; simp only [List.length_append, leB_length, List.length_nil] <;> omega)).mono ?_; rintro e w9 ⟨rfl, hW9, hf⟩; have hm := Fr.trans hHeld hf; (try replace hV := fun w' h => hV w' (hf.trans h)); (try replace hF := fun w' h => hF w' (hf.trans h)); replace hW := hW9; clear hf hW9; (try go_simp))
          refine hKK.out _ _ (by assumption) (fun hHeld => ?_)
          clear hKK KK
          try simp only [Act.put, List.setIfInBounds_toArray, List.set_cons_zero, List.set_cons_succ]
          refine anyH_run (i := 13) (L' := #[true, true, true, true, true, true, true, true, true, true, true, true, true, true]) rfl (by kernel_rfl) (by rfl) (fun KK hKK => ?_)
          go_simp
          (refine (WTV_any _ (by decide) b b _ _ [(gx, gy)] _ hW hb hV (by have := HL.out; simp only [List.length_append, leB_length, List.length_cons, List.length_nil] <;> omega)).mono ?_; rintro e w13 ⟨rfl, hW13, hf⟩; have hm := Fr.trans hHeld hf; clear hV; (try replace hF := fun w' h => hF w' (hf.trans h)); replace hW := hW13; clear hf hW13; (try go_simp))
          refine hKK.out _ _ (by assumption) (fun hHeld => ?_)
          clear hKK KK
          try simp only [Act.put, List.setIfInBounds_toArray, List.set_cons_zero, List.set_cons_succ]
          refine wpAnyH_done (by kernel_rfl) ?_ _
          (go_wp2_with fail; go_meet; exact ⟨by rw [H0.out]; simpa using hW, hHeld⟩)
      case' rb1 =>
        (obtain ⟨m1, m2, hV⟩ := Fr.litV hHeld hW hb [(gx, gy)] #[.int .i64 gx, .int .i64 gy] 27 1 (by decide) rfl rfl (by simp); (try simp only [World.size_alloc] at hV); (try replace hF := fun w' h => hF w' ((Fr.lit0 hHeld hW hb (.cells #[.int .i64 gx, .int .i64 gy] 27)).trans h)); replace hW := m1; go_simp)
        refine hKK.out _ _ (by assumption) (fun hHeld => ?_)
        clear hKK KK
        try simp only [Act.put, List.setIfInBounds_toArray, List.set_cons_zero, List.set_cons_succ]
        refine anyH_run (i := 6) (L' := #[true, true, true, true, true, true, true, true, true, false, true, true, true, false]) rfl (by kernel_rfl) (by rfl) (fun KK hKK => ?_)
        go_simp
        (refine (WTNum_any _ (by decide) 8 nb b b _ _ hW hb (by omega) (by omega) (by have := HL.out; simp only [List.length_append, leB_length, List.length_nil] <;> omega)).mono ?_; rintro e w6 ⟨rfl, hW6, hf⟩; have hm := Fr.trans hHeld hf; (try replace hV := fun w' h => hV w' (hf.trans h)); (try replace hF := fun w' h => hF w' (hf.trans h)); replace hW := hW6; clear hf hW6; (try go_simp))
        refine hKK.out _ _ (by assumption) (fun hHeld => ?_)
        clear hKK KK
        try simp only [Act.put, List.setIfInBounds_toArray, List.set_cons_zero, List.set_cons_succ]
        refine anyH_run (i := 9) (L' := #[true, true, true, true, true, true, true, true, true, true, true, true, true, false]) rfl (by kernel_rfl) (by rfl) (fun KK hKK => ?_)
        go_simp
        (refine (WTNum_any _ (by decide) 8 nj b b _ _ hW hb (by omega) (by omega) (by have := HL.out; simp only [List.length_append, leB_length, List.length_nil] <;> omega)).mono ?_; rintro e w9 ⟨rfl, hW9, hf⟩; have hm := Fr.trans hHeld hf; (try replace hV := fun w' h => hV w' (hf.trans h)); (try replace hF := fun w' h => hF w' (hf.trans h)); replace hW := hW9; clear hf hW9; (try go_simp))
        refine hKK.out _ _ (by assumption) (fun hHeld => ?_)
        clear hKK KK
        try simp only [Act.put, List.setIfInBounds_toArray, List.set_cons_zero, List.set_cons_succ]
        refine anyH_run (i := 13) (L' := #[true, true, true, true, true, true, true, true, true, true, true, true, true, true]) rfl (by kernel_rfl) (by rfl) (fun KK hKK => ?_)
        go_simp
        (refine (WTV_any _ (by decide) b b _ _ [(gx, gy)] _ hW hb hV (by have := HL.out; simp only [List.length_append, leB_length, List.length_cons, List.length_nil] <;> omega)).mono ?_; rintro e w13 ⟨rfl, hW13, hf⟩; have hm := Fr.trans hHeld hf; clear hV; (try replace hF := fun w' h => hF w' (hf.trans h)); replace hW := hW13; clear hf hW13; (try go_simp))
        refine hKK.out _ _ (by assumption) (fun hHeld => ?_)
        clear hKK KK
        try simp only [Act.put, List.setIfInBounds_toArray, List.set_cons_zero, List.set_cons_succ]
        refine wpAnyH_done (by kernel_rfl) ?_ _
        (go_wp2_with fail; go_meet; exact ⟨by rw [H0.out]; simpa using hW, hHeld⟩)
    case' rb0 =>
      (obtain ⟨m1, m2, hV⟩ := Fr.litV hHeld hW hb [(gx, gy)] #[.int .i64 gx, .int .i64 gy] 27 1 (by decide) rfl rfl (by simp); (try simp only [World.size_alloc] at hV); (try replace hF := fun w' h => hF w' ((Fr.lit0 hHeld hW hb (.cells #[.int .i64 gx, .int .i64 gy] 27)).trans h)); replace hW := m1; go_simp)
      refine hKK.out _ _ (by assumption) (fun hHeld => ?_)
      clear hKK KK
      try simp only [Act.put, List.setIfInBounds_toArray, List.set_cons_zero, List.set_cons_succ]
      refine anyH_run (i := 3) (L' := #[true, true, true, true, true, true, false, true, true, false, true, true, true, false]) rfl (by kernel_rfl) (by rfl) (fun KK hKK => ?_)
      go_simp
      (refine (WTNum_any _ (by decide) 8 tk b b _ _ hW hb (by omega) (by omega) (by have := HL.out; simp only [List.length_nil] <;> omega)).mono ?_; rintro e w3 ⟨rfl, hW3, hf⟩; have hm := Fr.trans hHeld hf; (try replace hV := fun w' h => hV w' (hf.trans h)); (try replace hF := fun w' h => hF w' (hf.trans h)); replace hW := hW3; clear hf hW3; (try go_simp))
      refine hKK.out _ _ (by assumption) (fun hHeld => ?_)
      clear hKK KK
      try simp only [Act.put, List.setIfInBounds_toArray, List.set_cons_zero, List.set_cons_succ]
      refine anyH_run (i := 6) (L' := #[true, true, true, true, true, true, true, true, true, false, true, true, true, false]) rfl (by kernel_rfl) (by rfl) (fun KK hKK => ?_)
      go_simp
      (refine (WTNum_any _ (by decide) 8 nb b b _ _ hW hb (by omega) (by omega) (by have := HL.out; simp only [List.length_append, leB_length, List.length_nil] <;> omega)).mono ?_; rintro e w6 ⟨rfl, hW6, hf⟩; have hm := Fr.trans hHeld hf; (try replace hV := fun w' h => hV w' (hf.trans h)); (try replace hF := fun w' h => hF w' (hf.trans h)); replace hW := hW6; clear hf hW6; (try go_simp))
      refine hKK.out _ _ (by assumption) (fun hHeld => ?_)
      clear hKK KK
      try simp only [Act.put, List.setIfInBounds_toArray, List.set_cons_zero, List.set_cons_succ]
      refine anyH_run (i := 9) (L' := #[true, true, true, true, true, true, true, true, true, true, true, true, true, false]) rfl (by kernel_rfl) (by rfl) (fun KK hKK => ?_)
      go_simp
      (refine (WTNum_any _ (by decide) 8 nj b b _ _ hW hb (by omega) (by omega) (by have := HL.out; simp only [List.length_append, leB_length, List.length_nil] <;> omega)).mono ?_; rintro e w9 ⟨rfl, hW9, hf⟩; have hm := Fr.trans hHeld hf; (try replace hV := fun w' h => hV w' (hf.trans h)); (try replace hF := fun w' h => hF w' (hf.trans h)); replace hW := hW9; clear hf hW9; (try go_simp))
      refine hKK.out _ _ (by assumption) (fun hHeld => ?_)
      clear hKK KK
      try simp only [Act.put, List.setIfInBounds_toArray, List.set_cons_zero, List.set_cons_succ]
      refine anyH_run (i := 13) (L' := #[true, true, true, true, true, true, true, true, true, true, true, true, true, true]) rfl (by kernel_rfl) (by rfl) (fun KK hKK => ?_)
      go_simp
      (refine (WTV_any _ (by decide) b b _ _ [(gx, gy)] _ hW hb hV (by have := HL.out; simp only [List.length_append, leB_length, List.length_cons, List.length_nil] <;> omega)).mono ?_; rintro e w13 ⟨rfl, hW13, hf⟩; have hm := Fr.trans hHeld hf; clear hV; (try replace hF := fun w' h => hF w' (hf.trans h)); replace hW := hW13; clear hf hW13; (try go_simp))
      refine hKK.out _ _ (by assumption) (fun hHeld => ?_)
      clear hKK KK
      try simp only [Act.put, List.setIfInBounds_toArray, List.set_cons_zero, List.set_cons_succ]
      refine wpAnyH_done (by kernel_rfl) ?_ _
      (go_wp2_with fail; go_meet; exact ⟨by rw [H0.out]; simpa using hW, hHeld⟩)
  case rest =>
  obtain ⟨hWc, hFc⟩ := hcut
  have HF := hd hFc
  have HW := hd hWc
  clear hWc hFc hW
  obtain ⟨q0, q1, q2, q3, q4, q5, q6, q7⟩ := HXQ.out _ HF.out
  have HP0L : Hd (P0.length ≤ 140737488355000) := hd (by rw [H0.out]; simp [leF_length, fV])
  go_wp2_with (go_at_call 26; refine (WTNum_any _ (by decide) 2 L.length b b _ _ HW.out hb (by omega) (by omega) (by have := HP0L.out; exact this)).mono ?_; rintro e w3 ⟨rfl, hW3, hf3⟩; obtain ⟨q0, q1, q2, q3, q4, q5, q6, q7⟩ := HXQ.out _ (HF.out.trans hf3))
  replace HW := hd (show WrT 80 w3 b b P1 by rw [H1.out]; simpa using hW3)
  replace HF := hd (HF.out.trans hf3)
  clear hW3 hf3 HL
  go_loopw [5, 32] (fun _ i wr => ∃ k : Nat, k ≤ L.length ∧ i = .int .i64 k ∧ WrT 80 wr b b (P1 ++ ((L.map (·.1)).take k).flatMap leBd) ∧ Fr b b w0 wr)
    (fun _ i _ => L.length - (intOf i).toNat)
  case atStart => exact ⟨0, by omega, rfl, by simpa using HW.out, HF.out⟩
  case round =>
    clear HW HF
    obtain ⟨j, hj, rfl, hW, hF0⟩ := hrel
    by_cases hlt : j < L.length
    · obtain ⟨gb, off, hao, hgb⟩ := HAB.out (by omega)
      subst hao
      have HS := hd (fm_snoc leBd (L.map (·.1)) j (by simpa using hlt))
      have HL := hd (Nat.le_trans (Nat.add_le_add_left (fm_le leBd (L.map (·.1)) j) P1.length) (HN_L).out)
      have C := fun m hm => (hF0.below.cell (p := ⟨gb, off + j * 11 + m, none⟩) (show gb < b by have := HB.out; omega)).trans ((HB0.out.cell (p := ⟨gb, off + j * 11 + m, none⟩) (show gb < xb by have := HXB.out; omega)).trans (Rd.cellAt cBV_len HRB.out j hlt m hm))
      have q0 := C 0 (by decide)
      have q1 := C 1 (by decide)
      have q2 := C 2 (by decide)
      have q3 := C 3 (by decide)
      have q4 := C 4 (by decide)
      have q5 := C 5 (by decide)
      have q6 := C 6 (by decide)
      have q7 := C 7 (by decide)
      have q8 := C 8 (by decide)
      have q9 := C 9 (by decide)
      have q10 := C 10 (by decide)
      clear C
      have hps := HX.out.b.ps _ (List.getElem_mem hlt)
      have hpl := HP.out _ (List.getElem_mem hlt)
      (try simp only [List.getElem_map] at HS)
      generalize L[j] = x at *
      obtain ⟨⟨i, ⟨px, py⟩, ⟨vx, vy⟩, an, sp, de, ⟨sk, sr, p⟩⟩, pv⟩ := x
      rw [Nat.add_zero] at q0
      simp only [cBV, List.getElem_cons_zero, List.getElem_cons_succ] at q0 q1 q2 q3 q4 q5 q6 q7 q8 q9 q10
      simp only at hps hpl
      obtain ⟨ap, cp, rfl, -⟩ := hps.form
      have hz := hps.own
      have HZ : Hd (∀ w', Fr b b w0 w' → VsS w' (.slice ap p.length cp) p) := hd (fun w' h => hps.bel ((HXB.out ▸ HB0.out).trans (h.below.mono HB.out)) hz)
      have HPL : Hd (p.length ≤ 4096) := hd hpl
      clear hps hz hpl
      have hcb := (Chg.refl [] wr).alloc (.cells #[.int .i64 i, .int .i64 px, .int .i64 py, .int .i64 vx, .int .i64 vy, .int .i64 an, .int .i64 sp, .int .i64 de, .int .i64 sk, .int .i64 sr, .slice ap p.length cp] 34)
      have hkb_HQ := Blk.new wr #[.int .i64 i, .int .i64 px, .int .i64 py, .int .i64 vx, .int .i64 vy, .int .i64 an, .int .i64 sp, .int .i64 de, .int .i64 sk, .int .i64 sr, .slice ap p.length cp] 34
      have hf1 := hF0.trans (Fr.chg (base := b) (b := b) hcb (by have := hW.lt; omega))
      have hW1 := hW.k hcb
      have hbn_HQ : b ≠ wr.heap.size := by have := hW.lt; omega
      have hsz : (wr.alloc (.cells #[.int .i64 i, .int .i64 px, .int .i64 py, .int .i64 vx, .int .i64 vy, .int .i64 an, .int .i64 sp, .int .i64 de, .int .i64 sk, .int .i64 sr, .slice ap p.length cp] 34)).heap.size = wr.heap.size + 1 := by simp
      have hbb : b ≤ wr.heap.size := by have := hW.lt; omega
      clear hW hF0 hcb
      go_upto_region 7 with (fail)
      clear q0 q1 q2 q3 q4 q5 q6 q7 q8 q9 q10
      generalize wr.alloc (.cells #[.int .i64 i, .int .i64 px, .int .i64 py, .int .i64 vx, .int .i64 vy, .int .i64 an, .int .i64 sp, .int .i64 de, .int .i64 sk, .int .i64 sr, .slice ap p.length cp] 34) = w1 at *
      generalize wr.heap.size = bk at *
      have HQ : Hd (∀ wx, Fr b b w1 wx → wx.cell? ⟨bk, 0, none⟩ = some (.int .i64 i) ∧ wx.cell? ⟨bk, 1, none⟩ = some (.int .i64 px) ∧ wx.cell? ⟨bk, 2, none⟩ = some (.int .i64 py) ∧ wx.cell? ⟨bk, 3, none⟩ = some (.int .i64 vx) ∧ wx.cell? ⟨bk, 4, none⟩ = some (.int .i64 vy) ∧ wx.cell? ⟨bk, 5, none⟩ = some (.int .i64 an) ∧ wx.cell? ⟨bk, 6, none⟩ = some (.int .i64 sp) ∧ wx.cell? ⟨bk, 7, none⟩ = some (.int .i64 de) ∧ wx.cell? ⟨bk, 8, none⟩ = some (.int .i64 sk) ∧ wx.cell? ⟨bk, 9, none⟩ = some (.int .i64 sr) ∧ wx.cell? ⟨bk, 10, none⟩ = some (.slice ap p.length cp)) := hd fun wx hx => by
        have := hx.kp _ _ _ hkb_HQ (by decide) (fun e => hbn_HQ e.symm)
        exact ⟨this.cell 0, this.cell 1, this.cell 2, this.cell 3, this.cell 4, this.cell 5, this.cell 6, this.cell 7, this.cell 8, this.cell 9, this.cell 10⟩
      have HF1 := hd hf1
      have HB1 : Hd (b ≤ w1.heap.size) := hd (by omega)
      have hW := hW1.k (Chg.refl [] w1).drew
      clear hkb_HQ hbn_HQ hW1 hf1 hsz hgb hbb
      go_cut [32] from 400 (fun t wx => t = .int .i64 j ∧ WrT 80 wx b b ((P1 ++ ((L.map (·.1)).take j).flatMap leBd) ++ (leB 8 i ++ leF (fV [(px, py), (vx, vy)]) ++ leF [an, sp, de])) ∧ Fr b b w1 wx)
      case first =>
        refine anyH_start (n := 18) (L := #[false, false, false, false, false, false, false, false, false, false, false, false, false, false, false, false, false, false]) (by kernel_rfl) (by kernel_rfl) (S := (fun wx => Fr b b w1 wx)) (Fr.chg (Chg.refl _ _).drew HB1.out) (fun hHeld => ?_)
        generalize w1.drew = w2 at *
        refine anyH_take (i := 0) (d := 36) (L' := #[true, false, false, false, false, false, false, false, false, false, false, false, false, false, false, false, false, false]) (v := ?v36) rfl rfl (by kernel_rfl) (fun _ _ _ h => h) (by rfl) ?hy36 (by assumption) ?rest36
        case hy36 => (intro wx hSw; (try dsimp only at hSw); (obtain ⟨q0, q1, q2, q3, q4, q5, q6, q7, q8, q9, q10⟩ := HQ.out _ hSw); go_simp; (try with_reducible rfl))
        simp only [Act.put, List.setIfInBounds_toArray, List.set_cons_zero, List.set_cons_succ]
        refine anyH_take (i := 1) (d := 37) (L' := #[true, true, false, false, false, false, false, false, false, false, false, false, false, false, false, false, false, false]) (v := ?v37) rfl rfl (by kernel_rfl) (fun _ _ _ h => h) (by rfl) ?hy37 (by assumption) ?rest37
        case hy37 => (intro wx hSw; (try dsimp only at hSw); (obtain ⟨q0, q1, q2, q3, q4, q5, q6, q7, q8, q9, q10⟩ := HQ.out _ hSw); go_simp; (try with_reducible rfl))
        simp only [Act.put, List.setIfInBounds_toArray, List.set_cons_zero, List.set_cons_succ]
        refine anyH_take (i := 2) (d := 38) (L' := #[true, true, true, false, false, false, false, false, false, false, false, false, false, false, false, false, false, false]) (v := ?v38) rfl rfl (by kernel_rfl) (fun _ _ _ h => h) (by rfl) ?hy38 (by assumption) ?rest38
        case hy38 => (intro wx hSw; (try dsimp only at hSw); (obtain ⟨q0, q1, q2, q3, q4, q5, q6, q7, q8, q9, q10⟩ := HQ.out _ hSw); go_simp; (try with_reducible rfl))
        simp only [Act.put, List.setIfInBounds_toArray, List.set_cons_zero, List.set_cons_succ]
        refine anyH_take (i := 4) (d := 40) (L' := #[true, true, true, false, true, false, false, false, false, false, false, false, false, false, false, false, false, false]) (v := ?v39) rfl rfl (by kernel_rfl) (fun _ _ _ h => h) (by rfl) ?hy39 (by assumption) ?rest39
        case hy39 => (intro wx hSw; (try dsimp only at hSw); (obtain ⟨q0, q1, q2, q3, q4, q5, q6, q7, q8, q9, q10⟩ := HQ.out _ hSw); go_simp; (try with_reducible rfl))
        simp only [Act.put, List.setIfInBounds_toArray, List.set_cons_zero, List.set_cons_succ]
        refine anyH_take (i := 5) (d := 41) (L' := #[true, true, true, false, true, true, false, false, false, false, false, false, false, false, false, false, false, false]) (v := ?v40) rfl rfl (by kernel_rfl) (fun _ _ _ h => h) (by rfl) ?hy40 (by assumption) ?rest40
        case hy40 => (intro wx hSw; (try dsimp only at hSw); (obtain ⟨q0, q1, q2, q3, q4, q5, q6, q7, q8, q9, q10⟩ := HQ.out _ hSw); go_simp; (try with_reducible rfl))
        simp only [Act.put, List.setIfInBounds_toArray, List.set_cons_zero, List.set_cons_succ]
        refine anyH_take (i := 6) (d := 42) (L' := #[true, true, true, false, true, true, true, false, false, false, false, false, false, false, false, false, false, false]) (v := ?v41) rfl rfl (by kernel_rfl) (fun _ _ _ h => h) (by rfl) ?hy41 (by assumption) ?rest41
        case hy41 => (intro wx hSw; (try dsimp only at hSw); (obtain ⟨q0, q1, q2, q3, q4, q5, q6, q7, q8, q9, q10⟩ := HQ.out _ hSw); go_simp; (try with_reducible rfl))
        simp only [Act.put, List.setIfInBounds_toArray, List.set_cons_zero, List.set_cons_succ]
        refine anyH_take (i := 7) (d := 43) (L' := #[true, true, true, false, true, true, true, true, false, false, false, false, false, false, false, false, false, false]) (v := ?v42) rfl rfl (by kernel_rfl) (fun _ _ _ h => h) (by rfl) ?hy42 (by assumption) ?rest42
        case hy42 => (intro wx hSw; (try dsimp only at hSw); (obtain ⟨q0, q1, q2, q3, q4, q5, q6, q7, q8, q9, q10⟩ := HQ.out _ hSw); go_simp; (try with_reducible rfl))
        simp only [Act.put, List.setIfInBounds_toArray, List.set_cons_zero, List.set_cons_succ]
        refine anyH_take (i := 10) (d := 46) (L' := #[true, true, true, false, true, true, true, true, false, false, true, false, false, false, false, false, false, false]) (v := ?v43) rfl rfl (by kernel_rfl) (fun _ _ _ h => h) (by rfl) ?hy43 (by assumption) ?rest43
        case hy43 => (intro wx hSw; (try dsimp only at hSw); (obtain ⟨q0, q1, q2, q3, q4, q5, q6, q7, q8, q9, q10⟩ := HQ.out _ hSw); go_simp; (try with_reducible rfl))
        simp only [Act.put, List.setIfInBounds_toArray, List.set_cons_zero, List.set_cons_succ]
        refine anyH_take (i := 11) (d := 47) (L' := #[true, true, true, false, true, true, true, true, false, false, true, true, false, false, false, false, false, false]) (v := ?v44) rfl rfl (by kernel_rfl) (fun _ _ _ h => h) (by rfl) ?hy44 (by assumption) ?rest44
        case hy44 => (intro wx hSw; (try dsimp only at hSw); (obtain ⟨q0, q1, q2, q3, q4, q5, q6, q7, q8, q9, q10⟩ := HQ.out _ hSw); go_simp; (try with_reducible rfl))
        simp only [Act.put, List.setIfInBounds_toArray, List.set_cons_zero, List.set_cons_succ]
        refine anyH_take (i := 12) (d := 48) (L' := #[true, true, true, false, true, true, true, true, false, false, true, true, true, false, false, false, false, false]) (v := ?v45) rfl rfl (by kernel_rfl) (fun _ _ _ h => h) (by rfl) ?hy45 (by assumption) ?rest45
        case hy45 => (intro wx hSw; (try dsimp only at hSw); (obtain ⟨q0, q1, q2, q3, q4, q5, q6, q7, q8, q9, q10⟩ := HQ.out _ hSw); go_simp; (try with_reducible rfl))
        simp only [Act.put, List.setIfInBounds_toArray, List.set_cons_zero, List.set_cons_succ]
        refine anyH_take (i := 13) (d := 49) (L' := #[true, true, true, false, true, true, true, true, false, false, true, true, true, true, false, false, false, false]) (v := ?v46) rfl rfl (by kernel_rfl) (fun _ _ _ h => h) (by rfl) ?hy46 (by assumption) ?rest46
        case hy46 => (intro wx hSw; (try dsimp only at hSw); (obtain ⟨q0, q1, q2, q3, q4, q5, q6, q7, q8, q9, q10⟩ := HQ.out _ hSw); go_simp; (try with_reducible rfl))
        simp only [Act.put, List.setIfInBounds_toArray, List.set_cons_zero, List.set_cons_succ]
        refine anyH_take (i := 14) (d := 50) (L' := #[true, true, true, false, true, true, true, true, false, false, true, true, true, true, true, false, false, false]) (v := ?v47) rfl rfl (by kernel_rfl) (fun _ _ _ h => h) (by rfl) ?hy47 (by assumption) ?rest47
        case hy47 => (intro wx hSw; (try dsimp only at hSw); (obtain ⟨q0, q1, q2, q3, q4, q5, q6, q7, q8, q9, q10⟩ := HQ.out _ hSw); go_simp; (try with_reducible rfl))
        simp only [Act.put, List.setIfInBounds_toArray, List.set_cons_zero, List.set_cons_succ]
        refine anyH_take (i := 15) (d := 51) (L' := #[true, true, true, false, true, true, true, true, false, false, true, true, true, true, true, true, false, false]) (v := ?v48) rfl rfl (by kernel_rfl) (fun _ _ _ h => h) (by rfl) ?hy48 (by assumption) ?rest48
        case hy48 => (intro wx hSw; (try dsimp only at hSw); (obtain ⟨q0, q1, q2, q3, q4, q5, q6, q7, q8, q9, q10⟩ := HQ.out _ hSw); go_simp; (try with_reducible rfl))
        simp only [Act.put, List.setIfInBounds_toArray, List.set_cons_zero, List.set_cons_succ]
        refine anyH_run3 (i := 3) (j := 8) (k := 16) (L1 := #[true, true, true, true, true, true, true, true, false, false, true, true, true, true, true, true, false, false]) (L2 := #[true, true, true, false, true, true, true, true, true, false, true, true, true, true, true, true, false, false]) (L3 := #[true, true, true, false, true, true, true, true, false, false, true, true, true, true, true, true, true, false]) rfl rfl rfl (by kernel_rfl) (by rfl) (by rfl) (by rfl) (fun KK hKK => ?ra28) (fun KK hKK => ?rb28) (fun KK hKK => ?rc28)
        case' ra28 =>
          go_simp
          (refine (WTNum_any _ (by decide) 8 i b b _ _ hW hb (by omega) (by omega) (by have := HL.out; simp only [List.length_append] <;> omega)).mono ?_; rintro e w3 ⟨rfl, hW3, hf⟩; have hm := Fr.trans hHeld hf; (try replace hV := fun w' h => hV w' (hf.trans h)); (try replace hF := fun w' h => hF w' (hf.trans h)); replace hW := hW3; clear hf hW3; (try go_simp))
          refine hKK.out _ _ (by assumption) (fun hHeld => ?_)
          clear hKK KK
          try simp only [Act.put, List.setIfInBounds_toArray, List.set_cons_zero, List.set_cons_succ]
          refine anyH_run2 (i := 8) (j := 16) (L1 := #[true, true, true, true, true, true, true, true, true, false, true, true, true, true, true, true, false, false]) (L2 := #[true, true, true, true, true, true, true, true, false, false, true, true, true, true, true, true, true, false]) rfl rfl (by kernel_rfl) (by rfl) (by rfl) (fun KK hKK => ?ra29) (fun KK hKK => ?rb29)
          case' ra29 =>
            (obtain ⟨m1, m2, hV⟩ := Fr.litV hHeld hW hb [(px, py), (vx, vy)] #[.int .i64 px, .int .i64 py, .int .i64 vx, .int .i64 vy] 27 2 (by decide) rfl rfl (by simp); (try simp only [World.size_alloc] at hV); (try replace hF := fun w' h => hF w' ((Fr.lit0 hHeld hW hb (.cells #[.int .i64 px, .int .i64 py, .int .i64 vx, .int .i64 vy] 27)).trans h)); replace hW := m1; go_simp)
            refine hKK.out _ _ (by assumption) (fun hHeld => ?_)
            clear hKK KK
            try simp only [Act.put, List.setIfInBounds_toArray, List.set_cons_zero, List.set_cons_succ]
            refine anyH_run2 (i := 9) (j := 16) (L1 := #[true, true, true, true, true, true, true, true, true, true, true, true, true, true, true, true, false, false]) (L2 := #[true, true, true, true, true, true, true, true, true, false, true, true, true, true, true, true, true, false]) rfl rfl (by kernel_rfl) (by rfl) (by rfl) (fun KK hKK => ?ra30) (fun KK hKK => ?rb30)
            case' ra30 =>
              go_simp
              (refine (WTV_any _ (by decide) b b _ _ [(px, py), (vx, vy)] _ hW hb hV (by have := HL.out; simp only [List.length_append, leB_length, List.length_cons, List.length_nil] <;> omega)).mono ?_; rintro e w9 ⟨rfl, hW9, hf⟩; have hm := Fr.trans hHeld hf; clear hV; (try replace hF := fun w' h => hF w' (hf.trans h)); replace hW := hW9; clear hf hW9; (try go_simp))
              refine hKK.out _ _ (by assumption) (fun hHeld => ?_)
              clear hKK KK
              try simp only [Act.put, List.setIfInBounds_toArray, List.set_cons_zero, List.set_cons_succ]
              refine anyH_run (i := 16) (L' := #[true, true, true, true, true, true, true, true, true, true, true, true, true, true, true, true, true, false]) rfl (by kernel_rfl) (by rfl) (fun KK hKK => ?_)
              (obtain ⟨m1, m2, hF⟩ := Fr.litF hHeld hW hb [an, sp, de] #[.int .i64 an, .int .i64 sp, .int .i64 de] 25 3 (by decide) rfl rfl (by simp); (try simp only [World.size_alloc] at hF); (try replace hV := fun w' h => hV w' ((Fr.lit0 hHeld hW hb (.cells #[.int .i64 an, .int .i64 sp, .int .i64 de] 25)).trans h)); replace hW := m1; go_simp)
              refine hKK.out _ _ (by assumption) (fun hHeld => ?_)
              clear hKK KK
              try simp only [Act.put, List.setIfInBounds_toArray, List.set_cons_zero, List.set_cons_succ]
              refine anyH_run (i := 17) (L' := #[true, true, true, true, true, true, true, true, true, true, true, true, true, true, true, true, true, true]) rfl (by kernel_rfl) (by rfl) (fun KK hKK => ?_)
              go_simp
              (refine (WTF_any _ (by decide) b b _ _ [an, sp, de] _ hW hb hF (by have := HL.out; simp only [List.length_append, leB_length, leF_length, fV_length, List.length_cons, List.length_nil] <;> omega)).mono ?_; rintro e w17 ⟨rfl, hW17, hf⟩; have hm := Fr.trans hHeld hf; (try replace hV := fun w' h => hV w' (hf.trans h)); clear hF; replace hW := hW17; clear hf hW17; (try go_simp))
              refine hKK.out _ _ (by assumption) (fun hHeld => ?_)
              clear hKK KK
              try simp only [Act.put, List.setIfInBounds_toArray, List.set_cons_zero, List.set_cons_succ]
              refine wpAnyH_done (by kernel_rfl) ?_ _
              (go_wp2_with fail; go_meet; exact ⟨rfl, by simpa using hW, hHeld⟩)
            case' rb30 =>
              (obtain ⟨m1, m2, hF⟩ := Fr.litF hHeld hW hb [an, sp, de] #[.int .i64 an, .int .i64 sp, .int .i64 de] 25 3 (by decide) rfl rfl (by simp); (try simp only [World.size_alloc] at hF); (try replace hV := fun w' h => hV w' ((Fr.lit0 hHeld hW hb (.cells #[.int .i64 an, .int .i64 sp, .int .i64 de] 25)).trans h)); replace hW := m1; go_simp)
              refine hKK.out _ _ (by assumption) (fun hHeld => ?_)
              clear hKK KK
              try simp only [Act.put, List.setIfInBounds_toArray, List.set_cons_zero, List.set_cons_succ]
              refine anyH_run (i := 9) (L' := #[true, true, true, true, true, true, true, true, true, true, true, true, true, true, true, true, true, false]) rfl (by kernel_rfl) (by rfl) (fun KK hKK => ?_)
              go_simp
              (refine (WTV_any _ (by decide) b b _ _ [(px, py), (vx, vy)] _ hW hb hV (by have := HL.out; simp only [List.length_append, leB_length, List.length_cons, List.length_nil] <;> omega)).mono ?_; rintro e w9 ⟨rfl, hW9, hf⟩; have hm := Fr.trans hHeld hf; clear hV; (try replace hF := fun w' h => hF w' (hf.trans h)); replace hW := hW9; clear hf hW9; (try go_simp))
              refine hKK.out _ _ (by assumption) (fun hHeld => ?_)
              clear hKK KK
              try simp only [Act.put, List.setIfInBounds_toArray, List.set_cons_zero, List.set_cons_succ]
              refine anyH_run (i := 17) (L' := #[true, true, true, true, true, true, true, true, true, true, true, true, true, true, true, true, true, true]) rfl (by kernel_rfl) (by rfl) (fun KK hKK => ?_)
              go_simp
              (refine (WTF_any _ (by decide) b b _ _ [an, sp, de] _ hW hb hF (by have := HL.out; simp only [List.length_append, leB_length, leF_length, fV_length, List.length_cons, List.length_nil] <;> omega)).mono ?_; rintro e w17 ⟨rfl, hW17, hf⟩; have hm := Fr.trans hHeld hf; (try replace hV := fun w' h => hV w' (hf.trans h)); clear hF; replace hW := hW17; clear hf hW17; (try go_simp))
              refine hKK.out _ _ (by assumption) (fun hHeld => ?_)
              clear hKK KK
              try simp only [Act.put, List.setIfInBounds_toArray, List.set_cons_zero, List.set_cons_succ]
              refine wpAnyH_done (by kernel_rfl) ?_ _
              (go_wp2_with fail; go_meet; exact ⟨rfl, by simpa using hW, hHeld⟩)
          case' rb29 =>
            (obtain ⟨m1, m2, hF⟩ := Fr.litF hHeld hW hb [an, sp, de] #[.int .i64 an, .int .i64 sp, .int .i64 de] 25 3 (by decide) rfl rfl (by simp); (try simp only [World.size_alloc] at hF); (try replace hV := fun w' h => hV w' ((Fr.lit0 hHeld hW hb (.cells #[.int .i64 an, .int .i64 sp, .int .i64 de] 25)).trans h)); replace hW := m1; go_simp)
            refine hKK.out _ _ (by assumption) (fun hHeld => ?_)
            clear hKK KK
            try simp only [Act.put, List.setIfInBounds_toArray, List.set_cons_zero, List.set_cons_succ]
            refine anyH_run (i := 8) (L' := #[true, true, true, true, true, true, true, true, true, false, true, true, true, true, true, true, true, false]) rfl (by kernel_rfl) (by rfl) (fun KK hKK => ?_)
            (obtain ⟨m1, m2, hV⟩ := Fr.litV hHeld hW hb [(px, py), (vx, vy)] #[.int .i64 px, .int .i64 py, .int .i64 vx, .int .i64 vy] 27 2 (by decide) rfl rfl (by simp); (try simp only [World.size_alloc] at hV); (try replace hF := fun w' h => hF w' ((Fr.lit0 hHeld hW hb (.cells #[.int .i64 px, .int .i64 py, .int .i64 vx, .int .i64 vy] 27)).trans h)); replace hW := m1; go_simp)
            refine hKK.out _ _ (by assumption) (fun hHeld => ?_)
            clear hKK KK
            try simp only [Act.put, List.setIfInBounds_toArray, List.set_cons_zero, List.set_cons_succ]
            refine anyH_run (i := 9) (L' := #[true, true, true, true, true, true, true, true, true, true, true, true, true, true, true, true, true, false]) rfl (by kernel_rfl) (by rfl) (fun KK hKK => ?_)
            go_simp
            (refine (WTV_any _ (by decide) b b _ _ [(px, py), (vx, vy)] _ hW hb hV (by have := HL.out; simp only [List.length_append, leB_length, List.length_cons, List.length_nil] <;> omega)).mono ?_; rintro e w9 ⟨rfl, hW9, hf⟩; have hm := Fr.trans hHeld hf; clear hV; (try replace hF := fun w' h => hF w' (hf.trans h)); replace hW := hW9; clear hf hW9; (try go_simp))
            refine hKK.out _ _ (by assumption) (fun hHeld => ?_)
            clear hKK KK
            try simp only [Act.put, List.setIfInBounds_toArray, List.set_cons_zero, List.set_cons_succ]
            refine anyH_run (i := 17) (L' := #[true, true, true, true, true, true, true, true, true, true, true, true, true, true, true, true, true, true]) rfl (by kernel_rfl) (by rfl) (fun KK hKK => ?_)
            go_simp
            (refine (WTF_any _ (by decide) b b _ _ [an, sp, de] _ hW hb hF (by have := HL.out; simp only [List.length_append, leB_length, leF_length, fV_length, List.length_cons, List.length_nil] <;> omega)).mono ?_; rintro e w17 ⟨rfl, hW17, hf⟩; have hm := Fr.trans hHeld hf; (try replace hV := fun w' h => hV w' (hf.trans h)); clear hF; replace hW := hW17; clear hf hW17; (try go_simp))
            refine hKK.out _ _ (by assumption) (fun hHeld => ?_)
            clear hKK KK
            try simp only [Act.put, List.setIfInBounds_toArray, List.set_cons_zero, List.set_cons_succ]
            refine wpAnyH_done (by kernel_rfl) ?_ _
            (go_wp2_with fail; go_meet; exact ⟨rfl, by simpa using hW, hHeld⟩)
        case' rb28 =>
          (obtain ⟨m1, m2, hV⟩ := Fr.litV hHeld hW hb [(px, py), (vx, vy)] #[.int .i64 px, .int .i64 py, .int .i64 vx, .int .i64 vy] 27 2 (by decide) rfl rfl (by simp); (try simp only [World.size_alloc] at hV); (try replace hF := fun w' h => hF w' ((Fr.lit0 hHeld hW hb (.cells #[.int .i64 px, .int .i64 py, .int .i64 vx, .int .i64 vy] 27)).trans h)); replace hW := m1; go_simp)
          refine hKK.out _ _ (by assumption) (fun hHeld => ?_)
          clear hKK KK
          try simp only [Act.put, List.setIfInBounds_toArray, List.set_cons_zero, List.set_cons_succ]
          refine anyH_run2 (i := 3) (j := 16) (L1 := #[true, true, true, true, true, true, true, true, true, false, true, true, true, true, true, true, false, false]) (L2 := #[true, true, true, false, true, true, true, true, true, false, true, true, true, true, true, true, true, false]) rfl rfl (by kernel_rfl) (by rfl) (by rfl) (fun KK hKK => ?ra31) (fun KK hKK => ?rb31)
          case' ra31 =>
            go_simp
            (refine (WTNum_any _ (by decide) 8 i b b _ _ hW hb (by omega) (by omega) (by have := HL.out; simp only [List.length_append] <;> omega)).mono ?_; rintro e w3 ⟨rfl, hW3, hf⟩; have hm := Fr.trans hHeld hf; (try replace hV := fun w' h => hV w' (hf.trans h)); (try replace hF := fun w' h => hF w' (hf.trans h)); replace hW := hW3; clear hf hW3; (try go_simp))
            refine hKK.out _ _ (by assumption) (fun hHeld => ?_)
            clear hKK KK
            try simp only [Act.put, List.setIfInBounds_toArray, List.set_cons_zero, List.set_cons_succ]
            refine anyH_run2 (i := 9) (j := 16) (L1 := #[true, true, true, true, true, true, true, true, true, true, true, true, true, true, true, true, false, false]) (L2 := #[true, true, true, true, true, true, true, true, true, false, true, true, true, true, true, true, true, false]) rfl rfl (by kernel_rfl) (by rfl) (by rfl) (fun KK hKK => ?ra32) (fun KK hKK => ?rb32)
            case' ra32 =>
              go_simp
              (refine (WTV_any _ (by decide) b b _ _ [(px, py), (vx, vy)] _ hW hb hV (by have := HL.out; simp only [List.length_append, leB_length, List.length_cons, List.length_nil] <;> omega)).mono ?_; rintro e w9 ⟨rfl, hW9, hf⟩; have hm := Fr.trans hHeld hf; clear hV; (try replace hF := fun w' h => hF w' (hf.trans h)); replace hW := hW9; clear hf hW9; (try go_simp))
              refine hKK.out _ _ (by assumption) (fun hHeld => ?_)
              clear hKK KK
              try simp only [Act.put, List.setIfInBounds_toArray, List.set_cons_zero, List.set_cons_succ]
              refine anyH_run (i := 16) (L' := #[true, true, true, true, true, true, true, true, true, true, true, true, true, true, true, true, true, false]) rfl (by kernel_rfl) (by rfl) (fun KK hKK => ?_)
              (obtain ⟨m1, m2, hF⟩ := Fr.litF hHeld hW hb [an, sp, de] #[.int .i64 an, .int .i64 sp, .int .i64 de] 25 3 (by decide) rfl rfl (by simp); (try simp only [World.size_alloc] at hF); (try replace hV := fun w' h => hV w' ((Fr.lit0 hHeld hW hb (.cells #[.int .i64 an, .int .i64 sp, .int .i64 de] 25)).trans h)); replace hW := m1; go_simp)
              refine hKK.out _ _ (by assumption) (fun hHeld => ?_)
              clear hKK KK
              try simp only [Act.put, List.setIfInBounds_toArray, List.set_cons_zero, List.set_cons_succ]
              refine anyH_run (i := 17) (L' := #[true, true, true, true, true, true, true, true, true, true, true, true, true, true, true, true, true, true]) rfl (by kernel_rfl) (by rfl) (fun KK hKK => ?_)
              go_simp
              (refine (WTF_any _ (by decide) b b _ _ [an, sp, de] _ hW hb hF (by have := HL.out; simp only [List.length_append, leB_length, leF_length, fV_length, List.length_cons, List.length_nil] <;> omega)).mono ?_; rintro e w17 ⟨rfl, hW17, hf⟩; have hm := Fr.trans hHeld hf; (try replace hV := fun w' h => hV w' (hf.trans h)); clear hF; replace hW := hW17; clear hf hW17; (try go_simp))
              refine hKK.out _ _ (by assumption) (fun hHeld => ?_)
              clear hKK KK
              try simp only [Act.put, List.setIfInBounds_toArray, List.set_cons_zero, List.set_cons_succ]
              refine wpAnyH_done (by kernel_rfl) ?_ _
              (go_wp2_with fail; go_meet; exact ⟨rfl, by simpa using hW, hHeld⟩)
            case' rb32 =>
              (obtain ⟨m1, m2, hF⟩ := Fr.litF hHeld hW hb [an, sp, de] #[.int .i64 an, .int .i64 sp, .int .i64 de] 25 3 (by decide) rfl rfl (by simp); (try simp only [World.size_alloc] at hF); (try replace hV := fun w' h => hV w' ((Fr.lit0 hHeld hW hb (.cells #[.int .i64 an, .int .i64 sp, .int .i64 de] 25)).trans h)); replace hW := m1; go_simp)
              refine hKK.out _ _ (by assumption) (fun hHeld => ?_)
              clear hKK KK
              try simp only [Act.put, List.setIfInBounds_toArray, List.set_cons_zero, List.set_cons_succ]
              refine anyH_run (i := 9) (L' := #[true, true, true, true, true, true, true, true, true, true, true, true, true, true, true, true, true, false]) rfl (by kernel_rfl) (by rfl) (fun KK hKK => ?_)
              go_simp
              (refine (WTV_any _ (by decide) b b _ _ [(px, py), (vx, vy)] _ hW hb hV (by have := HL.out; simp only [List.length_append, leB_length, List.length_cons, List.length_nil] <;> omega)).mono ?_; rintro e w9 ⟨rfl, hW9, hf⟩; have hm := Fr.trans hHeld hf; clear hV; (try replace hF := fun w' h => hF w' (hf.trans h)); replace hW := hW9; clear hf hW9; (try go_simp))
              refine hKK.out _ _ (by assumption) (fun hHeld => ?_)
              clear hKK KK
              try simp only [Act.put, List.setIfInBounds_toArray, List.set_cons_zero, List.set_cons_succ]
              refine anyH_run (i := 17) (L' := #[true, true, true, true, true, true, true, true, true, true, true, true, true, true, true, true, true, true]) rfl (by kernel_rfl) (by rfl) (fun KK hKK => ?_)
              go_simp
              (refine (WTF_any _ (by decide) b b _ _ [an, sp, de] _ hW hb hF (by have := HL.out; simp only [List.length_append, leB_length, leF_length, fV_length, List.length_cons, List.length_nil] <;> omega)).mono ?_; rintro e w17 ⟨rfl, hW17, hf⟩; have hm := Fr.trans hHeld hf; (try replace hV := fun w' h => hV w' (hf.trans h)); clear hF; replace hW := hW17; clear hf hW17; (try go_simp))
              refine hKK.out _ _ (by assumption) (fun hHeld => ?_)
              clear hKK KK
              try simp only [Act.put, List.setIfInBounds_toArray, List.set_cons_zero, List.set_cons_succ]
              refine wpAnyH_done (by kernel_rfl) ?_ _
              (go_wp2_with fail; go_meet; exact ⟨rfl, by simpa using hW, hHeld⟩)
          case' rb31 =>
            (obtain ⟨m1, m2, hF⟩ := Fr.litF hHeld hW hb [an, sp, de] #[.int .i64 an, .int .i64 sp, .int .i64 de] 25 3 (by decide) rfl rfl (by simp); (try simp only [World.size_alloc] at hF); (try replace hV := fun w' h => hV w' ((Fr.lit0 hHeld hW hb (.cells #[.int .i64 an, .int .i64 sp, .int .i64 de] 25)).trans h)); replace hW := m1; go_simp)
            refine hKK.out _ _ (by assumption) (fun hHeld => ?_)
            clear hKK KK
            try simp only [Act.put, List.setIfInBounds_toArray, List.set_cons_zero, List.set_cons_succ]
            refine anyH_run (i := 3) (L' := #[true, true, true, true, true, true, true, true, true, false, true, true, true, true, true, true, true, false]) rfl (by kernel_rfl) (by rfl) (fun KK hKK => ?_)
            go_simp
            (refine (WTNum_any _ (by decide) 8 i b b _ _ hW hb (by omega) (by omega) (by have := HL.out; simp only [List.length_append] <;> omega)).mono ?_; rintro e w3 ⟨rfl, hW3, hf⟩; have hm := Fr.trans hHeld hf; (try replace hV := fun w' h => hV w' (hf.trans h)); (try replace hF := fun w' h => hF w' (hf.trans h)); replace hW := hW3; clear hf hW3; (try go_simp))
            refine hKK.out _ _ (by assumption) (fun hHeld => ?_)
            clear hKK KK
            try simp only [Act.put, List.setIfInBounds_toArray, List.set_cons_zero, List.set_cons_succ]
            refine anyH_run (i := 9) (L' := #[true, true, true, true, true, true, true, true, true, true, true, true, true, true, true, true, true, false]) rfl (by kernel_rfl) (by rfl) (fun KK hKK => ?_)
            go_simp
            (refine (WTV_any _ (by decide) b b _ _ [(px, py), (vx, vy)] _ hW hb hV (by have := HL.out; simp only [List.length_append, leB_length, List.length_cons, List.length_nil] <;> omega)).mono ?_; rintro e w9 ⟨rfl, hW9, hf⟩; have hm := Fr.trans hHeld hf; clear hV; (try replace hF := fun w' h => hF w' (hf.trans h)); replace hW := hW9; clear hf hW9; (try go_simp))
            refine hKK.out _ _ (by assumption) (fun hHeld => ?_)
            clear hKK KK
            try simp only [Act.put, List.setIfInBounds_toArray, List.set_cons_zero, List.set_cons_succ]
            refine anyH_run (i := 17) (L' := #[true, true, true, true, true, true, true, true, true, true, true, true, true, true, true, true, true, true]) rfl (by kernel_rfl) (by rfl) (fun KK hKK => ?_)
            go_simp
            (refine (WTF_any _ (by decide) b b _ _ [an, sp, de] _ hW hb hF (by have := HL.out; simp only [List.length_append, leB_length, leF_length, fV_length, List.length_cons, List.length_nil] <;> omega)).mono ?_; rintro e w17 ⟨rfl, hW17, hf⟩; have hm := Fr.trans hHeld hf; (try replace hV := fun w' h => hV w' (hf.trans h)); clear hF; replace hW := hW17; clear hf hW17; (try go_simp))
            refine hKK.out _ _ (by assumption) (fun hHeld => ?_)
            clear hKK KK
            try simp only [Act.put, List.setIfInBounds_toArray, List.set_cons_zero, List.set_cons_succ]
            refine wpAnyH_done (by kernel_rfl) ?_ _
            (go_wp2_with fail; go_meet; exact ⟨rfl, by simpa using hW, hHeld⟩)
        case' rc28 =>
          (obtain ⟨m1, m2, hF⟩ := Fr.litF hHeld hW hb [an, sp, de] #[.int .i64 an, .int .i64 sp, .int .i64 de] 25 3 (by decide) rfl rfl (by simp); (try simp only [World.size_alloc] at hF); (try replace hV := fun w' h => hV w' ((Fr.lit0 hHeld hW hb (.cells #[.int .i64 an, .int .i64 sp, .int .i64 de] 25)).trans h)); replace hW := m1; go_simp)
          refine hKK.out _ _ (by assumption) (fun hHeld => ?_)
          clear hKK KK
          try simp only [Act.put, List.setIfInBounds_toArray, List.set_cons_zero, List.set_cons_succ]
          refine anyH_run2 (i := 3) (j := 8) (L1 := #[true, true, true, true, true, true, true, true, false, false, true, true, true, true, true, true, true, false]) (L2 := #[true, true, true, false, true, true, true, true, true, false, true, true, true, true, true, true, true, false]) rfl rfl (by kernel_rfl) (by rfl) (by rfl) (fun KK hKK => ?ra33) (fun KK hKK => ?rb33)
          case' ra33 =>
            go_simp
            (refine (WTNum_any _ (by decide) 8 i b b _ _ hW hb (by omega) (by omega) (by have := HL.out; simp only [List.length_append] <;> omega)).mono ?_; rintro e w3 ⟨rfl, hW3, hf⟩; have hm := Fr.trans hHeld hf; (try replace hV := fun w' h => hV w' (hf.trans h)); (try replace hF := fun w' h => hF w' (hf.trans h)); replace hW := hW3; clear hf hW3; (try go_simp))
            refine hKK.out _ _ (by assumption) (fun hHeld => ?_)
            clear hKK KK
            try simp only [Act.put, List.setIfInBounds_toArray, List.set_cons_zero, List.set_cons_succ]
            refine anyH_run (i := 8) (L' := #[true, true, true, true, true, true, true, true, true, false, true, true, true, true, true, true, true, false]) rfl (by kernel_rfl) (by rfl) (fun KK hKK => ?_)
            (obtain ⟨m1, m2, hV⟩ := Fr.litV hHeld hW hb [(px, py), (vx, vy)] #[.int .i64 px, .int .i64 py, .int .i64 vx, .int .i64 vy] 27 2 (by decide) rfl rfl (by simp); (try simp only [World.size_alloc] at hV); (try replace hF := fun w' h => hF w' ((Fr.lit0 hHeld hW hb (.cells #[.int .i64 px, .int .i64 py, .int .i64 vx, .int .i64 vy] 27)).trans h)); replace hW := m1; go_simp)
            refine hKK.out _ _ (by assumption) (fun hHeld => ?_)
            clear hKK KK
            try simp only [Act.put, List.setIfInBounds_toArray, List.set_cons_zero, List.set_cons_succ]
            refine anyH_run (i := 9) (L' := #[true, true, true, true, true, true, true, true, true, true, true, true, true, true, true, true, true, false]) rfl (by kernel_rfl) (by rfl) (fun KK hKK => ?_)
            go_simp
            (refine (WTV_any _ (by decide) b b _ _ [(px, py), (vx, vy)] _ hW hb hV (by have := HL.out; simp only [List.length_append, leB_length, List.length_cons, List.length_nil] <;> omega)).mono ?_; rintro e w9 ⟨rfl, hW9, hf⟩; have hm := Fr.trans hHeld hf; clear hV; (try replace hF := fun w' h => hF w' (hf.trans h)); replace hW := hW9; clear hf hW9; (try go_simp))
            refine hKK.out _ _ (by assumption) (fun hHeld => ?_)
            clear hKK KK
            try simp only [Act.put, List.setIfInBounds_toArray, List.set_cons_zero, List.set_cons_succ]
            refine anyH_run (i := 17) (L' := #[true, true, true, true, true, true, true, true, true, true, true, true, true, true, true, true, true, true]) rfl (by kernel_rfl) (by rfl) (fun KK hKK => ?_)
            go_simp
            (refine (WTF_any _ (by decide) b b _ _ [an, sp, de] _ hW hb hF (by have := HL.out; simp only [List.length_append, leB_length, leF_length, fV_length, List.length_cons, List.length_nil] <;> omega)).mono ?_; rintro e w17 ⟨rfl, hW17, hf⟩; have hm := Fr.trans hHeld hf; (try replace hV := fun w' h => hV w' (hf.trans h)); clear hF; replace hW := hW17; clear hf hW17; (try go_simp))
            refine hKK.out _ _ (by assumption) (fun hHeld => ?_)
            clear hKK KK
            try simp only [Act.put, List.setIfInBounds_toArray, List.set_cons_zero, List.set_cons_succ]
            refine wpAnyH_done (by kernel_rfl) ?_ _
            (go_wp2_with fail; go_meet; exact ⟨rfl, by simpa using hW, hHeld⟩)
          case' rb33 =>
            (obtain ⟨m1, m2, hV⟩ := Fr.litV hHeld hW hb [(px, py), (vx, vy)] #[.int .i64 px, .int .i64 py, .int .i64 vx, .int .i64 vy] 27 2 (by decide) rfl rfl (by simp); (try simp only [World.size_alloc] at hV); (try replace hF := fun w' h => hF w' ((Fr.lit0 hHeld hW hb (.cells #[.int .i64 px, .int .i64 py, .int .i64 vx, .int .i64 vy] 27)).trans h)); replace hW := m1; go_simp)
            refine hKK.out _ _ (by assumption) (fun hHeld => ?_)
            clear hKK KK
            try simp only [Act.put, List.setIfInBounds_toArray, List.set_cons_zero, List.set_cons_succ]
            refine anyH_run (i := 3) (L' := #[true, true, true, true, true, true, true, true, true, false, true, true, true, true, true, true, true, false]) rfl (by kernel_rfl) (by rfl) (fun KK hKK => ?_)
            go_simp
            (refine (WTNum_any _ (by decide) 8 i b b _ _ hW hb (by omega) (by omega) (by have := HL.out; simp only [List.length_append] <;> omega)).mono ?_; rintro e w3 ⟨rfl, hW3, hf⟩; have hm := Fr.trans hHeld hf; (try replace hV := fun w' h => hV w' (hf.trans h)); (try replace hF := fun w' h => hF w' (hf.trans h)); replace hW := hW3; clear hf hW3; (try go_simp))
            refine hKK.out _ _ (by assumption) (fun hHeld => ?_)
            clear hKK KK
            try simp only [Act.put, List.setIfInBounds_toArray, List.set_cons_zero, List.set_cons_succ]
            refine anyH_run (i := 9) (L' := #[true, true, true, true, true, true, true, true, true, true, true, true, true, true, true, true, true, false]) rfl (by kernel_rfl) (by rfl) (fun KK hKK => ?_)
            go_simp
            (refine (WTV_any _ (by decide) b b _ _ [(px, py), (vx, vy)] _ hW hb hV (by have := HL.out; simp only [List.length_append, leB_length, List.length_cons, List.length_nil] <;> omega)).mono ?_; rintro e w9 ⟨rfl, hW9, hf⟩; have hm := Fr.trans hHeld hf; clear hV; (try replace hF := fun w' h => hF w' (hf.trans h)); replace hW := hW9; clear hf hW9; (try go_simp))
            refine hKK.out _ _ (by assumption) (fun hHeld => ?_)
            clear hKK KK
            try simp only [Act.put, List.setIfInBounds_toArray, List.set_cons_zero, List.set_cons_succ]
            refine anyH_run (i := 17) (L' := #[true, true, true, true, true, true, true, true, true, true, true, true, true, true, true, true, true, true]) rfl (by kernel_rfl) (by rfl) (fun KK hKK => ?_)
            go_simp
            (refine (WTF_any _ (by decide) b b _ _ [an, sp, de] _ hW hb hF (by have := HL.out; simp only [List.length_append, leB_length, leF_length, fV_length, List.length_cons, List.length_nil] <;> omega)).mono ?_; rintro e w17 ⟨rfl, hW17, hf⟩; have hm := Fr.trans hHeld hf; (try replace hV := fun w' h => hV w' (hf.trans h)); clear hF; replace hW := hW17; clear hf hW17; (try go_simp))
            refine hKK.out _ _ (by assumption) (fun hHeld => ?_)
            clear hKK KK
            try simp only [Act.put, List.setIfInBounds_toArray, List.set_cons_zero, List.set_cons_succ]
            refine wpAnyH_done (by kernel_rfl) ?_ _
            (go_wp2_with fail; go_meet; exact ⟨rfl, by simpa using hW, hHeld⟩)
      case rest =>
        clear hW
        obtain ⟨rfl, hW, hFc⟩ := hcut
        have HRX := hd hFc
        have HWX := hd hW
        clear hFc hW
        obtain ⟨q0, q1, q2, q3, q4, q5, q6, q7, q8, q9, q10⟩ := HQ.out _ HRX.out
        go_wp2_with (go_at_call 29; refine (WShape_any b b _ ⟨sk, sr, p⟩ _ _ HWX.out hb (fun w' h => HZ.out w' ((HF1.out.trans HRX.out).trans h)) (by have := HL.out; have := HPL.out; simp only [List.length_append, leB_length, leF_length, fV_length, List.length_cons, List.length_nil] <;> omega)).mono ?_; rintro e w9 ⟨rfl, hW9, hf9⟩)
        go_roundw
        case rel => exact ⟨j + 1, by omega, by go_num, by have := hW9; rw [HS.out, ← List.append_assoc]; simpa [leBd] using this, ((HF1.out.trans HRX.out).trans hf9)⟩
        case measure => simp [intOf]; omega
    · have hjn : j = L.length := by omega
      subst hjn
      rw [List.take_of_length_le (by simp)] at hW
      obtain ⟨q0, q1, q2, q3, q4, q5, q6, q7⟩ := HXQ.out _ hF0
      have HW := hd hW
      have HF := hd hF0
      clear hW hF0
      go_wp2_with (go_at_call 26; refine (WTNum_any _ (by decide) 2 js.length b b _ _ HW.out hb (by omega) (by omega) (by have := HN_L.out; simp only [List.length_append]; omega)).mono ?_; rintro e w3 ⟨rfl, hW3, hf3⟩; obtain ⟨q0, q1, q2, q3, q4, q5, q6, q7⟩ := HXQ.out _ (HF.out.trans hf3))
      replace HW := hd (show WrT 80 w3 b b P2 by rw [H2.out]; simpa using hW3)
      replace HF := hd (HF.out.trans hf3)
      clear hW3 hf3 hlt hj
      go_loopw [7, 66] (fun _ i wr => ∃ k : Nat, k ≤ js.length ∧ i = .int .i64 k ∧ WrT 80 wr b b (P2 ++ (js.take k).flatMap leJt) ∧ Fr b b w0 wr)
        (fun _ i _ => js.length - (intOf i).toNat)
      case atStart => exact ⟨0, by omega, rfl, by simpa using HW.out, HF.out⟩
      case round =>
        clear HW HF
        obtain ⟨j, hj, rfl, hW, hF0⟩ := hrel
        by_cases hlt : j < js.length
        · obtain ⟨gb, off, hao, hgb⟩ := HAJ.out (by omega)
          subst hao
          have HS := hd (fm_snoc leJt js j (by simpa using hlt))
          have HL := hd (Nat.le_trans (Nat.add_le_add_left (fm_le leJt js j) P2.length) (HN_js).out)
          have C := fun m hm => (hF0.below.cell (p := ⟨gb, off + j * 8 + m, none⟩) (show gb < b by have := HB.out; omega)).trans ((HB0.out.cell (p := ⟨gb, off + j * 8 + m, none⟩) (show gb < xb by have := HXB.out; omega)).trans (Rd.cellAt cJt_len HRJ.out j hlt m hm))
          have q0 := C 0 (by decide)
          have q1 := C 1 (by decide)
          have q2 := C 2 (by decide)
          have q3 := C 3 (by decide)
          have q4 := C 4 (by decide)
          have q5 := C 5 (by decide)
          have q6 := C 6 (by decide)
          have q7 := C 7 (by decide)
          clear C
          (try simp only [List.getElem_map] at HS)
          generalize js[j] = x at *
          obtain ⟨i, a, b1, ⟨px, py⟩, ⟨vx, vy⟩, le⟩ := x
          rw [Nat.add_zero] at q0
          simp only [cJt, List.getElem_cons_zero, List.getElem_cons_succ] at q0 q1 q2 q3 q4 q5 q6 q7
          have hcb := (Chg.refl [] wr).alloc (.cells #[.int .i64 i, .int .i64 a, .int .i64 b1, .int .i64 px, .int .i64 py, .int .i64 vx, .int .i64 vy, .int .i64 le] 67)
          have hkb_HQ := Blk.new wr #[.int .i64 i, .int .i64 a, .int .i64 b1, .int .i64 px, .int .i64 py, .int .i64 vx, .int .i64 vy, .int .i64 le] 67
          have hf1 := hF0.trans (Fr.chg (base := b) (b := b) hcb (by have := hW.lt; omega))
          have hW1 := hW.k hcb
          have hbn_HQ : b ≠ wr.heap.size := by have := hW.lt; omega
          have hsz : (wr.alloc (.cells #[.int .i64 i, .int .i64 a, .int .i64 b1, .int .i64 px, .int .i64 py, .int .i64 vx, .int .i64 vy, .int .i64 le] 67)).heap.size = wr.heap.size + 1 := by simp
          have hbb : b ≤ wr.heap.size := by have := hW.lt; omega
          clear hW hF0 hcb
          go_upto_region 14 with (fail)
          clear q0 q1 q2 q3 q4 q5 q6 q7
          generalize wr.alloc (.cells #[.int .i64 i, .int .i64 a, .int .i64 b1, .int .i64 px, .int .i64 py, .int .i64 vx, .int .i64 vy, .int .i64 le] 67) = w1 at *
          generalize wr.heap.size = bk at *
          have HQ : Hd (∀ wx, Fr b b w1 wx → wx.cell? ⟨bk, 0, none⟩ = some (.int .i64 i) ∧ wx.cell? ⟨bk, 1, none⟩ = some (.int .i64 a) ∧ wx.cell? ⟨bk, 2, none⟩ = some (.int .i64 b1) ∧ wx.cell? ⟨bk, 3, none⟩ = some (.int .i64 px) ∧ wx.cell? ⟨bk, 4, none⟩ = some (.int .i64 py) ∧ wx.cell? ⟨bk, 5, none⟩ = some (.int .i64 vx) ∧ wx.cell? ⟨bk, 6, none⟩ = some (.int .i64 vy) ∧ wx.cell? ⟨bk, 7, none⟩ = some (.int .i64 le)) := hd fun wx hx => by
            have := hx.kp _ _ _ hkb_HQ (by decide) (fun e => hbn_HQ e.symm)
            exact ⟨this.cell 0, this.cell 1, this.cell 2, this.cell 3, this.cell 4, this.cell 5, this.cell 6, this.cell 7⟩
          have HF1 := hd hf1
          have HB1 : Hd (b ≤ w1.heap.size) := hd (by omega)
          have hW := hW1.k (Chg.refl [] w1).drew
          clear hkb_HQ hbn_HQ hW1 hf1 hsz hgb hbb
          refine anyH_start (n := 20) (L := #[false, false, false, false, false, false, false, false, false, false, false, false, false, false, false, false, false, false, false, false]) (by kernel_rfl) (by kernel_rfl) (S := (fun wx => Fr b b w1 wx)) (Fr.chg (Chg.refl _ _).drew HB1.out) (fun hHeld => ?_)
          generalize w1.drew = w2 at *
          refine anyH_take (i := 0) (d := 70) (L' := #[true, false, false, false, false, false, false, false, false, false, false, false, false, false, false, false, false, false, false, false]) (v := ?v98) rfl rfl (by kernel_rfl) (fun _ _ _ h => h) (by rfl) ?hy98 (by assumption) ?rest98
          case hy98 => (intro wx hSw; (try dsimp only at hSw); (obtain ⟨q0, q1, q2, q3, q4, q5, q6, q7⟩ := HQ.out _ hSw); go_simp; (try with_reducible rfl))
          simp only [Act.put, List.setIfInBounds_toArray, List.set_cons_zero, List.set_cons_succ]
          refine anyH_take (i := 1) (d := 71) (L' := #[true, true, false, false, false, false, false, false, false, false, false, false, false, false, false, false, false, false, false, false]) (v := ?v99) rfl rfl (by kernel_rfl) (fun _ _ _ h => h) (by rfl) ?hy99 (by assumption) ?rest99
          case hy99 => (intro wx hSw; (try dsimp only at hSw); (obtain ⟨q0, q1, q2, q3, q4, q5, q6, q7⟩ := HQ.out _ hSw); go_simp; (try with_reducible rfl))
          simp only [Act.put, List.setIfInBounds_toArray, List.set_cons_zero, List.set_cons_succ]
          refine anyH_take (i := 2) (d := 72) (L' := #[true, true, true, false, false, false, false, false, false, false, false, false, false, false, false, false, false, false, false, false]) (v := ?v100) rfl rfl (by kernel_rfl) (fun _ _ _ h => h) (by rfl) ?hy100 (by assumption) ?rest100
          case hy100 => (intro wx hSw; (try dsimp only at hSw); (obtain ⟨q0, q1, q2, q3, q4, q5, q6, q7⟩ := HQ.out _ hSw); go_simp; (try with_reducible rfl))
          simp only [Act.put, List.setIfInBounds_toArray, List.set_cons_zero, List.set_cons_succ]
          refine anyH_take (i := 4) (d := 74) (L' := #[true, true, true, false, true, false, false, false, false, false, false, false, false, false, false, false, false, false, false, false]) (v := ?v101) rfl rfl (by kernel_rfl) (fun _ _ _ h => h) (by rfl) ?hy101 (by assumption) ?rest101
          case hy101 => (intro wx hSw; (try dsimp only at hSw); (obtain ⟨q0, q1, q2, q3, q4, q5, q6, q7⟩ := HQ.out _ hSw); go_simp; (try with_reducible rfl))
          simp only [Act.put, List.setIfInBounds_toArray, List.set_cons_zero, List.set_cons_succ]
          refine anyH_take (i := 5) (d := 75) (L' := #[true, true, true, false, true, true, false, false, false, false, false, false, false, false, false, false, false, false, false, false]) (v := ?v102) rfl rfl (by kernel_rfl) (fun _ _ _ h => h) (by rfl) ?hy102 (by assumption) ?rest102
          case hy102 => (intro wx hSw; (try dsimp only at hSw); (obtain ⟨q0, q1, q2, q3, q4, q5, q6, q7⟩ := HQ.out _ hSw); go_simp; (try with_reducible rfl))
          simp only [Act.put, List.setIfInBounds_toArray, List.set_cons_zero, List.set_cons_succ]
          refine anyH_take (i := 7) (d := 77) (L' := #[true, true, true, false, true, true, false, true, false, false, false, false, false, false, false, false, false, false, false, false]) (v := ?v103) rfl rfl (by kernel_rfl) (fun _ _ _ h => h) (by rfl) ?hy103 (by assumption) ?rest103
          case hy103 => (intro wx hSw; (try dsimp only at hSw); (obtain ⟨q0, q1, q2, q3, q4, q5, q6, q7⟩ := HQ.out _ hSw); go_simp; (try with_reducible rfl))
          simp only [Act.put, List.setIfInBounds_toArray, List.set_cons_zero, List.set_cons_succ]
          refine anyH_take (i := 8) (d := 78) (L' := #[true, true, true, false, true, true, false, true, true, false, false, false, false, false, false, false, false, false, false, false]) (v := ?v104) rfl rfl (by kernel_rfl) (fun _ _ _ h => h) (by rfl) ?hy104 (by assumption) ?rest104
          case hy104 => (intro wx hSw; (try dsimp only at hSw); (obtain ⟨q0, q1, q2, q3, q4, q5, q6, q7⟩ := HQ.out _ hSw); go_simp; (try with_reducible rfl))
          simp only [Act.put, List.setIfInBounds_toArray, List.set_cons_zero, List.set_cons_succ]
          refine anyH_take (i := 10) (d := 80) (L' := #[true, true, true, false, true, true, false, true, true, false, true, false, false, false, false, false, false, false, false, false]) (v := ?v105) rfl rfl (by kernel_rfl) (fun _ _ _ h => h) (by rfl) ?hy105 (by assumption) ?rest105
          case hy105 => (intro wx hSw; (try dsimp only at hSw); (obtain ⟨q0, q1, q2, q3, q4, q5, q6, q7⟩ := HQ.out _ hSw); go_simp; (try with_reducible rfl))
          simp only [Act.put, List.setIfInBounds_toArray, List.set_cons_zero, List.set_cons_succ]
          refine anyH_take (i := 11) (d := 81) (L' := #[true, true, true, false, true, true, false, true, true, false, true, true, false, false, false, false, false, false, false, false]) (v := ?v106) rfl rfl (by kernel_rfl) (fun _ _ _ h => h) (by rfl) ?hy106 (by assumption) ?rest106
          case hy106 => (intro wx hSw; (try dsimp only at hSw); (obtain ⟨q0, q1, q2, q3, q4, q5, q6, q7⟩ := HQ.out _ hSw); go_simp; (try with_reducible rfl))
          simp only [Act.put, List.setIfInBounds_toArray, List.set_cons_zero, List.set_cons_succ]
          refine anyH_take (i := 12) (d := 82) (L' := #[true, true, true, false, true, true, false, true, true, false, true, true, true, false, false, false, false, false, false, false]) (v := ?v107) rfl rfl (by kernel_rfl) (fun _ _ _ h => h) (by rfl) ?hy107 (by assumption) ?rest107
          case hy107 => (intro wx hSw; (try dsimp only at hSw); (obtain ⟨q0, q1, q2, q3, q4, q5, q6, q7⟩ := HQ.out _ hSw); go_simp; (try with_reducible rfl))
          simp only [Act.put, List.setIfInBounds_toArray, List.set_cons_zero, List.set_cons_succ]
          refine anyH_take (i := 13) (d := 83) (L' := #[true, true, true, false, true, true, false, true, true, false, true, true, true, true, false, false, false, false, false, false]) (v := ?v108) rfl rfl (by kernel_rfl) (fun _ _ _ h => h) (by rfl) ?hy108 (by assumption) ?rest108
          case hy108 => (intro wx hSw; (try dsimp only at hSw); (obtain ⟨q0, q1, q2, q3, q4, q5, q6, q7⟩ := HQ.out _ hSw); go_simp; (try with_reducible rfl))
          simp only [Act.put, List.setIfInBounds_toArray, List.set_cons_zero, List.set_cons_succ]
          refine anyH_take (i := 16) (d := 86) (L' := #[true, true, true, false, true, true, false, true, true, false, true, true, true, true, false, false, true, false, false, false]) (v := ?v109) rfl rfl (by kernel_rfl) (fun _ _ _ h => h) (by rfl) ?hy109 (by assumption) ?rest109
          case hy109 => (intro wx hSw; (try dsimp only at hSw); (obtain ⟨q0, q1, q2, q3, q4, q5, q6, q7⟩ := HQ.out _ hSw); go_simp; (try with_reducible rfl))
          simp only [Act.put, List.setIfInBounds_toArray, List.set_cons_zero, List.set_cons_succ]
          refine anyH_take (i := 17) (d := 87) (L' := #[true, true, true, false, true, true, false, true, true, false, true, true, true, true, false, false, true, true, false, false]) (v := ?v110) rfl rfl (by kernel_rfl) (fun _ _ _ h => h) (by rfl) ?hy110 (by assumption) ?rest110
          case hy110 => (intro wx hSw; (try dsimp only at hSw); (obtain ⟨q0, q1, q2, q3, q4, q5, q6, q7⟩ := HQ.out _ hSw); go_simp; (try with_reducible rfl))
          simp only [Act.put, List.setIfInBounds_toArray, List.set_cons_zero, List.set_cons_succ]
          refine anyH_run3 (i := 3) (j := 14) (k := 18) (L1 := #[true, true, true, true, true, true, false, true, true, false, true, true, true, true, false, false, true, true, false, false]) (L2 := #[true, true, true, false, true, true, false, true, true, false, true, true, true, true, true, false, true, true, false, false]) (L3 := #[true, true, true, false, true, true, false, true, true, false, true, true, true, true, false, false, true, true, true, false]) rfl rfl rfl (by kernel_rfl) (by rfl) (by rfl) (by rfl) (fun KK hKK => ?ra76) (fun KK hKK => ?rb76) (fun KK hKK => ?rc76)
          case' ra76 =>
            go_simp
            (refine (WTNum_any _ (by decide) 8 i b b _ _ hW hb (by omega) (by omega) (by have := HL.out; simp only [List.length_append] <;> omega)).mono ?_; rintro e w3 ⟨rfl, hW3, hf⟩; have hm := Fr.trans hHeld hf; (try replace hV := fun w' h => hV w' (hf.trans h)); (try replace hF := fun w' h => hF w' (hf.trans h)); replace hW := hW3; clear hf hW3; (try go_simp))
            refine hKK.out _ _ (by assumption) (fun hHeld => ?_)
            clear hKK KK
            try simp only [Act.put, List.setIfInBounds_toArray, List.set_cons_zero, List.set_cons_succ]
            refine anyH_run3 (i := 6) (j := 14) (k := 18) (L1 := #[true, true, true, true, true, true, true, true, true, false, true, true, true, true, false, false, true, true, false, false]) (L2 := #[true, true, true, true, true, true, false, true, true, false, true, true, true, true, true, false, true, true, false, false]) (L3 := #[true, true, true, true, true, true, false, true, true, false, true, true, true, true, false, false, true, true, true, false]) rfl rfl rfl (by kernel_rfl) (by rfl) (by rfl) (by rfl) (fun KK hKK => ?ra77) (fun KK hKK => ?rb77) (fun KK hKK => ?rc77)
            case' ra77 =>
              go_simp
              (refine (WTNum_any _ (by decide) 8 a b b _ _ hW hb (by omega) (by omega) (by have := HL.out; simp only [List.length_append, leB_length] <;> omega)).mono ?_; rintro e w6 ⟨rfl, hW6, hf⟩; have hm := Fr.trans hHeld hf; (try replace hV := fun w' h => hV w' (hf.trans h)); (try replace hF := fun w' h => hF w' (hf.trans h)); replace hW := hW6; clear hf hW6; (try go_simp))
              refine hKK.out _ _ (by assumption) (fun hHeld => ?_)
              clear hKK KK
              try simp only [Act.put, List.setIfInBounds_toArray, List.set_cons_zero, List.set_cons_succ]
              refine anyH_run3 (i := 9) (j := 14) (k := 18) (L1 := #[true, true, true, true, true, true, true, true, true, true, true, true, true, true, false, false, true, true, false, false]) (L2 := #[true, true, true, true, true, true, true, true, true, false, true, true, true, true, true, false, true, true, false, false]) (L3 := #[true, true, true, true, true, true, true, true, true, false, true, true, true, true, false, false, true, true, true, false]) rfl rfl rfl (by kernel_rfl) (by rfl) (by rfl) (by rfl) (fun KK hKK => ?ra78) (fun KK hKK => ?rb78) (fun KK hKK => ?rc78)
              case' ra78 =>
                go_simp
                (refine (WTNum_any _ (by decide) 8 b1 b b _ _ hW hb (by omega) (by omega) (by have := HL.out; simp only [List.length_append, leB_length] <;> omega)).mono ?_; rintro e w9 ⟨rfl, hW9, hf⟩; have hm := Fr.trans hHeld hf; (try replace hV := fun w' h => hV w' (hf.trans h)); (try replace hF := fun w' h => hF w' (hf.trans h)); replace hW := hW9; clear hf hW9; (try go_simp))
                refine hKK.out _ _ (by assumption) (fun hHeld => ?_)
                clear hKK KK
                try simp only [Act.put, List.setIfInBounds_toArray, List.set_cons_zero, List.set_cons_succ]
                refine anyH_run2 (i := 14) (j := 18) (L1 := #[true, true, true, true, true, true, true, true, true, true, true, true, true, true, true, false, true, true, false, false]) (L2 := #[true, true, true, true, true, true, true, true, true, true, true, true, true, true, false, false, true, true, true, false]) rfl rfl (by kernel_rfl) (by rfl) (by rfl) (fun KK hKK => ?ra79) (fun KK hKK => ?rb79)
                case' ra79 =>
                  (obtain ⟨m1, m2, hV⟩ := Fr.litV hHeld hW hb [(px, py), (vx, vy)] #[.int .i64 px, .int .i64 py, .int .i64 vx, .int .i64 vy] 27 2 (by decide) rfl rfl (by simp); (try simp only [World.size_alloc] at hV); (try replace hF := fun w' h => hF w' ((Fr.lit0 hHeld hW hb (.cells #[.int .i64 px, .int .i64 py, .int .i64 vx, .int .i64 vy] 27)).trans h)); replace hW := m1; go_simp)
                  refine hKK.out _ _ (by assumption) (fun hHeld => ?_)
                  clear hKK KK
                  try simp only [Act.put, List.setIfInBounds_toArray, List.set_cons_zero, List.set_cons_succ]
                  refine anyH_run2 (i := 15) (j := 18) (L1 := #[true, true, true, true, true, true, true, true, true, true, true, true, true, true, true, true, true, true, false, false]) (L2 := #[true, true, true, true, true, true, true, true, true, true, true, true, true, true, true, false, true, true, true, false]) rfl rfl (by kernel_rfl) (by rfl) (by rfl) (fun KK hKK => ?ra80) (fun KK hKK => ?rb80)
                  case' ra80 =>
                    go_simp
                    (refine (WTV_any _ (by decide) b b _ _ [(px, py), (vx, vy)] _ hW hb hV (by have := HL.out; simp only [List.length_append, leB_length, List.length_cons, List.length_nil] <;> omega)).mono ?_; rintro e w15 ⟨rfl, hW15, hf⟩; have hm := Fr.trans hHeld hf; clear hV; (try replace hF := fun w' h => hF w' (hf.trans h)); replace hW := hW15; clear hf hW15; (try go_simp))
                    refine hKK.out _ _ (by assumption) (fun hHeld => ?_)
                    clear hKK KK
                    try simp only [Act.put, List.setIfInBounds_toArray, List.set_cons_zero, List.set_cons_succ]
                    refine anyH_run (i := 18) (L' := #[true, true, true, true, true, true, true, true, true, true, true, true, true, true, true, true, true, true, true, false]) rfl (by kernel_rfl) (by rfl) (fun KK hKK => ?_)
                    (obtain ⟨m1, m2, hF⟩ := Fr.litF hHeld hW hb [le] #[.int .i64 le] 25 1 (by decide) rfl rfl (by simp); (try simp only [World.size_alloc] at hF); (try replace hV := fun w' h => hV w' ((Fr.lit0 hHeld hW hb (.cells #[.int .i64 le] 25)).trans h)); replace hW := m1; go_simp)
                    refine hKK.out _ _ (by assumption) (fun hHeld => ?_)
                    clear hKK KK
                    try simp only [Act.put, List.setIfInBounds_toArray, List.set_cons_zero, List.set_cons_succ]
                    refine anyH_run (i := 19) (L' := #[true, true, true, true, true, true, true, true, true, true, true, true, true, true, true, true, true, true, true, true]) rfl (by kernel_rfl) (by rfl) (fun KK hKK => ?_)
                    go_simp
                    (refine (WTF_any _ (by decide) b b _ _ [le] _ hW hb hF (by have := HL.out; simp only [List.length_append, leB_length, leF_length, fV_length, List.length_cons, List.length_nil] <;> omega)).mono ?_; rintro e w19 ⟨rfl, hW19, hf⟩; have hm := Fr.trans hHeld hf; (try replace hV := fun w' h => hV w' (hf.trans h)); clear hF; replace hW := hW19; clear hf hW19; (try go_simp))
                    refine hKK.out _ _ (by assumption) (fun hHeld => ?_)
                    clear hKK KK
                    try simp only [Act.put, List.setIfInBounds_toArray, List.set_cons_zero, List.set_cons_succ]
                    refine wpAnyH_done (by kernel_rfl) ?_ _
                    have hW9 := hW; go_wp2_with (fail); go_roundw; (case rel => exact ⟨j + 1, by omega, by go_num, by have := hW9; rw [HS.out, ← List.append_assoc]; simpa [leJt] using this, (HF1.out.trans hHeld)⟩); (case measure => simp [intOf]; omega)
                  case' rb80 =>
                    (obtain ⟨m1, m2, hF⟩ := Fr.litF hHeld hW hb [le] #[.int .i64 le] 25 1 (by decide) rfl rfl (by simp); (try simp only [World.size_alloc] at hF); (try replace hV := fun w' h => hV w' ((Fr.lit0 hHeld hW hb (.cells #[.int .i64 le] 25)).trans h)); replace hW := m1; go_simp)
                    refine hKK.out _ _ (by assumption) (fun hHeld => ?_)
                    clear hKK KK
                    try simp only [Act.put, List.setIfInBounds_toArray, List.set_cons_zero, List.set_cons_succ]
                    refine anyH_run (i := 15) (L' := #[true, true, true, true, true, true, true, true, true, true, true, true, true, true, true, true, true, true, true, false]) rfl (by kernel_rfl) (by rfl) (fun KK hKK => ?_)
                    go_simp
                    (refine (WTV_any _ (by decide) b b _ _ [(px, py), (vx, vy)] _ hW hb hV (by have := HL.out; simp only [List.length_append, leB_length, List.length_cons, List.length_nil] <;> omega)).mono ?_; rintro e w15 ⟨rfl, hW15, hf⟩; have hm := Fr.trans hHeld hf; clear hV; (try replace hF := fun w' h => hF w' (hf.trans h)); replace hW := hW15; clear hf hW15; (try go_simp))
                    refine hKK.out _ _ (by assumption) (fun hHeld => ?_)
                    clear hKK KK
                    try simp only [Act.put, List.setIfInBounds_toArray, List.set_cons_zero, List.set_cons_succ]
                    refine anyH_run (i := 19) (L' := #[true, true, true, true, true, true, true, true, true, true, true, true, true, true, true, true, true, true, true, true]) rfl (by kernel_rfl) (by rfl) (fun KK hKK => ?_)
                    go_simp
                    (refine (WTF_any _ (by decide) b b _ _ [le] _ hW hb hF (by have := HL.out; simp only [List.length_append, leB_length, leF_length, fV_length, List.length_cons, List.length_nil] <;> omega)).mono ?_; rintro e w19 ⟨rfl, hW19, hf⟩; have hm := Fr.trans hHeld hf; (try replace hV := fun w' h => hV w' (hf.trans h)); clear hF; replace hW := hW19; clear hf hW19; (try go_simp))
                    refine hKK.out _ _ (by assumption) (fun hHeld => ?_)
                    clear hKK KK
                    try simp only [Act.put, List.setIfInBounds_toArray, List.set_cons_zero, List.set_cons_succ]
                    refine wpAnyH_done (by kernel_rfl) ?_ _
                    have hW9 := hW; go_wp2_with (fail); go_roundw; (case rel => exact ⟨j + 1, by omega, by go_num, by have := hW9; rw [HS.out, ← List.append_assoc]; simpa [leJt] using this, (HF1.out.trans hHeld)⟩); (case measure => simp [intOf]; omega)
                case' rb79 =>
                  (obtain ⟨m1, m2, hF⟩ := Fr.litF hHeld hW hb [le] #[.int .i64 le] 25 1 (by decide) rfl rfl (by simp); (try simp only [World.size_alloc] at hF); (try replace hV := fun w' h => hV w' ((Fr.lit0 hHeld hW hb (.cells #[.int .i64 le] 25)).trans h)); replace hW := m1; go_simp)
                  refine hKK.out _ _ (by assumption) (fun hHeld => ?_)
                  clear hKK KK
                  try simp only [Act.put, List.setIfInBounds_toArray, List.set_cons_zero, List.set_cons_succ]
                  refine anyH_run (i := 14) (L' := #[true, true, true, true, true, true, true, true, true, true, true, true, true, true, true, false, true, true, true, false]) rfl (by kernel_rfl) (by rfl) (fun KK hKK => ?_)
                  (obtain ⟨m1, m2, hV⟩ := Fr.litV hHeld hW hb [(px, py), (vx, vy)] #[.int .i64 px, .int .i64 py, .int .i64 vx, .int .i64 vy] 27 2 (by decide) rfl rfl (by simp); (try simp only [World.size_alloc] at hV); (try replace hF := fun w' h => hF w' ((Fr.lit0 hHeld hW hb (.cells #[.int .i64 px, .int .i64 py, .int .i64 vx, .int .i64 vy] 27)).trans h)); replace hW := m1; go_simp)
                  refine hKK.out _ _ (by assumption) (fun hHeld => ?_)
                  clear hKK KK
                  try simp only [Act.put, List.setIfInBounds_toArray, List.set_cons_zero, List.set_cons_succ]
                  refine anyH_run (i := 15) (L' := #[true, true, true, true, true, true, true, true, true, true, true, true, true, true, true, true, true, true, true, false]) rfl (by kernel_rfl) (by rfl) (fun KK hKK => ?_)
                  go_simp
                  (refine (WTV_any _ (by decide) b b _ _ [(px, py), (vx, vy)] _ hW hb hV (by have := HL.out; simp only [List.length_append, leB_length, List.length_cons, List.length_nil] <;> omega)).mono ?_; rintro e w15 ⟨rfl, hW15, hf⟩; have hm := Fr.trans hHeld hf; clear hV; (try replace hF := fun w' h => hF w' (hf.trans h)); replace hW := hW15; clear hf hW15; (try go_simp))
                  refine hKK.out _ _ (by assumption) (fun hHeld => ?_)
                  clear hKK KK
                  try simp only [Act.put, List.setIfInBounds_toArray, List.set_cons_zero, List.set_cons_succ]
                  refine anyH_run (i := 19) (L' := #[true, true, true, true, true, true, true, true, true, true, true, true, true, true, true, true, true, true, true, true]) rfl (by kernel_rfl) (by rfl) (fun KK hKK => ?_)
                  go_simp
                  (refine (WTF_any _ (by decide) b b _ _ [le] _ hW hb hF (by have := HL.out; simp only [List.length_append, leB_length, leF_length, fV_length, List.length_cons, List.length_nil] <;> omega)).mono ?_; rintro e w19 ⟨rfl, hW19, hf⟩; have hm := Fr.trans hHeld hf; (try replace hV := fun w' h => hV w' (hf.trans h)); clear hF; replace hW := hW19; clear hf hW19; (try go_simp))
                  refine hKK.out _ _ (by assumption) (fun hHeld => ?_)
                  clear hKK KK
                  try simp only [Act.put, List.setIfInBounds_toArray, List.set_cons_zero, List.set_cons_succ]
                  refine wpAnyH_done (by kernel_rfl) ?_ _
                  have hW9 := hW; go_wp2_with (fail); go_roundw; (case rel => exact ⟨j + 1, by omega, by go_num, by have := hW9; rw [HS.out, ← List.append_assoc]; simpa [leJt] using this, (HF1.out.trans hHeld)⟩); (case measure => simp [intOf]; omega)
              case' rb78 =>
                (obtain ⟨m1, m2, hV⟩ := Fr.litV hHeld hW hb [(px, py), (vx, vy)] #[.int .i64 px, .int .i64 py, .int .i64 vx, .int .i64 vy] 27 2 (by decide) rfl rfl (by simp); (try simp only [World.size_alloc] at hV); (try replace hF := fun w' h => hF w' ((Fr.lit0 hHeld hW hb (.cells #[.int .i64 px, .int .i64 py, .int .i64 vx, .int .i64 vy] 27)).trans h)); replace hW := m1; go_simp)
                refine hKK.out _ _ (by assumption) (fun hHeld => ?_)
                clear hKK KK
                try simp only [Act.put, List.setIfInBounds_toArray, List.set_cons_zero, List.set_cons_succ]
                refine anyH_run2 (i := 9) (j := 18) (L1 := #[true, true, true, true, true, true, true, true, true, true, true, true, true, true, true, false, true, true, false, false]) (L2 := #[true, true, true, true, true, true, true, true, true, false, true, true, true, true, true, false, true, true, true, false]) rfl rfl (by kernel_rfl) (by rfl) (by rfl) (fun KK hKK => ?ra81) (fun KK hKK => ?rb81)
                case' ra81 =>
                  go_simp
                  (refine (WTNum_any _ (by decide) 8 b1 b b _ _ hW hb (by omega) (by omega) (by have := HL.out; simp only [List.length_append, leB_length] <;> omega)).mono ?_; rintro e w9 ⟨rfl, hW9, hf⟩; have hm := Fr.trans hHeld hf; (try replace hV := fun w' h => hV w' (hf.trans h)); (try replace hF := fun w' h => hF w' (hf.trans h)); replace hW := hW9; clear hf hW9; (try go_simp))
                  refine hKK.out _ _ (by assumption) (fun hHeld => ?_)
                  clear hKK KK
                  try simp only [Act.put, List.setIfInBounds_toArray, List.set_cons_zero, List.set_cons_succ]
                  refine anyH_run2 (i := 15) (j := 18) (L1 := #[true, true, true, true, true, true, true, true, true, true, true, true, true, true, true, true, true, true, false, false]) (L2 := #[true, true, true, true, true, true, true, true, true, true, true, true, true, true, true, false, true, true, true, false]) rfl rfl (by kernel_rfl) (by rfl) (by rfl) (fun KK hKK => ?ra82) (fun KK hKK => ?rb82)
                  case' ra82 =>
                    go_simp
                    (refine (WTV_any _ (by decide) b b _ _ [(px, py), (vx, vy)] _ hW hb hV (by have := HL.out; simp only [List.length_append, leB_length, List.length_cons, List.length_nil] <;> omega)).mono ?_; rintro e w15 ⟨rfl, hW15, hf⟩; have hm := Fr.trans hHeld hf; clear hV; (try replace hF := fun w' h => hF w' (hf.trans h)); replace hW := hW15; clear hf hW15; (try go_simp))
                    refine hKK.out _ _ (by assumption) (fun hHeld => ?_)
                    clear hKK KK
                    try simp only [Act.put, List.setIfInBounds_toArray, List.set_cons_zero, List.set_cons_succ]
                    refine anyH_run (i := 18) (L' := #[true, true, true, true, true, true, true, true, true, true, true, true, true, true, true, true, true, true, true, false]) rfl (by kernel_rfl) (by rfl) (fun KK hKK => ?_)
                    (obtain ⟨m1, m2, hF⟩ := Fr.litF hHeld hW hb [le] #[.int .i64 le] 25 1 (by decide) rfl rfl (by simp); (try simp only [World.size_alloc] at hF); (try replace hV := fun w' h => hV w' ((Fr.lit0 hHeld hW hb (.cells #[.int .i64 le] 25)).trans h)); replace hW := m1; go_simp)
                    refine hKK.out _ _ (by assumption) (fun hHeld => ?_)
                    clear hKK KK
                    try simp only [Act.put, List.setIfInBounds_toArray, List.set_cons_zero, List.set_cons_succ]
                    refine anyH_run (i := 19) (L' := #[true, true, true, true, true, true, true, true, true, true, true, true, true, true, true, true, true, true, true, true]) rfl (by kernel_rfl) (by rfl) (fun KK hKK => ?_)
                    go_simp
                    (refine (WTF_any _ (by decide) b b _ _ [le] _ hW hb hF (by have := HL.out; simp only [List.length_append, leB_length, leF_length, fV_length, List.length_cons, List.length_nil] <;> omega)).mono ?_; rintro e w19 ⟨rfl, hW19, hf⟩; have hm := Fr.trans hHeld hf; (try replace hV := fun w' h => hV w' (hf.trans h)); clear hF; replace hW := hW19; clear hf hW19; (try go_simp))
                    refine hKK.out _ _ (by assumption) (fun hHeld => ?_)
                    clear hKK KK
                    try simp only [Act.put, List.setIfInBounds_toArray, List.set_cons_zero, List.set_cons_succ]
                    refine wpAnyH_done (by kernel_rfl) ?_ _
                    have hW9 := hW; go_wp2_with (fail); go_roundw; (case rel => exact ⟨j + 1, by omega, by go_num, by have := hW9; rw [HS.out, ← List.append_assoc]; simpa [leJt] using this, (HF1.out.trans hHeld)⟩); (case measure => simp [intOf]; omega)
                  case' rb82 =>
                    (obtain ⟨m1, m2, hF⟩ := Fr.litF hHeld hW hb [le] #[.int .i64 le] 25 1 (by decide) rfl rfl (by simp); (try simp only [World.size_alloc] at hF); (try replace hV := fun w' h => hV w' ((Fr.lit0 hHeld hW hb (.cells #[.int .i64 le] 25)).trans h)); replace hW := m1; go_simp)
                    refine hKK.out _ _ (by assumption) (fun hHeld => ?_)
                    clear hKK KK
                    try simp only [Act.put, List.setIfInBounds_toArray, List.set_cons_zero, List.set_cons_succ]
                    refine anyH_run (i := 15) (L' := #[true, true, true, true, true, true, true, true, true, true, true, true, true, true, true, true, true, true, true, false]) rfl (by kernel_rfl) (by rfl) (fun KK hKK => ?_)
                    go_simp
                    (refine (WTV_any _ (by decide) b b _ _ [(px, py), (vx, vy)] _ hW hb hV (by have := HL.out; simp only [List.length_append, leB_length, List.length_cons, List.length_nil] <;> omega)).mono ?_; rintro e w15 ⟨rfl, hW15, hf⟩; have hm := Fr.trans hHeld hf; clear hV; (try replace hF := fun w' h => hF w' (hf.trans h)); replace hW := hW15; clear hf hW15; (try go_simp))
                    refine hKK.out _ _ (by assumption) (fun hHeld => ?_)
                    clear hKK KK
                    try simp only [Act.put, List.setIfInBounds_toArray, List.set_cons_zero, List.set_cons_succ]
                    refine anyH_run (i := 19) (L' := #[true, true, true, true, true, true, true, true, true, true, true, true, true, true, true, true, true, true, true, true]) rfl (by kernel_rfl) (by rfl) (fun KK hKK => ?_)
                    go_simp
                    (refine (WTF_any _ (by decide) b b _ _ [le] _ hW hb hF (by have := HL.out; simp only [List.length_append, leB_length, leF_length, fV_length, List.length_cons, List.length_nil] <;> omega)).mono ?_; rintro e w19 ⟨rfl, hW19, hf⟩; have hm := Fr.trans hHeld hf; (try replace hV := fun w' h => hV w' (hf.trans h)); clear hF; replace hW := hW19; clear hf hW19; (try go_simp))
                    refine hKK.out _ _ (by assumption) (fun hHeld => ?_)
                    clear hKK KK
                    try simp only [Act.put, List.setIfInBounds_toArray, List.set_cons_zero, List.set_cons_succ]
                    refine wpAnyH_done (by kernel_rfl) ?_ _
                    have hW9 := hW; go_wp2_with (fail); go_roundw; (case rel => exact ⟨j + 1, by omega, by go_num, by have := hW9; rw [HS.out, ← List.append_assoc]; simpa [leJt] using this, (HF1.out.trans hHeld)⟩); (case measure => simp [intOf]; omega)
                case' rb81 =>
                  (obtain ⟨m1, m2, hF⟩ := Fr.litF hHeld hW hb [le] #[.int .i64 le] 25 1 (by decide) rfl rfl (by simp); (try simp only [World.size_alloc] at hF); (try replace hV := fun w' h => hV w' ((Fr.lit0 hHeld hW hb (.cells #[.int .i64 le] 25)).trans h)); replace hW := m1; go_simp)
                  refine hKK.out _ _ (by assumption) (fun hHeld => ?_)
                  clear hKK KK
                  try simp only [Act.put, List.setIfInBounds_toArray, List.set_cons_zero, List.set_cons_succ]
                  refine anyH_run (i := 9) (L' := #[true, true, true, true, true, true, true, true, true, true, true, true, true, true, true, false, true, true, true, false]) rfl (by kernel_rfl) (by rfl) (fun KK hKK => ?_)
                  go_simp
                  (refine (WTNum_any _ (by decide) 8 b1 b b _ _ hW hb (by omega) (by omega) (by have := HL.out; simp only [List.length_append, leB_length] <;> omega)).mono ?_; rintro e w9 ⟨rfl, hW9, hf⟩; have hm := Fr.trans hHeld hf; (try replace hV := fun w' h => hV w' (hf.trans h)); (try replace hF := fun w' h => hF w' (hf.trans h)); replace hW := hW9; clear hf hW9; (try go_simp))
                  refine hKK.out _ _ (by assumption) (fun hHeld => ?_)
                  clear hKK KK
                  try simp only [Act.put, List.setIfInBounds_toArray, List.set_cons_zero, List.set_cons_succ]
                  refine anyH_run (i := 15) (L' := #[true, true, true, true, true, true, true, true, true, true, true, true, true, true, true, true, true, true, true, false]) rfl (by kernel_rfl) (by rfl) (fun KK hKK => ?_)
                  go_simp
                  (refine (WTV_any _ (by decide) b b _ _ [(px, py), (vx, vy)] _ hW hb hV (by have := HL.out; simp only [List.length_append, leB_length, List.length_cons, List.length_nil] <;> omega)).mono ?_; rintro e w15 ⟨rfl, hW15, hf⟩; have hm := Fr.trans hHeld hf; clear hV; (try replace hF := fun w' h => hF w' (hf.trans h)); replace hW := hW15; clear hf hW15; (try go_simp))
                  refine hKK.out _ _ (by assumption) (fun hHeld => ?_)
                  clear hKK KK
                  try simp only [Act.put, List.setIfInBounds_toArray, List.set_cons_zero, List.set_cons_succ]
                  refine anyH_run (i := 19) (L' := #[true, true, true, true, true, true, true, true, true, true, true, true, true, true, true, true, true, true, true, true]) rfl (by kernel_rfl) (by rfl) (fun KK hKK => ?_)
                  go_simp
                  (refine (WTF_any _ (by decide) b b _ _ [le] _ hW hb hF (by have := HL.out; simp only [List.length_append, leB_length, leF_length, fV_length, List.length_cons, List.length_nil] <;> omega)).mono ?_; rintro e w19 ⟨rfl, hW19, hf⟩; have hm := Fr.trans hHeld hf; (try replace hV := fun w' h => hV w' (hf.trans h)); clear hF; replace hW := hW19; clear hf hW19; (try go_simp))
                  refine hKK.out _ _ (by assumption) (fun hHeld => ?_)
                  clear hKK KK
                  try simp only [Act.put, List.setIfInBounds_toArray, List.set_cons_zero, List.set_cons_succ]
                  refine wpAnyH_done (by kernel_rfl) ?_ _
                  have hW9 := hW; go_wp2_with (fail); go_roundw; (case rel => exact ⟨j + 1, by omega, by go_num, by have := hW9; rw [HS.out, ← List.append_assoc]; simpa [leJt] using this, (HF1.out.trans hHeld)⟩); (case measure => simp [intOf]; omega)
              case' rc78 =>
                (obtain ⟨m1, m2, hF⟩ := Fr.litF hHeld hW hb [le] #[.int .i64 le] 25 1 (by decide) rfl rfl (by simp); (try simp only [World.size_alloc] at hF); (try replace hV := fun w' h => hV w' ((Fr.lit0 hHeld hW hb (.cells #[.int .i64 le] 25)).trans h)); replace hW := m1; go_simp)
                refine hKK.out _ _ (by assumption) (fun hHeld => ?_)
                clear hKK KK
                try simp only [Act.put, List.setIfInBounds_toArray, List.set_cons_zero, List.set_cons_succ]
                refine anyH_run2 (i := 9) (j := 14) (L1 := #[true, true, true, true, true, true, true, true, true, true, true, true, true, true, false, false, true, true, true, false]) (L2 := #[true, true, true, true, true, true, true, true, true, false, true, true, true, true, true, false, true, true, true, false]) rfl rfl (by kernel_rfl) (by rfl) (by rfl) (fun KK hKK => ?ra83) (fun KK hKK => ?rb83)
                case' ra83 =>
                  go_simp
                  (refine (WTNum_any _ (by decide) 8 b1 b b _ _ hW hb (by omega) (by omega) (by have := HL.out; simp only [List.length_append, leB_length] <;> omega)).mono ?_; rintro e w9 ⟨rfl, hW9, hf⟩; have hm := Fr.trans hHeld hf; (try replace hV := fun w' h => hV w' (hf.trans h)); (try replace hF := fun w' h => hF w' (hf.trans h)); replace hW := hW9; clear hf hW9; (try go_simp))
                  refine hKK.out _ _ (by assumption) (fun hHeld => ?_)
                  clear hKK KK
                  try simp only [Act.put, List.setIfInBounds_toArray, List.set_cons_zero, List.set_cons_succ]
                  refine anyH_run (i := 14) (L' := #[true, true, true, true, true, true, true, true, true, true, true, true, true, true, true, false, true, true, true, false]) rfl (by kernel_rfl) (by rfl) (fun KK hKK => ?_)
                  (obtain ⟨m1, m2, hV⟩ := Fr.litV hHeld hW hb [(px, py), (vx, vy)] #[.int .i64 px, .int .i64 py, .int .i64 vx, .int .i64 vy] 27 2 (by decide) rfl rfl (by simp); (try simp only [World.size_alloc] at hV); (try replace hF := fun w' h => hF w' ((Fr.lit0 hHeld hW hb (.cells #[.int .i64 px, .int .i64 py, .int .i64 vx, .int .i64 vy] 27)).trans h)); replace hW := m1; go_simp)
                  refine hKK.out _ _ (by assumption) (fun hHeld => ?_)
                  clear hKK KK
                  try simp only [Act.put, List.setIfInBounds_toArray, List.set_cons_zero, List.set_cons_succ]
                  refine anyH_run (i := 15) (L' := #[true, true, true, true, true, true, true, true, true, true, true, true, true, true, true, true, true, true, true, false]) rfl (by kernel_rfl) (by rfl) (fun KK hKK => ?_)
                  go_simp
                  (refine (WTV_any _ (by decide) b b _ _ [(px, py), (vx, vy)] _ hW hb hV (by have := HL.out; simp only [List.length_append, leB_length, List.length_cons, List.length_nil] <;> omega)).mono ?_; rintro e w15 ⟨rfl, hW15, hf⟩; have hm := Fr.trans hHeld hf; clear hV; (try replace hF := fun w' h => hF w' (hf.trans h)); replace hW := hW15; clear hf hW15; (try go_simp))
                  refine hKK.out _ _ (by assumption) (fun hHeld => ?_)
                  clear hKK KK
                  try simp only [Act.put, List.setIfInBounds_toArray, List.set_cons_zero, List.set_cons_succ]
                  refine anyH_run (i := 19) (L' := #[true, true, true, true, true, true, true, true, true, true, true, true, true, true, true, true, true, true, true, true]) rfl (by kernel_rfl) (by rfl) (fun KK hKK => ?_)
                  go_simp
                  (refine (WTF_any _ (by decide) b b _ _ [le] _ hW hb hF (by have := HL.out; simp only [List.length_append, leB_length, leF_length, fV_length, List.length_cons, List.length_nil] <;> omega)).mono ?_; rintro e w19 ⟨rfl, hW19, hf⟩; have hm := Fr.trans hHeld hf; (try replace hV := fun w' h => hV w' (hf.trans h)); clear hF; replace hW := hW19; clear hf hW19; (try go_simp))
                  refine hKK.out _ _ (by assumption) (fun hHeld => ?_)
                  clear hKK KK
                  try simp only [Act.put, List.setIfInBounds_toArray, List.set_cons_zero, List.set_cons_succ]
                  refine wpAnyH_done (by kernel_rfl) ?_ _
                  have hW9 := hW; go_wp2_with (fail); go_roundw; (case rel => exact ⟨j + 1, by omega, by go_num, by have := hW9; rw [HS.out, ← List.append_assoc]; simpa [leJt] using this, (HF1.out.trans hHeld)⟩); (case measure => simp [intOf]; omega)
                case' rb83 =>
                  (obtain ⟨m1, m2, hV⟩ := Fr.litV hHeld hW hb [(px, py), (vx, vy)] #[.int .i64 px, .int .i64 py, .int .i64 vx, .int .i64 vy] 27 2 (by decide) rfl rfl (by simp); (try simp only [World.size_alloc] at hV); (try replace hF := fun w' h => hF w' ((Fr.lit0 hHeld hW hb (.cells #[.int .i64 px, .int .i64 py, .int .i64 vx, .int .i64 vy] 27)).trans h)); replace hW := m1; go_simp)
                  refine hKK.out _ _ (by assumption) (fun hHeld => ?_)
                  clear hKK KK
                  try simp only [Act.put, List.setIfInBounds_toArray, List.set_cons_zero, List.set_cons_succ]
                  refine anyH_run (i := 9) (L' := #[true, true, true, true, true, true, true, true, true, true, true, true, true, true, true, false, true, true, true, false]) rfl (by kernel_rfl) (by rfl) (fun KK hKK => ?_)
                  go_simp
                  (refine (WTNum_any _ (by decide) 8 b1 b b _ _ hW hb (by omega) (by omega) (by have := HL.out; simp only [List.length_append, leB_length] <;> omega)).mono ?_; rintro e w9 ⟨rfl, hW9, hf⟩; have hm := Fr.trans hHeld hf; (try replace hV := fun w' h => hV w' (hf.trans h)); (try replace hF := fun w' h => hF w' (hf.trans h)); replace hW := hW9; clear hf hW9; (try go_simp))
                  refine hKK.out _ _ (by assumption) (fun hHeld => ?_)
                  clear hKK KK
                  try simp only [Act.put, List.setIfInBounds_toArray, List.set_cons_zero, List.set_cons_succ]
                  refine anyH_run (i := 15) (L' := #[true, true, true, true, true, true, true, true, true, true, true, true, true, true, true, true, true, true, true, false]) rfl (by kernel_rfl) (by rfl) (fun KK hKK => ?_)
                  go_simp
                  (refine (WTV_any _ (by decide) b b _ _ [(px, py), (vx, vy)] _ hW hb hV (by have := HL.out; simp only [List.length_append, leB_length, List.length_cons, List.length_nil] <;> omega)).mono ?_; rintro e w15 ⟨rfl, hW15, hf⟩; have hm := Fr.trans hHeld hf; clear hV; (try replace hF := fun w' h => hF w' (hf.trans h)); replace hW := hW15; clear hf hW15; (try go_simp))
                  refine hKK.out _ _ (by assumption) (fun hHeld => ?_)
                  clear hKK KK
                  try simp only [Act.put, List.setIfInBounds_toArray, List.set_cons_zero, List.set_cons_succ]
                  refine anyH_run (i := 19) (L' := #[true, true, true, true, true, true, true, true, true, true, true, true, true, true, true, true, true, true, true, true]) rfl (by kernel_rfl) (by rfl) (fun KK hKK => ?_)
                  go_simp
                  (refine (WTF_any _ (by decide) b b _ _ [le] _ hW hb hF (by have := HL.out; simp only [List.length_append, leB_length, leF_length, fV_length, List.length_cons, List.length_nil] <;> omega)).mono ?_; rintro e w19 ⟨rfl, hW19, hf⟩; have hm := Fr.trans hHeld hf; (try replace hV := fun w' h => hV w' (hf.trans h)); clear hF; replace hW := hW19; clear hf hW19; (try go_simp))
                  refine hKK.out _ _ (by assumption) (fun hHeld => ?_)
                  clear hKK KK
                  try simp only [Act.put, List.setIfInBounds_toArray, List.set_cons_zero, List.set_cons_succ]
                  refine wpAnyH_done (by kernel_rfl) ?_ _
                  have hW9 := hW; go_wp2_with (fail); go_roundw; (case rel => exact ⟨j + 1, by omega, by go_num, by have := hW9; rw [HS.out, ← List.append_assoc]; simpa [leJt] using this, (HF1.out.trans hHeld)⟩); (case measure => simp [intOf]; omega)
            case' rb77 =>
              (obtain ⟨m1, m2, hV⟩ := Fr.litV hHeld hW hb [(px, py), (vx, vy)] #[.int .i64 px, .int .i64 py, .int .i64 vx, .int .i64 vy] 27 2 (by decide) rfl rfl (by simp); (try simp only [World.size_alloc] at hV); (try replace hF := fun w' h => hF w' ((Fr.lit0 hHeld hW hb (.cells #[.int .i64 px, .int .i64 py, .int .i64 vx, .int .i64 vy] 27)).trans h)); replace hW := m1; go_simp)
              refine hKK.out _ _ (by assumption) (fun hHeld => ?_)
              clear hKK KK
              try simp only [Act.put, List.setIfInBounds_toArray, List.set_cons_zero, List.set_cons_succ]
              refine anyH_run2 (i := 6) (j := 18) (L1 := #[true, true, true, true, true, true, true, true, true, false, true, true, true, true, true, false, true, true, false, false]) (L2 := #[true, true, true, true, true, true, false, true, true, false, true, true, true, true, true, false, true, true, true, false]) rfl rfl (by kernel_rfl) (by rfl) (by rfl) (fun KK hKK => ?ra84) (fun KK hKK => ?rb84)
              case' ra84 =>
                go_simp
                (refine (WTNum_any _ (by decide) 8 a b b _ _ hW hb (by omega) (by omega) (by have := HL.out; simp only [List.length_append, leB_length] <;> omega)).mono ?_; rintro e w6 ⟨rfl, hW6, hf⟩; have hm := Fr.trans hHeld hf; (try replace hV := fun w' h => hV w' (hf.trans h)); (try replace hF := fun w' h => hF w' (hf.trans h)); replace hW := hW6; clear hf hW6; (try go_simp))
                refine hKK.out _ _ (by assumption) (fun hHeld => ?_)
                clear hKK KK
                try simp only [Act.put, List.setIfInBounds_toArray, List.set_cons_zero, List.set_cons_succ]
                refine anyH_run2 (i := 9) (j := 18) (L1 := #[true, true, true, true, true, true, true, true, true, true, true, true, true, true, true, false, true, true, false, false]) (L2 := #[true, true, true, true, true, true, true, true, true, false, true, true, true, true, true, false, true, true, true, false]) rfl rfl (by kernel_rfl) (by rfl) (by rfl) (fun KK hKK => ?ra85) (fun KK hKK => ?rb85)
                case' ra85 =>
                  go_simp
                  (refine (WTNum_any _ (by decide) 8 b1 b b _ _ hW hb (by omega) (by omega) (by have := HL.out; simp only [List.length_append, leB_length] <;> omega)).mono ?_; rintro e w9 ⟨rfl, hW9, hf⟩; have hm := Fr.trans hHeld hf; (try replace hV := fun w' h => hV w' (hf.trans h)); (try replace hF := fun w' h => hF w' (hf.trans h)); replace hW := hW9; clear hf hW9; (try go_simp))
                  refine hKK.out _ _ (by assumption) (fun hHeld => ?_)
                  clear hKK KK
                  try simp only [Act.put, List.setIfInBounds_toArray, List.set_cons_zero, List.set_cons_succ]
                  refine anyH_run2 (i := 15) (j := 18) (L1 := #[true, true, true, true, true, true, true, true, true, true, true, true, true, true, true, true, true, true, false, false]) (L2 := #[true, true, true, true, true, true, true, true, true, true, true, true, true, true, true, false, true, true, true, false]) rfl rfl (by kernel_rfl) (by rfl) (by rfl) (fun KK hKK => ?ra86) (fun KK hKK => ?rb86)
                  case' ra86 =>
                    go_simp
                    (refine (WTV_any _ (by decide) b b _ _ [(px, py), (vx, vy)] _ hW hb hV (by have := HL.out; simp only [List.length_append, leB_length, List.length_cons, List.length_nil] <;> omega)).mono ?_; rintro e w15 ⟨rfl, hW15, hf⟩; have hm := Fr.trans hHeld hf; clear hV; (try replace hF := fun w' h => hF w' (hf.trans h)); replace hW := hW15; clear hf hW15; (try go_simp))
                    refine hKK.out _ _ (by assumption) (fun hHeld => ?_)
                    clear hKK KK
                    try simp only [Act.put, List.setIfInBounds_toArray, List.set_cons_zero, List.set_cons_succ]
                    refine anyH_run (i := 18) (L' := #[true, true, true, true, true, true, true, true, true, true, true, true, true, true, true, true, true, true, true, false]) rfl (by kernel_rfl) (by rfl) (fun KK hKK => ?_)
                    (obtain ⟨m1, m2, hF⟩ := Fr.litF hHeld hW hb [le] #[.int .i64 le] 25 1 (by decide) rfl rfl (by simp); (try simp only [World.size_alloc] at hF); (try replace hV := fun w' h => hV w' ((Fr.lit0 hHeld hW hb (.cells #[.int .i64 le] 25)).trans h)); replace hW := m1; go_simp)
                    refine hKK.out _ _ (by assumption) (fun hHeld => ?_)
                    clear hKK KK
                    try simp only [Act.put, List.setIfInBounds_toArray, List.set_cons_zero, List.set_cons_succ]
                    refine anyH_run (i := 19) (L' := #[true, true, true, true, true, true, true, true, true, true, true, true, true, true, true, true, true, true, true, true]) rfl (by kernel_rfl) (by rfl) (fun KK hKK => ?_)
                    go_simp
                    (refine (WTF_any _ (by decide) b b _ _ [le] _ hW hb hF (by have := HL.out; simp only [List.length_append, leB_length, leF_length, fV_length, List.length_cons, List.length_nil] <;> omega)).mono ?_; rintro e w19 ⟨rfl, hW19, hf⟩; have hm := Fr.trans hHeld hf; (try replace hV := fun w' h => hV w' (hf.trans h)); clear hF; replace hW := hW19; clear hf hW19; (try go_simp))
                    refine hKK.out _ _ (by assumption) (fun hHeld => ?_)
                    clear hKK KK
                    try simp only [Act.put, List.setIfInBounds_toArray, List.set_cons_zero, List.set_cons_succ]
                    refine wpAnyH_done (by kernel_rfl) ?_ _
                    have hW9 := hW; go_wp2_with (fail); go_roundw; (case rel => exact ⟨j + 1, by omega, by go_num, by have := hW9; rw [HS.out, ← List.append_assoc]; simpa [leJt] using this, (HF1.out.trans hHeld)⟩); (case measure => simp [intOf]; omega)
                  case' rb86 =>
                    (obtain ⟨m1, m2, hF⟩ := Fr.litF hHeld hW hb [le] #[.int .i64 le] 25 1 (by decide) rfl rfl (by simp); (try simp only [World.size_alloc] at hF); (try replace hV := fun w' h => hV w' ((Fr.lit0 hHeld hW hb (.cells #[.int .i64 le] 25)).trans h)); replace hW := m1; go_simp)
                    refine hKK.out _ _ (by assumption) (fun hHeld => ?_)
                    clear hKK KK
                    try simp only [Act.put, List.setIfInBounds_toArray, List.set_cons_zero, List.set_cons_succ]
                    refine anyH_run (i := 15) (L' := #[true, true, true, true, true, true, true, true, true, true, true, true, true, true, true, true, true, true, true, false]) rfl (by kernel_rfl) (by rfl) (fun KK hKK => ?_)
                    go_simp
                    (refine (WTV_any _ (by decide) b b _ _ [(px, py), (vx, vy)] _ hW hb hV (by have := HL.out; simp only [List.length_append, leB_length, List.length_cons, List.length_nil] <;> omega)).mono ?_; rintro e w15 ⟨rfl, hW15, hf⟩; have hm := Fr.trans hHeld hf; clear hV; (try replace hF := fun w' h => hF w' (hf.trans h)); replace hW := hW15; clear hf hW15; (try go_simp))
                    refine hKK.out _ _ (by assumption) (fun hHeld => ?_)
                    clear hKK KK
                    try simp only [Act.put, List.setIfInBounds_toArray, List.set_cons_zero, List.set_cons_succ]
                    refine anyH_run (i := 19) (L' := #[true, true, true, true, true, true, true, true, true, true, true, true, true, true, true, true, true, true, true, true]) rfl (by kernel_rfl) (by rfl) (fun KK hKK => ?_)
                    go_simp
                    (refine (WTF_any _ (by decide) b b _ _ [le] _ hW hb hF (by have := HL.out; simp only [List.length_append, leB_length, leF_length, fV_length, List.length_cons, List.length_nil] <;> omega)).mono ?_; rintro e w19 ⟨rfl, hW19, hf⟩; have hm := Fr.trans hHeld hf; (try replace hV := fun w' h => hV w' (hf.trans h)); clear hF; replace hW := hW19; clear hf hW19; (try go_simp))
                    refine hKK.out _ _ (by assumption) (fun hHeld => ?_)
                    clear hKK KK
                    try simp only [Act.put, List.setIfInBounds_toArray, List.set_cons_zero, List.set_cons_succ]
                    refine wpAnyH_done (by kernel_rfl) ?_ _
                    have hW9 := hW; go_wp2_with (fail); go_roundw; (case rel => exact ⟨j + 1, by omega, by go_num, by have := hW9; rw [HS.out, ← List.append_assoc]; simpa [leJt] using this, (HF1.out.trans hHeld)⟩); (case measure => simp [intOf]; omega)
                case' rb85 =>
                  (obtain ⟨m1, m2, hF⟩ := Fr.litF hHeld hW hb [le] #[.int .i64 le] 25 1 (by decide) rfl rfl (by simp); (try simp only [World.size_alloc] at hF); (try replace hV := fun w' h => hV w' ((Fr.lit0 hHeld hW hb (.cells #[.int .i64 le] 25)).trans h)); replace hW := m1; go_simp)
                  refine hKK.out _ _ (by assumption) (fun hHeld => ?_)
                  clear hKK KK
                  try simp only [Act.put, List.setIfInBounds_toArray, List.set_cons_zero, List.set_cons_succ]
                  refine anyH_run (i := 9) (L' := #[true, true, true, true, true, true, true, true, true, true, true, true, true, true, true, false, true, true, true, false]) rfl (by kernel_rfl) (by rfl) (fun KK hKK => ?_)
                  go_simp
                  (refine (WTNum_any _ (by decide) 8 b1 b b _ _ hW hb (by omega) (by omega) (by have := HL.out; simp only [List.length_append, leB_length] <;> omega)).mono ?_; rintro e w9 ⟨rfl, hW9, hf⟩; have hm := Fr.trans hHeld hf; (try replace hV := fun w' h => hV w' (hf.trans h)); (try replace hF := fun w' h => hF w' (hf.trans h)); replace hW := hW9; clear hf hW9; (try go_simp))
                  refine hKK.out _ _ (by assumption) (fun hHeld => ?_)
                  clear hKK KK
                  try simp only [Act.put, List.setIfInBounds_toArray, List.set_cons_zero, List.set_cons_succ]
                  refine anyH_run (i := 15) (L' := #[true, true, true, true, true, true, true, true, true, true, true, true, true, true, true, true, true, true, true, false]) rfl (by kernel_rfl) (by rfl) (fun KK hKK => ?_)
                  go_simp
                  (refine (WTV_any _ (by decide) b b _ _ [(px, py), (vx, vy)] _ hW hb hV (by have := HL.out; simp only [List.length_append, leB_length, List.length_cons, List.length_nil] <;> omega)).mono ?_; rintro e w15 ⟨rfl, hW15, hf⟩; have hm := Fr.trans hHeld hf; clear hV; (try replace hF := fun w' h => hF w' (hf.trans h)); replace hW := hW15; clear hf hW15; (try go_simp))
                  refine hKK.out _ _ (by assumption) (fun hHeld => ?_)
                  clear hKK KK
                  try simp only [Act.put, List.setIfInBounds_toArray, List.set_cons_zero, List.set_cons_succ]
                  refine anyH_run (i := 19) (L' := #[true, true, true, true, true, true, true, true, true, true, true, true, true, true, true, true, true, true, true, true]) rfl (by kernel_rfl) (by rfl) (fun KK hKK => ?_)
                  go_simp
                  (refine (WTF_any _ (by decide) b b _ _ [le] _ hW hb hF (by have := HL.out; simp only [List.length_append, leB_length, leF_length, fV_length, List.length_cons, List.length_nil] <;> omega)).mono ?_; rintro e w19 ⟨rfl, hW19, hf⟩; have hm := Fr.trans hHeld hf; (try replace hV := fun w' h => hV w' (hf.trans h)); clear hF; replace hW := hW19; clear hf hW19; (try go_simp))
                  refine hKK.out _ _ (by assumption) (fun hHeld => ?_)
                  clear hKK KK
                  try simp only [Act.put, List.setIfInBounds_toArray, List.set_cons_zero, List.set_cons_succ]
                  refine wpAnyH_done (by kernel_rfl) ?_ _
                  have hW9 := hW; go_wp2_with (fail); go_roundw; (case rel => exact ⟨j + 1, by omega, by go_num, by have := hW9; rw [HS.out, ← List.append_assoc]; simpa [leJt] using this, (HF1.out.trans hHeld)⟩); (case measure => simp [intOf]; omega)
              case' rb84 =>
                (obtain ⟨m1, m2, hF⟩ := Fr.litF hHeld hW hb [le] #[.int .i64 le] 25 1 (by decide) rfl rfl (by simp); (try simp only [World.size_alloc] at hF); (try replace hV := fun w' h => hV w' ((Fr.lit0 hHeld hW hb (.cells #[.int .i64 le] 25)).trans h)); replace hW := m1; go_simp)
                refine hKK.out _ _ (by assumption) (fun hHeld => ?_)
                clear hKK KK
                try simp only [Act.put, List.setIfInBounds_toArray, List.set_cons_zero, List.set_cons_succ]
                refine anyH_run (i := 6) (L' := #[true, true, true, true, true, true, true, true, true, false, true, true, true, true, true, false, true, true, true, false]) rfl (by kernel_rfl) (by rfl) (fun KK hKK => ?_)
                go_simp
                (refine (WTNum_any _ (by decide) 8 a b b _ _ hW hb (by omega) (by omega) (by have := HL.out; simp only [List.length_append, leB_length] <;> omega)).mono ?_; rintro e w6 ⟨rfl, hW6, hf⟩; have hm := Fr.trans hHeld hf; (try replace hV := fun w' h => hV w' (hf.trans h)); (try replace hF := fun w' h => hF w' (hf.trans h)); replace hW := hW6; clear hf hW6; (try go_simp))
                refine hKK.out _ _ (by assumption) (fun hHeld => ?_)
                clear hKK KK
                try simp only [Act.put, List.setIfInBounds_toArray, List.set_cons_zero, List.set_cons_succ]
                refine anyH_run (i := 9) (L' := #[true, true, true, true, true, true, true, true, true, true, true, true, true, true, true, false, true, true, true, false]) rfl (by kernel_rfl) (by rfl) (fun KK hKK => ?_)
                go_simp
                (refine (WTNum_any _ (by decide) 8 b1 b b _ _ hW hb (by omega) (by omega) (by have := HL.out; simp only [List.length_append, leB_length] <;> omega)).mono ?_; rintro e w9 ⟨rfl, hW9, hf⟩; have hm := Fr.trans hHeld hf; (try replace hV := fun w' h => hV w' (hf.trans h)); (try replace hF := fun w' h => hF w' (hf.trans h)); replace hW := hW9; clear hf hW9; (try go_simp))
                refine hKK.out _ _ (by assumption) (fun hHeld => ?_)
                clear hKK KK
                try simp only [Act.put, List.setIfInBounds_toArray, List.set_cons_zero, List.set_cons_succ]
                refine anyH_run (i := 15) (L' := #[true, true, true, true, true, true, true, true, true, true, true, true, true, true, true, true, true, true, true, false]) rfl (by kernel_rfl) (by rfl) (fun KK hKK => ?_)
                go_simp
                (refine (WTV_any _ (by decide) b b _ _ [(px, py), (vx, vy)] _ hW hb hV (by have := HL.out; simp only [List.length_append, leB_length, List.length_cons, List.length_nil] <;> omega)).mono ?_; rintro e w15 ⟨rfl, hW15, hf⟩; have hm := Fr.trans hHeld hf; clear hV; (try replace hF := fun w' h => hF w' (hf.trans h)); replace hW := hW15; clear hf hW15; (try go_simp))
                refine hKK.out _ _ (by assumption) (fun hHeld => ?_)
                clear hKK KK
                try simp only [Act.put, List.setIfInBounds_toArray, List.set_cons_zero, List.set_cons_succ]
                refine anyH_run (i := 19) (L' := #[true, true, true, true, true, true, true, true, true, true, true, true, true, true, true, true, true, true, true, true]) rfl (by kernel_rfl) (by rfl) (fun KK hKK => ?_)
                go_simp
                (refine (WTF_any _ (by decide) b b _ _ [le] _ hW hb hF (by have := HL.out; simp only [List.length_append, leB_length, leF_length, fV_length, List.length_cons, List.length_nil] <;> omega)).mono ?_; rintro e w19 ⟨rfl, hW19, hf⟩; have hm := Fr.trans hHeld hf; (try replace hV := fun w' h => hV w' (hf.trans h)); clear hF; replace hW := hW19; clear hf hW19; (try go_simp))
                refine hKK.out _ _ (by assumption) (fun hHeld => ?_)
                clear hKK KK
                try simp only [Act.put, List.setIfInBounds_toArray, List.set_cons_zero, List.set_cons_succ]
                refine wpAnyH_done (by kernel_rfl) ?_ _
                have hW9 := hW; go_wp2_with (fail); go_roundw; (case rel => exact ⟨j + 1, by omega, by go_num, by have := hW9; rw [HS.out, ← List.append_assoc]; simpa [leJt] using this, (HF1.out.trans hHeld)⟩); (case measure => simp [intOf]; omega)
            case' rc77 =>
              (obtain ⟨m1, m2, hF⟩ := Fr.litF hHeld hW hb [le] #[.int .i64 le] 25 1 (by decide) rfl rfl (by simp); (try simp only [World.size_alloc] at hF); (try replace hV := fun w' h => hV w' ((Fr.lit0 hHeld hW hb (.cells #[.int .i64 le] 25)).trans h)); replace hW := m1; go_simp)
              refine hKK.out _ _ (by assumption) (fun hHeld => ?_)
              clear hKK KK
              try simp only [Act.put, List.setIfInBounds_toArray, List.set_cons_zero, List.set_cons_succ]
              refine anyH_run2 (i := 6) (j := 14) (L1 := #[true, true, true, true, true, true, true, true, true, false, true, true, true, true, false, false, true, true, true, false]) (L2 := #[true, true, true, true, true, true, false, true, true, false, true, true, true, true, true, false, true, true, true, false]) rfl rfl (by kernel_rfl) (by rfl) (by rfl) (fun KK hKK => ?ra87) (fun KK hKK => ?rb87)
              case' ra87 =>
                go_simp
                (refine (WTNum_any _ (by decide) 8 a b b _ _ hW hb (by omega) (by omega) (by have := HL.out; simp only [List.length_append, leB_length] <;> omega)).mono ?_; rintro e w6 ⟨rfl, hW6, hf⟩; have hm := Fr.trans hHeld hf; (try replace hV := fun w' h => hV w' (hf.trans h)); (try replace hF := fun w' h => hF w' (hf.trans h)); replace hW := hW6; clear hf hW6; (try go_simp))
                refine hKK.out _ _ (by assumption) (fun hHeld => ?_)
                clear hKK KK
                try simp only [Act.put, List.setIfInBounds_toArray, List.set_cons_zero, List.set_cons_succ]
                refine anyH_run2 (i := 9) (j := 14) (L1 := #[true, true, true, true, true, true, true, true, true, true, true, true, true, true, false, false, true, true, true, false]) (L2 := #[true, true, true, true, true, true, true, true, true, false, true, true, true, true, true, false, true, true, true, false]) rfl rfl (by kernel_rfl) (by rfl) (by rfl) (fun KK hKK => ?ra88) (fun KK hKK => ?rb88)
                case' ra88 =>
                  go_simp
                  (refine (WTNum_any _ (by decide) 8 b1 b b _ _ hW hb (by omega) (by omega) (by have := HL.out; simp only [List.length_append, leB_length] <;> omega)).mono ?_; rintro e w9 ⟨rfl, hW9, hf⟩; have hm := Fr.trans hHeld hf; (try replace hV := fun w' h => hV w' (hf.trans h)); (try replace hF := fun w' h => hF w' (hf.trans h)); replace hW := hW9; clear hf hW9; (try go_simp))
                  refine hKK.out _ _ (by assumption) (fun hHeld => ?_)
                  clear hKK KK
                  try simp only [Act.put, List.setIfInBounds_toArray, List.set_cons_zero, List.set_cons_succ]
                  refine anyH_run (i := 14) (L' := #[true, true, true, true, true, true, true, true, true, true, true, true, true, true, true, false, true, true, true, false]) rfl (by kernel_rfl) (by rfl) (fun KK hKK => ?_)
                  (obtain ⟨m1, m2, hV⟩ := Fr.litV hHeld hW hb [(px, py), (vx, vy)] #[.int .i64 px, .int .i64 py, .int .i64 vx, .int .i64 vy] 27 2 (by decide) rfl rfl (by simp); (try simp only [World.size_alloc] at hV); (try replace hF := fun w' h => hF w' ((Fr.lit0 hHeld hW hb (.cells #[.int .i64 px, .int .i64 py, .int .i64 vx, .int .i64 vy] 27)).trans h)); replace hW := m1; go_simp)
                  refine hKK.out _ _ (by assumption) (fun hHeld => ?_)
                  clear hKK KK
                  try simp only [Act.put, List.setIfInBounds_toArray, List.set_cons_zero, List.set_cons_succ]
                  refine anyH_run (i := 15) (L' := #[true, true, true, true, true, true, true, true, true, true, true, true, true, true, true, true, true, true, true, false]) rfl (by kernel_rfl) (by rfl) (fun KK hKK => ?_)
                  go_simp
                  (refine (WTV_any _ (by decide) b b _ _ [(px, py), (vx, vy)] _ hW hb hV (by have := HL.out; simp only [List.length_append, leB_length, List.length_cons, List.length_nil] <;> omega)).mono ?_; rintro e w15 ⟨rfl, hW15, hf⟩; have hm := Fr.trans hHeld hf; clear hV; (try replace hF := fun w' h => hF w' (hf.trans h)); replace hW := hW15; clear hf hW15; (try go_simp))
                  refine hKK.out _ _ (by assumption) (fun hHeld => ?_)
                  clear hKK KK
                  try simp only [Act.put, List.setIfInBounds_toArray, List.set_cons_zero, List.set_cons_succ]
                  refine anyH_run (i := 19) (L' := #[true, true, true, true, true, true, true, true, true, true, true, true, true, true, true, true, true, true, true, true]) rfl (by kernel_rfl) (by rfl) (fun KK hKK => ?_)
                  go_simp
                  (refine (WTF_any _ (by decide) b b _ _ [le] _ hW hb hF (by have := HL.out; simp only [List.length_append, leB_length, leF_length, fV_length, List.length_cons, List.length_nil] <;> omega)).mono ?_; rintro e w19 ⟨rfl, hW19, hf⟩; have hm := Fr.trans hHeld hf; (try replace hV := fun w' h => hV w' (hf.trans h)); clear hF; replace hW := hW19; clear hf hW19; (try go_simp))
                  refine hKK.out _ _ (by assumption) (fun hHeld => ?_)
                  clear hKK KK
                  try simp only [Act.put, List.setIfInBounds_toArray, List.set_cons_zero, List.set_cons_succ]
                  refine wpAnyH_done (by kernel_rfl) ?_ _
                  have hW9 := hW; go_wp2_with (fail); go_roundw; (case rel => exact ⟨j + 1, by omega, by go_num, by have := hW9; rw [HS.out, ← List.append_assoc]; simpa [leJt] using this, (HF1.out.trans hHeld)⟩); (case measure => simp [intOf]; omega)
                case' rb88 =>
                  (obtain ⟨m1, m2, hV⟩ := Fr.litV hHeld hW hb [(px, py), (vx, vy)] #[.int .i64 px, .int .i64 py, .int .i64 vx, .int .i64 vy] 27 2 (by decide) rfl rfl (by simp); (try simp only [World.size_alloc] at hV); (try replace hF := fun w' h => hF w' ((Fr.lit0 hHeld hW hb (.cells #[.int .i64 px, .int .i64 py, .int .i64 vx, .int .i64 vy] 27)).trans h)); replace hW := m1; go_simp)
                  refine hKK.out _ _ (by assumption) (fun hHeld => ?_)
                  clear hKK KK
                  try simp only [Act.put, List.setIfInBounds_toArray, List.set_cons_zero, List.set_cons_succ]
                  refine anyH_run (i := 9) (L' := #[true, true, true, true, true, true, true, true, true, true, true, true, true, true, true, false, true, true, true, false]) rfl (by kernel_rfl) (by rfl) (fun KK hKK => ?_)
                  go_simp
                  (refine (WTNum_any _ (by decide) 8 b1 b b _ _ hW hb (by omega) (by omega) (by have := HL.out; simp only [List.length_append, leB_length] <;> omega)).mono ?_; rintro e w9 ⟨rfl, hW9, hf⟩; have hm := Fr.trans hHeld hf; (try replace hV := fun w' h => hV w' (hf.trans h)); (try replace hF := fun w' h => hF w' (hf.trans h)); replace hW := hW9; clear hf hW9; (try go_simp))
                  refine hKK.out _ _ (by assumption) (fun hHeld => ?_)
                  clear hKK KK
                  try simp only [Act.put, List.setIfInBounds_toArray, List.set_cons_zero, List.set_cons_succ]
                  refine anyH_run (i := 15) (L' := #[true, true, true, true, true, true, true, true, true, true, true, true, true, true, true, true, true, true, true, false]) rfl (by kernel_rfl) (by rfl) (fun KK hKK => ?_)
                  go_simp
                  (refine (WTV_any _ (by decide) b b _ _ [(px, py), (vx, vy)] _ hW hb hV (by have := HL.out; simp only [List.length_append, leB_length, List.length_cons, List.length_nil] <;> omega)).mono ?_; rintro e w15 ⟨rfl, hW15, hf⟩; have hm := Fr.trans hHeld hf; clear hV; (try replace hF := fun w' h => hF w' (hf.trans h)); replace hW := hW15; clear hf hW15; (try go_simp))
                  refine hKK.out _ _ (by assumption) (fun hHeld => ?_)
                  clear hKK KK
                  try simp only [Act.put, List.setIfInBounds_toArray, List.set_cons_zero, List.set_cons_succ]
                  refine anyH_run (i := 19) (L' := #[true, true, true, true, true, true, true, true, true, true, true, true, true, true, true, true, true, true, true, true]) rfl (by kernel_rfl) (by rfl) (fun KK hKK => ?_)
                  go_simp
                  (refine (WTF_any _ (by decide) b b _ _ [le] _ hW hb hF (by have := HL.out; simp only [List.length_append, leB_length, leF_length, fV_length, List.length_cons, List.length_nil] <;> omega)).mono ?_; rintro e w19 ⟨rfl, hW19, hf⟩; have hm := Fr.trans hHeld hf; (try replace hV := fun w' h => hV w' (hf.trans h)); clear hF; replace hW := hW19; clear hf hW19; (try go_simp))
                  refine hKK.out _ _ (by assumption) (fun hHeld => ?_)
                  clear hKK KK
                  try simp only [Act.put, List.setIfInBounds_toArray, List.set_cons_zero, List.set_cons_succ]
                  refine wpAnyH_done (by kernel_rfl) ?_ _
                  have hW9 := hW; go_wp2_with (fail); go_roundw; (case rel => exact ⟨j + 1, by omega, by go_num, by have := hW9; rw [HS.out, ← List.append_assoc]; simpa [leJt] using this, (HF1.out.trans hHeld)⟩); (case measure => simp [intOf]; omega)
              case' rb87 =>
                (obtain ⟨m1, m2, hV⟩ := Fr.litV hHeld hW hb [(px, py), (vx, vy)] #[.int .i64 px, .int .i64 py, .int .i64 vx, .int .i64 vy] 27 2 (by decide) rfl rfl (by simp); (try simp only [World.size_alloc] at hV); (try replace hF := fun w' h => hF w' ((Fr.lit0 hHeld hW hb (.cells #[.int .i64 px, .int .i64 py, .int .i64 vx, .int .i64 vy] 27)).trans h)); replace hW := m1; go_simp)
                refine hKK.out _ _ (by assumption) (fun hHeld => ?_)
                clear hKK KK
                try simp only [Act.put, List.setIfInBounds_toArray, List.set_cons_zero, List.set_cons_succ]
                refine anyH_run (i := 6) (L' := #[true, true, true, true, true, true, true, true, true, false, true, true, true, true, true, false, true, true, true, false]) rfl (by kernel_rfl) (by rfl) (fun KK hKK => ?_)
                go_simp
                (refine (WTNum_any _ (by decide) 8 a b b _ _ hW hb (by omega) (by omega) (by have := HL.out; simp only [List.length_append, leB_length] <;> omega)).mono ?_; rintro e w6 ⟨rfl, hW6, hf⟩; have hm := Fr.trans hHeld hf; (try replace hV := fun w' h => hV w' (hf.trans h)); (try replace hF := fun w' h => hF w' (hf.trans h)); replace hW := hW6; clear hf hW6; (try go_simp))
                refine hKK.out _ _ (by assumption) (fun hHeld => ?_)
                clear hKK KK
                try simp only [Act.put, List.setIfInBounds_toArray, List.set_cons_zero, List.set_cons_succ]
                refine anyH_run (i := 9) (L' := #[true, true, true, true, true, true, true, true, true, true, true, true, true, true, true, false, true, true, true, false]) rfl (by kernel_rfl) (by rfl) (fun KK hKK => ?_)
                go_simp
                (refine (WTNum_any _ (by decide) 8 b1 b b _ _ hW hb (by omega) (by omega) (by have := HL.out; simp only [List.length_append, leB_length] <;> omega)).mono ?_; rintro e w9 ⟨rfl, hW9, hf⟩; have hm := Fr.trans hHeld hf; (try replace hV := fun w' h => hV w' (hf.trans h)); (try replace hF := fun w' h => hF w' (hf.trans h)); replace hW := hW9; clear hf hW9; (try go_simp))
                refine hKK.out _ _ (by assumption) (fun hHeld => ?_)
                clear hKK KK
                try simp only [Act.put, List.setIfInBounds_toArray, List.set_cons_zero, List.set_cons_succ]
                refine anyH_run (i := 15) (L' := #[true, true, true, true, true, true, true, true, true, true, true, true, true, true, true, true, true, true, true, false]) rfl (by kernel_rfl) (by rfl) (fun KK hKK => ?_)
                go_simp
                (refine (WTV_any _ (by decide) b b _ _ [(px, py), (vx, vy)] _ hW hb hV (by have := HL.out; simp only [List.length_append, leB_length, List.length_cons, List.length_nil] <;> omega)).mono ?_; rintro e w15 ⟨rfl, hW15, hf⟩; have hm := Fr.trans hHeld hf; clear hV; (try replace hF := fun w' h => hF w' (hf.trans h)); replace hW := hW15; clear hf hW15; (try go_simp))
                refine hKK.out _ _ (by assumption) (fun hHeld => ?_)
                clear hKK KK
                try simp only [Act.put, List.setIfInBounds_toArray, List.set_cons_zero, List.set_cons_succ]
                refine anyH_run (i := 19) (L' := #[true, true, true, true, true, true, true, true, true, true, true, true, true, true, true, true, true, true, true, true]) rfl (by kernel_rfl) (by rfl) (fun KK hKK => ?_)
                go_simp
                (refine (WTF_any _ (by decide) b b _ _ [le] _ hW hb hF (by have := HL.out; simp only [List.length_append, leB_length, leF_length, fV_length, List.length_cons, List.length_nil] <;> omega)).mono ?_; rintro e w19 ⟨rfl, hW19, hf⟩; have hm := Fr.trans hHeld hf; (try replace hV := fun w' h => hV w' (hf.trans h)); clear hF; replace hW := hW19; clear hf hW19; (try go_simp))
                refine hKK.out _ _ (by assumption) (fun hHeld => ?_)
                clear hKK KK
                try simp only [Act.put, List.setIfInBounds_toArray, List.set_cons_zero, List.set_cons_succ]
                refine wpAnyH_done (by kernel_rfl) ?_ _
                have hW9 := hW; go_wp2_with (fail); go_roundw; (case rel => exact ⟨j + 1, by omega, by go_num, by have := hW9; rw [HS.out, ← List.append_assoc]; simpa [leJt] using this, (HF1.out.trans hHeld)⟩); (case measure => simp [intOf]; omega)
          case' rb76 =>
            (obtain ⟨m1, m2, hV⟩ := Fr.litV hHeld hW hb [(px, py), (vx, vy)] #[.int .i64 px, .int .i64 py, .int .i64 vx, .int .i64 vy] 27 2 (by decide) rfl rfl (by simp); (try simp only [World.size_alloc] at hV); (try replace hF := fun w' h => hF w' ((Fr.lit0 hHeld hW hb (.cells #[.int .i64 px, .int .i64 py, .int .i64 vx, .int .i64 vy] 27)).trans h)); replace hW := m1; go_simp)
            refine hKK.out _ _ (by assumption) (fun hHeld => ?_)
            clear hKK KK
            try simp only [Act.put, List.setIfInBounds_toArray, List.set_cons_zero, List.set_cons_succ]
            refine anyH_run2 (i := 3) (j := 18) (L1 := #[true, true, true, true, true, true, false, true, true, false, true, true, true, true, true, false, true, true, false, false]) (L2 := #[true, true, true, false, true, true, false, true, true, false, true, true, true, true, true, false, true, true, true, false]) rfl rfl (by kernel_rfl) (by rfl) (by rfl) (fun KK hKK => ?ra89) (fun KK hKK => ?rb89)
            case' ra89 =>
              go_simp
              (refine (WTNum_any _ (by decide) 8 i b b _ _ hW hb (by omega) (by omega) (by have := HL.out; simp only [List.length_append] <;> omega)).mono ?_; rintro e w3 ⟨rfl, hW3, hf⟩; have hm := Fr.trans hHeld hf; (try replace hV := fun w' h => hV w' (hf.trans h)); (try replace hF := fun w' h => hF w' (hf.trans h)); replace hW := hW3; clear hf hW3; (try go_simp))
              refine hKK.out _ _ (by assumption) (fun hHeld => ?_)
              clear hKK KK
              try simp only [Act.put, List.setIfInBounds_toArray, List.set_cons_zero, List.set_cons_succ]
              refine anyH_run2 (i := 6) (j := 18) (L1 := #[true, true, true, true, true, true, true, true, true, false, true, true, true, true, true, false, true, true, false, false]) (L2 := #[true, true, true, true, true, true, false, true, true, false, true, true, true, true, true, false, true, true, true, false]) rfl rfl (by kernel_rfl) (by rfl) (by rfl) (fun KK hKK => ?ra90) (fun KK hKK => ?rb90)
              case' ra90 =>
                go_simp
                (refine (WTNum_any _ (by decide) 8 a b b _ _ hW hb (by omega) (by omega) (by have := HL.out; simp only [List.length_append, leB_length] <;> omega)).mono ?_; rintro e w6 ⟨rfl, hW6, hf⟩; have hm := Fr.trans hHeld hf; (try replace hV := fun w' h => hV w' (hf.trans h)); (try replace hF := fun w' h => hF w' (hf.trans h)); replace hW := hW6; clear hf hW6; (try go_simp))
                refine hKK.out _ _ (by assumption) (fun hHeld => ?_)
                clear hKK KK
                try simp only [Act.put, List.setIfInBounds_toArray, List.set_cons_zero, List.set_cons_succ]
                refine anyH_run2 (i := 9) (j := 18) (L1 := #[true, true, true, true, true, true, true, true, true, true, true, true, true, true, true, false, true, true, false, false]) (L2 := #[true, true, true, true, true, true, true, true, true, false, true, true, true, true, true, false, true, true, true, false]) rfl rfl (by kernel_rfl) (by rfl) (by rfl) (fun KK hKK => ?ra91) (fun KK hKK => ?rb91)
                case' ra91 =>
                  go_simp
                  (refine (WTNum_any _ (by decide) 8 b1 b b _ _ hW hb (by omega) (by omega) (by have := HL.out; simp only [List.length_append, leB_length] <;> omega)).mono ?_; rintro e w9 ⟨rfl, hW9, hf⟩; have hm := Fr.trans hHeld hf; (try replace hV := fun w' h => hV w' (hf.trans h)); (try replace hF := fun w' h => hF w' (hf.trans h)); replace hW := hW9; clear hf hW9; (try go_simp))
                  refine hKK.out _ _ (by assumption) (fun hHeld => ?_)
                  clear hKK KK
                  try simp only [Act.put, List.setIfInBounds_toArray, List.set_cons_zero, List.set_cons_succ]
                  refine anyH_run2 (i := 15) (j := 18) (L1 := #[true, true, true, true, true, true, true, true, true, true, true, true, true, true, true, true, true, true, false, false]) (L2 := #[true, true, true, true, true, true, true, true, true, true, true, true, true, true, true, false, true, true, true, false]) rfl rfl (by kernel_rfl) (by rfl) (by rfl) (fun KK hKK => ?ra92) (fun KK hKK => ?rb92)
                  case' ra92 =>
                    go_simp
                    (refine (WTV_any _ (by decide) b b _ _ [(px, py), (vx, vy)] _ hW hb hV (by have := HL.out; simp only [List.length_append, leB_length, List.length_cons, List.length_nil] <;> omega)).mono ?_; rintro e w15 ⟨rfl, hW15, hf⟩; have hm := Fr.trans hHeld hf; clear hV; (try replace hF := fun w' h => hF w' (hf.trans h)); replace hW := hW15; clear hf hW15; (try go_simp))
                    refine hKK.out _ _ (by assumption) (fun hHeld => ?_)
                    clear hKK KK
                    try simp only [Act.put, List.setIfInBounds_toArray, List.set_cons_zero, List.set_cons_succ]
                    refine anyH_run (i := 18) (L' := #[true, true, true, true, true, true, true, true, true, true, true, true, true, true, true, true, true, true, true, false]) rfl (by kernel_rfl) (by rfl) (fun KK hKK => ?_)
                    (obtain ⟨m1, m2, hF⟩ := Fr.litF hHeld hW hb [le] #[.int .i64 le] 25 1 (by decide) rfl rfl (by simp); (try simp only [World.size_alloc] at hF); (try replace hV := fun w' h => hV w' ((Fr.lit0 hHeld hW hb (.cells #[.int .i64 le] 25)).trans h)); replace hW := m1; go_simp)
                    refine hKK.out _ _ (by assumption) (fun hHeld => ?_)
                    clear hKK KK
                    try simp only [Act.put, List.setIfInBounds_toArray, List.set_cons_zero, List.set_cons_succ]
                    refine anyH_run (i := 19) (L' := #[true, true, true, true, true, true, true, true, true, true, true, true, true, true, true, true, true, true, true, true]) rfl (by kernel_rfl) (by rfl) (fun KK hKK => ?_)
                    go_simp
                    (refine (WTF_any _ (by decide) b b _ _ [le] _ hW hb hF (by have := HL.out; simp only [List.length_append, leB_length, leF_length, fV_length, List.length_cons, List.length_nil] <;> omega)).mono ?_; rintro e w19 ⟨rfl, hW19, hf⟩; have hm := Fr.trans hHeld hf; (try replace hV := fun w' h => hV w' (hf.trans h)); clear hF; replace hW := hW19; clear hf hW19; (try go_simp))
                    refine hKK.out _ _ (by assumption) (fun hHeld => ?_)
                    clear hKK KK
                    try simp only [Act.put, List.setIfInBounds_toArray, List.set_cons_zero, List.set_cons_succ]
                    refine wpAnyH_done (by kernel_rfl) ?_ _
                    have hW9 := hW; go_wp2_with (fail); go_roundw; (case rel => exact ⟨j + 1, by omega, by go_num, by have := hW9; rw [HS.out, ← List.append_assoc]; simpa [leJt] using this, (HF1.out.trans hHeld)⟩); (case measure => simp [intOf]; omega)
                  case' rb92 =>
                    (obtain ⟨m1, m2, hF⟩ := Fr.litF hHeld hW hb [le] #[.int .i64 le] 25 1 (by decide) rfl rfl (by simp); (try simp only [World.size_alloc] at hF); (try replace hV := fun w' h => hV w' ((Fr.lit0 hHeld hW hb (.cells #[.int .i64 le] 25)).trans h)); replace hW := m1; go_simp)
                    refine hKK.out _ _ (by assumption) (fun hHeld => ?_)
                    clear hKK KK
                    try simp only [Act.put, List.setIfInBounds_toArray, List.set_cons_zero, List.set_cons_succ]
                    refine anyH_run (i := 15) (L' := #[true, true, true, true, true, true, true, true, true, true, true, true, true, true, true, true, true, true, true, false]) rfl (by kernel_rfl) (by rfl) (fun KK hKK => ?_)
                    go_simp
                    (refine (WTV_any _ (by decide) b b _ _ [(px, py), (vx, vy)] _ hW hb hV (by have := HL.out; simp only [List.length_append, leB_length, List.length_cons, List.length_nil] <;> omega)).mono ?_; rintro e w15 ⟨rfl, hW15, hf⟩; have hm := Fr.trans hHeld hf; clear hV; (try replace hF := fun w' h => hF w' (hf.trans h)); replace hW := hW15; clear hf hW15; (try go_simp))
                    refine hKK.out _ _ (by assumption) (fun hHeld => ?_)
                    clear hKK KK
                    try simp only [Act.put, List.setIfInBounds_toArray, List.set_cons_zero, List.set_cons_succ]
                    refine anyH_run (i := 19) (L' := #[true, true, true, true, true, true, true, true, true, true, true, true, true, true, true, true, true, true, true, true]) rfl (by kernel_rfl) (by rfl) (fun KK hKK => ?_)
                    go_simp
                    (refine (WTF_any _ (by decide) b b _ _ [le] _ hW hb hF (by have := HL.out; simp only [List.length_append, leB_length, leF_length, fV_length, List.length_cons, List.length_nil] <;> omega)).mono ?_; rintro e w19 ⟨rfl, hW19, hf⟩; have hm := Fr.trans hHeld hf; (try replace hV := fun w' h => hV w' (hf.trans h)); clear hF; replace hW := hW19; clear hf hW19; (try go_simp))
                    refine hKK.out _ _ (by assumption) (fun hHeld => ?_)
                    clear hKK KK
                    try simp only [Act.put, List.setIfInBounds_toArray, List.set_cons_zero, List.set_cons_succ]
                    refine wpAnyH_done (by kernel_rfl) ?_ _
                    have hW9 := hW; go_wp2_with (fail); go_roundw; (case rel => exact ⟨j + 1, by omega, by go_num, by have := hW9; rw [HS.out, ← List.append_assoc]; simpa [leJt] using this, (HF1.out.trans hHeld)⟩); (case measure => simp [intOf]; omega)
                case' rb91 =>
                  (obtain ⟨m1, m2, hF⟩ := Fr.litF hHeld hW hb [le] #[.int .i64 le] 25 1 (by decide) rfl rfl (by simp); (try simp only [World.size_alloc] at hF); (try replace hV := fun w' h => hV w' ((Fr.lit0 hHeld hW hb (.cells #[.int .i64 le] 25)).trans h)); replace hW := m1; go_simp)
                  refine hKK.out _ _ (by assumption) (fun hHeld => ?_)
                  clear hKK KK
                  try simp only [Act.put, List.setIfInBounds_toArray, List.set_cons_zero, List.set_cons_succ]
                  refine anyH_run (i := 9) (L' := #[true, true, true, true, true, true, true, true, true, true, true, true, true, true, true, false, true, true, true, false]) rfl (by kernel_rfl) (by rfl) (fun KK hKK => ?_)
                  go_simp
                  (refine (WTNum_any _ (by decide) 8 b1 b b _ _ hW hb (by omega) (by omega) (by have := HL.out; simp only [List.length_append, leB_length] <;> omega)).mono ?_; rintro e w9 ⟨rfl, hW9, hf⟩; have hm := Fr.trans hHeld hf; (try replace hV := fun w' h => hV w' (hf.trans h)); (try replace hF := fun w' h => hF w' (hf.trans h)); replace hW := hW9; clear hf hW9; (try go_simp))
                  refine hKK.out _ _ (by assumption) (fun hHeld => ?_)
                  clear hKK KK
                  try simp only [Act.put, List.setIfInBounds_toArray, List.set_cons_zero, List.set_cons_succ]
                  refine anyH_run (i := 15) (L' := #[true, true, true, true, true, true, true, true, true, true, true, true, true, true, true, true, true, true, true, false]) rfl (by kernel_rfl) (by rfl) (fun KK hKK => ?_)
                  go_simp
                  (refine (WTV_any _ (by decide) b b _ _ [(px, py), (vx, vy)] _ hW hb hV (by have := HL.out; simp only [List.length_append, leB_length, List.length_cons, List.length_nil] <;> omega)).mono ?_; rintro e w15 ⟨rfl, hW15, hf⟩; have hm := Fr.trans hHeld hf; clear hV; (try replace hF := fun w' h => hF w' (hf.trans h)); replace hW := hW15; clear hf hW15; (try go_simp))
                  refine hKK.out _ _ (by assumption) (fun hHeld => ?_)
                  clear hKK KK
                  try simp only [Act.put, List.setIfInBounds_toArray, List.set_cons_zero, List.set_cons_succ]
                  refine anyH_run (i := 19) (L' := #[true, true, true, true, true, true, true, true, true, true, true, true, true, true, true, true, true, true, true, true]) rfl (by kernel_rfl) (by rfl) (fun KK hKK => ?_)
                  go_simp
                  (refine (WTF_any _ (by decide) b b _ _ [le] _ hW hb hF (by have := HL.out; simp only [List.length_append, leB_length, leF_length, fV_length, List.length_cons, List.length_nil] <;> omega)).mono ?_; rintro e w19 ⟨rfl, hW19, hf⟩; have hm := Fr.trans hHeld hf; (try replace hV := fun w' h => hV w' (hf.trans h)); clear hF; replace hW := hW19; clear hf hW19; (try go_simp))
                  refine hKK.out _ _ (by assumption) (fun hHeld => ?_)
                  clear hKK KK
                  try simp only [Act.put, List.setIfInBounds_toArray, List.set_cons_zero, List.set_cons_succ]
                  refine wpAnyH_done (by kernel_rfl) ?_ _
                  have hW9 := hW; go_wp2_with (fail); go_roundw; (case rel => exact ⟨j + 1, by omega, by go_num, by have := hW9; rw [HS.out, ← List.append_assoc]; simpa [leJt] using this, (HF1.out.trans hHeld)⟩); (case measure => simp [intOf]; omega)
              case' rb90 =>
                (obtain ⟨m1, m2, hF⟩ := Fr.litF hHeld hW hb [le] #[.int .i64 le] 25 1 (by decide) rfl rfl (by simp); (try simp only [World.size_alloc] at hF); (try replace hV := fun w' h => hV w' ((Fr.lit0 hHeld hW hb (.cells #[.int .i64 le] 25)).trans h)); replace hW := m1; go_simp)
                refine hKK.out _ _ (by assumption) (fun hHeld => ?_)
                clear hKK KK
                try simp only [Act.put, List.setIfInBounds_toArray, List.set_cons_zero, List.set_cons_succ]
                refine anyH_run (i := 6) (L' := #[true, true, true, true, true, true, true, true, true, false, true, true, true, true, true, false, true, true, true, false]) rfl (by kernel_rfl) (by rfl) (fun KK hKK => ?_)
                go_simp
                (refine (WTNum_any _ (by decide) 8 a b b _ _ hW hb (by omega) (by omega) (by have := HL.out; simp only [List.length_append, leB_length] <;> omega)).mono ?_; rintro e w6 ⟨rfl, hW6, hf⟩; have hm := Fr.trans hHeld hf; (try replace hV := fun w' h => hV w' (hf.trans h)); (try replace hF := fun w' h => hF w' (hf.trans h)); replace hW := hW6; clear hf hW6; (try go_simp))
                refine hKK.out _ _ (by assumption) (fun hHeld => ?_)
                clear hKK KK
                try simp only [Act.put, List.setIfInBounds_toArray, List.set_cons_zero, List.set_cons_succ]
                refine anyH_run (i := 9) (L' := #[true, true, true, true, true, true, true, true, true, true, true, true, true, true, true, false, true, true, true, false]) rfl (by kernel_rfl) (by rfl) (fun KK hKK => ?_)
                go_simp
                (refine (WTNum_any _ (by decide) 8 b1 b b _ _ hW hb (by omega) (by omega) (by have := HL.out; simp only [List.length_append, leB_length] <;> omega)).mono ?_; rintro e w9 ⟨rfl, hW9, hf⟩; have hm := Fr.trans hHeld hf; (try replace hV := fun w' h => hV w' (hf.trans h)); (try replace hF := fun w' h => hF w' (hf.trans h)); replace hW := hW9; clear hf hW9; (try go_simp))
                refine hKK.out _ _ (by assumption) (fun hHeld => ?_)
                clear hKK KK
                try simp only [Act.put, List.setIfInBounds_toArray, List.set_cons_zero, List.set_cons_succ]
                refine anyH_run (i := 15) (L' := #[true, true, true, true, true, true, true, true, true, true, true, true, true, true, true, true, true, true, true, false]) rfl (by kernel_rfl) (by rfl) (fun KK hKK => ?_)
                go_simp
                (refine (WTV_any _ (by decide) b b _ _ [(px, py), (vx, vy)] _ hW hb hV (by have := HL.out; simp only [List.length_append, leB_length, List.length_cons, List.length_nil] <;> omega)).mono ?_; rintro e w15 ⟨rfl, hW15, hf⟩; have hm := Fr.trans hHeld hf; clear hV; (try replace hF := fun w' h => hF w' (hf.trans h)); replace hW := hW15; clear hf hW15; (try go_simp))
                refine hKK.out _ _ (by assumption) (fun hHeld => ?_)
                clear hKK KK
                try simp only [Act.put, List.setIfInBounds_toArray, List.set_cons_zero, List.set_cons_succ]
                refine anyH_run (i := 19) (L' := #[true, true, true, true, true, true, true, true, true, true, true, true, true, true, true, true, true, true, true, true]) rfl (by kernel_rfl) (by rfl) (fun KK hKK => ?_)
                go_simp
                (refine (WTF_any _ (by decide) b b _ _ [le] _ hW hb hF (by have := HL.out; simp only [List.length_append, leB_length, leF_length, fV_length, List.length_cons, List.length_nil] <;> omega)).mono ?_; rintro e w19 ⟨rfl, hW19, hf⟩; have hm := Fr.trans hHeld hf; (try replace hV := fun w' h => hV w' (hf.trans h)); clear hF; replace hW := hW19; clear hf hW19; (try go_simp))
                refine hKK.out _ _ (by assumption) (fun hHeld => ?_)
                clear hKK KK
                try simp only [Act.put, List.setIfInBounds_toArray, List.set_cons_zero, List.set_cons_succ]
                refine wpAnyH_done (by kernel_rfl) ?_ _
                have hW9 := hW; go_wp2_with (fail); go_roundw; (case rel => exact ⟨j + 1, by omega, by go_num, by have := hW9; rw [HS.out, ← List.append_assoc]; simpa [leJt] using this, (HF1.out.trans hHeld)⟩); (case measure => simp [intOf]; omega)
            case' rb89 =>
              (obtain ⟨m1, m2, hF⟩ := Fr.litF hHeld hW hb [le] #[.int .i64 le] 25 1 (by decide) rfl rfl (by simp); (try simp only [World.size_alloc] at hF); (try replace hV := fun w' h => hV w' ((Fr.lit0 hHeld hW hb (.cells #[.int .i64 le] 25)).trans h)); replace hW := m1; go_simp)
              refine hKK.out _ _ (by assumption) (fun hHeld => ?_)
              clear hKK KK
              try simp only [Act.put, List.setIfInBounds_toArray, List.set_cons_zero, List.set_cons_succ]
              refine anyH_run (i := 3) (L' := #[true, true, true, true, true, true, false, true, true, false, true, true, true, true, true, false, true, true, true, false]) rfl (by kernel_rfl) (by rfl) (fun KK hKK => ?_)
              go_simp
              (refine (WTNum_any _ (by decide) 8 i b b _ _ hW hb (by omega) (by omega) (by have := HL.out; simp only [List.length_append] <;> omega)).mono ?_; rintro e w3 ⟨rfl, hW3, hf⟩; have hm := Fr.trans hHeld hf; (try replace hV := fun w' h => hV w' (hf.trans h)); (try replace hF := fun w' h => hF w' (hf.trans h)); replace hW := hW3; clear hf hW3; (try go_simp))
              refine hKK.out _ _ (by assumption) (fun hHeld => ?_)
              clear hKK KK
              try simp only [Act.put, List.setIfInBounds_toArray, List.set_cons_zero, List.set_cons_succ]
              refine anyH_run (i := 6) (L' := #[true, true, true, true, true, true, true, true, true, false, true, true, true, true, true, false, true, true, true, false]) rfl (by kernel_rfl) (by rfl) (fun KK hKK => ?_)
              go_simp
              (refine (WTNum_any _ (by decide) 8 a b b _ _ hW hb (by omega) (by omega) (by have := HL.out; simp only [List.length_append, leB_length] <;> omega)).mono ?_; rintro e w6 ⟨rfl, hW6, hf⟩; have hm := Fr.trans hHeld hf; (try replace hV := fun w' h => hV w' (hf.trans h)); (try replace hF := fun w' h => hF w' (hf.trans h)); replace hW := hW6; clear hf hW6; (try go_simp))
              refine hKK.out _ _ (by assumption) (fun hHeld => ?_)
              clear hKK KK
              try simp only [Act.put, List.setIfInBounds_toArray, List.set_cons_zero, List.set_cons_succ]
              refine anyH_run (i := 9) (L' := #[true, true, true, true, true, true, true, true, true, true, true, true, true, true, true, false, true, true, true, false]) rfl (by kernel_rfl) (by rfl) (fun KK hKK => ?_)
              go_simp
              (refine (WTNum_any _ (by decide) 8 b1 b b _ _ hW hb (by omega) (by omega) (by have := HL.out; simp only [List.length_append, leB_length] <;> omega)).mono ?_; rintro e w9 ⟨rfl, hW9, hf⟩; have hm := Fr.trans hHeld hf; (try replace hV := fun w' h => hV w' (hf.trans h)); (try replace hF := fun w' h => hF w' (hf.trans h)); replace hW := hW9; clear hf hW9; (try go_simp))
              refine hKK.out _ _ (by assumption) (fun hHeld => ?_)
              clear hKK KK
              try simp only [Act.put, List.setIfInBounds_toArray, List.set_cons_zero, List.set_cons_succ]
              refine anyH_run (i := 15) (L' := #[true, true, true, true, true, true, true, true, true, true, true, true, true, true, true, true, true, true, true, false]) rfl (by kernel_rfl) (by rfl) (fun KK hKK => ?_)
              go_simp
              (refine (WTV_any _ (by decide) b b _ _ [(px, py), (vx, vy)] _ hW hb hV (by have := HL.out; simp only [List.length_append, leB_length, List.length_cons, List.length_nil] <;> omega)).mono ?_; rintro e w15 ⟨rfl, hW15, hf⟩; have hm := Fr.trans hHeld hf; clear hV; (try replace hF := fun w' h => hF w' (hf.trans h)); replace hW := hW15; clear hf hW15; (try go_simp))
              refine hKK.out _ _ (by assumption) (fun hHeld => ?_)
              clear hKK KK
              try simp only [Act.put, List.setIfInBounds_toArray, List.set_cons_zero, List.set_cons_succ]
              refine anyH_run (i := 19) (L' := #[true, true, true, true, true, true, true, true, true, true, true, true, true, true, true, true, true, true, true, true]) rfl (by kernel_rfl) (by rfl) (fun KK hKK => ?_)
              go_simp
              (refine (WTF_any _ (by decide) b b _ _ [le] _ hW hb hF (by have := HL.out; simp only [List.length_append, leB_length, leF_length, fV_length, List.length_cons, List.length_nil] <;> omega)).mono ?_; rintro e w19 ⟨rfl, hW19, hf⟩; have hm := Fr.trans hHeld hf; (try replace hV := fun w' h => hV w' (hf.trans h)); clear hF; replace hW := hW19; clear hf hW19; (try go_simp))
              refine hKK.out _ _ (by assumption) (fun hHeld => ?_)
              clear hKK KK
              try simp only [Act.put, List.setIfInBounds_toArray, List.set_cons_zero, List.set_cons_succ]
              refine wpAnyH_done (by kernel_rfl) ?_ _
              have hW9 := hW; go_wp2_with (fail); go_roundw; (case rel => exact ⟨j + 1, by omega, by go_num, by have := hW9; rw [HS.out, ← List.append_assoc]; simpa [leJt] using this, (HF1.out.trans hHeld)⟩); (case measure => simp [intOf]; omega)
          case' rc76 =>
            (obtain ⟨m1, m2, hF⟩ := Fr.litF hHeld hW hb [le] #[.int .i64 le] 25 1 (by decide) rfl rfl (by simp); (try simp only [World.size_alloc] at hF); (try replace hV := fun w' h => hV w' ((Fr.lit0 hHeld hW hb (.cells #[.int .i64 le] 25)).trans h)); replace hW := m1; go_simp)
            refine hKK.out _ _ (by assumption) (fun hHeld => ?_)
            clear hKK KK
            try simp only [Act.put, List.setIfInBounds_toArray, List.set_cons_zero, List.set_cons_succ]
            refine anyH_run2 (i := 3) (j := 14) (L1 := #[true, true, true, true, true, true, false, true, true, false, true, true, true, true, false, false, true, true, true, false]) (L2 := #[true, true, true, false, true, true, false, true, true, false, true, true, true, true, true, false, true, true, true, false]) rfl rfl (by kernel_rfl) (by rfl) (by rfl) (fun KK hKK => ?ra93) (fun KK hKK => ?rb93)
            case' ra93 =>
              go_simp
              (refine (WTNum_any _ (by decide) 8 i b b _ _ hW hb (by omega) (by omega) (by have := HL.out; simp only [List.length_append] <;> omega)).mono ?_; rintro e w3 ⟨rfl, hW3, hf⟩; have hm := Fr.trans hHeld hf; (try replace hV := fun w' h => hV w' (hf.trans h)); (try replace hF := fun w' h => hF w' (hf.trans h)); replace hW := hW3; clear hf hW3; (try go_simp))
              refine hKK.out _ _ (by assumption) (fun hHeld => ?_)
              clear hKK KK
              try simp only [Act.put, List.setIfInBounds_toArray, List.set_cons_zero, List.set_cons_succ]
              refine anyH_run2 (i := 6) (j := 14) (L1 := #[true, true, true, true, true, true, true, true, true, false, true, true, true, true, false, false, true, true, true, false]) (L2 := #[true, true, true, true, true, true, false, true, true, false, true, true, true, true, true, false, true, true, true, false]) rfl rfl (by kernel_rfl) (by rfl) (by rfl) (fun KK hKK => ?ra94) (fun KK hKK => ?rb94)
              case' ra94 =>
                go_simp
                (refine (WTNum_any _ (by decide) 8 a b b _ _ hW hb (by omega) (by omega) (by have := HL.out; simp only [List.length_append, leB_length] <;> omega)).mono ?_; rintro e w6 ⟨rfl, hW6, hf⟩; have hm := Fr.trans hHeld hf; (try replace hV := fun w' h => hV w' (hf.trans h)); (try replace hF := fun w' h => hF w' (hf.trans h)); replace hW := hW6; clear hf hW6; (try go_simp))
                refine hKK.out _ _ (by assumption) (fun hHeld => ?_)
                clear hKK KK
                try simp only [Act.put, List.setIfInBounds_toArray, List.set_cons_zero, List.set_cons_succ]
                refine anyH_run2 (i := 9) (j := 14) (L1 := #[true, true, true, true, true, true, true, true, true, true, true, true, true, true, false, false, true, true, true, false]) (L2 := #[true, true, true, true, true, true, true, true, true, false, true, true, true, true, true, false, true, true, true, false]) rfl rfl (by kernel_rfl) (by rfl) (by rfl) (fun KK hKK => ?ra95) (fun KK hKK => ?rb95)
                case' ra95 =>
                  go_simp
                  (refine (WTNum_any _ (by decide) 8 b1 b b _ _ hW hb (by omega) (by omega) (by have := HL.out; simp only [List.length_append, leB_length] <;> omega)).mono ?_; rintro e w9 ⟨rfl, hW9, hf⟩; have hm := Fr.trans hHeld hf; (try replace hV := fun w' h => hV w' (hf.trans h)); (try replace hF := fun w' h => hF w' (hf.trans h)); replace hW := hW9; clear hf hW9; (try go_simp))
                  refine hKK.out _ _ (by assumption) (fun hHeld => ?_)
                  clear hKK KK
                  try simp only [Act.put, List.setIfInBounds_toArray, List.set_cons_zero, List.set_cons_succ]
                  refine anyH_run (i := 14) (L' := #[true, true, true, true, true, true, true, true, true, true, true, true, true, true, true, false, true, true, true, false]) rfl (by kernel_rfl) (by rfl) (fun KK hKK => ?_)
                  (obtain ⟨m1, m2, hV⟩ := Fr.litV hHeld hW hb [(px, py), (vx, vy)] #[.int .i64 px, .int .i64 py, .int .i64 vx, .int .i64 vy] 27 2 (by decide) rfl rfl (by simp); (try simp only [World.size_alloc] at hV); (try replace hF := fun w' h => hF w' ((Fr.lit0 hHeld hW hb (.cells #[.int .i64 px, .int .i64 py, .int .i64 vx, .int .i64 vy] 27)).trans h)); replace hW := m1; go_simp)
                  refine hKK.out _ _ (by assumption) (fun hHeld => ?_)
                  clear hKK KK
                  try simp only [Act.put, List.setIfInBounds_toArray, List.set_cons_zero, List.set_cons_succ]
                  refine anyH_run (i := 15) (L' := #[true, true, true, true, true, true, true, true, true, true, true, true, true, true, true, true, true, true, true, false]) rfl (by kernel_rfl) (by rfl) (fun KK hKK => ?_)
                  go_simp
                  (refine (WTV_any _ (by decide) b b _ _ [(px, py), (vx, vy)] _ hW hb hV (by have := HL.out; simp only [List.length_append, leB_length, List.length_cons, List.length_nil] <;> omega)).mono ?_; rintro e w15 ⟨rfl, hW15, hf⟩; have hm := Fr.trans hHeld hf; clear hV; (try replace hF := fun w' h => hF w' (hf.trans h)); replace hW := hW15; clear hf hW15; (try go_simp))
                  refine hKK.out _ _ (by assumption) (fun hHeld => ?_)
                  clear hKK KK
                  try simp only [Act.put, List.setIfInBounds_toArray, List.set_cons_zero, List.set_cons_succ]
                  refine anyH_run (i := 19) (L' := #[true, true, true, true, true, true, true, true, true, true, true, true, true, true, true, true, true, true, true, true]) rfl (by kernel_rfl) (by rfl) (fun KK hKK => ?_)
                  go_simp
                  (refine (WTF_any _ (by decide) b b _ _ [le] _ hW hb hF (by have := HL.out; simp only [List.length_append, leB_length, leF_length, fV_length, List.length_cons, List.length_nil] <;> omega)).mono ?_; rintro e w19 ⟨rfl, hW19, hf⟩; have hm := Fr.trans hHeld hf; (try replace hV := fun w' h => hV w' (hf.trans h)); clear hF; replace hW := hW19; clear hf hW19; (try go_simp))
                  refine hKK.out _ _ (by assumption) (fun hHeld => ?_)
                  clear hKK KK
                  try simp only [Act.put, List.setIfInBounds_toArray, List.set_cons_zero, List.set_cons_succ]
                  refine wpAnyH_done (by kernel_rfl) ?_ _
                  have hW9 := hW; go_wp2_with (fail); go_roundw; (case rel => exact ⟨j + 1, by omega, by go_num, by have := hW9; rw [HS.out, ← List.append_assoc]; simpa [leJt] using this, (HF1.out.trans hHeld)⟩); (case measure => simp [intOf]; omega)
                case' rb95 =>
                  (obtain ⟨m1, m2, hV⟩ := Fr.litV hHeld hW hb [(px, py), (vx, vy)] #[.int .i64 px, .int .i64 py, .int .i64 vx, .int .i64 vy] 27 2 (by decide) rfl rfl (by simp); (try simp only [World.size_alloc] at hV); (try replace hF := fun w' h => hF w' ((Fr.lit0 hHeld hW hb (.cells #[.int .i64 px, .int .i64 py, .int .i64 vx, .int .i64 vy] 27)).trans h)); replace hW := m1; go_simp)
                  refine hKK.out _ _ (by assumption) (fun hHeld => ?_)
                  clear hKK KK
                  try simp only [Act.put, List.setIfInBounds_toArray, List.set_cons_zero, List.set_cons_succ]
                  refine anyH_run (i := 9) (L' := #[true, true, true, true, true, true, true, true, true, true, true, true, true, true, true, false, true, true, true, false]) rfl (by kernel_rfl) (by rfl) (fun KK hKK => ?_)
                  go_simp
                  (refine (WTNum_any _ (by decide) 8 b1 b b _ _ hW hb (by omega) (by omega) (by have := HL.out; simp only [List.length_append, leB_length] <;> omega)).mono ?_; rintro e w9 ⟨rfl, hW9, hf⟩; have hm := Fr.trans hHeld hf; (try replace hV := fun w' h => hV w' (hf.trans h)); (try replace hF := fun w' h => hF w' (hf.trans h)); replace hW := hW9; clear hf hW9; (try go_simp))
                  refine hKK.out _ _ (by assumption) (fun hHeld => ?_)
                  clear hKK KK
                  try simp only [Act.put, List.setIfInBounds_toArray, List.set_cons_zero, List.set_cons_succ]
                  refine anyH_run (i := 15) (L' := #[true, true, true, true, true, true, true, true, true, true, true, true, true, true, true, true, true, true, true, false]) rfl (by kernel_rfl) (by rfl) (fun KK hKK => ?_)
                  go_simp
                  (refine (WTV_any _ (by decide) b b _ _ [(px, py), (vx, vy)] _ hW hb hV (by have := HL.out; simp only [List.length_append, leB_length, List.length_cons, List.length_nil] <;> omega)).mono ?_; rintro e w15 ⟨rfl, hW15, hf⟩; have hm := Fr.trans hHeld hf; clear hV; (try replace hF := fun w' h => hF w' (hf.trans h)); replace hW := hW15; clear hf hW15; (try go_simp))
                  refine hKK.out _ _ (by assumption) (fun hHeld => ?_)
                  clear hKK KK
                  try simp only [Act.put, List.setIfInBounds_toArray, List.set_cons_zero, List.set_cons_succ]
                  refine anyH_run (i := 19) (L' := #[true, true, true, true, true, true, true, true, true, true, true, true, true, true, true, true, true, true, true, true]) rfl (by kernel_rfl) (by rfl) (fun KK hKK => ?_)
                  go_simp
                  (refine (WTF_any _ (by decide) b b _ _ [le] _ hW hb hF (by have := HL.out; simp only [List.length_append, leB_length, leF_length, fV_length, List.length_cons, List.length_nil] <;> omega)).mono ?_; rintro e w19 ⟨rfl, hW19, hf⟩; have hm := Fr.trans hHeld hf; (try replace hV := fun w' h => hV w' (hf.trans h)); clear hF; replace hW := hW19; clear hf hW19; (try go_simp))
                  refine hKK.out _ _ (by assumption) (fun hHeld => ?_)
                  clear hKK KK
                  try simp only [Act.put, List.setIfInBounds_toArray, List.set_cons_zero, List.set_cons_succ]
                  refine wpAnyH_done (by kernel_rfl) ?_ _
                  have hW9 := hW; go_wp2_with (fail); go_roundw; (case rel => exact ⟨j + 1, by omega, by go_num, by have := hW9; rw [HS.out, ← List.append_assoc]; simpa [leJt] using this, (HF1.out.trans hHeld)⟩); (case measure => simp [intOf]; omega)
              case' rb94 =>
                (obtain ⟨m1, m2, hV⟩ := Fr.litV hHeld hW hb [(px, py), (vx, vy)] #[.int .i64 px, .int .i64 py, .int .i64 vx, .int .i64 vy] 27 2 (by decide) rfl rfl (by simp); (try simp only [World.size_alloc] at hV); (try replace hF := fun w' h => hF w' ((Fr.lit0 hHeld hW hb (.cells #[.int .i64 px, .int .i64 py, .int .i64 vx, .int .i64 vy] 27)).trans h)); replace hW := m1; go_simp)
                refine hKK.out _ _ (by assumption) (fun hHeld => ?_)
                clear hKK KK
                try simp only [Act.put, List.setIfInBounds_toArray, List.set_cons_zero, List.set_cons_succ]
                refine anyH_run (i := 6) (L' := #[true, true, true, true, true, true, true, true, true, false, true, true, true, true, true, false, true, true, true, false]) rfl (by kernel_rfl) (by rfl) (fun KK hKK => ?_)
                go_simp
                (refine (WTNum_any _ (by decide) 8 a b b _ _ hW hb (by omega) (by omega) (by have := HL.out; simp only [List.length_append, leB_length] <;> omega)).mono ?_; rintro e w6 ⟨rfl, hW6, hf⟩; have hm := Fr.trans hHeld hf; (try replace hV := fun w' h => hV w' (hf.trans h)); (try replace hF := fun w' h => hF w' (hf.trans h)); replace hW := hW6; clear hf hW6; (try go_simp))
                refine hKK.out _ _ (by assumption) (fun hHeld => ?_)
                clear hKK KK
                try simp only [Act.put, List.setIfInBounds_toArray, List.set_cons_zero, List.set_cons_succ]
                refine anyH_run (i := 9) (L' := #[true, true, true, true, true, true, true, true, true, true, true, true, true, true, true, false, true, true, true, false]) rfl (by kernel_rfl) (by rfl) (fun KK hKK => ?_)
                go_simp
                (refine (WTNum_any _ (by decide) 8 b1 b b _ _ hW hb (by omega) (by omega) (by have := HL.out; simp only [List.length_append, leB_length] <;> omega)).mono ?_; rintro e w9 ⟨rfl, hW9, hf⟩; have hm := Fr.trans hHeld hf; (try replace hV := fun w' h => hV w' (hf.trans h)); (try replace hF := fun w' h => hF w' (hf.trans h)); replace hW := hW9; clear hf hW9; (try go_simp))
                refine hKK.out _ _ (by assumption) (fun hHeld => ?_)
                clear hKK KK
                try simp only [Act.put, List.setIfInBounds_toArray, List.set_cons_zero, List.set_cons_succ]
                refine anyH_run (i := 15) (L' := #[true, true, true, true, true, true, true, true, true, true, true, true, true, true, true, true, true, true, true, false]) rfl (by kernel_rfl) (by rfl) (fun KK hKK => ?_)
                go_simp
                (refine (WTV_any _ (by decide) b b _ _ [(px, py), (vx, vy)] _ hW hb hV (by have := HL.out; simp only [List.length_append, leB_length, List.length_cons, List.length_nil] <;> omega)).mono ?_; rintro e w15 ⟨rfl, hW15, hf⟩; have hm := Fr.trans hHeld hf; clear hV; (try replace hF := fun w' h => hF w' (hf.trans h)); replace hW := hW15; clear hf hW15; (try go_simp))
                refine hKK.out _ _ (by assumption) (fun hHeld => ?_)
                clear hKK KK
                try simp only [Act.put, List.setIfInBounds_toArray, List.set_cons_zero, List.set_cons_succ]
                refine anyH_run (i := 19) (L' := #[true, true, true, true, true, true, true, true, true, true, true, true, true, true, true, true, true, true, true, true]) rfl (by kernel_rfl) (by rfl) (fun KK hKK => ?_)
                go_simp
                (refine (WTF_any _ (by decide) b b _ _ [le] _ hW hb hF (by have := HL.out; simp only [List.length_append, leB_length, leF_length, fV_length, List.length_cons, List.length_nil] <;> omega)).mono ?_; rintro e w19 ⟨rfl, hW19, hf⟩; have hm := Fr.trans hHeld hf; (try replace hV := fun w' h => hV w' (hf.trans h)); clear hF; replace hW := hW19; clear hf hW19; (try go_simp))
                refine hKK.out _ _ (by assumption) (fun hHeld => ?_)
                clear hKK KK
                try simp only [Act.put, List.setIfInBounds_toArray, List.set_cons_zero, List.set_cons_succ]
                refine wpAnyH_done (by kernel_rfl) ?_ _
                have hW9 := hW; go_wp2_with (fail); go_roundw; (case rel => exact ⟨j + 1, by omega, by go_num, by have := hW9; rw [HS.out, ← List.append_assoc]; simpa [leJt] using this, (HF1.out.trans hHeld)⟩); (case measure => simp [intOf]; omega)
            case' rb93 =>
              (obtain ⟨m1, m2, hV⟩ := Fr.litV hHeld hW hb [(px, py), (vx, vy)] #[.int .i64 px, .int .i64 py, .int .i64 vx, .int .i64 vy] 27 2 (by decide) rfl rfl (by simp); (try simp only [World.size_alloc] at hV); (try replace hF := fun w' h => hF w' ((Fr.lit0 hHeld hW hb (.cells #[.int .i64 px, .int .i64 py, .int .i64 vx, .int .i64 vy] 27)).trans h)); replace hW := m1; go_simp)
              refine hKK.out _ _ (by assumption) (fun hHeld => ?_)
              clear hKK KK
              try simp only [Act.put, List.setIfInBounds_toArray, List.set_cons_zero, List.set_cons_succ]
              refine anyH_run (i := 3) (L' := #[true, true, true, true, true, true, false, true, true, false, true, true, true, true, true, false, true, true, true, false]) rfl (by kernel_rfl) (by rfl) (fun KK hKK => ?_)
              go_simp
              (refine (WTNum_any _ (by decide) 8 i b b _ _ hW hb (by omega) (by omega) (by have := HL.out; simp only [List.length_append] <;> omega)).mono ?_; rintro e w3 ⟨rfl, hW3, hf⟩; have hm := Fr.trans hHeld hf; (try replace hV := fun w' h => hV w' (hf.trans h)); (try replace hF := fun w' h => hF w' (hf.trans h)); replace hW := hW3; clear hf hW3; (try go_simp))
              refine hKK.out _ _ (by assumption) (fun hHeld => ?_)
              clear hKK KK
              try simp only [Act.put, List.setIfInBounds_toArray, List.set_cons_zero, List.set_cons_succ]
              refine anyH_run (i := 6) (L' := #[true, true, true, true, true, true, true, true, true, false, true, true, true, true, true, false, true, true, true, false]) rfl (by kernel_rfl) (by rfl) (fun KK hKK => ?_)
              go_simp
              (refine (WTNum_any _ (by decide) 8 a b b _ _ hW hb (by omega) (by omega) (by have := HL.out; simp only [List.length_append, leB_length] <;> omega)).mono ?_; rintro e w6 ⟨rfl, hW6, hf⟩; have hm := Fr.trans hHeld hf; (try replace hV := fun w' h => hV w' (hf.trans h)); (try replace hF := fun w' h => hF w' (hf.trans h)); replace hW := hW6; clear hf hW6; (try go_simp))
              refine hKK.out _ _ (by assumption) (fun hHeld => ?_)
              clear hKK KK
              try simp only [Act.put, List.setIfInBounds_toArray, List.set_cons_zero, List.set_cons_succ]
              refine anyH_run (i := 9) (L' := #[true, true, true, true, true, true, true, true, true, true, true, true, true, true, true, false, true, true, true, false]) rfl (by kernel_rfl) (by rfl) (fun KK hKK => ?_)
              go_simp
              (refine (WTNum_any _ (by decide) 8 b1 b b _ _ hW hb (by omega) (by omega) (by have := HL.out; simp only [List.length_append, leB_length] <;> omega)).mono ?_; rintro e w9 ⟨rfl, hW9, hf⟩; have hm := Fr.trans hHeld hf; (try replace hV := fun w' h => hV w' (hf.trans h)); (try replace hF := fun w' h => hF w' (hf.trans h)); replace hW := hW9; clear hf hW9; (try go_simp))
              refine hKK.out _ _ (by assumption) (fun hHeld => ?_)
              clear hKK KK
              try simp only [Act.put, List.setIfInBounds_toArray, List.set_cons_zero, List.set_cons_succ]
              refine anyH_run (i := 15) (L' := #[true, true, true, true, true, true, true, true, true, true, true, true, true, true, true, true, true, true, true, false]) rfl (by kernel_rfl) (by rfl) (fun KK hKK => ?_)
              go_simp
              (refine (WTV_any _ (by decide) b b _ _ [(px, py), (vx, vy)] _ hW hb hV (by have := HL.out; simp only [List.length_append, leB_length, List.length_cons, List.length_nil] <;> omega)).mono ?_; rintro e w15 ⟨rfl, hW15, hf⟩; have hm := Fr.trans hHeld hf; clear hV; (try replace hF := fun w' h => hF w' (hf.trans h)); replace hW := hW15; clear hf hW15; (try go_simp))
              refine hKK.out _ _ (by assumption) (fun hHeld => ?_)
              clear hKK KK
              try simp only [Act.put, List.setIfInBounds_toArray, List.set_cons_zero, List.set_cons_succ]
              refine anyH_run (i := 19) (L' := #[true, true, true, true, true, true, true, true, true, true, true, true, true, true, true, true, true, true, true, true]) rfl (by kernel_rfl) (by rfl) (fun KK hKK => ?_)
              go_simp
              (refine (WTF_any _ (by decide) b b _ _ [le] _ hW hb hF (by have := HL.out; simp only [List.length_append, leB_length, leF_length, fV_length, List.length_cons, List.length_nil] <;> omega)).mono ?_; rintro e w19 ⟨rfl, hW19, hf⟩; have hm := Fr.trans hHeld hf; (try replace hV := fun w' h => hV w' (hf.trans h)); clear hF; replace hW := hW19; clear hf hW19; (try go_simp))
              refine hKK.out _ _ (by assumption) (fun hHeld => ?_)
              clear hKK KK
              try simp only [Act.put, List.setIfInBounds_toArray, List.set_cons_zero, List.set_cons_succ]
              refine wpAnyH_done (by kernel_rfl) ?_ _
              have hW9 := hW; go_wp2_with (fail); go_roundw; (case rel => exact ⟨j + 1, by omega, by go_num, by have := hW9; rw [HS.out, ← List.append_assoc]; simpa [leJt] using this, (HF1.out.trans hHeld)⟩); (case measure => simp [intOf]; omega)
        · have hjn : j = js.length := by omega
          subst hjn
          rw [List.take_of_length_le (by simp)] at hW
          obtain ⟨q0, q1, q2, q3, q4, q5, q6, q7⟩ := HXQ.out _ hF0
          have HW := hd hW
          have HF := hd hF0
          clear hW hF0
          go_wp2_with (go_at_call 26; refine (WTNum_any _ (by decide) 4 ks.length b b _ _ HW.out hb (by omega) (by omega) (by have := HN_js.out; simp only [List.length_append]; omega)).mono ?_; rintro e w3 ⟨rfl, hW3, hf3⟩; obtain ⟨q0, q1, q2, q3, q4, q5, q6, q7⟩ := HXQ.out _ (HF.out.trans hf3))
          replace HW := hd (show WrT 80 w3 b b P3 by rw [H3.out]; simpa using hW3)
          replace HF := hd (HF.out.trans hf3)
          clear hW3 hf3 hlt hj
          go_loopw [9, 99] (fun _ i wr => ∃ k : Nat, k ≤ ks.length ∧ i = .int .i64 k ∧ WrT 80 wr b b (P3 ++ (ks.take k).flatMap leCt) ∧ Fr b b w0 wr)
            (fun _ i _ => ks.length - (intOf i).toNat)
          case atStart => exact ⟨0, by omega, rfl, by simpa using HW.out, HF.out⟩
          case round =>
            clear HW HF
            obtain ⟨j, hj, rfl, hW, hF0⟩ := hrel
            by_cases hlt : j < ks.length
            · obtain ⟨gb, off, hao, hgb⟩ := HAK.out (by omega)
              subst hao
              have HS := hd (fm_snoc leCt ks j (by simpa using hlt))
              have HL := hd (Nat.le_trans (Nat.add_le_add_left (fm_le leCt ks j) P3.length) (HN_ks).out)
              have C := fun m hm => (hF0.below.cell (p := ⟨gb, off + j * 5 + m, none⟩) (show gb < b by have := HB.out; omega)).trans ((HB0.out.cell (p := ⟨gb, off + j * 5 + m, none⟩) (show gb < xb by have := HXB.out; omega)).trans (Rd.cellAt cCt_len HRC.out j hlt m hm))
              have q0 := C 0 (by decide)
              have q1 := C 1 (by decide)
              have q2 := C 2 (by decide)
              have q3 := C 3 (by decide)
              have q4 := C 4 (by decide)
              clear C
              (try simp only [List.getElem_map] at HS)
              generalize ks[j] = x at *
              obtain ⟨a, b1, ky, nn, tt⟩ := x
              rw [Nat.add_zero] at q0
              simp only [cCt, List.getElem_cons_zero, List.getElem_cons_succ] at q0 q1 q2 q3 q4
              have hcb := (Chg.refl [] wr).alloc (.cells #[.int .i64 a, .int .i64 b1, .int .i64 ky, .int .i64 nn, .int .i64 tt] 70)
              have hkb_HQ := Blk.new wr #[.int .i64 a, .int .i64 b1, .int .i64 ky, .int .i64 nn, .int .i64 tt] 70
              have hf1 := hF0.trans (Fr.chg (base := b) (b := b) hcb (by have := hW.lt; omega))
              have hW1 := hW.k hcb
              have hbn_HQ : b ≠ wr.heap.size := by have := hW.lt; omega
              have hsz : (wr.alloc (.cells #[.int .i64 a, .int .i64 b1, .int .i64 ky, .int .i64 nn, .int .i64 tt] 70)).heap.size = wr.heap.size + 1 := by simp
              have hbb : b ≤ wr.heap.size := by have := hW.lt; omega
              clear hW hF0 hcb
              go_upto_region 20 with (fail)
              clear q0 q1 q2 q3 q4
              generalize wr.alloc (.cells #[.int .i64 a, .int .i64 b1, .int .i64 ky, .int .i64 nn, .int .i64 tt] 70) = w1 at *
              generalize wr.heap.size = bk at *
              have HQ : Hd (∀ wx, Fr b b w1 wx → wx.cell? ⟨bk, 0, none⟩ = some (.int .i64 a) ∧ wx.cell? ⟨bk, 1, none⟩ = some (.int .i64 b1) ∧ wx.cell? ⟨bk, 2, none⟩ = some (.int .i64 ky) ∧ wx.cell? ⟨bk, 3, none⟩ = some (.int .i64 nn) ∧ wx.cell? ⟨bk, 4, none⟩ = some (.int .i64 tt)) := hd fun wx hx => by
                have := hx.kp _ _ _ hkb_HQ (by decide) (fun e => hbn_HQ e.symm)
                exact ⟨this.cell 0, this.cell 1, this.cell 2, this.cell 3, this.cell 4⟩
              have HF1 := hd hf1
              have HB1 : Hd (b ≤ w1.heap.size) := hd (by omega)
              have hW := hW1.k (Chg.refl [] w1).drew
              clear hkb_HQ hbn_HQ hW1 hf1 hsz hgb hbb
              refine anyH_start (n := 16) (L := #[false, false, false, false, false, false, false, false, false, false, false, false, false, false, false, false]) (by kernel_rfl) (by kernel_rfl) (S := (fun wx => Fr b b w1 wx)) (Fr.chg (Chg.refl _ _).drew HB1.out) (fun hHeld => ?_)
              generalize w1.drew = w2 at *
              refine anyH_take (i := 0) (d := 103) (L' := #[true, false, false, false, false, false, false, false, false, false, false, false, false, false, false, false]) (v := ?v211) rfl rfl (by kernel_rfl) (fun _ _ _ h => h) (by rfl) ?hy211 (by assumption) ?rest211
              case hy211 => (intro wx hSw; (try dsimp only at hSw); (obtain ⟨q0, q1, q2, q3, q4⟩ := HQ.out _ hSw); go_simp; (try with_reducible rfl))
              simp only [Act.put, List.setIfInBounds_toArray, List.set_cons_zero, List.set_cons_succ]
              refine anyH_take (i := 1) (d := 104) (L' := #[true, true, false, false, false, false, false, false, false, false, false, false, false, false, false, false]) (v := ?v212) rfl rfl (by kernel_rfl) (fun _ _ _ h => h) (by rfl) ?hy212 (by assumption) ?rest212
              case hy212 => (intro wx hSw; (try dsimp only at hSw); (obtain ⟨q0, q1, q2, q3, q4⟩ := HQ.out _ hSw); go_simp; (try with_reducible rfl))
              simp only [Act.put, List.setIfInBounds_toArray, List.set_cons_zero, List.set_cons_succ]
              refine anyH_take (i := 2) (d := 105) (L' := #[true, true, true, false, false, false, false, false, false, false, false, false, false, false, false, false]) (v := ?v213) rfl rfl (by kernel_rfl) (fun _ _ _ h => h) (by rfl) ?hy213 (by assumption) ?rest213
              case hy213 => (intro wx hSw; (try dsimp only at hSw); (obtain ⟨q0, q1, q2, q3, q4⟩ := HQ.out _ hSw); go_simp; (try with_reducible rfl))
              simp only [Act.put, List.setIfInBounds_toArray, List.set_cons_zero, List.set_cons_succ]
              refine anyH_take (i := 4) (d := 107) (L' := #[true, true, true, false, true, false, false, false, false, false, false, false, false, false, false, false]) (v := ?v214) rfl rfl (by kernel_rfl) (fun _ _ _ h => h) (by rfl) ?hy214 (by assumption) ?rest214
              case hy214 => (intro wx hSw; (try dsimp only at hSw); (obtain ⟨q0, q1, q2, q3, q4⟩ := HQ.out _ hSw); go_simp; (try with_reducible rfl))
              simp only [Act.put, List.setIfInBounds_toArray, List.set_cons_zero, List.set_cons_succ]
              refine anyH_take (i := 5) (d := 108) (L' := #[true, true, true, false, true, true, false, false, false, false, false, false, false, false, false, false]) (v := ?v215) rfl rfl (by kernel_rfl) (fun _ _ _ h => h) (by rfl) ?hy215 (by assumption) ?rest215
              case hy215 => (intro wx hSw; (try dsimp only at hSw); (obtain ⟨q0, q1, q2, q3, q4⟩ := HQ.out _ hSw); go_simp; (try with_reducible rfl))
              simp only [Act.put, List.setIfInBounds_toArray, List.set_cons_zero, List.set_cons_succ]
              refine anyH_take (i := 7) (d := 110) (L' := #[true, true, true, false, true, true, false, true, false, false, false, false, false, false, false, false]) (v := ?v216) rfl rfl (by kernel_rfl) (fun _ _ _ h => h) (by rfl) ?hy216 (by assumption) ?rest216
              case hy216 => (intro wx hSw; (try dsimp only at hSw); (obtain ⟨q0, q1, q2, q3, q4⟩ := HQ.out _ hSw); go_simp; (try with_reducible rfl))
              simp only [Act.put, List.setIfInBounds_toArray, List.set_cons_zero, List.set_cons_succ]
              refine anyH_take (i := 8) (d := 111) (L' := #[true, true, true, false, true, true, false, true, true, false, false, false, false, false, false, false]) (v := ?v217) rfl rfl (by kernel_rfl) (fun _ _ _ h => h) (by rfl) ?hy217 (by assumption) ?rest217
              case hy217 => (intro wx hSw; (try dsimp only at hSw); (obtain ⟨q0, q1, q2, q3, q4⟩ := HQ.out _ hSw); go_simp; (try with_reducible rfl))
              simp only [Act.put, List.setIfInBounds_toArray, List.set_cons_zero, List.set_cons_succ]
              refine anyH_take (i := 10) (d := 113) (L' := #[true, true, true, false, true, true, false, true, true, false, true, false, false, false, false, false]) (v := ?v218) rfl rfl (by kernel_rfl) (fun _ _ _ h => h) (by rfl) ?hy218 (by assumption) ?rest218
              case hy218 => (intro wx hSw; (try dsimp only at hSw); (obtain ⟨q0, q1, q2, q3, q4⟩ := HQ.out _ hSw); go_simp; (try with_reducible rfl))
              simp only [Act.put, List.setIfInBounds_toArray, List.set_cons_zero, List.set_cons_succ]
              refine anyH_take (i := 11) (d := 114) (L' := #[true, true, true, false, true, true, false, true, true, false, true, true, false, false, false, false]) (v := ?v219) rfl rfl (by kernel_rfl) (fun _ _ _ h => h) (by rfl) ?hy219 (by assumption) ?rest219
              case hy219 => (intro wx hSw; (try dsimp only at hSw); (obtain ⟨q0, q1, q2, q3, q4⟩ := HQ.out _ hSw); go_simp; (try with_reducible rfl))
              simp only [Act.put, List.setIfInBounds_toArray, List.set_cons_zero, List.set_cons_succ]
              refine anyH_take (i := 12) (d := 115) (L' := #[true, true, true, false, true, true, false, true, true, false, true, true, true, false, false, false]) (v := ?v220) rfl rfl (by kernel_rfl) (fun _ _ _ h => h) (by rfl) ?hy220 (by assumption) ?rest220
              case hy220 => (intro wx hSw; (try dsimp only at hSw); (obtain ⟨q0, q1, q2, q3, q4⟩ := HQ.out _ hSw); go_simp; (try with_reducible rfl))
              simp only [Act.put, List.setIfInBounds_toArray, List.set_cons_zero, List.set_cons_succ]
              refine anyH_take (i := 13) (d := 116) (L' := #[true, true, true, false, true, true, false, true, true, false, true, true, true, true, false, false]) (v := ?v221) rfl rfl (by kernel_rfl) (fun _ _ _ h => h) (by rfl) ?hy221 (by assumption) ?rest221
              case hy221 => (intro wx hSw; (try dsimp only at hSw); (obtain ⟨q0, q1, q2, q3, q4⟩ := HQ.out _ hSw); go_simp; (try with_reducible rfl))
              simp only [Act.put, List.setIfInBounds_toArray, List.set_cons_zero, List.set_cons_succ]
              refine anyH_run2 (i := 3) (j := 14) (L1 := #[true, true, true, true, true, true, false, true, true, false, true, true, true, true, false, false]) (L2 := #[true, true, true, false, true, true, false, true, true, false, true, true, true, true, true, false]) rfl rfl (by kernel_rfl) (by rfl) (by rfl) (fun KK hKK => ?ra206) (fun KK hKK => ?rb206)
              case' ra206 =>
                go_simp
                (refine (WTNum_any _ (by decide) 8 a b b _ _ hW hb (by omega) (by omega) (by have := HL.out; simp only [List.length_append] <;> omega)).mono ?_; rintro e w3 ⟨rfl, hW3, hf⟩; have hm := Fr.trans hHeld hf; (try replace hV := fun w' h => hV w' (hf.trans h)); (try replace hF := fun w' h => hF w' (hf.trans h)); replace hW := hW3; clear hf hW3; (try go_simp))
                refine hKK.out _ _ (by assumption) (fun hHeld => ?_)
                clear hKK KK
                try simp only [Act.put, List.setIfInBounds_toArray, List.set_cons_zero, List.set_cons_succ]
                refine anyH_run2 (i := 6) (j := 14) (L1 := #[true, true, true, true, true, true, true, true, true, false, true, true, true, true, false, false]) (L2 := #[true, true, true, true, true, true, false, true, true, false, true, true, true, true, true, false]) rfl rfl (by kernel_rfl) (by rfl) (by rfl) (fun KK hKK => ?ra207) (fun KK hKK => ?rb207)
                case' ra207 =>
                  go_simp
                  (refine (WTNum_any _ (by decide) 8 b1 b b _ _ hW hb (by omega) (by omega) (by have := HL.out; simp only [List.length_append, leB_length] <;> omega)).mono ?_; rintro e w6 ⟨rfl, hW6, hf⟩; have hm := Fr.trans hHeld hf; (try replace hV := fun w' h => hV w' (hf.trans h)); (try replace hF := fun w' h => hF w' (hf.trans h)); replace hW := hW6; clear hf hW6; (try go_simp))
                  refine hKK.out _ _ (by assumption) (fun hHeld => ?_)
                  clear hKK KK
                  try simp only [Act.put, List.setIfInBounds_toArray, List.set_cons_zero, List.set_cons_succ]
                  refine anyH_run2 (i := 9) (j := 14) (L1 := #[true, true, true, true, true, true, true, true, true, true, true, true, true, true, false, false]) (L2 := #[true, true, true, true, true, true, true, true, true, false, true, true, true, true, true, false]) rfl rfl (by kernel_rfl) (by rfl) (by rfl) (fun KK hKK => ?ra208) (fun KK hKK => ?rb208)
                  case' ra208 =>
                    go_simp
                    (refine (WTNum_any _ (by decide) 8 ky b b _ _ hW hb (by omega) (by omega) (by have := HL.out; simp only [List.length_append, leB_length] <;> omega)).mono ?_; rintro e w9 ⟨rfl, hW9, hf⟩; have hm := Fr.trans hHeld hf; (try replace hV := fun w' h => hV w' (hf.trans h)); (try replace hF := fun w' h => hF w' (hf.trans h)); replace hW := hW9; clear hf hW9; (try go_simp))
                    refine hKK.out _ _ (by assumption) (fun hHeld => ?_)
                    clear hKK KK
                    try simp only [Act.put, List.setIfInBounds_toArray, List.set_cons_zero, List.set_cons_succ]
                    refine anyH_run (i := 14) (L' := #[true, true, true, true, true, true, true, true, true, true, true, true, true, true, true, false]) rfl (by kernel_rfl) (by rfl) (fun KK hKK => ?_)
                    (obtain ⟨m1, m2, hF⟩ := Fr.litF hHeld hW hb [nn, tt] #[.int .i64 nn, .int .i64 tt] 25 2 (by decide) rfl rfl (by simp); (try simp only [World.size_alloc] at hF); (try replace hV := fun w' h => hV w' ((Fr.lit0 hHeld hW hb (.cells #[.int .i64 nn, .int .i64 tt] 25)).trans h)); replace hW := m1; go_simp)
                    refine hKK.out _ _ (by assumption) (fun hHeld => ?_)
                    clear hKK KK
                    try simp only [Act.put, List.setIfInBounds_toArray, List.set_cons_zero, List.set_cons_succ]
                    refine anyH_run (i := 15) (L' := #[true, true, true, true, true, true, true, true, true, true, true, true, true, true, true, true]) rfl (by kernel_rfl) (by rfl) (fun KK hKK => ?_)
                    go_simp
                    (refine (WTF_any _ (by decide) b b _ _ [nn, tt] _ hW hb hF (by have := HL.out; simp only [List.length_append, leB_length, List.length_cons, List.length_nil] <;> omega)).mono ?_; rintro e w15 ⟨rfl, hW15, hf⟩; have hm := Fr.trans hHeld hf; (try replace hV := fun w' h => hV w' (hf.trans h)); clear hF; replace hW := hW15; clear hf hW15; (try go_simp))
                    refine hKK.out _ _ (by assumption) (fun hHeld => ?_)
                    clear hKK KK
                    try simp only [Act.put, List.setIfInBounds_toArray, List.set_cons_zero, List.set_cons_succ]
                    refine wpAnyH_done (by kernel_rfl) ?_ _
                    have hW9 := hW; go_wp2_with (fail); go_roundw; (case rel => exact ⟨j + 1, by omega, by go_num, by have := hW9; rw [HS.out, ← List.append_assoc]; simpa [leCt] using this, (HF1.out.trans hHeld)⟩); (case measure => simp [intOf]; omega)
                  case' rb208 =>
                    (obtain ⟨m1, m2, hF⟩ := Fr.litF hHeld hW hb [nn, tt] #[.int .i64 nn, .int .i64 tt] 25 2 (by decide) rfl rfl (by simp); (try simp only [World.size_alloc] at hF); (try replace hV := fun w' h => hV w' ((Fr.lit0 hHeld hW hb (.cells #[.int .i64 nn, .int .i64 tt] 25)).trans h)); replace hW := m1; go_simp)
                    refine hKK.out _ _ (by assumption) (fun hHeld => ?_)
                    clear hKK KK
                    try simp only [Act.put, List.setIfInBounds_toArray, List.set_cons_zero, List.set_cons_succ]
                    refine anyH_run (i := 9) (L' := #[true, true, true, true, true, true, true, true, true, true, true, true, true, true, true, false]) rfl (by kernel_rfl) (by rfl) (fun KK hKK => ?_)
                    go_simp
                    (refine (WTNum_any _ (by decide) 8 ky b b _ _ hW hb (by omega) (by omega) (by have := HL.out; simp only [List.length_append, leB_length] <;> omega)).mono ?_; rintro e w9 ⟨rfl, hW9, hf⟩; have hm := Fr.trans hHeld hf; (try replace hV := fun w' h => hV w' (hf.trans h)); (try replace hF := fun w' h => hF w' (hf.trans h)); replace hW := hW9; clear hf hW9; (try go_simp))
                    refine hKK.out _ _ (by assumption) (fun hHeld => ?_)
                    clear hKK KK
                    try simp only [Act.put, List.setIfInBounds_toArray, List.set_cons_zero, List.set_cons_succ]
                    refine anyH_run (i := 15) (L' := #[true, true, true, true, true, true, true, true, true, true, true, true, true, true, true, true]) rfl (by kernel_rfl) (by rfl) (fun KK hKK => ?_)
                    go_simp
                    (refine (WTF_any _ (by decide) b b _ _ [nn, tt] _ hW hb hF (by have := HL.out; simp only [List.length_append, leB_length, List.length_cons, List.length_nil] <;> omega)).mono ?_; rintro e w15 ⟨rfl, hW15, hf⟩; have hm := Fr.trans hHeld hf; (try replace hV := fun w' h => hV w' (hf.trans h)); clear hF; replace hW := hW15; clear hf hW15; (try go_simp))
                    refine hKK.out _ _ (by assumption) (fun hHeld => ?_)
                    clear hKK KK
                    try simp only [Act.put, List.setIfInBounds_toArray, List.set_cons_zero, List.set_cons_succ]
                    refine wpAnyH_done (by kernel_rfl) ?_ _
                    have hW9 := hW; go_wp2_with (fail); go_roundw; (case rel => exact ⟨j + 1, by omega, by go_num, by have := hW9; rw [HS.out, ← List.append_assoc]; simpa [leCt] using this, (HF1.out.trans hHeld)⟩); (case measure => simp [intOf]; omega)
                case' rb207 =>
                  (obtain ⟨m1, m2, hF⟩ := Fr.litF hHeld hW hb [nn, tt] #[.int .i64 nn, .int .i64 tt] 25 2 (by decide) rfl rfl (by simp); (try simp only [World.size_alloc] at hF); (try replace hV := fun w' h => hV w' ((Fr.lit0 hHeld hW hb (.cells #[.int .i64 nn, .int .i64 tt] 25)).trans h)); replace hW := m1; go_simp)
                  refine hKK.out _ _ (by assumption) (fun hHeld => ?_)
                  clear hKK KK
                  try simp only [Act.put, List.setIfInBounds_toArray, List.set_cons_zero, List.set_cons_succ]
                  refine anyH_run (i := 6) (L' := #[true, true, true, true, true, true, true, true, true, false, true, true, true, true, true, false]) rfl (by kernel_rfl) (by rfl) (fun KK hKK => ?_)
                  go_simp
                  (refine (WTNum_any _ (by decide) 8 b1 b b _ _ hW hb (by omega) (by omega) (by have := HL.out; simp only [List.length_append, leB_length] <;> omega)).mono ?_; rintro e w6 ⟨rfl, hW6, hf⟩; have hm := Fr.trans hHeld hf; (try replace hV := fun w' h => hV w' (hf.trans h)); (try replace hF := fun w' h => hF w' (hf.trans h)); replace hW := hW6; clear hf hW6; (try go_simp))
                  refine hKK.out _ _ (by assumption) (fun hHeld => ?_)
                  clear hKK KK
                  try simp only [Act.put, List.setIfInBounds_toArray, List.set_cons_zero, List.set_cons_succ]
                  refine anyH_run (i := 9) (L' := #[true, true, true, true, true, true, true, true, true, true, true, true, true, true, true, false]) rfl (by kernel_rfl) (by rfl) (fun KK hKK => ?_)
                  go_simp
                  (refine (WTNum_any _ (by decide) 8 ky b b _ _ hW hb (by omega) (by omega) (by have := HL.out; simp only [List.length_append, leB_length] <;> omega)).mono ?_; rintro e w9 ⟨rfl, hW9, hf⟩; have hm := Fr.trans hHeld hf; (try replace hV := fun w' h => hV w' (hf.trans h)); (try replace hF := fun w' h => hF w' (hf.trans h)); replace hW := hW9; clear hf hW9; (try go_simp))
                  refine hKK.out _ _ (by assumption) (fun hHeld => ?_)
                  clear hKK KK
                  try simp only [Act.put, List.setIfInBounds_toArray, List.set_cons_zero, List.set_cons_succ]
                  refine anyH_run (i := 15) (L' := #[true, true, true, true, true, true, true, true, true, true, true, true, true, true, true, true]) rfl (by kernel_rfl) (by rfl) (fun KK hKK => ?_)
                  go_simp
                  (refine (WTF_any _ (by decide) b b _ _ [nn, tt] _ hW hb hF (by have := HL.out; simp only [List.length_append, leB_length, List.length_cons, List.length_nil] <;> omega)).mono ?_; rintro e w15 ⟨rfl, hW15, hf⟩; have hm := Fr.trans hHeld hf; (try replace hV := fun w' h => hV w' (hf.trans h)); clear hF; replace hW := hW15; clear hf hW15; (try go_simp))
                  refine hKK.out _ _ (by assumption) (fun hHeld => ?_)
                  clear hKK KK
                  try simp only [Act.put, List.setIfInBounds_toArray, List.set_cons_zero, List.set_cons_succ]
                  refine wpAnyH_done (by kernel_rfl) ?_ _
                  have hW9 := hW; go_wp2_with (fail); go_roundw; (case rel => exact ⟨j + 1, by omega, by go_num, by have := hW9; rw [HS.out, ← List.append_assoc]; simpa [leCt] using this, (HF1.out.trans hHeld)⟩); (case measure => simp [intOf]; omega)
              case' rb206 =>
                (obtain ⟨m1, m2, hF⟩ := Fr.litF hHeld hW hb [nn, tt] #[.int .i64 nn, .int .i64 tt] 25 2 (by decide) rfl rfl (by simp); (try simp only [World.size_alloc] at hF); (try replace hV := fun w' h => hV w' ((Fr.lit0 hHeld hW hb (.cells #[.int .i64 nn, .int .i64 tt] 25)).trans h)); replace hW := m1; go_simp)
                refine hKK.out _ _ (by assumption) (fun hHeld => ?_)
                clear hKK KK
                try simp only [Act.put, List.setIfInBounds_toArray, List.set_cons_zero, List.set_cons_succ]
                refine anyH_run (i := 3) (L' := #[true, true, true, true, true, true, false, true, true, false, true, true, true, true, true, false]) rfl (by kernel_rfl) (by rfl) (fun KK hKK => ?_)
                go_simp
                (refine (WTNum_any _ (by decide) 8 a b b _ _ hW hb (by omega) (by omega) (by have := HL.out; simp only [List.length_append] <;> omega)).mono ?_; rintro e w3 ⟨rfl, hW3, hf⟩; have hm := Fr.trans hHeld hf; (try replace hV := fun w' h => hV w' (hf.trans h)); (try replace hF := fun w' h => hF w' (hf.trans h)); replace hW := hW3; clear hf hW3; (try go_simp))
                refine hKK.out _ _ (by assumption) (fun hHeld => ?_)
                clear hKK KK
                try simp only [Act.put, List.setIfInBounds_toArray, List.set_cons_zero, List.set_cons_succ]
                refine anyH_run (i := 6) (L' := #[true, true, true, true, true, true, true, true, true, false, true, true, true, true, true, false]) rfl (by kernel_rfl) (by rfl) (fun KK hKK => ?_)
                go_simp
                (refine (WTNum_any _ (by decide) 8 b1 b b _ _ hW hb (by omega) (by omega) (by have := HL.out; simp only [List.length_append, leB_length] <;> omega)).mono ?_; rintro e w6 ⟨rfl, hW6, hf⟩; have hm := Fr.trans hHeld hf; (try replace hV := fun w' h => hV w' (hf.trans h)); (try replace hF := fun w' h => hF w' (hf.trans h)); replace hW := hW6; clear hf hW6; (try go_simp))
                refine hKK.out _ _ (by assumption) (fun hHeld => ?_)
                clear hKK KK
                try simp only [Act.put, List.setIfInBounds_toArray, List.set_cons_zero, List.set_cons_succ]
                refine anyH_run (i := 9) (L' := #[true, true, true, true, true, true, true, true, true, true, true, true, true, true, true, false]) rfl (by kernel_rfl) (by rfl) (fun KK hKK => ?_)
                go_simp
                (refine (WTNum_any _ (by decide) 8 ky b b _ _ hW hb (by omega) (by omega) (by have := HL.out; simp only [List.length_append, leB_length] <;> omega)).mono ?_; rintro e w9 ⟨rfl, hW9, hf⟩; have hm := Fr.trans hHeld hf; (try replace hV := fun w' h => hV w' (hf.trans h)); (try replace hF := fun w' h => hF w' (hf.trans h)); replace hW := hW9; clear hf hW9; (try go_simp))
                refine hKK.out _ _ (by assumption) (fun hHeld => ?_)
                clear hKK KK
                try simp only [Act.put, List.setIfInBounds_toArray, List.set_cons_zero, List.set_cons_succ]
                refine anyH_run (i := 15) (L' := #[true, true, true, true, true, true, true, true, true, true, true, true, true, true, true, true]) rfl (by kernel_rfl) (by rfl) (fun KK hKK => ?_)
                go_simp
                (refine (WTF_any _ (by decide) b b _ _ [nn, tt] _ hW hb hF (by have := HL.out; simp only [List.length_append, leB_length, List.length_cons, List.length_nil] <;> omega)).mono ?_; rintro e w15 ⟨rfl, hW15, hf⟩; have hm := Fr.trans hHeld hf; (try replace hV := fun w' h => hV w' (hf.trans h)); clear hF; replace hW := hW15; clear hf hW15; (try go_simp))
                refine hKK.out _ _ (by assumption) (fun hHeld => ?_)
                clear hKK KK
                try simp only [Act.put, List.setIfInBounds_toArray, List.set_cons_zero, List.set_cons_succ]
                refine wpAnyH_done (by kernel_rfl) ?_ _
                have hW9 := hW; go_wp2_with (fail); go_roundw; (case rel => exact ⟨j + 1, by omega, by go_num, by have := hW9; rw [HS.out, ← List.append_assoc]; simpa [leCt] using this, (HF1.out.trans hHeld)⟩); (case measure => simp [intOf]; omega)
            · have hjn : j = ks.length := by omega
              subst hjn
              rw [List.take_of_length_le (by simp), ← HLL.out] at hW
              go_wp2_with (go_at_call 30; refine (WTBytes_any _ b b _ _ hW HLN.out).mono ?_; rintro e w2 ⟨ao2, c2, rfl, h2, h3⟩)
              go_ret
              have hbw : b ≤ wr.heap.size := Nat.le_of_lt hW.lt
              exact ⟨ao2, c2, rfl, h2.mono (by have := HB.out; omega), Chg.ofBelow ((HXB.out ▸ HB0.out).trans ((hF0.below.trans (h3.below hbw (by simp))).mono HB.out))⟩
end Go.Proofs.YtpadflhffiiglaaGreat
