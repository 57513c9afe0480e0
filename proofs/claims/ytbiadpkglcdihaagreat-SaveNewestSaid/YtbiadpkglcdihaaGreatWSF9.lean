/- Words and walks that SF rests on: WorldW. -/
import Derived.Test.YtbiadpkglcdihaaGreatWSF5
/- codec.World. -/
namespace Go.Proofs.YtbiadpkglcdihaaGreat
open Go.RowKit

set_option maxRecDepth 100000 in
set_option maxHeartbeats 16000000 in
theorem World_any (w : World) (x : Value) (W : Wld) (hx : WlS w x W) (hP : ∀ b ∈ W.bodies, b.shape.p.length ≤ 4096) (hN : (leW W).length ≤ 140737488000000) :
    Calls Tryz.prog 25 #[x] w fun e w' => ∃ ao c, e = .returned (.slice ao (leW W).length c) ∧ OwB w' w.heap.size (.slice ao (leW W).length c) (leW W) ∧ Chg [] w w' := by
  obtain ⟨LL, hLL⟩ : ∃ LL, LL = leW W := ⟨_, rfl⟩
  rw [← hLL]
  have hN3 : (leW3 W ++ W.contacts.flatMap leCt).length ≤ 140737488000000 := hN
  have hN2 : (leW2 W ++ W.joints.flatMap leJt).length ≤ 140737488000000 := by
    unfold leW3 at hN3; simp only [List.length_append] at hN3 ⊢; omega
  have hN1 : (leW1 W ++ W.bodies.flatMap leBd).length ≤ 140737488000000 := by
    unfold leW2 at hN2; simp only [List.length_append] at hN2 ⊢; omega
  have HLN : Hd (LL.length ≤ 140737488355328) := hd (by rw [hLL]; omega)
  obtain ⟨bv, jv, kv, L, rfl, hx⟩ := hx
  obtain ⟨tk, nb, nj, ⟨gx, gy⟩, bs, js, ks⟩ := W
  have hlb := hx.l
  simp only at hlb
  subst hlb
  obtain ⟨ab, cb, rfl, hmb, hab⟩ := Rd.form (by decide) hx.b.rd
  obtain ⟨aj, cj, rfl, hmj, haj⟩ := Rd.form (by decide) hx.j
  obtain ⟨ak, ck, rfl, hmk, hak⟩ := Rd.form (by decide) hx.c
  simp only at haj hak hmj hmk
  obtain ⟨P0, hP0⟩ : ∃ P0, P0 = leW0 ⟨tk, nb, nj, (gx, gy), L.map (·.1), js, ks⟩ := ⟨_, rfl⟩
  obtain ⟨P1, hP1⟩ : ∃ P1, P1 = leW1 ⟨tk, nb, nj, (gx, gy), L.map (·.1), js, ks⟩ := ⟨_, rfl⟩
  obtain ⟨P2, hP2⟩ : ∃ P2, P2 = leW2 ⟨tk, nb, nj, (gx, gy), L.map (·.1), js, ks⟩ := ⟨_, rfl⟩
  obtain ⟨P3, hP3⟩ : ∃ P3, P3 = leW3 ⟨tk, nb, nj, (gx, gy), L.map (·.1), js, ks⟩ := ⟨_, rfl⟩
  simp only [← hP1, ← hP2, ← hP3, List.length_append] at hN1 hN2 hN3
  have HN_L := hd hN1
  have HN_js := hd hN2
  have HN_ks := hd hN3
  have E0 : P0 = leB 8 tk ++ leB 8 nb ++ leB 8 nj ++ leF (fV [(gx, gy)]) := hP0
  have E1 : P1 = P0 ++ leB 2 L.length := by rw [hP1, hP0]; simp [leW1]
  have E2 : P2 = P1 ++ (L.map (·.1)).flatMap leBd ++ leB 2 js.length := by rw [hP2, hP1]; rfl
  have E3 : P3 = P2 ++ js.flatMap leJt ++ leB 4 ks.length := by rw [hP3, hP2]; rfl
  have EL : LL = P3 ++ ks.flatMap leCt := by rw [hLL, hP3]; rfl
  have H0 := hd E0
  have H1 := hd E1
  have H2 := hd E2
  have H3 := hd E3
  have HLL := hd EL
  have HX := hd hx
  have HAB := hd hab
  have HRB : Hd (Rd w 11 (.slice ab L.length cb) L.length (L.flatMap cBV)) := hd hx.b.rd
  have HRJ : Hd (Rd w 8 (.slice aj js.length cj) js.length (js.flatMap cJt)) := hd hx.j
  have HRC : Hd (Rd w 5 (.slice ak ks.length ck) ks.length (ks.flatMap cCt)) := hd hx.c
  have HP : Hd (∀ x ∈ L, x.1.shape.p.length ≤ 4096) := hd fun x hx => hP _ (List.mem_map_of_mem hx)
  have HAJ := hd haj
  have HAK := hd hak
  clear hP hP0 hP1 hP2 hP3 hN1 hN2 hN3 hN hLL E0 E1 E2 E3 EL hx hab haj hak
  have hcx := (Chg.refl [] w).alloc (.cells #[.int .i64 tk, .int .i64 nb, .int .i64 nj, .int .i64 gx, .int .i64 gy, .slice ab L.length cb, .slice aj js.length cj, .slice ak ks.length ck] 32)
  have hkx := (Blk.new w #[.int .i64 tk, .int .i64 nb, .int .i64 nj, .int .i64 gx, .int .i64 gy, .slice ab L.length cb, .slice aj js.length cj, .slice ak ks.length ck] 32).alloc (.cells #[.slice none 0 0] 123)
  have hcy := hcx.alloc (.cells #[.slice none 0 0] 123)
  have hw0 : WrT 123 ((w.alloc (.cells #[.int .i64 tk, .int .i64 nb, .int .i64 nj, .int .i64 gx, .int .i64 gy, .slice ab L.length cb, .slice aj js.length cj, .slice ak ks.length ck] 32)).alloc (.cells #[.slice none 0 0] 123)) (w.heap.size + 1) (w.heap.size + 1) [] := ⟨_, by have := Blk.new (w.alloc (.cells #[.int .i64 tk, .int .i64 nb, .int .i64 nj, .int .i64 gx, .int .i64 gy, .slice ab L.length cb, .slice aj js.length cj, .slice ak ks.length ck] 32)) #[.slice none 0 0] 123; rwa [World.size_alloc] at this, OwB.nil _ _⟩
  have hb0 : Below w.heap.size w ((w.alloc (.cells #[.int .i64 tk, .int .i64 nb, .int .i64 nj, .int .i64 gx, .int .i64 gy, .slice ab L.length cb, .slice aj js.length cj, .slice ak ks.length ck] 32)).alloc (.cells #[.slice none 0 0] 123)) := hcy.new
  have hsz : ((w.alloc (.cells #[.int .i64 tk, .int .i64 nb, .int .i64 nj, .int .i64 gx, .int .i64 gy, .slice ab L.length cb, .slice aj js.length cj, .slice ak ks.length ck] 32)).alloc (.cells #[.slice none 0 0] 123)).heap.size = w.heap.size + 2 := by simp
  unfold vW
  simp only
  clear hcx
  go_enter Tryz.func25, Tryz.ntmps25
  go_upto_region 2 with (fail)
  (try rw [World.size_alloc])
  generalize (w.alloc (.cells #[.int .i64 tk, .int .i64 nb, .int .i64 nj, .int .i64 gx, .int .i64 gy, .slice ab L.length cb, .slice aj js.length cj, .slice ak ks.length ck] 32)).alloc (.cells #[.slice none 0 0] 123) = w0 at *
  obtain ⟨xb, hxb⟩ : ∃ xb, xb = w.heap.size := ⟨_, rfl⟩
  obtain ⟨b, hbe⟩ : ∃ b, b = w.heap.size + 1 := ⟨_, rfl⟩
  rw [← hbe] at hw0 ⊢
  rw [← hxb] at hkx hb0 hsz ⊢
  have hb : b ≤ b := Nat.le_refl _
  have HL : Hd (0 ≤ 1) := hd (by omega)
  have HXB := hd hxb
  have HB : Hd (w.heap.size ≤ b) := hd (by omega)
  have HB0 := hd hb0
  have hbn : b ≠ xb := by omega
  have HBW : Hd (b ≤ w0.heap.size) := hd (by omega)
  have HXQ : Hd (∀ wx, Fr b b w0 wx → wx.cell? ⟨xb, 0, none⟩ = some (.int .i64 tk) ∧ wx.cell? ⟨xb, 1, none⟩ = some (.int .i64 nb) ∧ wx.cell? ⟨xb, 2, none⟩ = some (.int .i64 nj) ∧ wx.cell? ⟨xb, 3, none⟩ = some (.int .i64 gx) ∧ wx.cell? ⟨xb, 4, none⟩ = some (.int .i64 gy) ∧ wx.cell? ⟨xb, 5, none⟩ = some (.slice ab L.length cb) ∧ wx.cell? ⟨xb, 6, none⟩ = some (.slice aj js.length cj) ∧ wx.cell? ⟨xb, 7, none⟩ = some (.slice ak ks.length ck)) := hd fun wx hx => by
    have := hx.kp _ _ _ hkx (by decide) (fun e => hbn e.symm)
    exact ⟨this.cell 0, this.cell 1, this.cell 2, this.cell 3, this.cell 4, this.cell 5, this.cell 6, this.cell 7⟩
  have hW := hw0.k (Chg.refl [] w0).drew
  clear hw0 hb0 hsz hxb hbe hbn hkx hcy
  go_cut [10] from 400 (fun _ wx => WrT 123 wx b b P0 ∧ Fr b b w0 wx)
  case first =>
    refine rg (N := 14) (by kernel_rfl) (by kernel_rfl) (S := (fun wx => Fr b b w0 wx)) (Fr.chg (Chg.refl _ _).drew HBW.out) (fun hHeld => ?_)
    generalize w0.drew = w2 at *
    refine tks [0, 1, 2, 4, 5, 7, 8, 10, 11] (by kernel_rfl) (fun _ _ _ _ _ h => h) (by assumption) ?_
    iterate 9 (refine tkc rfl rfl (by rfl) (fun wx hSw => by (try dsimp only at hSw); (obtain ⟨q0, q1, q2, q3, q4, q5, q6, q7⟩ := HXQ.out _ hSw); go_simp; (try with_reducible rfl)) ?_; simp only [List.set])
    refine tk0 ?_
    refine rn2 3 12 rfl rfl (by kernel_rfl) (by rfl) (by rfl) (fun KK hKK => ?ra0) (fun KK hKK => ?rb0)
    case' ra0 =>
      go_simp; (refine (WTNum_any _ (by decide) 8 tk b b _ _ hW hb (by omega) (by omega) (by have := HL.out; simp only [List.length_nil] <;> omega)).mono ?_; rintro e w3 ⟨rfl, hW3, hf⟩; have hm := Fr.trans hHeld hf; (try replace hV := fun w' h => hV w' (hf.trans h)); (try replace hF := fun w' h => hF w' (hf.trans h)); replace hW := hW3; clear hf hW3; (try go_simp)); refine hKK.out _ _ (by assumption) fun hHeld => ?_; clear hKK KK; try simp only [Act.put, List.setIfInBounds_toArray, List.set]
      refine rn2 6 12 rfl rfl (by kernel_rfl) (by rfl) (by rfl) (fun KK hKK => ?ra1) (fun KK hKK => ?rb1)
      case' ra1 =>
        go_simp; (refine (WTNum_any _ (by decide) 8 nb b b _ _ hW hb (by omega) (by omega) (by have := HL.out; simp only [List.length_append, leB_length, List.length_nil] <;> omega)).mono ?_; rintro e w6 ⟨rfl, hW6, hf⟩; have hm := Fr.trans hHeld hf; (try replace hV := fun w' h => hV w' (hf.trans h)); (try replace hF := fun w' h => hF w' (hf.trans h)); replace hW := hW6; clear hf hW6; (try go_simp)); refine hKK.out _ _ (by assumption) fun hHeld => ?_; clear hKK KK; try simp only [Act.put, List.setIfInBounds_toArray, List.set]
        refine rn2 9 12 rfl rfl (by kernel_rfl) (by rfl) (by rfl) (fun KK hKK => ?ra2) (fun KK hKK => ?rb2)
        case' ra2 =>
          go_simp; (refine (WTNum_any _ (by decide) 8 nj b b _ _ hW hb (by omega) (by omega) (by have := HL.out; simp only [List.length_append, leB_length, List.length_nil] <;> omega)).mono ?_; rintro e w9 ⟨rfl, hW9, hf⟩; have hm := Fr.trans hHeld hf; (try replace hV := fun w' h => hV w' (hf.trans h)); (try replace hF := fun w' h => hF w' (hf.trans h)); replace hW := hW9; clear hf hW9; (try go_simp)); refine hKK.out _ _ (by assumption) fun hHeld => ?_; clear hKK KK; try simp only [Act.put, List.setIfInBounds_toArray, List.set]
          refine rn 12 rfl (by kernel_rfl) (by rfl) fun KK hKK => ?_
          (obtain ⟨m1, m2, hV⟩ := Fr.litV hHeld hW hb [(gx, gy)] #[.int .i64 gx, .int .i64 gy] 27 1 (by decide) rfl rfl (by simp); (try simp only [World.size_alloc] at hV); (try replace hF := fun w' h => hF w' ((Fr.lit0 hHeld hW hb (.cells #[.int .i64 gx, .int .i64 gy] 27)).trans h)); replace hW := m1; go_simp); refine hKK.out _ _ (by assumption) fun hHeld => ?_; clear hKK KK; try simp only [Act.put, List.setIfInBounds_toArray, List.set]
          refine rn 13 rfl (by kernel_rfl) (by rfl) fun KK hKK => ?_
          go_simp; (refine (WTV_any _ (by decide) b b _ _ [(gx, gy)] _ hW hb hV (by have := HL.out; simp only [List.length_append, leB_length, List.length_cons, List.length_nil] <;> omega)).mono ?_; rintro e w13 ⟨rfl, hW13, hf⟩; have hm := Fr.trans hHeld hf; clear hV; (try replace hF := fun w' h => hF w' (hf.trans h)); replace hW := hW13; clear hf hW13; (try go_simp)); refine hKK.out _ _ (by assumption) fun hHeld => ?_; clear hKK KK; try simp only [Act.put, List.setIfInBounds_toArray, List.set]
          refine wpAnyH_done (by kernel_rfl) ?_ _
          (go_wp2_with fail; go_meet; exact ⟨by rw [H0.out]; simpa using hW, hHeld⟩)
        case' rb2 =>
          (obtain ⟨m1, m2, hV⟩ := Fr.litV hHeld hW hb [(gx, gy)] #[.int .i64 gx, .int .i64 gy] 27 1 (by decide) rfl rfl (by simp); (try simp only [World.size_alloc] at hV); (try replace hF := fun w' h => hF w' ((Fr.lit0 hHeld hW hb (.cells #[.int .i64 gx, .int .i64 gy] 27)).trans h)); replace hW := m1; go_simp); refine hKK.out _ _ (by assumption) fun hHeld => ?_; clear hKK KK; try simp only [Act.put, List.setIfInBounds_toArray, List.set]
          refine rn 9 rfl (by kernel_rfl) (by rfl) fun KK hKK => ?_
          go_simp; (refine (WTNum_any _ (by decide) 8 nj b b _ _ hW hb (by omega) (by omega) (by have := HL.out; simp only [List.length_append, leB_length, List.length_nil] <;> omega)).mono ?_; rintro e w9 ⟨rfl, hW9, hf⟩; have hm := Fr.trans hHeld hf; (try replace hV := fun w' h => hV w' (hf.trans h)); (try replace hF := fun w' h => hF w' (hf.trans h)); replace hW := hW9; clear hf hW9; (try go_simp)); refine hKK.out _ _ (by assumption) fun hHeld => ?_; clear hKK KK; try simp only [Act.put, List.setIfInBounds_toArray, List.set]
          refine rn 13 rfl (by kernel_rfl) (by rfl) fun KK hKK => ?_
          go_simp; (refine (WTV_any _ (by decide) b b _ _ [(gx, gy)] _ hW hb hV (by have := HL.out; simp only [List.length_append, leB_length, List.length_cons, List.length_nil] <;> omega)).mono ?_; rintro e w13 ⟨rfl, hW13, hf⟩; have hm := Fr.trans hHeld hf; clear hV; (try replace hF := fun w' h => hF w' (hf.trans h)); replace hW := hW13; clear hf hW13; (try go_simp)); refine hKK.out _ _ (by assumption) fun hHeld => ?_; clear hKK KK; try simp only [Act.put, List.setIfInBounds_toArray, List.set]
          refine wpAnyH_done (by kernel_rfl) ?_ _
          (go_wp2_with fail; go_meet; exact ⟨by rw [H0.out]; simpa using hW, hHeld⟩)
      case' rb1 =>
        (obtain ⟨m1, m2, hV⟩ := Fr.litV hHeld hW hb [(gx, gy)] #[.int .i64 gx, .int .i64 gy] 27 1 (by decide) rfl rfl (by simp); (try simp only [World.size_alloc] at hV); (try replace hF := fun w' h => hF w' ((Fr.lit0 hHeld hW hb (.cells #[.int .i64 gx, .int .i64 gy] 27)).trans h)); replace hW := m1; go_simp); refine hKK.out _ _ (by assumption) fun hHeld => ?_; clear hKK KK; try simp only [Act.put, List.setIfInBounds_toArray, List.set]
        refine rn 6 rfl (by kernel_rfl) (by rfl) fun KK hKK => ?_
        go_simp; (refine (WTNum_any _ (by decide) 8 nb b b _ _ hW hb (by omega) (by omega) (by have := HL.out; simp only [List.length_append, leB_length, List.length_nil] <;> omega)).mono ?_; rintro e w6 ⟨rfl, hW6, hf⟩; have hm := Fr.trans hHeld hf; (try replace hV := fun w' h => hV w' (hf.trans h)); (try replace hF := fun w' h => hF w' (hf.trans h)); replace hW := hW6; clear hf hW6; (try go_simp)); refine hKK.out _ _ (by assumption) fun hHeld => ?_; clear hKK KK; try simp only [Act.put, List.setIfInBounds_toArray, List.set]
        refine rn 9 rfl (by kernel_rfl) (by rfl) fun KK hKK => ?_
        go_simp; (refine (WTNum_any _ (by decide) 8 nj b b _ _ hW hb (by omega) (by omega) (by have := HL.out; simp only [List.length_append, leB_length, List.length_nil] <;> omega)).mono ?_; rintro e w9 ⟨rfl, hW9, hf⟩; have hm := Fr.trans hHeld hf; (try replace hV := fun w' h => hV w' (hf.trans h)); (try replace hF := fun w' h => hF w' (hf.trans h)); replace hW := hW9; clear hf hW9; (try go_simp)); refine hKK.out _ _ (by assumption) fun hHeld => ?_; clear hKK KK; try simp only [Act.put, List.setIfInBounds_toArray, List.set]
        refine rn 13 rfl (by kernel_rfl) (by rfl) fun KK hKK => ?_
        go_simp; (refine (WTV_any _ (by decide) b b _ _ [(gx, gy)] _ hW hb hV (by have := HL.out; simp only [List.length_append, leB_length, List.length_cons, List.length_nil] <;> omega)).mono ?_; rintro e w13 ⟨rfl, hW13, hf⟩; have hm := Fr.trans hHeld hf; clear hV; (try replace hF := fun w' h => hF w' (hf.trans h)); replace hW := hW13; clear hf hW13; (try go_simp)); refine hKK.out _ _ (by assumption) fun hHeld => ?_; clear hKK KK; try simp only [Act.put, List.setIfInBounds_toArray, List.set]
        refine wpAnyH_done (by kernel_rfl) ?_ _
        (go_wp2_with fail; go_meet; exact ⟨by rw [H0.out]; simpa using hW, hHeld⟩)
    case' rb0 =>
      (obtain ⟨m1, m2, hV⟩ := Fr.litV hHeld hW hb [(gx, gy)] #[.int .i64 gx, .int .i64 gy] 27 1 (by decide) rfl rfl (by simp); (try simp only [World.size_alloc] at hV); (try replace hF := fun w' h => hF w' ((Fr.lit0 hHeld hW hb (.cells #[.int .i64 gx, .int .i64 gy] 27)).trans h)); replace hW := m1; go_simp); refine hKK.out _ _ (by assumption) fun hHeld => ?_; clear hKK KK; try simp only [Act.put, List.setIfInBounds_toArray, List.set]
      refine rn 3 rfl (by kernel_rfl) (by rfl) fun KK hKK => ?_
      go_simp; (refine (WTNum_any _ (by decide) 8 tk b b _ _ hW hb (by omega) (by omega) (by have := HL.out; simp only [List.length_nil] <;> omega)).mono ?_; rintro e w3 ⟨rfl, hW3, hf⟩; have hm := Fr.trans hHeld hf; (try replace hV := fun w' h => hV w' (hf.trans h)); (try replace hF := fun w' h => hF w' (hf.trans h)); replace hW := hW3; clear hf hW3; (try go_simp)); refine hKK.out _ _ (by assumption) fun hHeld => ?_; clear hKK KK; try simp only [Act.put, List.setIfInBounds_toArray, List.set]
      refine rn 6 rfl (by kernel_rfl) (by rfl) fun KK hKK => ?_
      go_simp; (refine (WTNum_any _ (by decide) 8 nb b b _ _ hW hb (by omega) (by omega) (by have := HL.out; simp only [List.length_append, leB_length, List.length_nil] <;> omega)).mono ?_; rintro e w6 ⟨rfl, hW6, hf⟩; have hm := Fr.trans hHeld hf; (try replace hV := fun w' h => hV w' (hf.trans h)); (try replace hF := fun w' h => hF w' (hf.trans h)); replace hW := hW6; clear hf hW6; (try go_simp)); refine hKK.out _ _ (by assumption) fun hHeld => ?_; clear hKK KK; try simp only [Act.put, List.setIfInBounds_toArray, List.set]
      refine rn 9 rfl (by kernel_rfl) (by rfl) fun KK hKK => ?_
      go_simp; (refine (WTNum_any _ (by decide) 8 nj b b _ _ hW hb (by omega) (by omega) (by have := HL.out; simp only [List.length_append, leB_length, List.length_nil] <;> omega)).mono ?_; rintro e w9 ⟨rfl, hW9, hf⟩; have hm := Fr.trans hHeld hf; (try replace hV := fun w' h => hV w' (hf.trans h)); (try replace hF := fun w' h => hF w' (hf.trans h)); replace hW := hW9; clear hf hW9; (try go_simp)); refine hKK.out _ _ (by assumption) fun hHeld => ?_; clear hKK KK; try simp only [Act.put, List.setIfInBounds_toArray, List.set]
      refine rn 13 rfl (by kernel_rfl) (by rfl) fun KK hKK => ?_
      go_simp; (refine (WTV_any _ (by decide) b b _ _ [(gx, gy)] _ hW hb hV (by have := HL.out; simp only [List.length_append, leB_length, List.length_cons, List.length_nil] <;> omega)).mono ?_; rintro e w13 ⟨rfl, hW13, hf⟩; have hm := Fr.trans hHeld hf; clear hV; (try replace hF := fun w' h => hF w' (hf.trans h)); replace hW := hW13; clear hf hW13; (try go_simp)); refine hKK.out _ _ (by assumption) fun hHeld => ?_; clear hKK KK; try simp only [Act.put, List.setIfInBounds_toArray, List.set]
      refine wpAnyH_done (by kernel_rfl) ?_ _
      (go_wp2_with fail; go_meet; exact ⟨by rw [H0.out]; simpa using hW, hHeld⟩)
  case rest =>
  obtain ⟨hWc, hFc⟩ := hcut
  have HF := hd hFc
  have HW := hd hWc
  clear hWc hFc hW
  obtain ⟨q0, q1, q2, q3, q4, q5, q6, q7⟩ := HXQ.out _ HF.out
  have HP0L : Hd (P0.length ≤ 140737488355000) := hd (by rw [H0.out]; simp [leF_length, fV])
  go_wp2_with (go_at_call 58; refine (WTNum_any _ (by decide) 2 L.length b b _ _ HW.out hb (by omega) (by omega) (by have := HP0L.out; exact this)).mono ?_; rintro e w3 ⟨rfl, hW3, hf3⟩; obtain ⟨q0, q1, q2, q3, q4, q5, q6, q7⟩ := HXQ.out _ (HF.out.trans hf3))
  replace HW := hd (show WrT 123 w3 b b P1 by rw [H1.out]; simpa using hW3)
  replace HF := hd (HF.out.trans hf3)
  clear hW3 hf3 HL
  go_loopw [5, 32] (fun _ i wr => ∃ k : Nat, k ≤ L.length ∧ i = .int .i64 k ∧ WrT 123 wr b b (P1 ++ ((L.map (·.1)).take k).flatMap leBd) ∧ Fr b b w0 wr)
    (fun _ i _ => L.length - (intOf i).toNat)
  case atStart => exact ⟨0, by omega, rfl, by simpa using HW.out, HF.out⟩
  case round =>
    clear HW HF
    obtain ⟨j, hj, rfl, hW, hF0⟩ := hrel
    by_cases hlt : j < L.length
    · obtain ⟨gb, off, hao, hgb⟩ := HAB.out (by omega)
      subst hao
      have HS := hd (fm_snoc leBd (L.map (·.1)) j (by simpa using hlt))
      have HL := hd (Nat.le_trans (Nat.add_le_add_left (fm_le leBd (L.map (·.1)) j) P1.length) (HN_L).out)
      have C := fun m hm => (hF0.below.cell (p := ⟨gb, off + j * 11 + m, none⟩) (show gb < b by have := HB.out; omega)).trans ((HB0.out.cell (p := ⟨gb, off + j * 11 + m, none⟩) (show gb < xb by have := HXB.out; omega)).trans (Rd.cellAt cBV_len HRB.out j hlt m hm))
      have q0 := C 0 (by decide)
      have q1 := C 1 (by decide)
      have q2 := C 2 (by decide)
      have q3 := C 3 (by decide)
      have q4 := C 4 (by decide)
      have q5 := C 5 (by decide)
      have q6 := C 6 (by decide)
      have q7 := C 7 (by decide)
      have q8 := C 8 (by decide)
      have q9 := C 9 (by decide)
      have q10 := C 10 (by decide)
      clear C
      have hps := HX.out.b.ps _ (List.getElem_mem hlt)
      have hpl := HP.out _ (List.getElem_mem hlt)
      (try simp only [List.getElem_map] at HS)
      generalize L[j] = x at *
      obtain ⟨⟨i, ⟨px, py⟩, ⟨vx, vy⟩, an, sp, de, ⟨sk, sr, p⟩⟩, pv⟩ := x
      rw [Nat.add_zero] at q0
      simp only [cBV, List.getElem_cons_zero, List.getElem_cons_succ] at q0 q1 q2 q3 q4 q5 q6 q7 q8 q9 q10
      simp only at hps hpl
      obtain ⟨ap, cp, rfl, -⟩ := hps.form
      have hz := hps.own
      have HZ : Hd (∀ w', Fr b b w0 w' → VsS w' (.slice ap p.length cp) p) := hd (fun w' h => hps.bel ((HXB.out ▸ HB0.out).trans (h.below.mono HB.out)) hz)
      have HPL : Hd (p.length ≤ 4096) := hd hpl
      clear hps hz hpl
      have hcb := (Chg.refl [] wr).alloc (.cells #[.int .i64 i, .int .i64 px, .int .i64 py, .int .i64 vx, .int .i64 vy, .int .i64 an, .int .i64 sp, .int .i64 de, .int .i64 sk, .int .i64 sr, .slice ap p.length cp] 97)
      have hkb_HQ := Blk.new wr #[.int .i64 i, .int .i64 px, .int .i64 py, .int .i64 vx, .int .i64 vy, .int .i64 an, .int .i64 sp, .int .i64 de, .int .i64 sk, .int .i64 sr, .slice ap p.length cp] 97
      have hf1 := hF0.trans (Fr.chg (base := b) (b := b) hcb (by have := hW.lt; omega))
      have hW1 := hW.k hcb
      have hbn_HQ : b ≠ wr.heap.size := by have := hW.lt; omega
      have hsz : (wr.alloc (.cells #[.int .i64 i, .int .i64 px, .int .i64 py, .int .i64 vx, .int .i64 vy, .int .i64 an, .int .i64 sp, .int .i64 de, .int .i64 sk, .int .i64 sr, .slice ap p.length cp] 97)).heap.size = wr.heap.size + 1 := by simp
      have hbb : b ≤ wr.heap.size := by have := hW.lt; omega
      clear hW hF0 hcb
      go_upto_region 7 with (fail)
      clear q0 q1 q2 q3 q4 q5 q6 q7 q8 q9 q10
      generalize wr.alloc (.cells #[.int .i64 i, .int .i64 px, .int .i64 py, .int .i64 vx, .int .i64 vy, .int .i64 an, .int .i64 sp, .int .i64 de, .int .i64 sk, .int .i64 sr, .slice ap p.length cp] 97) = w1 at *
      generalize wr.heap.size = bk at *
      have HQ : Hd (∀ wx, Fr b b w1 wx → wx.cell? ⟨bk, 0, none⟩ = some (.int .i64 i) ∧ wx.cell? ⟨bk, 1, none⟩ = some (.int .i64 px) ∧ wx.cell? ⟨bk, 2, none⟩ = some (.int .i64 py) ∧ wx.cell? ⟨bk, 3, none⟩ = some (.int .i64 vx) ∧ wx.cell? ⟨bk, 4, none⟩ = some (.int .i64 vy) ∧ wx.cell? ⟨bk, 5, none⟩ = some (.int .i64 an) ∧ wx.cell? ⟨bk, 6, none⟩ = some (.int .i64 sp) ∧ wx.cell? ⟨bk, 7, none⟩ = some (.int .i64 de) ∧ wx.cell? ⟨bk, 8, none⟩ = some (.int .i64 sk) ∧ wx.cell? ⟨bk, 9, none⟩ = some (.int .i64 sr) ∧ wx.cell? ⟨bk, 10, none⟩ = some (.slice ap p.length cp)) := hd fun wx hx => by
        have := hx.kp _ _ _ hkb_HQ (by decide) (fun e => hbn_HQ e.symm)
        exact ⟨this.cell 0, this.cell 1, this.cell 2, this.cell 3, this.cell 4, this.cell 5, this.cell 6, this.cell 7, this.cell 8, this.cell 9, this.cell 10⟩
      have HF1 := hd hf1
      have HB1 : Hd (b ≤ w1.heap.size) := hd (by omega)
      have hW := hW1.k (Chg.refl [] w1).drew
      clear hkb_HQ hbn_HQ hW1 hf1 hsz hgb hbb
      go_cut [32] from 400 (fun t wx => t = .int .i64 j ∧ WrT 123 wx b b ((P1 ++ ((L.map (·.1)).take j).flatMap leBd) ++ (leB 8 i ++ leF (fV [(px, py), (vx, vy)]) ++ leF [an, sp, de])) ∧ Fr b b w1 wx)
      case first =>
        refine rg (N := 18) (by kernel_rfl) (by kernel_rfl) (S := (fun wx => Fr b b w1 wx)) (Fr.chg (Chg.refl _ _).drew HB1.out) (fun hHeld => ?_)
        generalize w1.drew = w2 at *
        refine tks [0, 1, 2, 4, 5, 6, 7, 10, 11, 12, 13, 14, 15] (by kernel_rfl) (fun _ _ _ _ _ h => h) (by assumption) ?_
        iterate 13 (refine tkc rfl rfl (by rfl) (fun wx hSw => by (try dsimp only at hSw); (obtain ⟨q0, q1, q2, q3, q4, q5, q6, q7, q8, q9, q10⟩ := HQ.out _ hSw); go_simp; (try with_reducible rfl)) ?_; simp only [List.set])
        refine tk0 ?_
        refine rn3 3 8 16 rfl rfl rfl (by kernel_rfl) (by rfl) (by rfl) (by rfl) (fun KK hKK => ?ra7) (fun KK hKK => ?rb7) (fun KK hKK => ?rc7)
        case' ra7 =>
          go_simp; (refine (WTNum_any _ (by decide) 8 i b b _ _ hW hb (by omega) (by omega) (by have := HL.out; simp only [List.length_append] <;> omega)).mono ?_; rintro e w3 ⟨rfl, hW3, hf⟩; have hm := Fr.trans hHeld hf; (try replace hV := fun w' h => hV w' (hf.trans h)); (try replace hF := fun w' h => hF w' (hf.trans h)); replace hW := hW3; clear hf hW3; (try go_simp)); refine hKK.out _ _ (by assumption) fun hHeld => ?_; clear hKK KK; try simp only [Act.put, List.setIfInBounds_toArray, List.set]
          refine rn2 8 16 rfl rfl (by kernel_rfl) (by rfl) (by rfl) (fun KK hKK => ?ra8) (fun KK hKK => ?rb8)
          case' ra8 =>
            (obtain ⟨m1, m2, hV⟩ := Fr.litV hHeld hW hb [(px, py), (vx, vy)] #[.int .i64 px, .int .i64 py, .int .i64 vx, .int .i64 vy] 27 2 (by decide) rfl rfl (by simp); (try simp only [World.size_alloc] at hV); (try replace hF := fun w' h => hF w' ((Fr.lit0 hHeld hW hb (.cells #[.int .i64 px, .int .i64 py, .int .i64 vx, .int .i64 vy] 27)).trans h)); replace hW := m1; go_simp); refine hKK.out _ _ (by assumption) fun hHeld => ?_; clear hKK KK; try simp only [Act.put, List.setIfInBounds_toArray, List.set]
            refine rn2 9 16 rfl rfl (by kernel_rfl) (by rfl) (by rfl) (fun KK hKK => ?ra9) (fun KK hKK => ?rb9)
            case' ra9 =>
              go_simp; (refine (WTV_any _ (by decide) b b _ _ [(px, py), (vx, vy)] _ hW hb hV (by have := HL.out; simp only [List.length_append, leB_length, List.length_cons, List.length_nil] <;> omega)).mono ?_; rintro e w9 ⟨rfl, hW9, hf⟩; have hm := Fr.trans hHeld hf; clear hV; (try replace hF := fun w' h => hF w' (hf.trans h)); replace hW := hW9; clear hf hW9; (try go_simp)); refine hKK.out _ _ (by assumption) fun hHeld => ?_; clear hKK KK; try simp only [Act.put, List.setIfInBounds_toArray, List.set]
              refine rn 16 rfl (by kernel_rfl) (by rfl) fun KK hKK => ?_
              (obtain ⟨m1, m2, hF⟩ := Fr.litF hHeld hW hb [an, sp, de] #[.int .i64 an, .int .i64 sp, .int .i64 de] 25 3 (by decide) rfl rfl (by simp); (try simp only [World.size_alloc] at hF); (try replace hV := fun w' h => hV w' ((Fr.lit0 hHeld hW hb (.cells #[.int .i64 an, .int .i64 sp, .int .i64 de] 25)).trans h)); replace hW := m1; go_simp); refine hKK.out _ _ (by assumption) fun hHeld => ?_; clear hKK KK; try simp only [Act.put, List.setIfInBounds_toArray, List.set]
              refine rn 17 rfl (by kernel_rfl) (by rfl) fun KK hKK => ?_
              go_simp; (refine (WTF_any _ (by decide) b b _ _ [an, sp, de] _ hW hb hF (by have := HL.out; simp only [List.length_append, leB_length, leF_length, fV_length, List.length_cons, List.length_nil] <;> omega)).mono ?_; rintro e w17 ⟨rfl, hW17, hf⟩; have hm := Fr.trans hHeld hf; (try replace hV := fun w' h => hV w' (hf.trans h)); clear hF; replace hW := hW17; clear hf hW17; (try go_simp)); refine hKK.out _ _ (by assumption) fun hHeld => ?_; clear hKK KK; try simp only [Act.put, List.setIfInBounds_toArray, List.set]
              refine wpAnyH_done (by kernel_rfl) ?_ _
              (go_wp2_with fail; go_meet; exact ⟨rfl, by simpa using hW, hHeld⟩)
            case' rb9 =>
              (obtain ⟨m1, m2, hF⟩ := Fr.litF hHeld hW hb [an, sp, de] #[.int .i64 an, .int .i64 sp, .int .i64 de] 25 3 (by decide) rfl rfl (by simp); (try simp only [World.size_alloc] at hF); (try replace hV := fun w' h => hV w' ((Fr.lit0 hHeld hW hb (.cells #[.int .i64 an, .int .i64 sp, .int .i64 de] 25)).trans h)); replace hW := m1; go_simp); refine hKK.out _ _ (by assumption) fun hHeld => ?_; clear hKK KK; try simp only [Act.put, List.setIfInBounds_toArray, List.set]
              refine rn 9 rfl (by kernel_rfl) (by rfl) fun KK hKK => ?_
              go_simp; (refine (WTV_any _ (by decide) b b _ _ [(px, py), (vx, vy)] _ hW hb hV (by have := HL.out; simp only [List.length_append, leB_length, List.length_cons, List.length_nil] <;> omega)).mono ?_; rintro e w9 ⟨rfl, hW9, hf⟩; have hm := Fr.trans hHeld hf; clear hV; (try replace hF := fun w' h => hF w' (hf.trans h)); replace hW := hW9; clear hf hW9; (try go_simp)); refine hKK.out _ _ (by assumption) fun hHeld => ?_; clear hKK KK; try simp only [Act.put, List.setIfInBounds_toArray, List.set]
              refine rn 17 rfl (by kernel_rfl) (by rfl) fun KK hKK => ?_
              go_simp; (refine (WTF_any _ (by decide) b b _ _ [an, sp, de] _ hW hb hF (by have := HL.out; simp only [List.length_append, leB_length, leF_length, fV_length, List.length_cons, List.length_nil] <;> omega)).mono ?_; rintro e w17 ⟨rfl, hW17, hf⟩; have hm := Fr.trans hHeld hf; (try replace hV := fun w' h => hV w' (hf.trans h)); clear hF; replace hW := hW17; clear hf hW17; (try go_simp)); refine hKK.out _ _ (by assumption) fun hHeld => ?_; clear hKK KK; try simp only [Act.put, List.setIfInBounds_toArray, List.set]
              refine wpAnyH_done (by kernel_rfl) ?_ _
              (go_wp2_with fail; go_meet; exact ⟨rfl, by simpa using hW, hHeld⟩)
          case' rb8 =>
            (obtain ⟨m1, m2, hF⟩ := Fr.litF hHeld hW hb [an, sp, de] #[.int .i64 an, .int .i64 sp, .int .i64 de] 25 3 (by decide) rfl rfl (by simp); (try simp only [World.size_alloc] at hF); (try replace hV := fun w' h => hV w' ((Fr.lit0 hHeld hW hb (.cells #[.int .i64 an, .int .i64 sp, .int .i64 de] 25)).trans h)); replace hW := m1; go_simp); refine hKK.out _ _ (by assumption) fun hHeld => ?_; clear hKK KK; try simp only [Act.put, List.setIfInBounds_toArray, List.set]
            refine rn 8 rfl (by kernel_rfl) (by rfl) fun KK hKK => ?_
            (obtain ⟨m1, m2, hV⟩ := Fr.litV hHeld hW hb [(px, py), (vx, vy)] #[.int .i64 px, .int .i64 py, .int .i64 vx, .int .i64 vy] 27 2 (by decide) rfl rfl (by simp); (try simp only [World.size_alloc] at hV); (try replace hF := fun w' h => hF w' ((Fr.lit0 hHeld hW hb (.cells #[.int .i64 px, .int .i64 py, .int .i64 vx, .int .i64 vy] 27)).trans h)); replace hW := m1; go_simp); refine hKK.out _ _ (by assumption) fun hHeld => ?_; clear hKK KK; try simp only [Act.put, List.setIfInBounds_toArray, List.set]
            refine rn 9 rfl (by kernel_rfl) (by rfl) fun KK hKK => ?_
            go_simp; (refine (WTV_any _ (by decide) b b _ _ [(px, py), (vx, vy)] _ hW hb hV (by have := HL.out; simp only [List.length_append, leB_length, List.length_cons, List.length_nil] <;> omega)).mono ?_; rintro e w9 ⟨rfl, hW9, hf⟩; have hm := Fr.trans hHeld hf; clear hV; (try replace hF := fun w' h => hF w' (hf.trans h)); replace hW := hW9; clear hf hW9; (try go_simp)); refine hKK.out _ _ (by assumption) fun hHeld => ?_; clear hKK KK; try simp only [Act.put, List.setIfInBounds_toArray, List.set]
            refine rn 17 rfl (by kernel_rfl) (by rfl) fun KK hKK => ?_
            go_simp; (refine (WTF_any _ (by decide) b b _ _ [an, sp, de] _ hW hb hF (by have := HL.out; simp only [List.length_append, leB_length, leF_length, fV_length, List.length_cons, List.length_nil] <;> omega)).mono ?_; rintro e w17 ⟨rfl, hW17, hf⟩; have hm := Fr.trans hHeld hf; (try replace hV := fun w' h => hV w' (hf.trans h)); clear hF; replace hW := hW17; clear hf hW17; (try go_simp)); refine hKK.out _ _ (by assumption) fun hHeld => ?_; clear hKK KK; try simp only [Act.put, List.setIfInBounds_toArray, List.set]
            refine wpAnyH_done (by kernel_rfl) ?_ _
            (go_wp2_with fail; go_meet; exact ⟨rfl, by simpa using hW, hHeld⟩)
        case' rb7 =>
          (obtain ⟨m1, m2, hV⟩ := Fr.litV hHeld hW hb [(px, py), (vx, vy)] #[.int .i64 px, .int .i64 py, .int .i64 vx, .int .i64 vy] 27 2 (by decide) rfl rfl (by simp); (try simp only [World.size_alloc] at hV); (try replace hF := fun w' h => hF w' ((Fr.lit0 hHeld hW hb (.cells #[.int .i64 px, .int .i64 py, .int .i64 vx, .int .i64 vy] 27)).trans h)); replace hW := m1; go_simp); refine hKK.out _ _ (by assumption) fun hHeld => ?_; clear hKK KK; try simp only [Act.put, List.setIfInBounds_toArray, List.set]
          refine rn2 3 16 rfl rfl (by kernel_rfl) (by rfl) (by rfl) (fun KK hKK => ?ra10) (fun KK hKK => ?rb10)
          case' ra10 =>
            go_simp; (refine (WTNum_any _ (by decide) 8 i b b _ _ hW hb (by omega) (by omega) (by have := HL.out; simp only [List.length_append] <;> omega)).mono ?_; rintro e w3 ⟨rfl, hW3, hf⟩; have hm := Fr.trans hHeld hf; (try replace hV := fun w' h => hV w' (hf.trans h)); (try replace hF := fun w' h => hF w' (hf.trans h)); replace hW := hW3; clear hf hW3; (try go_simp)); refine hKK.out _ _ (by assumption) fun hHeld => ?_; clear hKK KK; try simp only [Act.put, List.setIfInBounds_toArray, List.set]
            refine rn2 9 16 rfl rfl (by kernel_rfl) (by rfl) (by rfl) (fun KK hKK => ?ra11) (fun KK hKK => ?rb11)
            case' ra11 =>
              go_simp; (refine (WTV_any _ (by decide) b b _ _ [(px, py), (vx, vy)] _ hW hb hV (by have := HL.out; simp only [List.length_append, leB_length, List.length_cons, List.length_nil] <;> omega)).mono ?_; rintro e w9 ⟨rfl, hW9, hf⟩; have hm := Fr.trans hHeld hf; clear hV; (try replace hF := fun w' h => hF w' (hf.trans h)); replace hW := hW9; clear hf hW9; (try go_simp)); refine hKK.out _ _ (by assumption) fun hHeld => ?_; clear hKK KK; try simp only [Act.put, List.setIfInBounds_toArray, List.set]
              refine rn 16 rfl (by kernel_rfl) (by rfl) fun KK hKK => ?_
              (obtain ⟨m1, m2, hF⟩ := Fr.litF hHeld hW hb [an, sp, de] #[.int .i64 an, .int .i64 sp, .int .i64 de] 25 3 (by decide) rfl rfl (by simp); (try simp only [World.size_alloc] at hF); (try replace hV := fun w' h => hV w' ((Fr.lit0 hHeld hW hb (.cells #[.int .i64 an, .int .i64 sp, .int .i64 de] 25)).trans h)); replace hW := m1; go_simp); refine hKK.out _ _ (by assumption) fun hHeld => ?_; clear hKK KK; try simp only [Act.put, List.setIfInBounds_toArray, List.set]
              refine rn 17 rfl (by kernel_rfl) (by rfl) fun KK hKK => ?_
              go_simp; (refine (WTF_any _ (by decide) b b _ _ [an, sp, de] _ hW hb hF (by have := HL.out; simp only [List.length_append, leB_length, leF_length, fV_length, List.length_cons, List.length_nil] <;> omega)).mono ?_; rintro e w17 ⟨rfl, hW17, hf⟩; have hm := Fr.trans hHeld hf; (try replace hV := fun w' h => hV w' (hf.trans h)); clear hF; replace hW := hW17; clear hf hW17; (try go_simp)); refine hKK.out _ _ (by assumption) fun hHeld => ?_; clear hKK KK; try simp only [Act.put, List.setIfInBounds_toArray, List.set]
              refine wpAnyH_done (by kernel_rfl) ?_ _
              (go_wp2_with fail; go_meet; exact ⟨rfl, by simpa using hW, hHeld⟩)
            case' rb11 =>
              (obtain ⟨m1, m2, hF⟩ := Fr.litF hHeld hW hb [an, sp, de] #[.int .i64 an, .int .i64 sp, .int .i64 de] 25 3 (by decide) rfl rfl (by simp); (try simp only [World.size_alloc] at hF); (try replace hV := fun w' h => hV w' ((Fr.lit0 hHeld hW hb (.cells #[.int .i64 an, .int .i64 sp, .int .i64 de] 25)).trans h)); replace hW := m1; go_simp); refine hKK.out _ _ (by assumption) fun hHeld => ?_; clear hKK KK; try simp only [Act.put, List.setIfInBounds_toArray, List.set]
              refine rn 9 rfl (by kernel_rfl) (by rfl) fun KK hKK => ?_
              go_simp; (refine (WTV_any _ (by decide) b b _ _ [(px, py), (vx, vy)] _ hW hb hV (by have := HL.out; simp only [List.length_append, leB_length, List.length_cons, List.length_nil] <;> omega)).mono ?_; rintro e w9 ⟨rfl, hW9, hf⟩; have hm := Fr.trans hHeld hf; clear hV; (try replace hF := fun w' h => hF w' (hf.trans h)); replace hW := hW9; clear hf hW9; (try go_simp)); refine hKK.out _ _ (by assumption) fun hHeld => ?_; clear hKK KK; try simp only [Act.put, List.setIfInBounds_toArray, List.set]
              refine rn 17 rfl (by kernel_rfl) (by rfl) fun KK hKK => ?_
              go_simp; (refine (WTF_any _ (by decide) b b _ _ [an, sp, de] _ hW hb hF (by have := HL.out; simp only [List.length_append, leB_length, leF_length, fV_length, List.length_cons, List.length_nil] <;> omega)).mono ?_; rintro e w17 ⟨rfl, hW17, hf⟩; have hm := Fr.trans hHeld hf; (try replace hV := fun w' h => hV w' (hf.trans h)); clear hF; replace hW := hW17; clear hf hW17; (try go_simp)); refine hKK.out _ _ (by assumption) fun hHeld => ?_; clear hKK KK; try simp only [Act.put, List.setIfInBounds_toArray, List.set]
              refine wpAnyH_done (by kernel_rfl) ?_ _
              (go_wp2_with fail; go_meet; exact ⟨rfl, by simpa using hW, hHeld⟩)
          case' rb10 =>
            (obtain ⟨m1, m2, hF⟩ := Fr.litF hHeld hW hb [an, sp, de] #[.int .i64 an, .int .i64 sp, .int .i64 de] 25 3 (by decide) rfl rfl (by simp); (try simp only [World.size_alloc] at hF); (try replace hV := fun w' h => hV w' ((Fr.lit0 hHeld hW hb (.cells #[.int .i64 an, .int .i64 sp, .int .i64 de] 25)).trans h)); replace hW := m1; go_simp); refine hKK.out _ _ (by assumption) fun hHeld => ?_; clear hKK KK; try simp only [Act.put, List.setIfInBounds_toArray, List.set]
            refine rn 3 rfl (by kernel_rfl) (by rfl) fun KK hKK => ?_
            go_simp; (refine (WTNum_any _ (by decide) 8 i b b _ _ hW hb (by omega) (by omega) (by have := HL.out; simp only [List.length_append] <;> omega)).mono ?_; rintro e w3 ⟨rfl, hW3, hf⟩; have hm := Fr.trans hHeld hf; (try replace hV := fun w' h => hV w' (hf.trans h)); (try replace hF := fun w' h => hF w' (hf.trans h)); replace hW := hW3; clear hf hW3; (try go_simp)); refine hKK.out _ _ (by assumption) fun hHeld => ?_; clear hKK KK; try simp only [Act.put, List.setIfInBounds_toArray, List.set]
            refine rn 9 rfl (by kernel_rfl) (by rfl) fun KK hKK => ?_
            go_simp; (refine (WTV_any _ (by decide) b b _ _ [(px, py), (vx, vy)] _ hW hb hV (by have := HL.out; simp only [List.length_append, leB_length, List.length_cons, List.length_nil] <;> omega)).mono ?_; rintro e w9 ⟨rfl, hW9, hf⟩; have hm := Fr.trans hHeld hf; clear hV; (try replace hF := fun w' h => hF w' (hf.trans h)); replace hW := hW9; clear hf hW9; (try go_simp)); refine hKK.out _ _ (by assumption) fun hHeld => ?_; clear hKK KK; try simp only [Act.put, List.setIfInBounds_toArray, List.set]
            refine rn 17 rfl (by kernel_rfl) (by rfl) fun KK hKK => ?_
            go_simp; (refine (WTF_any _ (by decide) b b _ _ [an, sp, de] _ hW hb hF (by have := HL.out; simp only [List.length_append, leB_length, leF_length, fV_length, List.length_cons, List.length_nil] <;> omega)).mono ?_; rintro e w17 ⟨rfl, hW17, hf⟩; have hm := Fr.trans hHeld hf; (try replace hV := fun w' h => hV w' (hf.trans h)); clear hF; replace hW := hW17; clear hf hW17; (try go_simp)); refine hKK.out _ _ (by assumption) fun hHeld => ?_; clear hKK KK; try simp only [Act.put, List.setIfInBounds_toArray, List.set]
            refine wpAnyH_done (by kernel_rfl) ?_ _
            (go_wp2_with fail; go_meet; exact ⟨rfl, by simpa using hW, hHeld⟩)
        case' rc7 =>
          (obtain ⟨m1, m2, hF⟩ := Fr.litF hHeld hW hb [an, sp, de] #[.int .i64 an, .int .i64 sp, .int .i64 de] 25 3 (by decide) rfl rfl (by simp); (try simp only [World.size_alloc] at hF); (try replace hV := fun w' h => hV w' ((Fr.lit0 hHeld hW hb (.cells #[.int .i64 an, .int .i64 sp, .int .i64 de] 25)).trans h)); replace hW := m1; go_simp); refine hKK.out _ _ (by assumption) fun hHeld => ?_; clear hKK KK; try simp only [Act.put, List.setIfInBounds_toArray, List.set]
          refine rn2 3 8 rfl rfl (by kernel_rfl) (by rfl) (by rfl) (fun KK hKK => ?ra12) (fun KK hKK => ?rb12)
          case' ra12 =>
            go_simp; (refine (WTNum_any _ (by decide) 8 i b b _ _ hW hb (by omega) (by omega) (by have := HL.out; simp only [List.length_append] <;> omega)).mono ?_; rintro e w3 ⟨rfl, hW3, hf⟩; have hm := Fr.trans hHeld hf; (try replace hV := fun w' h => hV w' (hf.trans h)); (try replace hF := fun w' h => hF w' (hf.trans h)); replace hW := hW3; clear hf hW3; (try go_simp)); refine hKK.out _ _ (by assumption) fun hHeld => ?_; clear hKK KK; try simp only [Act.put, List.setIfInBounds_toArray, List.set]
            refine rn 8 rfl (by kernel_rfl) (by rfl) fun KK hKK => ?_
            (obtain ⟨m1, m2, hV⟩ := Fr.litV hHeld hW hb [(px, py), (vx, vy)] #[.int .i64 px, .int .i64 py, .int .i64 vx, .int .i64 vy] 27 2 (by decide) rfl rfl (by simp); (try simp only [World.size_alloc] at hV); (try replace hF := fun w' h => hF w' ((Fr.lit0 hHeld hW hb (.cells #[.int .i64 px, .int .i64 py, .int .i64 vx, .int .i64 vy] 27)).trans h)); replace hW := m1; go_simp); refine hKK.out _ _ (by assumption) fun hHeld => ?_; clear hKK KK; try simp only [Act.put, List.setIfInBounds_toArray, List.set]
            refine rn 9 rfl (by kernel_rfl) (by rfl) fun KK hKK => ?_
            go_simp; (refine (WTV_any _ (by decide) b b _ _ [(px, py), (vx, vy)] _ hW hb hV (by have := HL.out; simp only [List.length_append, leB_length, List.length_cons, List.length_nil] <;> omega)).mono ?_; rintro e w9 ⟨rfl, hW9, hf⟩; have hm := Fr.trans hHeld hf; clear hV; (try replace hF := fun w' h => hF w' (hf.trans h)); replace hW := hW9; clear hf hW9; (try go_simp)); refine hKK.out _ _ (by assumption) fun hHeld => ?_; clear hKK KK; try simp only [Act.put, List.setIfInBounds_toArray, List.set]
            refine rn 17 rfl (by kernel_rfl) (by rfl) fun KK hKK => ?_
            go_simp; (refine (WTF_any _ (by decide) b b _ _ [an, sp, de] _ hW hb hF (by have := HL.out; simp only [List.length_append, leB_length, leF_length, fV_length, List.length_cons, List.length_nil] <;> omega)).mono ?_; rintro e w17 ⟨rfl, hW17, hf⟩; have hm := Fr.trans hHeld hf; (try replace hV := fun w' h => hV w' (hf.trans h)); clear hF; replace hW := hW17; clear hf hW17; (try go_simp)); refine hKK.out _ _ (by assumption) fun hHeld => ?_; clear hKK KK; try simp only [Act.put, List.setIfInBounds_toArray, List.set]
            refine wpAnyH_done (by kernel_rfl) ?_ _
            (go_wp2_with fail; go_meet; exact ⟨rfl, by simpa using hW, hHeld⟩)
          case' rb12 =>
            (obtain ⟨m1, m2, hV⟩ := Fr.litV hHeld hW hb [(px, py), (vx, vy)] #[.int .i64 px, .int .i64 py, .int .i64 vx, .int .i64 vy] 27 2 (by decide) rfl rfl (by simp); (try simp only [World.size_alloc] at hV); (try replace hF := fun w' h => hF w' ((Fr.lit0 hHeld hW hb (.cells #[.int .i64 px, .int .i64 py, .int .i64 vx, .int .i64 vy] 27)).trans h)); replace hW := m1; go_simp); refine hKK.out _ _ (by assumption) fun hHeld => ?_; clear hKK KK; try simp only [Act.put, List.setIfInBounds_toArray, List.set]
            refine rn 3 rfl (by kernel_rfl) (by rfl) fun KK hKK => ?_
            go_simp; (refine (WTNum_any _ (by decide) 8 i b b _ _ hW hb (by omega) (by omega) (by have := HL.out; simp only [List.length_append] <;> omega)).mono ?_; rintro e w3 ⟨rfl, hW3, hf⟩; have hm := Fr.trans hHeld hf; (try replace hV := fun w' h => hV w' (hf.trans h)); (try replace hF := fun w' h => hF w' (hf.trans h)); replace hW := hW3; clear hf hW3; (try go_simp)); refine hKK.out _ _ (by assumption) fun hHeld => ?_; clear hKK KK; try simp only [Act.put, List.setIfInBounds_toArray, List.set]
            refine rn 9 rfl (by kernel_rfl) (by rfl) fun KK hKK => ?_
            go_simp; (refine (WTV_any _ (by decide) b b _ _ [(px, py), (vx, vy)] _ hW hb hV (by have := HL.out; simp only [List.length_append, leB_length, List.length_cons, List.length_nil] <;> omega)).mono ?_; rintro e w9 ⟨rfl, hW9, hf⟩; have hm := Fr.trans hHeld hf; clear hV; (try replace hF := fun w' h => hF w' (hf.trans h)); replace hW := hW9; clear hf hW9; (try go_simp)); refine hKK.out _ _ (by assumption) fun hHeld => ?_; clear hKK KK; try simp only [Act.put, List.setIfInBounds_toArray, List.set]
            refine rn 17 rfl (by kernel_rfl) (by rfl) fun KK hKK => ?_
            go_simp; (refine (WTF_any _ (by decide) b b _ _ [an, sp, de] _ hW hb hF (by have := HL.out; simp only [List.length_append, leB_length, leF_length, fV_length, List.length_cons, List.length_nil] <;> omega)).mono ?_; rintro e w17 ⟨rfl, hW17, hf⟩; have hm := Fr.trans hHeld hf; (try replace hV := fun w' h => hV w' (hf.trans h)); clear hF; replace hW := hW17; clear hf hW17; (try go_simp)); refine hKK.out _ _ (by assumption) fun hHeld => ?_; clear hKK KK; try simp only [Act.put, List.setIfInBounds_toArray, List.set]
            refine wpAnyH_done (by kernel_rfl) ?_ _
            (go_wp2_with fail; go_meet; exact ⟨rfl, by simpa using hW, hHeld⟩)
      case rest =>
        clear hW
        obtain ⟨rfl, hW, hFc⟩ := hcut
        have HRX := hd hFc
        have HWX := hd hW
        clear hFc hW
        obtain ⟨q0, q1, q2, q3, q4, q5, q6, q7, q8, q9, q10⟩ := HQ.out _ HRX.out
        go_wp2_with (go_at_call 63; refine (WShape_any b b _ ⟨sk, sr, p⟩ _ _ HWX.out hb (fun w' h => HZ.out w' ((HF1.out.trans HRX.out).trans h)) (by have := HL.out; have := HPL.out; simp only [List.length_append, leB_length, leF_length, fV_length, List.length_cons, List.length_nil] <;> omega)).mono ?_; rintro e w9 ⟨rfl, hW9, hf9⟩)
        go_roundw
        case rel => exact ⟨j + 1, by omega, by go_num, by have := hW9; rw [HS.out, ← List.append_assoc]; simpa [leBd] using this, ((HF1.out.trans HRX.out).trans hf9)⟩
        case measure => simp [intOf]; omega
    · have hjn : j = L.length := by omega
      subst hjn
      rw [List.take_of_length_le (by simp)] at hW
      obtain ⟨q0, q1, q2, q3, q4, q5, q6, q7⟩ := HXQ.out _ hF0
      have HW := hd hW
      have HF := hd hF0
      clear hW hF0
      go_wp2_with (go_at_call 58; refine (WTNum_any _ (by decide) 2 js.length b b _ _ HW.out hb (by omega) (by omega) (by have := HN_L.out; simp only [List.length_append]; omega)).mono ?_; rintro e w3 ⟨rfl, hW3, hf3⟩; obtain ⟨q0, q1, q2, q3, q4, q5, q6, q7⟩ := HXQ.out _ (HF.out.trans hf3))
      replace HW := hd (show WrT 123 w3 b b P2 by rw [H2.out]; simpa using hW3)
      replace HF := hd (HF.out.trans hf3)
      clear hW3 hf3 hlt hj
      go_loopw [7, 66] (fun _ i wr => ∃ k : Nat, k ≤ js.length ∧ i = .int .i64 k ∧ WrT 123 wr b b (P2 ++ (js.take k).flatMap leJt) ∧ Fr b b w0 wr)
        (fun _ i _ => js.length - (intOf i).toNat)
      case atStart => exact ⟨0, by omega, rfl, by simpa using HW.out, HF.out⟩
      case round =>
        clear HW HF
        obtain ⟨j, hj, rfl, hW, hF0⟩ := hrel
        by_cases hlt : j < js.length
        · obtain ⟨gb, off, hao, hgb⟩ := HAJ.out (by omega)
          subst hao
          have HS := hd (fm_snoc leJt js j (by simpa using hlt))
          have HL := hd (Nat.le_trans (Nat.add_le_add_left (fm_le leJt js j) P2.length) (HN_js).out)
          have C := fun m hm => (hF0.below.cell (p := ⟨gb, off + j * 8 + m, none⟩) (show gb < b by have := HB.out; omega)).trans ((HB0.out.cell (p := ⟨gb, off + j * 8 + m, none⟩) (show gb < xb by have := HXB.out; omega)).trans (Rd.cellAt cJt_len HRJ.out j hlt m hm))
          have q0 := C 0 (by decide)
          have q1 := C 1 (by decide)
          have q2 := C 2 (by decide)
          have q3 := C 3 (by decide)
          have q4 := C 4 (by decide)
          have q5 := C 5 (by decide)
          have q6 := C 6 (by decide)
          have q7 := C 7 (by decide)
          clear C
          (try simp only [List.getElem_map] at HS)
          generalize js[j] = x at *
          obtain ⟨i, a, b1, ⟨px, py⟩, ⟨vx, vy⟩, le⟩ := x
          rw [Nat.add_zero] at q0
          simp only [cJt, List.getElem_cons_zero, List.getElem_cons_succ] at q0 q1 q2 q3 q4 q5 q6 q7
          have hcb := (Chg.refl [] wr).alloc (.cells #[.int .i64 i, .int .i64 a, .int .i64 b1, .int .i64 px, .int .i64 py, .int .i64 vx, .int .i64 vy, .int .i64 le] 101)
          have hkb_HQ := Blk.new wr #[.int .i64 i, .int .i64 a, .int .i64 b1, .int .i64 px, .int .i64 py, .int .i64 vx, .int .i64 vy, .int .i64 le] 101
          have hf1 := hF0.trans (Fr.chg (base := b) (b := b) hcb (by have := hW.lt; omega))
          have hW1 := hW.k hcb
          have hbn_HQ : b ≠ wr.heap.size := by have := hW.lt; omega
          have hsz : (wr.alloc (.cells #[.int .i64 i, .int .i64 a, .int .i64 b1, .int .i64 px, .int .i64 py, .int .i64 vx, .int .i64 vy, .int .i64 le] 101)).heap.size = wr.heap.size + 1 := by simp
          have hbb : b ≤ wr.heap.size := by have := hW.lt; omega
          clear hW hF0 hcb
          go_upto_region 14 with (fail)
          clear q0 q1 q2 q3 q4 q5 q6 q7
          generalize wr.alloc (.cells #[.int .i64 i, .int .i64 a, .int .i64 b1, .int .i64 px, .int .i64 py, .int .i64 vx, .int .i64 vy, .int .i64 le] 101) = w1 at *
          generalize wr.heap.size = bk at *
          have HQ : Hd (∀ wx, Fr b b w1 wx → wx.cell? ⟨bk, 0, none⟩ = some (.int .i64 i) ∧ wx.cell? ⟨bk, 1, none⟩ = some (.int .i64 a) ∧ wx.cell? ⟨bk, 2, none⟩ = some (.int .i64 b1) ∧ wx.cell? ⟨bk, 3, none⟩ = some (.int .i64 px) ∧ wx.cell? ⟨bk, 4, none⟩ = some (.int .i64 py) ∧ wx.cell? ⟨bk, 5, none⟩ = some (.int .i64 vx) ∧ wx.cell? ⟨bk, 6, none⟩ = some (.int .i64 vy) ∧ wx.cell? ⟨bk, 7, none⟩ = some (.int .i64 le)) := hd fun wx hx => by
            have := hx.kp _ _ _ hkb_HQ (by decide) (fun e => hbn_HQ e.symm)
            exact ⟨this.cell 0, this.cell 1, this.cell 2, this.cell 3, this.cell 4, this.cell 5, this.cell 6, this.cell 7⟩
          have HF1 := hd hf1
          have HB1 : Hd (b ≤ w1.heap.size) := hd (by omega)
          have hW := hW1.k (Chg.refl [] w1).drew
          clear hkb_HQ hbn_HQ hW1 hf1 hsz hgb hbb
          refine rg (N := 20) (by kernel_rfl) (by kernel_rfl) (S := (fun wx => Fr b b w1 wx)) (Fr.chg (Chg.refl _ _).drew HB1.out) (fun hHeld => ?_)
          generalize w1.drew = w2 at *
          refine tks [0, 1, 2, 4, 5, 7, 8, 10, 11, 12, 13, 16, 17] (by kernel_rfl) (fun _ _ _ _ _ h => h) (by assumption) ?_
          iterate 13 (refine tkc rfl rfl (by rfl) (fun wx hSw => by (try dsimp only at hSw); (obtain ⟨q0, q1, q2, q3, q4, q5, q6, q7⟩ := HQ.out _ hSw); go_simp; (try with_reducible rfl)) ?_; simp only [List.set])
          refine tk0 ?_
          refine rn3 3 14 18 rfl rfl rfl (by kernel_rfl) (by rfl) (by rfl) (by rfl) (fun KK hKK => ?ra21) (fun KK hKK => ?rb21) (fun KK hKK => ?rc21)
          case' ra21 =>
            go_simp; (refine (WTNum_any _ (by decide) 8 i b b _ _ hW hb (by omega) (by omega) (by have := HL.out; simp only [List.length_append] <;> omega)).mono ?_; rintro e w3 ⟨rfl, hW3, hf⟩; have hm := Fr.trans hHeld hf; (try replace hV := fun w' h => hV w' (hf.trans h)); (try replace hF := fun w' h => hF w' (hf.trans h)); replace hW := hW3; clear hf hW3; (try go_simp)); refine hKK.out _ _ (by assumption) fun hHeld => ?_; clear hKK KK; try simp only [Act.put, List.setIfInBounds_toArray, List.set]
            refine rn3 6 14 18 rfl rfl rfl (by kernel_rfl) (by rfl) (by rfl) (by rfl) (fun KK hKK => ?ra22) (fun KK hKK => ?rb22) (fun KK hKK => ?rc22)
            case' ra22 =>
              go_simp; (refine (WTNum_any _ (by decide) 8 a b b _ _ hW hb (by omega) (by omega) (by have := HL.out; simp only [List.length_append, leB_length] <;> omega)).mono ?_; rintro e w6 ⟨rfl, hW6, hf⟩; have hm := Fr.trans hHeld hf; (try replace hV := fun w' h => hV w' (hf.trans h)); (try replace hF := fun w' h => hF w' (hf.trans h)); replace hW := hW6; clear hf hW6; (try go_simp)); refine hKK.out _ _ (by assumption) fun hHeld => ?_; clear hKK KK; try simp only [Act.put, List.setIfInBounds_toArray, List.set]
              refine rn3 9 14 18 rfl rfl rfl (by kernel_rfl) (by rfl) (by rfl) (by rfl) (fun KK hKK => ?ra23) (fun KK hKK => ?rb23) (fun KK hKK => ?rc23)
              case' ra23 =>
                go_simp; (refine (WTNum_any _ (by decide) 8 b1 b b _ _ hW hb (by omega) (by omega) (by have := HL.out; simp only [List.length_append, leB_length] <;> omega)).mono ?_; rintro e w9 ⟨rfl, hW9, hf⟩; have hm := Fr.trans hHeld hf; (try replace hV := fun w' h => hV w' (hf.trans h)); (try replace hF := fun w' h => hF w' (hf.trans h)); replace hW := hW9; clear hf hW9; (try go_simp)); refine hKK.out _ _ (by assumption) fun hHeld => ?_; clear hKK KK; try simp only [Act.put, List.setIfInBounds_toArray, List.set]
                refine rn2 14 18 rfl rfl (by kernel_rfl) (by rfl) (by rfl) (fun KK hKK => ?ra24) (fun KK hKK => ?rb24)
                case' ra24 =>
                  (obtain ⟨m1, m2, hV⟩ := Fr.litV hHeld hW hb [(px, py), (vx, vy)] #[.int .i64 px, .int .i64 py, .int .i64 vx, .int .i64 vy] 27 2 (by decide) rfl rfl (by simp); (try simp only [World.size_alloc] at hV); (try replace hF := fun w' h => hF w' ((Fr.lit0 hHeld hW hb (.cells #[.int .i64 px, .int .i64 py, .int .i64 vx, .int .i64 vy] 27)).trans h)); replace hW := m1; go_simp); refine hKK.out _ _ (by assumption) fun hHeld => ?_; clear hKK KK; try simp only [Act.put, List.setIfInBounds_toArray, List.set]
                  refine rn2 15 18 rfl rfl (by kernel_rfl) (by rfl) (by rfl) (fun KK hKK => ?ra25) (fun KK hKK => ?rb25)
                  case' ra25 =>
                    go_simp; (refine (WTV_any _ (by decide) b b _ _ [(px, py), (vx, vy)] _ hW hb hV (by have := HL.out; simp only [List.length_append, leB_length, List.length_cons, List.length_nil] <;> omega)).mono ?_; rintro e w15 ⟨rfl, hW15, hf⟩; have hm := Fr.trans hHeld hf; clear hV; (try replace hF := fun w' h => hF w' (hf.trans h)); replace hW := hW15; clear hf hW15; (try go_simp)); refine hKK.out _ _ (by assumption) fun hHeld => ?_; clear hKK KK; try simp only [Act.put, List.setIfInBounds_toArray, List.set]
                    refine rn 18 rfl (by kernel_rfl) (by rfl) fun KK hKK => ?_
                    (obtain ⟨m1, m2, hF⟩ := Fr.litF hHeld hW hb [le] #[.int .i64 le] 25 1 (by decide) rfl rfl (by simp); (try simp only [World.size_alloc] at hF); (try replace hV := fun w' h => hV w' ((Fr.lit0 hHeld hW hb (.cells #[.int .i64 le] 25)).trans h)); replace hW := m1; go_simp); refine hKK.out _ _ (by assumption) fun hHeld => ?_; clear hKK KK; try simp only [Act.put, List.setIfInBounds_toArray, List.set]
                    refine rn 19 rfl (by kernel_rfl) (by rfl) fun KK hKK => ?_
                    go_simp; (refine (WTF_any _ (by decide) b b _ _ [le] _ hW hb hF (by have := HL.out; simp only [List.length_append, leB_length, leF_length, fV_length, List.length_cons, List.length_nil] <;> omega)).mono ?_; rintro e w19 ⟨rfl, hW19, hf⟩; have hm := Fr.trans hHeld hf; (try replace hV := fun w' h => hV w' (hf.trans h)); clear hF; replace hW := hW19; clear hf hW19; (try go_simp)); refine hKK.out _ _ (by assumption) fun hHeld => ?_; clear hKK KK; try simp only [Act.put, List.setIfInBounds_toArray, List.set]
                    refine wpAnyH_done (by kernel_rfl) ?_ _
                    have hW9 := hW; go_wp2_with (fail); go_roundw; (case rel => exact ⟨j + 1, by omega, by go_num, by have := hW9; rw [HS.out, ← List.append_assoc]; simpa [leJt] using this, (HF1.out.trans hHeld)⟩); (case measure => simp [intOf]; omega)
                  case' rb25 =>
                    (obtain ⟨m1, m2, hF⟩ := Fr.litF hHeld hW hb [le] #[.int .i64 le] 25 1 (by decide) rfl rfl (by simp); (try simp only [World.size_alloc] at hF); (try replace hV := fun w' h => hV w' ((Fr.lit0 hHeld hW hb (.cells #[.int .i64 le] 25)).trans h)); replace hW := m1; go_simp); refine hKK.out _ _ (by assumption) fun hHeld => ?_; clear hKK KK; try simp only [Act.put, List.setIfInBounds_toArray, List.set]
                    refine rn 15 rfl (by kernel_rfl) (by rfl) fun KK hKK => ?_
                    go_simp; (refine (WTV_any _ (by decide) b b _ _ [(px, py), (vx, vy)] _ hW hb hV (by have := HL.out; simp only [List.length_append, leB_length, List.length_cons, List.length_nil] <;> omega)).mono ?_; rintro e w15 ⟨rfl, hW15, hf⟩; have hm := Fr.trans hHeld hf; clear hV; (try replace hF := fun w' h => hF w' (hf.trans h)); replace hW := hW15; clear hf hW15; (try go_simp)); refine hKK.out _ _ (by assumption) fun hHeld => ?_; clear hKK KK; try simp only [Act.put, List.setIfInBounds_toArray, List.set]
                    refine rn 19 rfl (by kernel_rfl) (by rfl) fun KK hKK => ?_
                    go_simp; (refine (WTF_any _ (by decide) b b _ _ [le] _ hW hb hF (by have := HL.out; simp only [List.length_append, leB_length, leF_length, fV_length, List.length_cons, List.length_nil] <;> omega)).mono ?_; rintro e w19 ⟨rfl, hW19, hf⟩; have hm := Fr.trans hHeld hf; (try replace hV := fun w' h => hV w' (hf.trans h)); clear hF; replace hW := hW19; clear hf hW19; (try go_simp)); refine hKK.out _ _ (by assumption) fun hHeld => ?_; clear hKK KK; try simp only [Act.put, List.setIfInBounds_toArray, List.set]
                    refine wpAnyH_done (by kernel_rfl) ?_ _
                    have hW9 := hW; go_wp2_with (fail); go_roundw; (case rel => exact ⟨j + 1, by omega, by go_num, by have := hW9; rw [HS.out, ← List.append_assoc]; simpa [leJt] using this, (HF1.out.trans hHeld)⟩); (case measure => simp [intOf]; omega)
                case' rb24 =>
                  (obtain ⟨m1, m2, hF⟩ := Fr.litF hHeld hW hb [le] #[.int .i64 le] 25 1 (by decide) rfl rfl (by simp); (try simp only [World.size_alloc] at hF); (try replace hV := fun w' h => hV w' ((Fr.lit0 hHeld hW hb (.cells #[.int .i64 le] 25)).trans h)); replace hW := m1; go_simp); refine hKK.out _ _ (by assumption) fun hHeld => ?_; clear hKK KK; try simp only [Act.put, List.setIfInBounds_toArray, List.set]
                  refine rn 14 rfl (by kernel_rfl) (by rfl) fun KK hKK => ?_
                  (obtain ⟨m1, m2, hV⟩ := Fr.litV hHeld hW hb [(px, py), (vx, vy)] #[.int .i64 px, .int .i64 py, .int .i64 vx, .int .i64 vy] 27 2 (by decide) rfl rfl (by simp); (try simp only [World.size_alloc] at hV); (try replace hF := fun w' h => hF w' ((Fr.lit0 hHeld hW hb (.cells #[.int .i64 px, .int .i64 py, .int .i64 vx, .int .i64 vy] 27)).trans h)); replace hW := m1; go_simp); refine hKK.out _ _ (by assumption) fun hHeld => ?_; clear hKK KK; try simp only [Act.put, List.setIfInBounds_toArray, List.set]
                  refine rn 15 rfl (by kernel_rfl) (by rfl) fun KK hKK => ?_
                  go_simp; (refine (WTV_any _ (by decide) b b _ _ [(px, py), (vx, vy)] _ hW hb hV (by have := HL.out; simp only [List.length_append, leB_length, List.length_cons, List.length_nil] <;> omega)).mono ?_; rintro e w15 ⟨rfl, hW15, hf⟩; have hm := Fr.trans hHeld hf; clear hV; (try replace hF := fun w' h => hF w' (hf.trans h)); replace hW := hW15; clear hf hW15; (try go_simp)); refine hKK.out _ _ (by assumption) fun hHeld => ?_; clear hKK KK; try simp only [Act.put, List.setIfInBounds_toArray, List.set]
                  refine rn 19 rfl (by kernel_rfl) (by rfl) fun KK hKK => ?_
                  go_simp; (refine (WTF_any _ (by decide) b b _ _ [le] _ hW hb hF (by have := HL.out; simp only [List.length_append, leB_length, leF_length, fV_length, List.length_cons, List.length_nil] <;> omega)).mono ?_; rintro e w19 ⟨rfl, hW19, hf⟩; have hm := Fr.trans hHeld hf; (try replace hV := fun w' h => hV w' (hf.trans h)); clear hF; replace hW := hW19; clear hf hW19; (try go_simp)); refine hKK.out _ _ (by assumption) fun hHeld => ?_; clear hKK KK; try simp only [Act.put, List.setIfInBounds_toArray, List.set]
                  refine wpAnyH_done (by kernel_rfl) ?_ _
                  have hW9 := hW; go_wp2_with (fail); go_roundw; (case rel => exact ⟨j + 1, by omega, by go_num, by have := hW9; rw [HS.out, ← List.append_assoc]; simpa [leJt] using this, (HF1.out.trans hHeld)⟩); (case measure => simp [intOf]; omega)
              case' rb23 =>
                (obtain ⟨m1, m2, hV⟩ := Fr.litV hHeld hW hb [(px, py), (vx, vy)] #[.int .i64 px, .int .i64 py, .int .i64 vx, .int .i64 vy] 27 2 (by decide) rfl rfl (by simp); (try simp only [World.size_alloc] at hV); (try replace hF := fun w' h => hF w' ((Fr.lit0 hHeld hW hb (.cells #[.int .i64 px, .int .i64 py, .int .i64 vx, .int .i64 vy] 27)).trans h)); replace hW := m1; go_simp); refine hKK.out _ _ (by assumption) fun hHeld => ?_; clear hKK KK; try simp only [Act.put, List.setIfInBounds_toArray, List.set]
                refine rn2 9 18 rfl rfl (by kernel_rfl) (by rfl) (by rfl) (fun KK hKK => ?ra26) (fun KK hKK => ?rb26)
                case' ra26 =>
                  go_simp; (refine (WTNum_any _ (by decide) 8 b1 b b _ _ hW hb (by omega) (by omega) (by have := HL.out; simp only [List.length_append, leB_length] <;> omega)).mono ?_; rintro e w9 ⟨rfl, hW9, hf⟩; have hm := Fr.trans hHeld hf; (try replace hV := fun w' h => hV w' (hf.trans h)); (try replace hF := fun w' h => hF w' (hf.trans h)); replace hW := hW9; clear hf hW9; (try go_simp)); refine hKK.out _ _ (by assumption) fun hHeld => ?_; clear hKK KK; try simp only [Act.put, List.setIfInBounds_toArray, List.set]
                  refine rn2 15 18 rfl rfl (by kernel_rfl) (by rfl) (by rfl) (fun KK hKK => ?ra27) (fun KK hKK => ?rb27)
                  case' ra27 =>
                    go_simp; (refine (WTV_any _ (by decide) b b _ _ [(px, py), (vx, vy)] _ hW hb hV (by have := HL.out; simp only [List.length_append, leB_length, List.length_cons, List.length_nil] <;> omega)).mono ?_; rintro e w15 ⟨rfl, hW15, hf⟩; have hm := Fr.trans hHeld hf; clear hV; (try replace hF := fun w' h => hF w' (hf.trans h)); replace hW := hW15; clear hf hW15; (try go_simp)); refine hKK.out _ _ (by assumption) fun hHeld => ?_; clear hKK KK; try simp only [Act.put, List.setIfInBounds_toArray, List.set]
                    refine rn 18 rfl (by kernel_rfl) (by rfl) fun KK hKK => ?_
                    (obtain ⟨m1, m2, hF⟩ := Fr.litF hHeld hW hb [le] #[.int .i64 le] 25 1 (by decide) rfl rfl (by simp); (try simp only [World.size_alloc] at hF); (try replace hV := fun w' h => hV w' ((Fr.lit0 hHeld hW hb (.cells #[.int .i64 le] 25)).trans h)); replace hW := m1; go_simp); refine hKK.out _ _ (by assumption) fun hHeld => ?_; clear hKK KK; try simp only [Act.put, List.setIfInBounds_toArray, List.set]
                    refine rn 19 rfl (by kernel_rfl) (by rfl) fun KK hKK => ?_
                    go_simp; (refine (WTF_any _ (by decide) b b _ _ [le] _ hW hb hF (by have := HL.out; simp only [List.length_append, leB_length, leF_length, fV_length, List.length_cons, List.length_nil] <;> omega)).mono ?_; rintro e w19 ⟨rfl, hW19, hf⟩; have hm := Fr.trans hHeld hf; (try replace hV := fun w' h => hV w' (hf.trans h)); clear hF; replace hW := hW19; clear hf hW19; (try go_simp)); refine hKK.out _ _ (by assumption) fun hHeld => ?_; clear hKK KK; try simp only [Act.put, List.setIfInBounds_toArray, List.set]
                    refine wpAnyH_done (by kernel_rfl) ?_ _
                    have hW9 := hW; go_wp2_with (fail); go_roundw; (case rel => exact ⟨j + 1, by omega, by go_num, by have := hW9; rw [HS.out, ← List.append_assoc]; simpa [leJt] using this, (HF1.out.trans hHeld)⟩); (case measure => simp [intOf]; omega)
                  case' rb27 =>
                    (obtain ⟨m1, m2, hF⟩ := Fr.litF hHeld hW hb [le] #[.int .i64 le] 25 1 (by decide) rfl rfl (by simp); (try simp only [World.size_alloc] at hF); (try replace hV := fun w' h => hV w' ((Fr.lit0 hHeld hW hb (.cells #[.int .i64 le] 25)).trans h)); replace hW := m1; go_simp); refine hKK.out _ _ (by assumption) fun hHeld => ?_; clear hKK KK; try simp only [Act.put, List.setIfInBounds_toArray, List.set]
                    refine rn 15 rfl (by kernel_rfl) (by rfl) fun KK hKK => ?_
                    go_simp; (refine (WTV_any _ (by decide) b b _ _ [(px, py), (vx, vy)] _ hW hb hV (by have := HL.out; simp only [List.length_append, leB_length, List.length_cons, List.length_nil] <;> omega)).mono ?_; rintro e w15 ⟨rfl, hW15, hf⟩; have hm := Fr.trans hHeld hf; clear hV; (try replace hF := fun w' h => hF w' (hf.trans h)); replace hW := hW15; clear hf hW15; (try go_simp)); refine hKK.out _ _ (by assumption) fun hHeld => ?_; clear hKK KK; try simp only [Act.put, List.setIfInBounds_toArray, List.set]
                    refine rn 19 rfl (by kernel_rfl) (by rfl) fun KK hKK => ?_
                    go_simp; (refine (WTF_any _ (by decide) b b _ _ [le] _ hW hb hF (by have := HL.out; simp only [List.length_append, leB_length, leF_length, fV_length, List.length_cons, List.length_nil] <;> omega)).mono ?_; rintro e w19 ⟨rfl, hW19, hf⟩; have hm := Fr.trans hHeld hf; (try replace hV := fun w' h => hV w' (hf.trans h)); clear hF; replace hW := hW19; clear hf hW19; (try go_simp)); refine hKK.out _ _ (by assumption) fun hHeld => ?_; clear hKK KK; try simp only [Act.put, List.setIfInBounds_toArray, List.set]
                    refine wpAnyH_done (by kernel_rfl) ?_ _
                    have hW9 := hW; go_wp2_with (fail); go_roundw; (case rel => exact ⟨j + 1, by omega, by go_num, by have := hW9; rw [HS.out, ← List.append_assoc]; simpa [leJt] using this, (HF1.out.trans hHeld)⟩); (case measure => simp [intOf]; omega)
                case' rb26 =>
                  (obtain ⟨m1, m2, hF⟩ := Fr.litF hHeld hW hb [le] #[.int .i64 le] 25 1 (by decide) rfl rfl (by simp); (try simp only [World.size_alloc] at hF); (try replace hV := fun w' h => hV w' ((Fr.lit0 hHeld hW hb (.cells #[.int .i64 le] 25)).trans h)); replace hW := m1; go_simp); refine hKK.out _ _ (by assumption) fun hHeld => ?_; clear hKK KK; try simp only [Act.put, List.setIfInBounds_toArray, List.set]
                  refine rn 9 rfl (by kernel_rfl) (by rfl) fun KK hKK => ?_
                  go_simp; (refine (WTNum_any _ (by decide) 8 b1 b b _ _ hW hb (by omega) (by omega) (by have := HL.out; simp only [List.length_append, leB_length] <;> omega)).mono ?_; rintro e w9 ⟨rfl, hW9, hf⟩; have hm := Fr.trans hHeld hf; (try replace hV := fun w' h => hV w' (hf.trans h)); (try replace hF := fun w' h => hF w' (hf.trans h)); replace hW := hW9; clear hf hW9; (try go_simp)); refine hKK.out _ _ (by assumption) fun hHeld => ?_; clear hKK KK; try simp only [Act.put, List.setIfInBounds_toArray, List.set]
                  refine rn 15 rfl (by kernel_rfl) (by rfl) fun KK hKK => ?_
                  go_simp; (refine (WTV_any _ (by decide) b b _ _ [(px, py), (vx, vy)] _ hW hb hV (by have := HL.out; simp only [List.length_append, leB_length, List.length_cons, List.length_nil] <;> omega)).mono ?_; rintro e w15 ⟨rfl, hW15, hf⟩; have hm := Fr.trans hHeld hf; clear hV; (try replace hF := fun w' h => hF w' (hf.trans h)); replace hW := hW15; clear hf hW15; (try go_simp)); refine hKK.out _ _ (by assumption) fun hHeld => ?_; clear hKK KK; try simp only [Act.put, List.setIfInBounds_toArray, List.set]
                  refine rn 19 rfl (by kernel_rfl) (by rfl) fun KK hKK => ?_
                  go_simp; (refine (WTF_any _ (by decide) b b _ _ [le] _ hW hb hF (by have := HL.out; simp only [List.length_append, leB_length, leF_length, fV_length, List.length_cons, List.length_nil] <;> omega)).mono ?_; rintro e w19 ⟨rfl, hW19, hf⟩; have hm := Fr.trans hHeld hf; (try replace hV := fun w' h => hV w' (hf.trans h)); clear hF; replace hW := hW19; clear hf hW19; (try go_simp)); refine hKK.out _ _ (by assumption) fun hHeld => ?_; clear hKK KK; try simp only [Act.put, List.setIfInBounds_toArray, List.set]
                  refine wpAnyH_done (by kernel_rfl) ?_ _
                  have hW9 := hW; go_wp2_with (fail); go_roundw; (case rel => exact ⟨j + 1, by omega, by go_num, by have := hW9; rw [HS.out, ← List.append_assoc]; simpa [leJt] using this, (HF1.out.trans hHeld)⟩); (case measure => simp [intOf]; omega)
              case' rc23 =>
                (obtain ⟨m1, m2, hF⟩ := Fr.litF hHeld hW hb [le] #[.int .i64 le] 25 1 (by decide) rfl rfl (by simp); (try simp only [World.size_alloc] at hF); (try replace hV := fun w' h => hV w' ((Fr.lit0 hHeld hW hb (.cells #[.int .i64 le] 25)).trans h)); replace hW := m1; go_simp); refine hKK.out _ _ (by assumption) fun hHeld => ?_; clear hKK KK; try simp only [Act.put, List.setIfInBounds_toArray, List.set]
                refine rn2 9 14 rfl rfl (by kernel_rfl) (by rfl) (by rfl) (fun KK hKK => ?ra28) (fun KK hKK => ?rb28)
                case' ra28 =>
                  go_simp; (refine (WTNum_any _ (by decide) 8 b1 b b _ _ hW hb (by omega) (by omega) (by have := HL.out; simp only [List.length_append, leB_length] <;> omega)).mono ?_; rintro e w9 ⟨rfl, hW9, hf⟩; have hm := Fr.trans hHeld hf; (try replace hV := fun w' h => hV w' (hf.trans h)); (try replace hF := fun w' h => hF w' (hf.trans h)); replace hW := hW9; clear hf hW9; (try go_simp)); refine hKK.out _ _ (by assumption) fun hHeld => ?_; clear hKK KK; try simp only [Act.put, List.setIfInBounds_toArray, List.set]
                  refine rn 14 rfl (by kernel_rfl) (by rfl) fun KK hKK => ?_
                  (obtain ⟨m1, m2, hV⟩ := Fr.litV hHeld hW hb [(px, py), (vx, vy)] #[.int .i64 px, .int .i64 py, .int .i64 vx, .int .i64 vy] 27 2 (by decide) rfl rfl (by simp); (try simp only [World.size_alloc] at hV); (try replace hF := fun w' h => hF w' ((Fr.lit0 hHeld hW hb (.cells #[.int .i64 px, .int .i64 py, .int .i64 vx, .int .i64 vy] 27)).trans h)); replace hW := m1; go_simp); refine hKK.out _ _ (by assumption) fun hHeld => ?_; clear hKK KK; try simp only [Act.put, List.setIfInBounds_toArray, List.set]
                  refine rn 15 rfl (by kernel_rfl) (by rfl) fun KK hKK => ?_
                  go_simp; (refine (WTV_any _ (by decide) b b _ _ [(px, py), (vx, vy)] _ hW hb hV (by have := HL.out; simp only [List.length_append, leB_length, List.length_cons, List.length_nil] <;> omega)).mono ?_; rintro e w15 ⟨rfl, hW15, hf⟩; have hm := Fr.trans hHeld hf; clear hV; (try replace hF := fun w' h => hF w' (hf.trans h)); replace hW := hW15; clear hf hW15; (try go_simp)); refine hKK.out _ _ (by assumption) fun hHeld => ?_; clear hKK KK; try simp only [Act.put, List.setIfInBounds_toArray, List.set]
                  refine rn 19 rfl (by kernel_rfl) (by rfl) fun KK hKK => ?_
                  go_simp; (refine (WTF_any _ (by decide) b b _ _ [le] _ hW hb hF (by have := HL.out; simp only [List.length_append, leB_length, leF_length, fV_length, List.length_cons, List.length_nil] <;> omega)).mono ?_; rintro e w19 ⟨rfl, hW19, hf⟩; have hm := Fr.trans hHeld hf; (try replace hV := fun w' h => hV w' (hf.trans h)); clear hF; replace hW := hW19; clear hf hW19; (try go_simp)); refine hKK.out _ _ (by assumption) fun hHeld => ?_; clear hKK KK; try simp only [Act.put, List.setIfInBounds_toArray, List.set]
                  refine wpAnyH_done (by kernel_rfl) ?_ _
                  have hW9 := hW; go_wp2_with (fail); go_roundw; (case rel => exact ⟨j + 1, by omega, by go_num, by have := hW9; rw [HS.out, ← List.append_assoc]; simpa [leJt] using this, (HF1.out.trans hHeld)⟩); (case measure => simp [intOf]; omega)
                case' rb28 =>
                  (obtain ⟨m1, m2, hV⟩ := Fr.litV hHeld hW hb [(px, py), (vx, vy)] #[.int .i64 px, .int .i64 py, .int .i64 vx, .int .i64 vy] 27 2 (by decide) rfl rfl (by simp); (try simp only [World.size_alloc] at hV); (try replace hF := fun w' h => hF w' ((Fr.lit0 hHeld hW hb (.cells #[.int .i64 px, .int .i64 py, .int .i64 vx, .int .i64 vy] 27)).trans h)); replace hW := m1; go_simp); refine hKK.out _ _ (by assumption) fun hHeld => ?_; clear hKK KK; try simp only [Act.put, List.setIfInBounds_toArray, List.set]
                  refine rn 9 rfl (by kernel_rfl) (by rfl) fun KK hKK => ?_
                  go_simp; (refine (WTNum_any _ (by decide) 8 b1 b b _ _ hW hb (by omega) (by omega) (by have := HL.out; simp only [List.length_append, leB_length] <;> omega)).mono ?_; rintro e w9 ⟨rfl, hW9, hf⟩; have hm := Fr.trans hHeld hf; (try replace hV := fun w' h => hV w' (hf.trans h)); (try replace hF := fun w' h => hF w' (hf.trans h)); replace hW := hW9; clear hf hW9; (try go_simp)); refine hKK.out _ _ (by assumption) fun hHeld => ?_; clear hKK KK; try simp only [Act.put, List.setIfInBounds_toArray, List.set]
                  refine rn 15 rfl (by kernel_rfl) (by rfl) fun KK hKK => ?_
                  go_simp; (refine (WTV_any _ (by decide) b b _ _ [(px, py), (vx, vy)] _ hW hb hV (by have := HL.out; simp only [List.length_append, leB_length, List.length_cons, List.length_nil] <;> omega)).mono ?_; rintro e w15 ⟨rfl, hW15, hf⟩; have hm := Fr.trans hHeld hf; clear hV; (try replace hF := fun w' h => hF w' (hf.trans h)); replace hW := hW15; clear hf hW15; (try go_simp)); refine hKK.out _ _ (by assumption) fun hHeld => ?_; clear hKK KK; try simp only [Act.put, List.setIfInBounds_toArray, List.set]
                  refine rn 19 rfl (by kernel_rfl) (by rfl) fun KK hKK => ?_
                  go_simp; (refine (WTF_any _ (by decide) b b _ _ [le] _ hW hb hF (by have := HL.out; simp only [List.length_append, leB_length, leF_length, fV_length, List.length_cons, List.length_nil] <;> omega)).mono ?_; rintro e w19 ⟨rfl, hW19, hf⟩; have hm := Fr.trans hHeld hf; (try replace hV := fun w' h => hV w' (hf.trans h)); clear hF; replace hW := hW19; clear hf hW19; (try go_simp)); refine hKK.out _ _ (by assumption) fun hHeld => ?_; clear hKK KK; try simp only [Act.put, List.setIfInBounds_toArray, List.set]
                  refine wpAnyH_done (by kernel_rfl) ?_ _
                  have hW9 := hW; go_wp2_with (fail); go_roundw; (case rel => exact ⟨j + 1, by omega, by go_num, by have := hW9; rw [HS.out, ← List.append_assoc]; simpa [leJt] using this, (HF1.out.trans hHeld)⟩); (case measure => simp [intOf]; omega)
            case' rb22 =>
              (obtain ⟨m1, m2, hV⟩ := Fr.litV hHeld hW hb [(px, py), (vx, vy)] #[.int .i64 px, .int .i64 py, .int .i64 vx, .int .i64 vy] 27 2 (by decide) rfl rfl (by simp); (try simp only [World.size_alloc] at hV); (try replace hF := fun w' h => hF w' ((Fr.lit0 hHeld hW hb (.cells #[.int .i64 px, .int .i64 py, .int .i64 vx, .int .i64 vy] 27)).trans h)); replace hW := m1; go_simp); refine hKK.out _ _ (by assumption) fun hHeld => ?_; clear hKK KK; try simp only [Act.put, List.setIfInBounds_toArray, List.set]
              refine rn2 6 18 rfl rfl (by kernel_rfl) (by rfl) (by rfl) (fun KK hKK => ?ra29) (fun KK hKK => ?rb29)
              case' ra29 =>
                go_simp; (refine (WTNum_any _ (by decide) 8 a b b _ _ hW hb (by omega) (by omega) (by have := HL.out; simp only [List.length_append, leB_length] <;> omega)).mono ?_; rintro e w6 ⟨rfl, hW6, hf⟩; have hm := Fr.trans hHeld hf; (try replace hV := fun w' h => hV w' (hf.trans h)); (try replace hF := fun w' h => hF w' (hf.trans h)); replace hW := hW6; clear hf hW6; (try go_simp)); refine hKK.out _ _ (by assumption) fun hHeld => ?_; clear hKK KK; try simp only [Act.put, List.setIfInBounds_toArray, List.set]
                refine rn2 9 18 rfl rfl (by kernel_rfl) (by rfl) (by rfl) (fun KK hKK => ?ra30) (fun KK hKK => ?rb30)
                case' ra30 =>
                  go_simp; (refine (WTNum_any _ (by decide) 8 b1 b b _ _ hW hb (by omega) (by omega) (by have := HL.out; simp only [List.length_append, leB_length] <;> omega)).mono ?_; rintro e w9 ⟨rfl, hW9, hf⟩; have hm := Fr.trans hHeld hf; (try replace hV := fun w' h => hV w' (hf.trans h)); (try replace hF := fun w' h => hF w' (hf.trans h)); replace hW := hW9; clear hf hW9; (try go_simp)); refine hKK.out _ _ (by assumption) fun hHeld => ?_; clear hKK KK; try simp only [Act.put, List.setIfInBounds_toArray, List.set]
                  refine rn2 15 18 rfl rfl (by kernel_rfl) (by rfl) (by rfl) (fun KK hKK => ?ra31) (fun KK hKK => ?rb31)
                  case' ra31 =>
                    go_simp; (refine (WTV_any _ (by decide) b b _ _ [(px, py), (vx, vy)] _ hW hb hV (by have := HL.out; simp only [List.length_append, leB_length, List.length_cons, List.length_nil] <;> omega)).mono ?_; rintro e w15 ⟨rfl, hW15, hf⟩; have hm := Fr.trans hHeld hf; clear hV; (try replace hF := fun w' h => hF w' (hf.trans h)); replace hW := hW15; clear hf hW15; (try go_simp)); refine hKK.out _ _ (by assumption) fun hHeld => ?_; clear hKK KK; try simp only [Act.put, List.setIfInBounds_toArray, List.set]
                    refine rn 18 rfl (by kernel_rfl) (by rfl) fun KK hKK => ?_
                    (obtain ⟨m1, m2, hF⟩ := Fr.litF hHeld hW hb [le] #[.int .i64 le] 25 1 (by decide) rfl rfl (by simp); (try simp only [World.size_alloc] at hF); (try replace hV := fun w' h => hV w' ((Fr.lit0 hHeld hW hb (.cells #[.int .i64 le] 25)).trans h)); replace hW := m1; go_simp); refine hKK.out _ _ (by assumption) fun hHeld => ?_; clear hKK KK; try simp only [Act.put, List.setIfInBounds_toArray, List.set]
                    refine rn 19 rfl (by kernel_rfl) (by rfl) fun KK hKK => ?_
                    go_simp; (refine (WTF_any _ (by decide) b b _ _ [le] _ hW hb hF (by have := HL.out; simp only [List.length_append, leB_length, leF_length, fV_length, List.length_cons, List.length_nil] <;> omega)).mono ?_; rintro e w19 ⟨rfl, hW19, hf⟩; have hm := Fr.trans hHeld hf; (try replace hV := fun w' h => hV w' (hf.trans h)); clear hF; replace hW := hW19; clear hf hW19; (try go_simp)); refine hKK.out _ _ (by assumption) fun hHeld => ?_; clear hKK KK; try simp only [Act.put, List.setIfInBounds_toArray, List.set]
                    refine wpAnyH_done (by kernel_rfl) ?_ _
                    have hW9 := hW; go_wp2_with (fail); go_roundw; (case rel => exact ⟨j + 1, by omega, by go_num, by have := hW9; rw [HS.out, ← List.append_assoc]; simpa [leJt] using this, (HF1.out.trans hHeld)⟩); (case measure => simp [intOf]; omega)
                  case' rb31 =>
                    (obtain ⟨m1, m2, hF⟩ := Fr.litF hHeld hW hb [le] #[.int .i64 le] 25 1 (by decide) rfl rfl (by simp); (try simp only [World.size_alloc] at hF); (try replace hV := fun w' h => hV w' ((Fr.lit0 hHeld hW hb (.cells #[.int .i64 le] 25)).trans h)); replace hW := m1; go_simp); refine hKK.out _ _ (by assumption) fun hHeld => ?_; clear hKK KK; try simp only [Act.put, List.setIfInBounds_toArray, List.set]
                    refine rn 15 rfl (by kernel_rfl) (by rfl) fun KK hKK => ?_
                    go_simp; (refine (WTV_any _ (by decide) b b _ _ [(px, py), (vx, vy)] _ hW hb hV (by have := HL.out; simp only [List.length_append, leB_length, List.length_cons, List.length_nil] <;> omega)).mono ?_; rintro e w15 ⟨rfl, hW15, hf⟩; have hm := Fr.trans hHeld hf; clear hV; (try replace hF := fun w' h => hF w' (hf.trans h)); replace hW := hW15; clear hf hW15; (try go_simp)); refine hKK.out _ _ (by assumption) fun hHeld => ?_; clear hKK KK; try simp only [Act.put, List.setIfInBounds_toArray, List.set]
                    refine rn 19 rfl (by kernel_rfl) (by rfl) fun KK hKK => ?_
                    go_simp; (refine (WTF_any _ (by decide) b b _ _ [le] _ hW hb hF (by have := HL.out; simp only [List.length_append, leB_length, leF_length, fV_length, List.length_cons, List.length_nil] <;> omega)).mono ?_; rintro e w19 ⟨rfl, hW19, hf⟩; have hm := Fr.trans hHeld hf; (try replace hV := fun w' h => hV w' (hf.trans h)); clear hF; replace hW := hW19; clear hf hW19; (try go_simp)); refine hKK.out _ _ (by assumption) fun hHeld => ?_; clear hKK KK; try simp only [Act.put, List.setIfInBounds_toArray, List.set]
                    refine wpAnyH_done (by kernel_rfl) ?_ _
                    have hW9 := hW; go_wp2_with (fail); go_roundw; (case rel => exact ⟨j + 1, by omega, by go_num, by have := hW9; rw [HS.out, ← List.append_assoc]; simpa [leJt] using this, (HF1.out.trans hHeld)⟩); (case measure => simp [intOf]; omega)
                case' rb30 =>
                  (obtain ⟨m1, m2, hF⟩ := Fr.litF hHeld hW hb [le] #[.int .i64 le] 25 1 (by decide) rfl rfl (by simp); (try simp only [World.size_alloc] at hF); (try replace hV := fun w' h => hV w' ((Fr.lit0 hHeld hW hb (.cells #[.int .i64 le] 25)).trans h)); replace hW := m1; go_simp); refine hKK.out _ _ (by assumption) fun hHeld => ?_; clear hKK KK; try simp only [Act.put, List.setIfInBounds_toArray, List.set]
                  refine rn 9 rfl (by kernel_rfl) (by rfl) fun KK hKK => ?_
                  go_simp; (refine (WTNum_any _ (by decide) 8 b1 b b _ _ hW hb (by omega) (by omega) (by have := HL.out; simp only [List.length_append, leB_length] <;> omega)).mono ?_; rintro e w9 ⟨rfl, hW9, hf⟩; have hm := Fr.trans hHeld hf; (try replace hV := fun w' h => hV w' (hf.trans h)); (try replace hF := fun w' h => hF w' (hf.trans h)); replace hW := hW9; clear hf hW9; (try go_simp)); refine hKK.out _ _ (by assumption) fun hHeld => ?_; clear hKK KK; try simp only [Act.put, List.setIfInBounds_toArray, List.set]
                  refine rn 15 rfl (by kernel_rfl) (by rfl) fun KK hKK => ?_
                  go_simp; (refine (WTV_any _ (by decide) b b _ _ [(px, py), (vx, vy)] _ hW hb hV (by have := HL.out; simp only [List.length_append, leB_length, List.length_cons, List.length_nil] <;> omega)).mono ?_; rintro e w15 ⟨rfl, hW15, hf⟩; have hm := Fr.trans hHeld hf; clear hV; (try replace hF := fun w' h => hF w' (hf.trans h)); replace hW := hW15; clear hf hW15; (try go_simp)); refine hKK.out _ _ (by assumption) fun hHeld => ?_; clear hKK KK; try simp only [Act.put, List.setIfInBounds_toArray, List.set]
                  refine rn 19 rfl (by kernel_rfl) (by rfl) fun KK hKK => ?_
                  go_simp; (refine (WTF_any _ (by decide) b b _ _ [le] _ hW hb hF (by have := HL.out; simp only [List.length_append, leB_length, leF_length, fV_length, List.length_cons, List.length_nil] <;> omega)).mono ?_; rintro e w19 ⟨rfl, hW19, hf⟩; have hm := Fr.trans hHeld hf; (try replace hV := fun w' h => hV w' (hf.trans h)); clear hF; replace hW := hW19; clear hf hW19; (try go_simp)); refine hKK.out _ _ (by assumption) fun hHeld => ?_; clear hKK KK; try simp only [Act.put, List.setIfInBounds_toArray, List.set]
                  refine wpAnyH_done (by kernel_rfl) ?_ _
                  have hW9 := hW; go_wp2_with (fail); go_roundw; (case rel => exact ⟨j + 1, by omega, by go_num, by have := hW9; rw [HS.out, ← List.append_assoc]; simpa [leJt] using this, (HF1.out.trans hHeld)⟩); (case measure => simp [intOf]; omega)
              case' rb29 =>
                (obtain ⟨m1, m2, hF⟩ := Fr.litF hHeld hW hb [le] #[.int .i64 le] 25 1 (by decide) rfl rfl (by simp); (try simp only [World.size_alloc] at hF); (try replace hV := fun w' h => hV w' ((Fr.lit0 hHeld hW hb (.cells #[.int .i64 le] 25)).trans h)); replace hW := m1; go_simp); refine hKK.out _ _ (by assumption) fun hHeld => ?_; clear hKK KK; try simp only [Act.put, List.setIfInBounds_toArray, List.set]
                refine rn 6 rfl (by kernel_rfl) (by rfl) fun KK hKK => ?_
                go_simp; (refine (WTNum_any _ (by decide) 8 a b b _ _ hW hb (by omega) (by omega) (by have := HL.out; simp only [List.length_append, leB_length] <;> omega)).mono ?_; rintro e w6 ⟨rfl, hW6, hf⟩; have hm := Fr.trans hHeld hf; (try replace hV := fun w' h => hV w' (hf.trans h)); (try replace hF := fun w' h => hF w' (hf.trans h)); replace hW := hW6; clear hf hW6; (try go_simp)); refine hKK.out _ _ (by assumption) fun hHeld => ?_; clear hKK KK; try simp only [Act.put, List.setIfInBounds_toArray, List.set]
                refine rn 9 rfl (by kernel_rfl) (by rfl) fun KK hKK => ?_
                go_simp; (refine (WTNum_any _ (by decide) 8 b1 b b _ _ hW hb (by omega) (by omega) (by have := HL.out; simp only [List.length_append, leB_length] <;> omega)).mono ?_; rintro e w9 ⟨rfl, hW9, hf⟩; have hm := Fr.trans hHeld hf; (try replace hV := fun w' h => hV w' (hf.trans h)); (try replace hF := fun w' h => hF w' (hf.trans h)); replace hW := hW9; clear hf hW9; (try go_simp)); refine hKK.out _ _ (by assumption) fun hHeld => ?_; clear hKK KK; try simp only [Act.put, List.setIfInBounds_toArray, List.set]
                refine rn 15 rfl (by kernel_rfl) (by rfl) fun KK hKK => ?_
                go_simp; (refine (WTV_any _ (by decide) b b _ _ [(px, py), (vx, vy)] _ hW hb hV (by have := HL.out; simp only [List.length_append, leB_length, List.length_cons, List.length_nil] <;> omega)).mono ?_; rintro e w15 ⟨rfl, hW15, hf⟩; have hm := Fr.trans hHeld hf; clear hV; (try replace hF := fun w' h => hF w' (hf.trans h)); replace hW := hW15; clear hf hW15; (try go_simp)); refine hKK.out _ _ (by assumption) fun hHeld => ?_; clear hKK KK; try simp only [Act.put, List.setIfInBounds_toArray, List.set]
                refine rn 19 rfl (by kernel_rfl) (by rfl) fun KK hKK => ?_
                go_simp; (refine (WTF_any _ (by decide) b b _ _ [le] _ hW hb hF (by have := HL.out; simp only [List.length_append, leB_length, leF_length, fV_length, List.length_cons, List.length_nil] <;> omega)).mono ?_; rintro e w19 ⟨rfl, hW19, hf⟩; have hm := Fr.trans hHeld hf; (try replace hV := fun w' h => hV w' (hf.trans h)); clear hF; replace hW := hW19; clear hf hW19; (try go_simp)); refine hKK.out _ _ (by assumption) fun hHeld => ?_; clear hKK KK; try simp only [Act.put, List.setIfInBounds_toArray, List.set]
                refine wpAnyH_done (by kernel_rfl) ?_ _
                have hW9 := hW; go_wp2_with (fail); go_roundw; (case rel => exact ⟨j + 1, by omega, by go_num, by have := hW9; rw [HS.out, ← List.append_assoc]; simpa [leJt] using this, (HF1.out.trans hHeld)⟩); (case measure => simp [intOf]; omega)
            case' rc22 =>
              (obtain ⟨m1, m2, hF⟩ := Fr.litF hHeld hW hb [le] #[.int .i64 le] 25 1 (by decide) rfl rfl (by simp); (try simp only [World.size_alloc] at hF); (try replace hV := fun w' h => hV w' ((Fr.lit0 hHeld hW hb (.cells #[.int .i64 le] 25)).trans h)); replace hW := m1; go_simp); refine hKK.out _ _ (by assumption) fun hHeld => ?_; clear hKK KK; try simp only [Act.put, List.setIfInBounds_toArray, List.set]
              refine rn2 6 14 rfl rfl (by kernel_rfl) (by rfl) (by rfl) (fun KK hKK => ?ra32) (fun KK hKK => ?rb32)
              case' ra32 =>
                go_simp; (refine (WTNum_any _ (by decide) 8 a b b _ _ hW hb (by omega) (by omega) (by have := HL.out; simp only [List.length_append, leB_length] <;> omega)).mono ?_; rintro e w6 ⟨rfl, hW6, hf⟩; have hm := Fr.trans hHeld hf; (try replace hV := fun w' h => hV w' (hf.trans h)); (try replace hF := fun w' h => hF w' (hf.trans h)); replace hW := hW6; clear hf hW6; (try go_simp)); refine hKK.out _ _ (by assumption) fun hHeld => ?_; clear hKK KK; try simp only [Act.put, List.setIfInBounds_toArray, List.set]
                refine rn2 9 14 rfl rfl (by kernel_rfl) (by rfl) (by rfl) (fun KK hKK => ?ra33) (fun KK hKK => ?rb33)
                case' ra33 =>
                  go_simp; (refine (WTNum_any _ (by decide) 8 b1 b b _ _ hW hb (by omega) (by omega) (by have := HL.out; simp only [List.length_append, leB_length] <;> omega)).mono ?_; rintro e w9 ⟨rfl, hW9, hf⟩; have hm := Fr.trans hHeld hf; (try replace hV := fun w' h => hV w' (hf.trans h)); (try replace hF := fun w' h => hF w' (hf.trans h)); replace hW := hW9; clear hf hW9; (try go_simp)); refine hKK.out _ _ (by assumption) fun hHeld => ?_; clear hKK KK; try simp only [Act.put, List.setIfInBounds_toArray, List.set]
                  refine rn 14 rfl (by kernel_rfl) (by rfl) fun KK hKK => ?_
                  (obtain ⟨m1, m2, hV⟩ := Fr.litV hHeld hW hb [(px, py), (vx, vy)] #[.int .i64 px, .int .i64 py, .int .i64 vx, .int .i64 vy] 27 2 (by decide) rfl rfl (by simp); (try simp only [World.size_alloc] at hV); (try replace hF := fun w' h => hF w' ((Fr.lit0 hHeld hW hb (.cells #[.int .i64 px, .int .i64 py, .int .i64 vx, .int .i64 vy] 27)).trans h)); replace hW := m1; go_simp); refine hKK.out _ _ (by assumption) fun hHeld => ?_; clear hKK KK; try simp only [Act.put, List.setIfInBounds_toArray, List.set]
                  refine rn 15 rfl (by kernel_rfl) (by rfl) fun KK hKK => ?_
                  go_simp; (refine (WTV_any _ (by decide) b b _ _ [(px, py), (vx, vy)] _ hW hb hV (by have := HL.out; simp only [List.length_append, leB_length, List.length_cons, List.length_nil] <;> omega)).mono ?_; rintro e w15 ⟨rfl, hW15, hf⟩; have hm := Fr.trans hHeld hf; clear hV; (try replace hF := fun w' h => hF w' (hf.trans h)); replace hW := hW15; clear hf hW15; (try go_simp)); refine hKK.out _ _ (by assumption) fun hHeld => ?_; clear hKK KK; try simp only [Act.put, List.setIfInBounds_toArray, List.set]
                  refine rn 19 rfl (by kernel_rfl) (by rfl) fun KK hKK => ?_
                  go_simp; (refine (WTF_any _ (by decide) b b _ _ [le] _ hW hb hF (by have := HL.out; simp only [List.length_append, leB_length, leF_length, fV_length, List.length_cons, List.length_nil] <;> omega)).mono ?_; rintro e w19 ⟨rfl, hW19, hf⟩; have hm := Fr.trans hHeld hf; (try replace hV := fun w' h => hV w' (hf.trans h)); clear hF; replace hW := hW19; clear hf hW19; (try go_simp)); refine hKK.out _ _ (by assumption) fun hHeld => ?_; clear hKK KK; try simp only [Act.put, List.setIfInBounds_toArray, List.set]
                  refine wpAnyH_done (by kernel_rfl) ?_ _
                  have hW9 := hW; go_wp2_with (fail); go_roundw; (case rel => exact ⟨j + 1, by omega, by go_num, by have := hW9; rw [HS.out, ← List.append_assoc]; simpa [leJt] using this, (HF1.out.trans hHeld)⟩); (case measure => simp [intOf]; omega)
                case' rb33 =>
                  (obtain ⟨m1, m2, hV⟩ := Fr.litV hHeld hW hb [(px, py), (vx, vy)] #[.int .i64 px, .int .i64 py, .int .i64 vx, .int .i64 vy] 27 2 (by decide) rfl rfl (by simp); (try simp only [World.size_alloc] at hV); (try replace hF := fun w' h => hF w' ((Fr.lit0 hHeld hW hb (.cells #[.int .i64 px, .int .i64 py, .int .i64 vx, .int .i64 vy] 27)).trans h)); replace hW := m1; go_simp); refine hKK.out _ _ (by assumption) fun hHeld => ?_; clear hKK KK; try simp only [Act.put, List.setIfInBounds_toArray, List.set]
                  refine rn 9 rfl (by kernel_rfl) (by rfl) fun KK hKK => ?_
                  go_simp; (refine (WTNum_any _ (by decide) 8 b1 b b _ _ hW hb (by omega) (by omega) (by have := HL.out; simp only [List.length_append, leB_length] <;> omega)).mono ?_; rintro e w9 ⟨rfl, hW9, hf⟩; have hm := Fr.trans hHeld hf; (try replace hV := fun w' h => hV w' (hf.trans h)); (try replace hF := fun w' h => hF w' (hf.trans h)); replace hW := hW9; clear hf hW9; (try go_simp)); refine hKK.out _ _ (by assumption) fun hHeld => ?_; clear hKK KK; try simp only [Act.put, List.setIfInBounds_toArray, List.set]
                  refine rn 15 rfl (by kernel_rfl) (by rfl) fun KK hKK => ?_
                  go_simp; (refine (WTV_any _ (by decide) b b _ _ [(px, py), (vx, vy)] _ hW hb hV (by have := HL.out; simp only [List.length_append, leB_length, List.length_cons, List.length_nil] <;> omega)).mono ?_; rintro e w15 ⟨rfl, hW15, hf⟩; have hm := Fr.trans hHeld hf; clear hV; (try replace hF := fun w' h => hF w' (hf.trans h)); replace hW := hW15; clear hf hW15; (try go_simp)); refine hKK.out _ _ (by assumption) fun hHeld => ?_; clear hKK KK; try simp only [Act.put, List.setIfInBounds_toArray, List.set]
                  refine rn 19 rfl (by kernel_rfl) (by rfl) fun KK hKK => ?_
                  go_simp; (refine (WTF_any _ (by decide) b b _ _ [le] _ hW hb hF (by have := HL.out; simp only [List.length_append, leB_length, leF_length, fV_length, List.length_cons, List.length_nil] <;> omega)).mono ?_; rintro e w19 ⟨rfl, hW19, hf⟩; have hm := Fr.trans hHeld hf; (try replace hV := fun w' h => hV w' (hf.trans h)); clear hF; replace hW := hW19; clear hf hW19; (try go_simp)); refine hKK.out _ _ (by assumption) fun hHeld => ?_; clear hKK KK; try simp only [Act.put, List.setIfInBounds_toArray, List.set]
                  refine wpAnyH_done (by kernel_rfl) ?_ _
                  have hW9 := hW; go_wp2_with (fail); go_roundw; (case rel => exact ⟨j + 1, by omega, by go_num, by have := hW9; rw [HS.out, ← List.append_assoc]; simpa [leJt] using this, (HF1.out.trans hHeld)⟩); (case measure => simp [intOf]; omega)
              case' rb32 =>
                (obtain ⟨m1, m2, hV⟩ := Fr.litV hHeld hW hb [(px, py), (vx, vy)] #[.int .i64 px, .int .i64 py, .int .i64 vx, .int .i64 vy] 27 2 (by decide) rfl rfl (by simp); (try simp only [World.size_alloc] at hV); (try replace hF := fun w' h => hF w' ((Fr.lit0 hHeld hW hb (.cells #[.int .i64 px, .int .i64 py, .int .i64 vx, .int .i64 vy] 27)).trans h)); replace hW := m1; go_simp); refine hKK.out _ _ (by assumption) fun hHeld => ?_; clear hKK KK; try simp only [Act.put, List.setIfInBounds_toArray, List.set]
                refine rn 6 rfl (by kernel_rfl) (by rfl) fun KK hKK => ?_
                go_simp; (refine (WTNum_any _ (by decide) 8 a b b _ _ hW hb (by omega) (by omega) (by have := HL.out; simp only [List.length_append, leB_length] <;> omega)).mono ?_; rintro e w6 ⟨rfl, hW6, hf⟩; have hm := Fr.trans hHeld hf; (try replace hV := fun w' h => hV w' (hf.trans h)); (try replace hF := fun w' h => hF w' (hf.trans h)); replace hW := hW6; clear hf hW6; (try go_simp)); refine hKK.out _ _ (by assumption) fun hHeld => ?_; clear hKK KK; try simp only [Act.put, List.setIfInBounds_toArray, List.set]
                refine rn 9 rfl (by kernel_rfl) (by rfl) fun KK hKK => ?_
                go_simp; (refine (WTNum_any _ (by decide) 8 b1 b b _ _ hW hb (by omega) (by omega) (by have := HL.out; simp only [List.length_append, leB_length] <;> omega)).mono ?_; rintro e w9 ⟨rfl, hW9, hf⟩; have hm := Fr.trans hHeld hf; (try replace hV := fun w' h => hV w' (hf.trans h)); (try replace hF := fun w' h => hF w' (hf.trans h)); replace hW := hW9; clear hf hW9; (try go_simp)); refine hKK.out _ _ (by assumption) fun hHeld => ?_; clear hKK KK; try simp only [Act.put, List.setIfInBounds_toArray, List.set]
                refine rn 15 rfl (by kernel_rfl) (by rfl) fun KK hKK => ?_
                go_simp; (refine (WTV_any _ (by decide) b b _ _ [(px, py), (vx, vy)] _ hW hb hV (by have := HL.out; simp only [List.length_append, leB_length, List.length_cons, List.length_nil] <;> omega)).mono ?_; rintro e w15 ⟨rfl, hW15, hf⟩; have hm := Fr.trans hHeld hf; clear hV; (try replace hF := fun w' h => hF w' (hf.trans h)); replace hW := hW15; clear hf hW15; (try go_simp)); refine hKK.out _ _ (by assumption) fun hHeld => ?_; clear hKK KK; try simp only [Act.put, List.setIfInBounds_toArray, List.set]
                refine rn 19 rfl (by kernel_rfl) (by rfl) fun KK hKK => ?_
                go_simp; (refine (WTF_any _ (by decide) b b _ _ [le] _ hW hb hF (by have := HL.out; simp only [List.length_append, leB_length, leF_length, fV_length, List.length_cons, List.length_nil] <;> omega)).mono ?_; rintro e w19 ⟨rfl, hW19, hf⟩; have hm := Fr.trans hHeld hf; (try replace hV := fun w' h => hV w' (hf.trans h)); clear hF; replace hW := hW19; clear hf hW19; (try go_simp)); refine hKK.out _ _ (by assumption) fun hHeld => ?_; clear hKK KK; try simp only [Act.put, List.setIfInBounds_toArray, List.set]
                refine wpAnyH_done (by kernel_rfl) ?_ _
                have hW9 := hW; go_wp2_with (fail); go_roundw; (case rel => exact ⟨j + 1, by omega, by go_num, by have := hW9; rw [HS.out, ← List.append_assoc]; simpa [leJt] using this, (HF1.out.trans hHeld)⟩); (case measure => simp [intOf]; omega)
          case' rb21 =>
            (obtain ⟨m1, m2, hV⟩ := Fr.litV hHeld hW hb [(px, py), (vx, vy)] #[.int .i64 px, .int .i64 py, .int .i64 vx, .int .i64 vy] 27 2 (by decide) rfl rfl (by simp); (try simp only [World.size_alloc] at hV); (try replace hF := fun w' h => hF w' ((Fr.lit0 hHeld hW hb (.cells #[.int .i64 px, .int .i64 py, .int .i64 vx, .int .i64 vy] 27)).trans h)); replace hW := m1; go_simp); refine hKK.out _ _ (by assumption) fun hHeld => ?_; clear hKK KK; try simp only [Act.put, List.setIfInBounds_toArray, List.set]
            refine rn2 3 18 rfl rfl (by kernel_rfl) (by rfl) (by rfl) (fun KK hKK => ?ra34) (fun KK hKK => ?rb34)
            case' ra34 =>
              go_simp; (refine (WTNum_any _ (by decide) 8 i b b _ _ hW hb (by omega) (by omega) (by have := HL.out; simp only [List.length_append] <;> omega)).mono ?_; rintro e w3 ⟨rfl, hW3, hf⟩; have hm := Fr.trans hHeld hf; (try replace hV := fun w' h => hV w' (hf.trans h)); (try replace hF := fun w' h => hF w' (hf.trans h)); replace hW := hW3; clear hf hW3; (try go_simp)); refine hKK.out _ _ (by assumption) fun hHeld => ?_; clear hKK KK; try simp only [Act.put, List.setIfInBounds_toArray, List.set]
              refine rn2 6 18 rfl rfl (by kernel_rfl) (by rfl) (by rfl) (fun KK hKK => ?ra35) (fun KK hKK => ?rb35)
              case' ra35 =>
                go_simp; (refine (WTNum_any _ (by decide) 8 a b b _ _ hW hb (by omega) (by omega) (by have := HL.out; simp only [List.length_append, leB_length] <;> omega)).mono ?_; rintro e w6 ⟨rfl, hW6, hf⟩; have hm := Fr.trans hHeld hf; (try replace hV := fun w' h => hV w' (hf.trans h)); (try replace hF := fun w' h => hF w' (hf.trans h)); replace hW := hW6; clear hf hW6; (try go_simp)); refine hKK.out _ _ (by assumption) fun hHeld => ?_; clear hKK KK; try simp only [Act.put, List.setIfInBounds_toArray, List.set]
                refine rn2 9 18 rfl rfl (by kernel_rfl) (by rfl) (by rfl) (fun KK hKK => ?ra36) (fun KK hKK => ?rb36)
                case' ra36 =>
                  go_simp; (refine (WTNum_any _ (by decide) 8 b1 b b _ _ hW hb (by omega) (by omega) (by have := HL.out; simp only [List.length_append, leB_length] <;> omega)).mono ?_; rintro e w9 ⟨rfl, hW9, hf⟩; have hm := Fr.trans hHeld hf; (try replace hV := fun w' h => hV w' (hf.trans h)); (try replace hF := fun w' h => hF w' (hf.trans h)); replace hW := hW9; clear hf hW9; (try go_simp)); refine hKK.out _ _ (by assumption) fun hHeld => ?_; clear hKK KK; try simp only [Act.put, List.setIfInBounds_toArray, List.set]
                  refine rn2 15 18 rfl rfl (by kernel_rfl) (by rfl) (by rfl) (fun KK hKK => ?ra37) (fun KK hKK => ?rb37)
                  case' ra37 =>
                    go_simp; (refine (WTV_any _ (by decide) b b _ _ [(px, py), (vx, vy)] _ hW hb hV (by have := HL.out; simp only [List.length_append, leB_length, List.length_cons, List.length_nil] <;> omega)).mono ?_; rintro e w15 ⟨rfl, hW15, hf⟩; have hm := Fr.trans hHeld hf; clear hV; (try replace hF := fun w' h => hF w' (hf.trans h)); replace hW := hW15; clear hf hW15; (try go_simp)); refine hKK.out _ _ (by assumption) fun hHeld => ?_; clear hKK KK; try simp only [Act.put, List.setIfInBounds_toArray, List.set]
                    refine rn 18 rfl (by kernel_rfl) (by rfl) fun KK hKK => ?_
                    (obtain ⟨m1, m2, hF⟩ := Fr.litF hHeld hW hb [le] #[.int .i64 le] 25 1 (by decide) rfl rfl (by simp); (try simp only [World.size_alloc] at hF); (try replace hV := fun w' h => hV w' ((Fr.lit0 hHeld hW hb (.cells #[.int .i64 le] 25)).trans h)); replace hW := m1; go_simp); refine hKK.out _ _ (by assumption) fun hHeld => ?_; clear hKK KK; try simp only [Act.put, List.setIfInBounds_toArray, List.set]
                    refine rn 19 rfl (by kernel_rfl) (by rfl) fun KK hKK => ?_
                    go_simp; (refine (WTF_any _ (by decide) b b _ _ [le] _ hW hb hF (by have := HL.out; simp only [List.length_append, leB_length, leF_length, fV_length, List.length_cons, List.length_nil] <;> omega)).mono ?_; rintro e w19 ⟨rfl, hW19, hf⟩; have hm := Fr.trans hHeld hf; (try replace hV := fun w' h => hV w' (hf.trans h)); clear hF; replace hW := hW19; clear hf hW19; (try go_simp)); refine hKK.out _ _ (by assumption) fun hHeld => ?_; clear hKK KK; try simp only [Act.put, List.setIfInBounds_toArray, List.set]
                    refine wpAnyH_done (by kernel_rfl) ?_ _
                    have hW9 := hW; go_wp2_with (fail); go_roundw; (case rel => exact ⟨j + 1, by omega, by go_num, by have := hW9; rw [HS.out, ← List.append_assoc]; simpa [leJt] using this, (HF1.out.trans hHeld)⟩); (case measure => simp [intOf]; omega)
                  case' rb37 =>
                    (obtain ⟨m1, m2, hF⟩ := Fr.litF hHeld hW hb [le] #[.int .i64 le] 25 1 (by decide) rfl rfl (by simp); (try simp only [World.size_alloc] at hF); (try replace hV := fun w' h => hV w' ((Fr.lit0 hHeld hW hb (.cells #[.int .i64 le] 25)).trans h)); replace hW := m1; go_simp); refine hKK.out _ _ (by assumption) fun hHeld => ?_; clear hKK KK; try simp only [Act.put, List.setIfInBounds_toArray, List.set]
                    refine rn 15 rfl (by kernel_rfl) (by rfl) fun KK hKK => ?_
                    go_simp; (refine (WTV_any _ (by decide) b b _ _ [(px, py), (vx, vy)] _ hW hb hV (by have := HL.out; simp only [List.length_append, leB_length, List.length_cons, List.length_nil] <;> omega)).mono ?_; rintro e w15 ⟨rfl, hW15, hf⟩; have hm := Fr.trans hHeld hf; clear hV; (try replace hF := fun w' h => hF w' (hf.trans h)); replace hW := hW15; clear hf hW15; (try go_simp)); refine hKK.out _ _ (by assumption) fun hHeld => ?_; clear hKK KK; try simp only [Act.put, List.setIfInBounds_toArray, List.set]
                    refine rn 19 rfl (by kernel_rfl) (by rfl) fun KK hKK => ?_
                    go_simp; (refine (WTF_any _ (by decide) b b _ _ [le] _ hW hb hF (by have := HL.out; simp only [List.length_append, leB_length, leF_length, fV_length, List.length_cons, List.length_nil] <;> omega)).mono ?_; rintro e w19 ⟨rfl, hW19, hf⟩; have hm := Fr.trans hHeld hf; (try replace hV := fun w' h => hV w' (hf.trans h)); clear hF; replace hW := hW19; clear hf hW19; (try go_simp)); refine hKK.out _ _ (by assumption) fun hHeld => ?_; clear hKK KK; try simp only [Act.put, List.setIfInBounds_toArray, List.set]
                    refine wpAnyH_done (by kernel_rfl) ?_ _
                    have hW9 := hW; go_wp2_with (fail); go_roundw; (case rel => exact ⟨j + 1, by omega, by go_num, by have := hW9; rw [HS.out, ← List.append_assoc]; simpa [leJt] using this, (HF1.out.trans hHeld)⟩); (case measure => simp [intOf]; omega)
                case' rb36 =>
                  (obtain ⟨m1, m2, hF⟩ := Fr.litF hHeld hW hb [le] #[.int .i64 le] 25 1 (by decide) rfl rfl (by simp); (try simp only [World.size_alloc] at hF); (try replace hV := fun w' h => hV w' ((Fr.lit0 hHeld hW hb (.cells #[.int .i64 le] 25)).trans h)); replace hW := m1; go_simp); refine hKK.out _ _ (by assumption) fun hHeld => ?_; clear hKK KK; try simp only [Act.put, List.setIfInBounds_toArray, List.set]
                  refine rn 9 rfl (by kernel_rfl) (by rfl) fun KK hKK => ?_
                  go_simp; (refine (WTNum_any _ (by decide) 8 b1 b b _ _ hW hb (by omega) (by omega) (by have := HL.out; simp only [List.length_append, leB_length] <;> omega)).mono ?_; rintro e w9 ⟨rfl, hW9, hf⟩; have hm := Fr.trans hHeld hf; (try replace hV := fun w' h => hV w' (hf.trans h)); (try replace hF := fun w' h => hF w' (hf.trans h)); replace hW := hW9; clear hf hW9; (try go_simp)); refine hKK.out _ _ (by assumption) fun hHeld => ?_; clear hKK KK; try simp only [Act.put, List.setIfInBounds_toArray, List.set]
                  refine rn 15 rfl (by kernel_rfl) (by rfl) fun KK hKK => ?_
                  go_simp; (refine (WTV_any _ (by decide) b b _ _ [(px, py), (vx, vy)] _ hW hb hV (by have := HL.out; simp only [List.length_append, leB_length, List.length_cons, List.length_nil] <;> omega)).mono ?_; rintro e w15 ⟨rfl, hW15, hf⟩; have hm := Fr.trans hHeld hf; clear hV; (try replace hF := fun w' h => hF w' (hf.trans h)); replace hW := hW15; clear hf hW15; (try go_simp)); refine hKK.out _ _ (by assumption) fun hHeld => ?_; clear hKK KK; try simp only [Act.put, List.setIfInBounds_toArray, List.set]
                  refine rn 19 rfl (by kernel_rfl) (by rfl) fun KK hKK => ?_
                  go_simp; (refine (WTF_any _ (by decide) b b _ _ [le] _ hW hb hF (by have := HL.out; simp only [List.length_append, leB_length, leF_length, fV_length, List.length_cons, List.length_nil] <;> omega)).mono ?_; rintro e w19 ⟨rfl, hW19, hf⟩; have hm := Fr.trans hHeld hf; (try replace hV := fun w' h => hV w' (hf.trans h)); clear hF; replace hW := hW19; clear hf hW19; (try go_simp)); refine hKK.out _ _ (by assumption) fun hHeld => ?_; clear hKK KK; try simp only [Act.put, List.setIfInBounds_toArray, List.set]
                  refine wpAnyH_done (by kernel_rfl) ?_ _
                  have hW9 := hW; go_wp2_with (fail); go_roundw; (case rel => exact ⟨j + 1, by omega, by go_num, by have := hW9; rw [HS.out, ← List.append_assoc]; simpa [leJt] using this, (HF1.out.trans hHeld)⟩); (case measure => simp [intOf]; omega)
              case' rb35 =>
                (obtain ⟨m1, m2, hF⟩ := Fr.litF hHeld hW hb [le] #[.int .i64 le] 25 1 (by decide) rfl rfl (by simp); (try simp only [World.size_alloc] at hF); (try replace hV := fun w' h => hV w' ((Fr.lit0 hHeld hW hb (.cells #[.int .i64 le] 25)).trans h)); replace hW := m1; go_simp); refine hKK.out _ _ (by assumption) fun hHeld => ?_; clear hKK KK; try simp only [Act.put, List.setIfInBounds_toArray, List.set]
                refine rn 6 rfl (by kernel_rfl) (by rfl) fun KK hKK => ?_
                go_simp; (refine (WTNum_any _ (by decide) 8 a b b _ _ hW hb (by omega) (by omega) (by have := HL.out; simp only [List.length_append, leB_length] <;> omega)).mono ?_; rintro e w6 ⟨rfl, hW6, hf⟩; have hm := Fr.trans hHeld hf; (try replace hV := fun w' h => hV w' (hf.trans h)); (try replace hF := fun w' h => hF w' (hf.trans h)); replace hW := hW6; clear hf hW6; (try go_simp)); refine hKK.out _ _ (by assumption) fun hHeld => ?_; clear hKK KK; try simp only [Act.put, List.setIfInBounds_toArray, List.set]
                refine rn 9 rfl (by kernel_rfl) (by rfl) fun KK hKK => ?_
                go_simp; (refine (WTNum_any _ (by decide) 8 b1 b b _ _ hW hb (by omega) (by omega) (by have := HL.out; simp only [List.length_append, leB_length] <;> omega)).mono ?_; rintro e w9 ⟨rfl, hW9, hf⟩; have hm := Fr.trans hHeld hf; (try replace hV := fun w' h => hV w' (hf.trans h)); (try replace hF := fun w' h => hF w' (hf.trans h)); replace hW := hW9; clear hf hW9; (try go_simp)); refine hKK.out _ _ (by assumption) fun hHeld => ?_; clear hKK KK; try simp only [Act.put, List.setIfInBounds_toArray, List.set]
                refine rn 15 rfl (by kernel_rfl) (by rfl) fun KK hKK => ?_
                go_simp; (refine (WTV_any _ (by decide) b b _ _ [(px, py), (vx, vy)] _ hW hb hV (by have := HL.out; simp only [List.length_append, leB_length, List.length_cons, List.length_nil] <;> omega)).mono ?_; rintro e w15 ⟨rfl, hW15, hf⟩; have hm := Fr.trans hHeld hf; clear hV; (try replace hF := fun w' h => hF w' (hf.trans h)); replace hW := hW15; clear hf hW15; (try go_simp)); refine hKK.out _ _ (by assumption) fun hHeld => ?_; clear hKK KK; try simp only [Act.put, List.setIfInBounds_toArray, List.set]
                refine rn 19 rfl (by kernel_rfl) (by rfl) fun KK hKK => ?_
                go_simp; (refine (WTF_any _ (by decide) b b _ _ [le] _ hW hb hF (by have := HL.out; simp only [List.length_append, leB_length, leF_length, fV_length, List.length_cons, List.length_nil] <;> omega)).mono ?_; rintro e w19 ⟨rfl, hW19, hf⟩; have hm := Fr.trans hHeld hf; (try replace hV := fun w' h => hV w' (hf.trans h)); clear hF; replace hW := hW19; clear hf hW19; (try go_simp)); refine hKK.out _ _ (by assumption) fun hHeld => ?_; clear hKK KK; try simp only [Act.put, List.setIfInBounds_toArray, List.set]
                refine wpAnyH_done (by kernel_rfl) ?_ _
                have hW9 := hW; go_wp2_with (fail); go_roundw; (case rel => exact ⟨j + 1, by omega, by go_num, by have := hW9; rw [HS.out, ← List.append_assoc]; simpa [leJt] using this, (HF1.out.trans hHeld)⟩); (case measure => simp [intOf]; omega)
            case' rb34 =>
              (obtain ⟨m1, m2, hF⟩ := Fr.litF hHeld hW hb [le] #[.int .i64 le] 25 1 (by decide) rfl rfl (by simp); (try simp only [World.size_alloc] at hF); (try replace hV := fun w' h => hV w' ((Fr.lit0 hHeld hW hb (.cells #[.int .i64 le] 25)).trans h)); replace hW := m1; go_simp); refine hKK.out _ _ (by assumption) fun hHeld => ?_; clear hKK KK; try simp only [Act.put, List.setIfInBounds_toArray, List.set]
              refine rn 3 rfl (by kernel_rfl) (by rfl) fun KK hKK => ?_
              go_simp; (refine (WTNum_any _ (by decide) 8 i b b _ _ hW hb (by omega) (by omega) (by have := HL.out; simp only [List.length_append] <;> omega)).mono ?_; rintro e w3 ⟨rfl, hW3, hf⟩; have hm := Fr.trans hHeld hf; (try replace hV := fun w' h => hV w' (hf.trans h)); (try replace hF := fun w' h => hF w' (hf.trans h)); replace hW := hW3; clear hf hW3; (try go_simp)); refine hKK.out _ _ (by assumption) fun hHeld => ?_; clear hKK KK; try simp only [Act.put, List.setIfInBounds_toArray, List.set]
              refine rn 6 rfl (by kernel_rfl) (by rfl) fun KK hKK => ?_
              go_simp; (refine (WTNum_any _ (by decide) 8 a b b _ _ hW hb (by omega) (by omega) (by have := HL.out; simp only [List.length_append, leB_length] <;> omega)).mono ?_; rintro e w6 ⟨rfl, hW6, hf⟩; have hm := Fr.trans hHeld hf; (try replace hV := fun w' h => hV w' (hf.trans h)); (try replace hF := fun w' h => hF w' (hf.trans h)); replace hW := hW6; clear hf hW6; (try go_simp)); refine hKK.out _ _ (by assumption) fun hHeld => ?_; clear hKK KK; try simp only [Act.put, List.setIfInBounds_toArray, List.set]
              refine rn 9 rfl (by kernel_rfl) (by rfl) fun KK hKK => ?_
              go_simp; (refine (WTNum_any _ (by decide) 8 b1 b b _ _ hW hb (by omega) (by omega) (by have := HL.out; simp only [List.length_append, leB_length] <;> omega)).mono ?_; rintro e w9 ⟨rfl, hW9, hf⟩; have hm := Fr.trans hHeld hf; (try replace hV := fun w' h => hV w' (hf.trans h)); (try replace hF := fun w' h => hF w' (hf.trans h)); replace hW := hW9; clear hf hW9; (try go_simp)); refine hKK.out _ _ (by assumption) fun hHeld => ?_; clear hKK KK; try simp only [Act.put, List.setIfInBounds_toArray, List.set]
              refine rn 15 rfl (by kernel_rfl) (by rfl) fun KK hKK => ?_
              go_simp; (refine (WTV_any _ (by decide) b b _ _ [(px, py), (vx, vy)] _ hW hb hV (by have := HL.out; simp only [List.length_append, leB_length, List.length_cons, List.length_nil] <;> omega)).mono ?_; rintro e w15 ⟨rfl, hW15, hf⟩; have hm := Fr.trans hHeld hf; clear hV; (try replace hF := fun w' h => hF w' (hf.trans h)); replace hW := hW15; clear hf hW15; (try go_simp)); refine hKK.out _ _ (by assumption) fun hHeld => ?_; clear hKK KK; try simp only [Act.put, List.setIfInBounds_toArray, List.set]
              refine rn 19 rfl (by kernel_rfl) (by rfl) fun KK hKK => ?_
              go_simp; (refine (WTF_any _ (by decide) b b _ _ [le] _ hW hb hF (by have := HL.out; simp only [List.length_append, leB_length, leF_length, fV_length, List.length_cons, List.length_nil] <;> omega)).mono ?_; rintro e w19 ⟨rfl, hW19, hf⟩; have hm := Fr.trans hHeld hf; (try replace hV := fun w' h => hV w' (hf.trans h)); clear hF; replace hW := hW19; clear hf hW19; (try go_simp)); refine hKK.out _ _ (by assumption) fun hHeld => ?_; clear hKK KK; try simp only [Act.put, List.setIfInBounds_toArray, List.set]
              refine wpAnyH_done (by kernel_rfl) ?_ _
              have hW9 := hW; go_wp2_with (fail); go_roundw; (case rel => exact ⟨j + 1, by omega, by go_num, by have := hW9; rw [HS.out, ← List.append_assoc]; simpa [leJt] using this, (HF1.out.trans hHeld)⟩); (case measure => simp [intOf]; omega)
          case' rc21 =>
            (obtain ⟨m1, m2, hF⟩ := Fr.litF hHeld hW hb [le] #[.int .i64 le] 25 1 (by decide) rfl rfl (by simp); (try simp only [World.size_alloc] at hF); (try replace hV := fun w' h => hV w' ((Fr.lit0 hHeld hW hb (.cells #[.int .i64 le] 25)).trans h)); replace hW := m1; go_simp); refine hKK.out _ _ (by assumption) fun hHeld => ?_; clear hKK KK; try simp only [Act.put, List.setIfInBounds_toArray, List.set]
            refine rn2 3 14 rfl rfl (by kernel_rfl) (by rfl) (by rfl) (fun KK hKK => ?ra38) (fun KK hKK => ?rb38)
            case' ra38 =>
              go_simp; (refine (WTNum_any _ (by decide) 8 i b b _ _ hW hb (by omega) (by omega) (by have := HL.out; simp only [List.length_append] <;> omega)).mono ?_; rintro e w3 ⟨rfl, hW3, hf⟩; have hm := Fr.trans hHeld hf; (try replace hV := fun w' h => hV w' (hf.trans h)); (try replace hF := fun w' h => hF w' (hf.trans h)); replace hW := hW3; clear hf hW3; (try go_simp)); refine hKK.out _ _ (by assumption) fun hHeld => ?_; clear hKK KK; try simp only [Act.put, List.setIfInBounds_toArray, List.set]
              refine rn2 6 14 rfl rfl (by kernel_rfl) (by rfl) (by rfl) (fun KK hKK => ?ra39) (fun KK hKK => ?rb39)
              case' ra39 =>
                go_simp; (refine (WTNum_any _ (by decide) 8 a b b _ _ hW hb (by omega) (by omega) (by have := HL.out; simp only [List.length_append, leB_length] <;> omega)).mono ?_; rintro e w6 ⟨rfl, hW6, hf⟩; have hm := Fr.trans hHeld hf; (try replace hV := fun w' h => hV w' (hf.trans h)); (try replace hF := fun w' h => hF w' (hf.trans h)); replace hW := hW6; clear hf hW6; (try go_simp)); refine hKK.out _ _ (by assumption) fun hHeld => ?_; clear hKK KK; try simp only [Act.put, List.setIfInBounds_toArray, List.set]
                refine rn2 9 14 rfl rfl (by kernel_rfl) (by rfl) (by rfl) (fun KK hKK => ?ra40) (fun KK hKK => ?rb40)
                case' ra40 =>
                  go_simp; (refine (WTNum_any _ (by decide) 8 b1 b b _ _ hW hb (by omega) (by omega) (by have := HL.out; simp only [List.length_append, leB_length] <;> omega)).mono ?_; rintro e w9 ⟨rfl, hW9, hf⟩; have hm := Fr.trans hHeld hf; (try replace hV := fun w' h => hV w' (hf.trans h)); (try replace hF := fun w' h => hF w' (hf.trans h)); replace hW := hW9; clear hf hW9; (try go_simp)); refine hKK.out _ _ (by assumption) fun hHeld => ?_; clear hKK KK; try simp only [Act.put, List.setIfInBounds_toArray, List.set]
                  refine rn 14 rfl (by kernel_rfl) (by rfl) fun KK hKK => ?_
                  (obtain ⟨m1, m2, hV⟩ := Fr.litV hHeld hW hb [(px, py), (vx, vy)] #[.int .i64 px, .int .i64 py, .int .i64 vx, .int .i64 vy] 27 2 (by decide) rfl rfl (by simp); (try simp only [World.size_alloc] at hV); (try replace hF := fun w' h => hF w' ((Fr.lit0 hHeld hW hb (.cells #[.int .i64 px, .int .i64 py, .int .i64 vx, .int .i64 vy] 27)).trans h)); replace hW := m1; go_simp); refine hKK.out _ _ (by assumption) fun hHeld => ?_; clear hKK KK; try simp only [Act.put, List.setIfInBounds_toArray, List.set]
                  refine rn 15 rfl (by kernel_rfl) (by rfl) fun KK hKK => ?_
                  go_simp; (refine (WTV_any _ (by decide) b b _ _ [(px, py), (vx, vy)] _ hW hb hV (by have := HL.out; simp only [List.length_append, leB_length, List.length_cons, List.length_nil] <;> omega)).mono ?_; rintro e w15 ⟨rfl, hW15, hf⟩; have hm := Fr.trans hHeld hf; clear hV; (try replace hF := fun w' h => hF w' (hf.trans h)); replace hW := hW15; clear hf hW15; (try go_simp)); refine hKK.out _ _ (by assumption) fun hHeld => ?_; clear hKK KK; try simp only [Act.put, List.setIfInBounds_toArray, List.set]
                  refine rn 19 rfl (by kernel_rfl) (by rfl) fun KK hKK => ?_
                  go_simp; (refine (WTF_any _ (by decide) b b _ _ [le] _ hW hb hF (by have := HL.out; simp only [List.length_append, leB_length, leF_length, fV_length, List.length_cons, List.length_nil] <;> omega)).mono ?_; rintro e w19 ⟨rfl, hW19, hf⟩; have hm := Fr.trans hHeld hf; (try replace hV := fun w' h => hV w' (hf.trans h)); clear hF; replace hW := hW19; clear hf hW19; (try go_simp)); refine hKK.out _ _ (by assumption) fun hHeld => ?_; clear hKK KK; try simp only [Act.put, List.setIfInBounds_toArray, List.set]
                  refine wpAnyH_done (by kernel_rfl) ?_ _
                  have hW9 := hW; go_wp2_with (fail); go_roundw; (case rel => exact ⟨j + 1, by omega, by go_num, by have := hW9; rw [HS.out, ← List.append_assoc]; simpa [leJt] using this, (HF1.out.trans hHeld)⟩); (case measure => simp [intOf]; omega)
                case' rb40 =>
                  (obtain ⟨m1, m2, hV⟩ := Fr.litV hHeld hW hb [(px, py), (vx, vy)] #[.int .i64 px, .int .i64 py, .int .i64 vx, .int .i64 vy] 27 2 (by decide) rfl rfl (by simp); (try simp only [World.size_alloc] at hV); (try replace hF := fun w' h => hF w' ((Fr.lit0 hHeld hW hb (.cells #[.int .i64 px, .int .i64 py, .int .i64 vx, .int .i64 vy] 27)).trans h)); replace hW := m1; go_simp); refine hKK.out _ _ (by assumption) fun hHeld => ?_; clear hKK KK; try simp only [Act.put, List.setIfInBounds_toArray, List.set]
                  refine rn 9 rfl (by kernel_rfl) (by rfl) fun KK hKK => ?_
                  go_simp; (refine (WTNum_any _ (by decide) 8 b1 b b _ _ hW hb (by omega) (by omega) (by have := HL.out; simp only [List.length_append, leB_length] <;> omega)).mono ?_; rintro e w9 ⟨rfl, hW9, hf⟩; have hm := Fr.trans hHeld hf; (try replace hV := fun w' h => hV w' (hf.trans h)); (try replace hF := fun w' h => hF w' (hf.trans h)); replace hW := hW9; clear hf hW9; (try go_simp)); refine hKK.out _ _ (by assumption) fun hHeld => ?_; clear hKK KK; try simp only [Act.put, List.setIfInBounds_toArray, List.set]
                  refine rn 15 rfl (by kernel_rfl) (by rfl) fun KK hKK => ?_
                  go_simp; (refine (WTV_any _ (by decide) b b _ _ [(px, py), (vx, vy)] _ hW hb hV (by have := HL.out; simp only [List.length_append, leB_length, List.length_cons, List.length_nil] <;> omega)).mono ?_; rintro e w15 ⟨rfl, hW15, hf⟩; have hm := Fr.trans hHeld hf; clear hV; (try replace hF := fun w' h => hF w' (hf.trans h)); replace hW := hW15; clear hf hW15; (try go_simp)); refine hKK.out _ _ (by assumption) fun hHeld => ?_; clear hKK KK; try simp only [Act.put, List.setIfInBounds_toArray, List.set]
                  refine rn 19 rfl (by kernel_rfl) (by rfl) fun KK hKK => ?_
                  go_simp; (refine (WTF_any _ (by decide) b b _ _ [le] _ hW hb hF (by have := HL.out; simp only [List.length_append, leB_length, leF_length, fV_length, List.length_cons, List.length_nil] <;> omega)).mono ?_; rintro e w19 ⟨rfl, hW19, hf⟩; have hm := Fr.trans hHeld hf; (try replace hV := fun w' h => hV w' (hf.trans h)); clear hF; replace hW := hW19; clear hf hW19; (try go_simp)); refine hKK.out _ _ (by assumption) fun hHeld => ?_; clear hKK KK; try simp only [Act.put, List.setIfInBounds_toArray, List.set]
                  refine wpAnyH_done (by kernel_rfl) ?_ _
                  have hW9 := hW; go_wp2_with (fail); go_roundw; (case rel => exact ⟨j + 1, by omega, by go_num, by have := hW9; rw [HS.out, ← List.append_assoc]; simpa [leJt] using this, (HF1.out.trans hHeld)⟩); (case measure => simp [intOf]; omega)
              case' rb39 =>
                (obtain ⟨m1, m2, hV⟩ := Fr.litV hHeld hW hb [(px, py), (vx, vy)] #[.int .i64 px, .int .i64 py, .int .i64 vx, .int .i64 vy] 27 2 (by decide) rfl rfl (by simp); (try simp only [World.size_alloc] at hV); (try replace hF := fun w' h => hF w' ((Fr.lit0 hHeld hW hb (.cells #[.int .i64 px, .int .i64 py, .int .i64 vx, .int .i64 vy] 27)).trans h)); replace hW := m1; go_simp); refine hKK.out _ _ (by assumption) fun hHeld => ?_; clear hKK KK; try simp only [Act.put, List.setIfInBounds_toArray, List.set]
                refine rn 6 rfl (by kernel_rfl) (by rfl) fun KK hKK => ?_
                go_simp; (refine (WTNum_any _ (by decide) 8 a b b _ _ hW hb (by omega) (by omega) (by have := HL.out; simp only [List.length_append, leB_length] <;> omega)).mono ?_; rintro e w6 ⟨rfl, hW6, hf⟩; have hm := Fr.trans hHeld hf; (try replace hV := fun w' h => hV w' (hf.trans h)); (try replace hF := fun w' h => hF w' (hf.trans h)); replace hW := hW6; clear hf hW6; (try go_simp)); refine hKK.out _ _ (by assumption) fun hHeld => ?_; clear hKK KK; try simp only [Act.put, List.setIfInBounds_toArray, List.set]
                refine rn 9 rfl (by kernel_rfl) (by rfl) fun KK hKK => ?_
                go_simp; (refine (WTNum_any _ (by decide) 8 b1 b b _ _ hW hb (by omega) (by omega) (by have := HL.out; simp only [List.length_append, leB_length] <;> omega)).mono ?_; rintro e w9 ⟨rfl, hW9, hf⟩; have hm := Fr.trans hHeld hf; (try replace hV := fun w' h => hV w' (hf.trans h)); (try replace hF := fun w' h => hF w' (hf.trans h)); replace hW := hW9; clear hf hW9; (try go_simp)); refine hKK.out _ _ (by assumption) fun hHeld => ?_; clear hKK KK; try simp only [Act.put, List.setIfInBounds_toArray, List.set]
                refine rn 15 rfl (by kernel_rfl) (by rfl) fun KK hKK => ?_
                go_simp; (refine (WTV_any _ (by decide) b b _ _ [(px, py), (vx, vy)] _ hW hb hV (by have := HL.out; simp only [List.length_append, leB_length, List.length_cons, List.length_nil] <;> omega)).mono ?_; rintro e w15 ⟨rfl, hW15, hf⟩; have hm := Fr.trans hHeld hf; clear hV; (try replace hF := fun w' h => hF w' (hf.trans h)); replace hW := hW15; clear hf hW15; (try go_simp)); refine hKK.out _ _ (by assumption) fun hHeld => ?_; clear hKK KK; try simp only [Act.put, List.setIfInBounds_toArray, List.set]
                refine rn 19 rfl (by kernel_rfl) (by rfl) fun KK hKK => ?_
                go_simp; (refine (WTF_any _ (by decide) b b _ _ [le] _ hW hb hF (by have := HL.out; simp only [List.length_append, leB_length, leF_length, fV_length, List.length_cons, List.length_nil] <;> omega)).mono ?_; rintro e w19 ⟨rfl, hW19, hf⟩; have hm := Fr.trans hHeld hf; (try replace hV := fun w' h => hV w' (hf.trans h)); clear hF; replace hW := hW19; clear hf hW19; (try go_simp)); refine hKK.out _ _ (by assumption) fun hHeld => ?_; clear hKK KK; try simp only [Act.put, List.setIfInBounds_toArray, List.set]
                refine wpAnyH_done (by kernel_rfl) ?_ _
                have hW9 := hW; go_wp2_with (fail); go_roundw; (case rel => exact ⟨j + 1, by omega, by go_num, by have := hW9; rw [HS.out, ← List.append_assoc]; simpa [leJt] using this, (HF1.out.trans hHeld)⟩); (case measure => simp [intOf]; omega)
            case' rb38 =>
              (obtain ⟨m1, m2, hV⟩ := Fr.litV hHeld hW hb [(px, py), (vx, vy)] #[.int .i64 px, .int .i64 py, .int .i64 vx, .int .i64 vy] 27 2 (by decide) rfl rfl (by simp); (try simp only [World.size_alloc] at hV); (try replace hF := fun w' h => hF w' ((Fr.lit0 hHeld hW hb (.cells #[.int .i64 px, .int .i64 py, .int .i64 vx, .int .i64 vy] 27)).trans h)); replace hW := m1; go_simp); refine hKK.out _ _ (by assumption) fun hHeld => ?_; clear hKK KK; try simp only [Act.put, List.setIfInBounds_toArray, List.set]
              refine rn 3 rfl (by kernel_rfl) (by rfl) fun KK hKK => ?_
              go_simp; (refine (WTNum_any _ (by decide) 8 i b b _ _ hW hb (by omega) (by omega) (by have := HL.out; simp only [List.length_append] <;> omega)).mono ?_; rintro e w3 ⟨rfl, hW3, hf⟩; have hm := Fr.trans hHeld hf; (try replace hV := fun w' h => hV w' (hf.trans h)); (try replace hF := fun w' h => hF w' (hf.trans h)); replace hW := hW3; clear hf hW3; (try go_simp)); refine hKK.out _ _ (by assumption) fun hHeld => ?_; clear hKK KK; try simp only [Act.put, List.setIfInBounds_toArray, List.set]
              refine rn 6 rfl (by kernel_rfl) (by rfl) fun KK hKK => ?_
              go_simp; (refine (WTNum_any _ (by decide) 8 a b b _ _ hW hb (by omega) (by omega) (by have := HL.out; simp only [List.length_append, leB_length] <;> omega)).mono ?_; rintro e w6 ⟨rfl, hW6, hf⟩; have hm := Fr.trans hHeld hf; (try replace hV := fun w' h => hV w' (hf.trans h)); (try replace hF := fun w' h => hF w' (hf.trans h)); replace hW := hW6; clear hf hW6; (try go_simp)); refine hKK.out _ _ (by assumption) fun hHeld => ?_; clear hKK KK; try simp only [Act.put, List.setIfInBounds_toArray, List.set]
              refine rn 9 rfl (by kernel_rfl) (by rfl) fun KK hKK => ?_
              go_simp; (refine (WTNum_any _ (by decide) 8 b1 b b _ _ hW hb (by omega) (by omega) (by have := HL.out; simp only [List.length_append, leB_length] <;> omega)).mono ?_; rintro e w9 ⟨rfl, hW9, hf⟩; have hm := Fr.trans hHeld hf; (try replace hV := fun w' h => hV w' (hf.trans h)); (try replace hF := fun w' h => hF w' (hf.trans h)); replace hW := hW9; clear hf hW9; (try go_simp)); refine hKK.out _ _ (by assumption) fun hHeld => ?_; clear hKK KK; try simp only [Act.put, List.setIfInBounds_toArray, List.set]
              refine rn 15 rfl (by kernel_rfl) (by rfl) fun KK hKK => ?_
              go_simp; (refine (WTV_any _ (by decide) b b _ _ [(px, py), (vx, vy)] _ hW hb hV (by have := HL.out; simp only [List.length_append, leB_length, List.length_cons, List.length_nil] <;> omega)).mono ?_; rintro e w15 ⟨rfl, hW15, hf⟩; have hm := Fr.trans hHeld hf; clear hV; (try replace hF := fun w' h => hF w' (hf.trans h)); replace hW := hW15; clear hf hW15; (try go_simp)); refine hKK.out _ _ (by assumption) fun hHeld => ?_; clear hKK KK; try simp only [Act.put, List.setIfInBounds_toArray, List.set]
              refine rn 19 rfl (by kernel_rfl) (by rfl) fun KK hKK => ?_
              go_simp; (refine (WTF_any _ (by decide) b b _ _ [le] _ hW hb hF (by have := HL.out; simp only [List.length_append, leB_length, leF_length, fV_length, List.length_cons, List.length_nil] <;> omega)).mono ?_; rintro e w19 ⟨rfl, hW19, hf⟩; have hm := Fr.trans hHeld hf; (try replace hV := fun w' h => hV w' (hf.trans h)); clear hF; replace hW := hW19; clear hf hW19; (try go_simp)); refine hKK.out _ _ (by assumption) fun hHeld => ?_; clear hKK KK; try simp only [Act.put, List.setIfInBounds_toArray, List.set]
              refine wpAnyH_done (by kernel_rfl) ?_ _
              have hW9 := hW; go_wp2_with (fail); go_roundw; (case rel => exact ⟨j + 1, by omega, by go_num, by have := hW9; rw [HS.out, ← List.append_assoc]; simpa [leJt] using this, (HF1.out.trans hHeld)⟩); (case measure => simp [intOf]; omega)
        · have hjn : j = js.length := by omega
          subst hjn
          rw [List.take_of_length_le (by simp)] at hW
          obtain ⟨q0, q1, q2, q3, q4, q5, q6, q7⟩ := HXQ.out _ hF0
          have HW := hd hW
          have HF := hd hF0
          clear hW hF0
          go_wp2_with (go_at_call 58; refine (WTNum_any _ (by decide) 4 ks.length b b _ _ HW.out hb (by omega) (by omega) (by have := HN_js.out; simp only [List.length_append]; omega)).mono ?_; rintro e w3 ⟨rfl, hW3, hf3⟩; obtain ⟨q0, q1, q2, q3, q4, q5, q6, q7⟩ := HXQ.out _ (HF.out.trans hf3))
          replace HW := hd (show WrT 123 w3 b b P3 by rw [H3.out]; simpa using hW3)
          replace HF := hd (HF.out.trans hf3)
          clear hW3 hf3 hlt hj
          go_loopw [9, 99] (fun _ i wr => ∃ k : Nat, k ≤ ks.length ∧ i = .int .i64 k ∧ WrT 123 wr b b (P3 ++ (ks.take k).flatMap leCt) ∧ Fr b b w0 wr)
            (fun _ i _ => ks.length - (intOf i).toNat)
          case atStart => exact ⟨0, by omega, rfl, by simpa using HW.out, HF.out⟩
          case round =>
            clear HW HF
            obtain ⟨j, hj, rfl, hW, hF0⟩ := hrel
            by_cases hlt : j < ks.length
            · obtain ⟨gb, off, hao, hgb⟩ := HAK.out (by omega)
              subst hao
              have HS := hd (fm_snoc leCt ks j (by simpa using hlt))
              have HL := hd (Nat.le_trans (Nat.add_le_add_left (fm_le leCt ks j) P3.length) (HN_ks).out)
              have C := fun m hm => (hF0.below.cell (p := ⟨gb, off + j * 5 + m, none⟩) (show gb < b by have := HB.out; omega)).trans ((HB0.out.cell (p := ⟨gb, off + j * 5 + m, none⟩) (show gb < xb by have := HXB.out; omega)).trans (Rd.cellAt cCt_len HRC.out j hlt m hm))
              have q0 := C 0 (by decide)
              have q1 := C 1 (by decide)
              have q2 := C 2 (by decide)
              have q3 := C 3 (by decide)
              have q4 := C 4 (by decide)
              clear C
              (try simp only [List.getElem_map] at HS)
              generalize ks[j] = x at *
              obtain ⟨a, b1, ky, nn, tt⟩ := x
              rw [Nat.add_zero] at q0
              simp only [cCt, List.getElem_cons_zero, List.getElem_cons_succ] at q0 q1 q2 q3 q4
              have hcb := (Chg.refl [] wr).alloc (.cells #[.int .i64 a, .int .i64 b1, .int .i64 ky, .int .i64 nn, .int .i64 tt] 104)
              have hkb_HQ := Blk.new wr #[.int .i64 a, .int .i64 b1, .int .i64 ky, .int .i64 nn, .int .i64 tt] 104
              have hf1 := hF0.trans (Fr.chg (base := b) (b := b) hcb (by have := hW.lt; omega))
              have hW1 := hW.k hcb
              have hbn_HQ : b ≠ wr.heap.size := by have := hW.lt; omega
              have hsz : (wr.alloc (.cells #[.int .i64 a, .int .i64 b1, .int .i64 ky, .int .i64 nn, .int .i64 tt] 104)).heap.size = wr.heap.size + 1 := by simp
              have hbb : b ≤ wr.heap.size := by have := hW.lt; omega
              clear hW hF0 hcb
              go_upto_region 20 with (fail)
              clear q0 q1 q2 q3 q4
              generalize wr.alloc (.cells #[.int .i64 a, .int .i64 b1, .int .i64 ky, .int .i64 nn, .int .i64 tt] 104) = w1 at *
              generalize wr.heap.size = bk at *
              have HQ : Hd (∀ wx, Fr b b w1 wx → wx.cell? ⟨bk, 0, none⟩ = some (.int .i64 a) ∧ wx.cell? ⟨bk, 1, none⟩ = some (.int .i64 b1) ∧ wx.cell? ⟨bk, 2, none⟩ = some (.int .i64 ky) ∧ wx.cell? ⟨bk, 3, none⟩ = some (.int .i64 nn) ∧ wx.cell? ⟨bk, 4, none⟩ = some (.int .i64 tt)) := hd fun wx hx => by
                have := hx.kp _ _ _ hkb_HQ (by decide) (fun e => hbn_HQ e.symm)
                exact ⟨this.cell 0, this.cell 1, this.cell 2, this.cell 3, this.cell 4⟩
              have HF1 := hd hf1
              have HB1 : Hd (b ≤ w1.heap.size) := hd (by omega)
              have hW := hW1.k (Chg.refl [] w1).drew
              clear hkb_HQ hbn_HQ hW1 hf1 hsz hgb hbb
              refine rg (N := 16) (by kernel_rfl) (by kernel_rfl) (S := (fun wx => Fr b b w1 wx)) (Fr.chg (Chg.refl _ _).drew HB1.out) (fun hHeld => ?_)
              generalize w1.drew = w2 at *
              refine tks [0, 1, 2, 4, 5, 7, 8, 10, 11, 12, 13] (by kernel_rfl) (fun _ _ _ _ _ h => h) (by assumption) ?_
              iterate 11 (refine tkc rfl rfl (by rfl) (fun wx hSw => by (try dsimp only at hSw); (obtain ⟨q0, q1, q2, q3, q4⟩ := HQ.out _ hSw); go_simp; (try with_reducible rfl)) ?_; simp only [List.set])
              refine tk0 ?_
              refine rn2 3 14 rfl rfl (by kernel_rfl) (by rfl) (by rfl) (fun KK hKK => ?ra65) (fun KK hKK => ?rb65)
              case' ra65 =>
                go_simp; (refine (WTNum_any _ (by decide) 8 a b b _ _ hW hb (by omega) (by omega) (by have := HL.out; simp only [List.length_append] <;> omega)).mono ?_; rintro e w3 ⟨rfl, hW3, hf⟩; have hm := Fr.trans hHeld hf; (try replace hV := fun w' h => hV w' (hf.trans h)); (try replace hF := fun w' h => hF w' (hf.trans h)); replace hW := hW3; clear hf hW3; (try go_simp)); refine hKK.out _ _ (by assumption) fun hHeld => ?_; clear hKK KK; try simp only [Act.put, List.setIfInBounds_toArray, List.set]
                refine rn2 6 14 rfl rfl (by kernel_rfl) (by rfl) (by rfl) (fun KK hKK => ?ra66) (fun KK hKK => ?rb66)
                case' ra66 =>
                  go_simp; (refine (WTNum_any _ (by decide) 8 b1 b b _ _ hW hb (by omega) (by omega) (by have := HL.out; simp only [List.length_append, leB_length] <;> omega)).mono ?_; rintro e w6 ⟨rfl, hW6, hf⟩; have hm := Fr.trans hHeld hf; (try replace hV := fun w' h => hV w' (hf.trans h)); (try replace hF := fun w' h => hF w' (hf.trans h)); replace hW := hW6; clear hf hW6; (try go_simp)); refine hKK.out _ _ (by assumption) fun hHeld => ?_; clear hKK KK; try simp only [Act.put, List.setIfInBounds_toArray, List.set]
                  refine rn2 9 14 rfl rfl (by kernel_rfl) (by rfl) (by rfl) (fun KK hKK => ?ra67) (fun KK hKK => ?rb67)
                  case' ra67 =>
                    go_simp; (refine (WTNum_any _ (by decide) 8 ky b b _ _ hW hb (by omega) (by omega) (by have := HL.out; simp only [List.length_append, leB_length] <;> omega)).mono ?_; rintro e w9 ⟨rfl, hW9, hf⟩; have hm := Fr.trans hHeld hf; (try replace hV := fun w' h => hV w' (hf.trans h)); (try replace hF := fun w' h => hF w' (hf.trans h)); replace hW := hW9; clear hf hW9; (try go_simp)); refine hKK.out _ _ (by assumption) fun hHeld => ?_; clear hKK KK; try simp only [Act.put, List.setIfInBounds_toArray, List.set]
                    refine rn 14 rfl (by kernel_rfl) (by rfl) fun KK hKK => ?_
                    (obtain ⟨m1, m2, hF⟩ := Fr.litF hHeld hW hb [nn, tt] #[.int .i64 nn, .int .i64 tt] 25 2 (by decide) rfl rfl (by simp); (try simp only [World.size_alloc] at hF); (try replace hV := fun w' h => hV w' ((Fr.lit0 hHeld hW hb (.cells #[.int .i64 nn, .int .i64 tt] 25)).trans h)); replace hW := m1; go_simp); refine hKK.out _ _ (by assumption) fun hHeld => ?_; clear hKK KK; try simp only [Act.put, List.setIfInBounds_toArray, List.set]
                    refine rn 15 rfl (by kernel_rfl) (by rfl) fun KK hKK => ?_
                    go_simp; (refine (WTF_any _ (by decide) b b _ _ [nn, tt] _ hW hb hF (by have := HL.out; simp only [List.length_append, leB_length, List.length_cons, List.length_nil] <;> omega)).mono ?_; rintro e w15 ⟨rfl, hW15, hf⟩; have hm := Fr.trans hHeld hf; (try replace hV := fun w' h => hV w' (hf.trans h)); clear hF; replace hW := hW15; clear hf hW15; (try go_simp)); refine hKK.out _ _ (by assumption) fun hHeld => ?_; clear hKK KK; try simp only [Act.put, List.setIfInBounds_toArray, List.set]
                    refine wpAnyH_done (by kernel_rfl) ?_ _
                    have hW9 := hW; go_wp2_with (fail); go_roundw; (case rel => exact ⟨j + 1, by omega, by go_num, by have := hW9; rw [HS.out, ← List.append_assoc]; simpa [leCt] using this, (HF1.out.trans hHeld)⟩); (case measure => simp [intOf]; omega)
                  case' rb67 =>
                    (obtain ⟨m1, m2, hF⟩ := Fr.litF hHeld hW hb [nn, tt] #[.int .i64 nn, .int .i64 tt] 25 2 (by decide) rfl rfl (by simp); (try simp only [World.size_alloc] at hF); (try replace hV := fun w' h => hV w' ((Fr.lit0 hHeld hW hb (.cells #[.int .i64 nn, .int .i64 tt] 25)).trans h)); replace hW := m1; go_simp); refine hKK.out _ _ (by assumption) fun hHeld => ?_; clear hKK KK; try simp only [Act.put, List.setIfInBounds_toArray, List.set]
                    refine rn 9 rfl (by kernel_rfl) (by rfl) fun KK hKK => ?_
                    go_simp; (refine (WTNum_any _ (by decide) 8 ky b b _ _ hW hb (by omega) (by omega) (by have := HL.out; simp only [List.length_append, leB_length] <;> omega)).mono ?_; rintro e w9 ⟨rfl, hW9, hf⟩; have hm := Fr.trans hHeld hf; (try replace hV := fun w' h => hV w' (hf.trans h)); (try replace hF := fun w' h => hF w' (hf.trans h)); replace hW := hW9; clear hf hW9; (try go_simp)); refine hKK.out _ _ (by assumption) fun hHeld => ?_; clear hKK KK; try simp only [Act.put, List.setIfInBounds_toArray, List.set]
                    refine rn 15 rfl (by kernel_rfl) (by rfl) fun KK hKK => ?_
                    go_simp; (refine (WTF_any _ (by decide) b b _ _ [nn, tt] _ hW hb hF (by have := HL.out; simp only [List.length_append, leB_length, List.length_cons, List.length_nil] <;> omega)).mono ?_; rintro e w15 ⟨rfl, hW15, hf⟩; have hm := Fr.trans hHeld hf; (try replace hV := fun w' h => hV w' (hf.trans h)); clear hF; replace hW := hW15; clear hf hW15; (try go_simp)); refine hKK.out _ _ (by assumption) fun hHeld => ?_; clear hKK KK; try simp only [Act.put, List.setIfInBounds_toArray, List.set]
                    refine wpAnyH_done (by kernel_rfl) ?_ _
                    have hW9 := hW; go_wp2_with (fail); go_roundw; (case rel => exact ⟨j + 1, by omega, by go_num, by have := hW9; rw [HS.out, ← List.append_assoc]; simpa [leCt] using this, (HF1.out.trans hHeld)⟩); (case measure => simp [intOf]; omega)
                case' rb66 =>
                  (obtain ⟨m1, m2, hF⟩ := Fr.litF hHeld hW hb [nn, tt] #[.int .i64 nn, .int .i64 tt] 25 2 (by decide) rfl rfl (by simp); (try simp only [World.size_alloc] at hF); (try replace hV := fun w' h => hV w' ((Fr.lit0 hHeld hW hb (.cells #[.int .i64 nn, .int .i64 tt] 25)).trans h)); replace hW := m1; go_simp); refine hKK.out _ _ (by assumption) fun hHeld => ?_; clear hKK KK; try simp only [Act.put, List.setIfInBounds_toArray, List.set]
                  refine rn 6 rfl (by kernel_rfl) (by rfl) fun KK hKK => ?_
                  go_simp; (refine (WTNum_any _ (by decide) 8 b1 b b _ _ hW hb (by omega) (by omega) (by have := HL.out; simp only [List.length_append, leB_length] <;> omega)).mono ?_; rintro e w6 ⟨rfl, hW6, hf⟩; have hm := Fr.trans hHeld hf; (try replace hV := fun w' h => hV w' (hf.trans h)); (try replace hF := fun w' h => hF w' (hf.trans h)); replace hW := hW6; clear hf hW6; (try go_simp)); refine hKK.out _ _ (by assumption) fun hHeld => ?_; clear hKK KK; try simp only [Act.put, List.setIfInBounds_toArray, List.set]
                  refine rn 9 rfl (by kernel_rfl) (by rfl) fun KK hKK => ?_
                  go_simp; (refine (WTNum_any _ (by decide) 8 ky b b _ _ hW hb (by omega) (by omega) (by have := HL.out; simp only [List.length_append, leB_length] <;> omega)).mono ?_; rintro e w9 ⟨rfl, hW9, hf⟩; have hm := Fr.trans hHeld hf; (try replace hV := fun w' h => hV w' (hf.trans h)); (try replace hF := fun w' h => hF w' (hf.trans h)); replace hW := hW9; clear hf hW9; (try go_simp)); refine hKK.out _ _ (by assumption) fun hHeld => ?_; clear hKK KK; try simp only [Act.put, List.setIfInBounds_toArray, List.set]
                  refine rn 15 rfl (by kernel_rfl) (by rfl) fun KK hKK => ?_
                  go_simp; (refine (WTF_any _ (by decide) b b _ _ [nn, tt] _ hW hb hF (by have := HL.out; simp only [List.length_append, leB_length, List.length_cons, List.length_nil] <;> omega)).mono ?_; rintro e w15 ⟨rfl, hW15, hf⟩; have hm := Fr.trans hHeld hf; (try replace hV := fun w' h => hV w' (hf.trans h)); clear hF; replace hW := hW15; clear hf hW15; (try go_simp)); refine hKK.out _ _ (by assumption) fun hHeld => ?_; clear hKK KK; try simp only [Act.put, List.setIfInBounds_toArray, List.set]
                  refine wpAnyH_done (by kernel_rfl) ?_ _
                  have hW9 := hW; go_wp2_with (fail); go_roundw; (case rel => exact ⟨j + 1, by omega, by go_num, by have := hW9; rw [HS.out, ← List.append_assoc]; simpa [leCt] using this, (HF1.out.trans hHeld)⟩); (case measure => simp [intOf]; omega)
              case' rb65 =>
                (obtain ⟨m1, m2, hF⟩ := Fr.litF hHeld hW hb [nn, tt] #[.int .i64 nn, .int .i64 tt] 25 2 (by decide) rfl rfl (by simp); (try simp only [World.size_alloc] at hF); (try replace hV := fun w' h => hV w' ((Fr.lit0 hHeld hW hb (.cells #[.int .i64 nn, .int .i64 tt] 25)).trans h)); replace hW := m1; go_simp); refine hKK.out _ _ (by assumption) fun hHeld => ?_; clear hKK KK; try simp only [Act.put, List.setIfInBounds_toArray, List.set]
                refine rn 3 rfl (by kernel_rfl) (by rfl) fun KK hKK => ?_
                go_simp; (refine (WTNum_any _ (by decide) 8 a b b _ _ hW hb (by omega) (by omega) (by have := HL.out; simp only [List.length_append] <;> omega)).mono ?_; rintro e w3 ⟨rfl, hW3, hf⟩; have hm := Fr.trans hHeld hf; (try replace hV := fun w' h => hV w' (hf.trans h)); (try replace hF := fun w' h => hF w' (hf.trans h)); replace hW := hW3; clear hf hW3; (try go_simp)); refine hKK.out _ _ (by assumption) fun hHeld => ?_; clear hKK KK; try simp only [Act.put, List.setIfInBounds_toArray, List.set]
                refine rn 6 rfl (by kernel_rfl) (by rfl) fun KK hKK => ?_
                go_simp; (refine (WTNum_any _ (by decide) 8 b1 b b _ _ hW hb (by omega) (by omega) (by have := HL.out; simp only [List.length_append, leB_length] <;> omega)).mono ?_; rintro e w6 ⟨rfl, hW6, hf⟩; have hm := Fr.trans hHeld hf; (try replace hV := fun w' h => hV w' (hf.trans h)); (try replace hF := fun w' h => hF w' (hf.trans h)); replace hW := hW6; clear hf hW6; (try go_simp)); refine hKK.out _ _ (by assumption) fun hHeld => ?_; clear hKK KK; try simp only [Act.put, List.setIfInBounds_toArray, List.set]
                refine rn 9 rfl (by kernel_rfl) (by rfl) fun KK hKK => ?_
                go_simp; (refine (WTNum_any _ (by decide) 8 ky b b _ _ hW hb (by omega) (by omega) (by have := HL.out; simp only [List.length_append, leB_length] <;> omega)).mono ?_; rintro e w9 ⟨rfl, hW9, hf⟩; have hm := Fr.trans hHeld hf; (try replace hV := fun w' h => hV w' (hf.trans h)); (try replace hF := fun w' h => hF w' (hf.trans h)); replace hW := hW9; clear hf hW9; (try go_simp)); refine hKK.out _ _ (by assumption) fun hHeld => ?_; clear hKK KK; try simp only [Act.put, List.setIfInBounds_toArray, List.set]
                refine rn 15 rfl (by kernel_rfl) (by rfl) fun KK hKK => ?_
                go_simp; (refine (WTF_any _ (by decide) b b _ _ [nn, tt] _ hW hb hF (by have := HL.out; simp only [List.length_append, leB_length, List.length_cons, List.length_nil] <;> omega)).mono ?_; rintro e w15 ⟨rfl, hW15, hf⟩; have hm := Fr.trans hHeld hf; (try replace hV := fun w' h => hV w' (hf.trans h)); clear hF; replace hW := hW15; clear hf hW15; (try go_simp)); refine hKK.out _ _ (by assumption) fun hHeld => ?_; clear hKK KK; try simp only [Act.put, List.setIfInBounds_toArray, List.set]
                refine wpAnyH_done (by kernel_rfl) ?_ _
                have hW9 := hW; go_wp2_with (fail); go_roundw; (case rel => exact ⟨j + 1, by omega, by go_num, by have := hW9; rw [HS.out, ← List.append_assoc]; simpa [leCt] using this, (HF1.out.trans hHeld)⟩); (case measure => simp [intOf]; omega)
            · have hjn : j = ks.length := by omega
              subst hjn
              rw [List.take_of_length_le (by simp), ← HLL.out] at hW
              go_wp2_with (go_at_call 59; refine (WTBytes_any _ b b _ _ hW HLN.out).mono ?_; rintro e w2 ⟨ao2, c2, rfl, h2, h3⟩)
              go_ret
              have hbw : b ≤ wr.heap.size := Nat.le_of_lt hW.lt
              exact ⟨ao2, c2, rfl, h2.mono (by have := HB.out; omega), Chg.ofBelow ((HXB.out ▸ HB0.out).trans ((hF0.below.trans (h3.below hbw (by simp))).mono HB.out))⟩
end Go.Proofs.YtbiadpkglcdihaaGreat
