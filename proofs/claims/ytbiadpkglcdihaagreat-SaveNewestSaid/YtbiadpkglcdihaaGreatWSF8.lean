/- Words and walks that SF rests on: FindB, FindJ, CodecMath, CodecBack, CodecLaw, CodecCnt, CodecFwd, WorldR, WorldX, WorldAB, WorldAJ. -/
import Derived.Test.YtbiadpkglcdihaaGreatWSF7
import Derived.Test.YtbiadpkglcdihaaGreatWSF5
import Derived.Test.YtbiadpkglcdihaaGreatWSF6
/- world.Body: where a number stands. -/
namespace Go.Proofs.YtbiadpkglcdihaaGreat
open Go.RowKit

theorem BsS.one {w : World} {v : Value} {l : List BV} (h : BsS w v l) : ∀ x ∈ l, (cBV x).toArray.all (·.oneCell') = true := fun x hx => by
  obtain ⟨ap, cp, e, -⟩ := (h.ps x hx).form
  obtain ⟨x, pv⟩ := x
  simp only at e
  subst e
  exact cBV_all _ _ _ _
theorem one_cBV (x : BV) (h : (cBV x).toArray.all (·.oneCell') = true) : x.2.oneCell' = true := by simpa [cBV, Value.oneCell'] using h
set_option maxHeartbeats 1000000 in
theorem FIdB_any (w : World) (x : BV) (ho : (cBV x).toArray.all (·.oneCell') = true) : Calls Tryz.prog 138 #[.agg (cBV x).toArray] w fun e w' => e = .returned (.int .i64 x.1.id) ∧ Chg [] w w' := by
  obtain ⟨⟨i, ⟨px, py⟩, ⟨vx, vy⟩, an, sp, de, ⟨sk, sr, p⟩⟩, pv⟩ := x
  unfold cBV
  simp only
  go_enter Tryz.func138, Tryz.ntmps138
  go_wp2
  go_ret
  exact ⟨rfl, (Chg.refl [] w).alloc _⟩
set_option maxHeartbeats 1000000 in
theorem FCmpB_any (w : World) (x : BV) (id : Int) (fb : Nat) (hf : w.cell? ⟨fb, 0, none⟩ = some (.func (.func 138) #[] #[])) (ho : (cBV x).toArray.all (·.oneCell') = true) :
    Calls Tryz.prog 174 #[.agg (cBV x).toArray, .int .i64 id, .pointer (some ⟨fb, 0, none⟩)] w fun e w' => e = .returned (.int .i64 (cmpI (x.1.id) id)) ∧ Chg [] w w' := by
  have hc1 := (Chg.refl [] w).alloc (.cells (cBV x).toArray 97)
  have k1 := Blk.new w (cBV x).toArray 97
  have hf1 := hc1.cellS hf
  have hid := fun W => FIdB_any W x ho
  have hcm := fun W => Cmp_any (x.1.id) id W
  clear hf
  go_enter Tryz.func174, Tryz.ntmps174
  go_upto_region 1 with (fail)
  generalize w.alloc (.cells (cBV x).toArray 97) = w1 at *
  go_wp2_with (first
    | (refine wpList_load_row rfl _ _ rfl _ rfl 97 _ (0, 0) _ k1 Tryz.underlying97 rfl (by kernel_rfl) ?_)
    | (go_at_call 138; refine (hid _).mono ?_; rintro e w2 ⟨rfl, h2⟩)
    | (go_at_call 141; refine (hcm _).mono ?_; rintro e w3 ⟨rfl, rfl⟩))
  go_ret
  exact ⟨rfl, hc1.k h2⟩
set_option maxRecDepth 100000 in
set_option maxHeartbeats 4000000 in
theorem BinB_any (w : World) (v : Value) (l : List BV) (id : Int) (fb : Nat) (hv : Rd w 11 v l.length (l.flatMap cBV)) (ho : ∀ x ∈ l, (cBV x).toArray.all (·.oneCell') = true) (hl : l.length ≤ 100000000000) (hr : risI (l.map (fun x => x.1.id)))
    (hf : w.cell? ⟨fb, 0, none⟩ = some (.func (.func 138) #[] #[])) :
    Calls Tryz.prog 173 #[v, .int .i64 id, .func (.func 174) #[] #[.pointer (some ⟨fb, 0, none⟩)]] w fun e w' =>
      (∃ k : Nat, e = .returned (.tuple #[.int .i64 (k : Int), .bool (fndI (l.map (fun x => x.1.id)) id).2]) ∧ ((fndI (l.map (fun x => x.1.id)) id).2 = true → k = (fndI (l.map (fun x => x.1.id)) id).1)) ∧ Chg [] w w' := by
  obtain ⟨ao, c, rfl, hm, hao⟩ := Rd.form (by decide) hv
  have HV := hd hv
  have HAO := hd hao
  have HO := hd ho
  have HR := hd hr
  have HF := hd hf
  clear hv hao ho hr hf
  obtain ⟨P, hP⟩ : ∃ P : Ending → World → Prop, P = fun e w' => (∃ k : Nat, e = .returned (.tuple #[.int .i64 (k : Int), .bool (fndI (l.map (fun x => x.1.id)) id).2]) ∧ ((fndI (l.map (fun x => x.1.id)) id).2 = true → k = (fndI (l.map (fun x => x.1.id)) id).1)) ∧ Chg [] w w' := ⟨_, rfl⟩
  rw [← hP]
  have HP := hd hP
  clear hP
  go_enter Tryz.func173, Tryz.ntmps173
  go_wp2_with fail
  go_loopw [9, 10] (fun i j wr => ∃ p q : Nat, i = .int .i64 (p : Int) ∧ j = .int .i64 (q : Int) ∧ p ≤ q ∧ q ≤ l.length ∧ Hd (Mid (l.map (fun x => x.1.id)) id p q) ∧ Chg [] w wr) (fun i j _ => ((intOf j).toNat - (intOf i).toNat))
  case atStart => exact ⟨0, l.length, rfl, rfl, by omega, by omega, hd (by simpa using Mid.start (l.map (fun x => x.1.id)) id), Chg.refl _ _⟩
  case round =>
    obtain ⟨p, q, rfl, rfl, hpq, hql, hmid, hc⟩ := hrel
    have HC := hd hc
    clear hc
    by_cases hlt : p < q
    · have h1 : p ≤ (p + q) / 2 := by omega
      have h2 : (p + q) / 2 < q := by omega
      have h3 : (p + q) / 2 < l.length := by omega
      obtain ⟨b, off, e1, hb⟩ := HAO.out (by omega)
      subst e1
      have hrg := hd (rangeAt_k (Rd.rangeAt cBV_len HV.out ((p + q) / 2) h3) HC.out)
      have hcon := FCmpB_any wr l[(p + q) / 2] id fb (HC.out.cellS HF.out) (HO.out _ (List.getElem_mem h3))
      have hup : l[(p + q) / 2].1.id < id → _ := fun hx => Mid.up (h := (p + q) / 2) HR.out hmid.out h2 (by simpa using h3) (by simpa using hx)
      have hdn : ¬ l[(p + q) / 2].1.id < id → _ := fun hx => Mid.down (h := (p + q) / 2) HR.out hmid.out h1 h2 (by simpa using h3) (by simpa using hx)
      have HUP := hd hup
      have HDN := hd hdn
      clear hup hdn
      generalize l[(p + q) / 2] = x at *
      by_cases hx : x.1.id < id
      · have HX := hd hx
        have e2 : cmpI x.1.id id = -1 := by unfold cmpI; rw [if_pos hx]
        simp only [e2] at hcon
        clear hx e2
        go_wp2_with (first
          | (refine wpList_load_mid rfl _ _ rfl _ _ rfl (cBV x) _ hrg.out Tryz.underlying97 rfl (by kernel_rfl) ?_)
          | (go_at_call 174; refine hcon.mono ?_; rintro e w2 ⟨rfl, hc2⟩))
        go_roundw
        case rel => exact ⟨(p + q) / 2 + 1, q, by go_num, rfl, by omega, by omega, hd (HUP.out HX.out), HC.out.k hc2⟩
        case measure => simp [intOf]; omega
      · have HX := hd hx
        obtain ⟨z, hz⟩ : ∃ z, z = cmpI x.1.id id := ⟨_, rfl⟩
        have hz2 : ¬ z < 0 := by rw [hz]; unfold cmpI; rw [if_neg hx]; split <;> omega
        simp only [← hz] at hcon
        clear hx hz
        go_wp2_with (first
          | (refine wpList_load_mid rfl _ _ rfl _ _ rfl (cBV x) _ hrg.out Tryz.underlying97 rfl (by kernel_rfl) ?_)
          | (go_at_call 174; refine hcon.mono ?_; rintro e w2 ⟨rfl, hc2⟩))
        go_roundw
        case rel => exact ⟨p, (p + q) / 2, rfl, by go_num, by omega, by omega, hd (HDN.out HX.out), HC.out.k hc2⟩
        case measure => simp [intOf]; omega
    · obtain rfl : p = q := by omega
      by_cases hlt2 : p < l.length
      · obtain ⟨b, off, e1, hb⟩ := HAO.out (by omega)
        subst e1
        have hrg := hd (rangeAt_k (Rd.rangeAt cBV_len HV.out p hlt2) HC.out)
        have hcon := FCmpB_any wr l[p] id fb (HC.out.cellS HF.out) (HO.out _ (List.getElem_mem hlt2))
        have hhit : l[p].1.id = id → _ := fun hx => Mid.hit (i := p) HR.out (by simpa using hlt2) (by simpa using hx)
        have hmiss : l[p].1.id ≠ id → _ := fun hx => Mid.miss hmid.out (by intro _; simpa using hx) HR.out
        have HUP := hd hhit
        have HDN := hd hmiss
        clear hhit hmiss
        generalize l[p] = x at *
        by_cases hx : x.1.id = id
        · have HX := hd (HUP.out hx)
          have e2 : cmpI x.1.id id = 0 := by unfold cmpI; rw [if_neg (by omega), if_neg (by omega)]
          simp only [e2] at hcon
          clear hx e2
          go_wp2_with (first
            | (refine wpList_load_midW rfl _ _ rfl _ _ rfl (cBV x) _ hrg.out Tryz.underlying97 rfl (by kernel_rfl) ?_)
            | (go_at_call 174; refine hcon.mono ?_; rintro e w2 ⟨rfl, hc2⟩))
          rw [HP.out]
          exact ⟨⟨p, by rw [HX.out]; rfl, fun _ => by rw [HX.out]⟩, HC.out.k hc2⟩
        · have HX := hd (HDN.out hx)
          obtain ⟨z, hz⟩ : ∃ z, z = cmpI x.1.id id := ⟨_, rfl⟩
          have hz2 : (z == 0) = false := by rw [hz, beq_eq_false_iff_ne]; unfold cmpI; split <;> (try split) <;> omega
          simp only [← hz] at hcon
          clear hx hz
          go_wp2_with (first
            | (refine wpList_load_midW rfl _ _ rfl _ _ rfl (cBV x) _ hrg.out Tryz.underlying97 rfl (by kernel_rfl) ?_)
            | (go_at_call 174; refine hcon.mono ?_; rintro e w2 ⟨rfl, hc2⟩))
          rw [HP.out]
          exact ⟨⟨p, by rw [HX.out]; rfl, fun h => by rw [HX.out] at h; cases h⟩, HC.out.k hc2⟩
      · have HX := hd (Mid.miss hmid.out (by intro h; simp at h; omega) HR.out)
        go_wp2_with (fail)
        rw [HP.out]
        exact ⟨⟨p, by rw [HX.out]; rfl, fun h => by rw [HX.out] at h; cases h⟩, HC.out⟩
set_option maxHeartbeats 1000000 in
theorem FindB_any (w : World) (v : Value) (l : List BV) (id : Int) (hv : Rd w 11 v l.length (l.flatMap cBV)) (ho : ∀ x ∈ l, (cBV x).toArray.all (·.oneCell') = true) (hl : l.length ≤ 100000000000) (hr : risI (l.map (fun x => x.1.id))) :
    Calls Tryz.prog 137 #[v, .int .i64 id, .func (.func 138) #[] #[]] w fun e w' => e = .returned (.tuple #[.int .i64 ((fndI (l.map (fun x => x.1.id)) id).1 : Int), .bool (fndI (l.map (fun x => x.1.id)) id).2]) ∧ Chg [] w w' := by
  have hc1 := (Chg.refl [] w).alloc (.cells #[.func (.func 138) #[] #[]] 186)
  have hb := (Blk.new w #[.func (.func 138) #[] #[]] 186).cell 0
  have hcon := BinB_any _ v l id w.heap.size (Rd.keep hv hc1 (by simp)) ho hl hr hb
  obtain ⟨av, cv, rfl, -, -⟩ := Rd.form (by decide) hv
  have hno : (fndI (l.map (fun x => x.1.id)) id).2 = false → (fndI (l.map (fun x => x.1.id)) id).1 = 0 := by unfold fndI; split <;> simp
  generalize fndI (l.map (fun x => x.1.id)) id = r at *
  obtain ⟨ri, rb⟩ := r
  simp only at hcon hno ⊢
  clear hv hb ho hr
  go_enter Tryz.func137, Tryz.ntmps137
  cases rb
  · obtain rfl := hno rfl
    clear hno
    go_wp2_with (go_at_call 173; refine hcon.mono ?_; rintro e w2 ⟨⟨k, rfl, -⟩, h2⟩)
    go_ret2
    exact ⟨rfl, hc1.k h2⟩
  · go_wp2_with (go_at_call 173; refine hcon.mono ?_; rintro e w2 ⟨⟨k, rfl, hk⟩, h2⟩; obtain rfl := hk (by trivial))
    go_ret2
    exact ⟨rfl, hc1.k h2⟩
set_option maxHeartbeats 1000000 in
theorem BodyAt_any (w : World) (bv jv kv : Value) (L : List BV) (X : Wld) (id : Int) (hx : WlP w bv jv kv L X) (hl : X.bodies.length ≤ 100000000000) (hr : risI (X.bodies.map (·.id))) :
    Calls Tryz.prog 111 #[vW X bv jv kv, .int .i64 id] w fun e w' => e = .returned (.tuple #[.int .i64 ((fndI (X.bodies.map (·.id)) id).1 : Int), .bool (fndI (X.bodies.map (·.id)) id).2]) ∧ Chg [] w w' := by
  obtain ⟨ab, cb, rfl, -, -⟩ := Rd.form (by decide) hx.b.rd
  obtain ⟨aj, cj, rfl, -, -⟩ := Rd.form (by decide) hx.j
  obtain ⟨ak, ck, rfl, -, -⟩ := Rd.form (by decide) hx.c
  obtain ⟨tk, nb, nj, ⟨gx, gy⟩, bs, js, ks⟩ := X
  have hlb := hx.l
  simp only at hlb
  subst hlb
  have hcon := fun W (h : Chg [] w W) => FindB_any W _ L id (Rd.keep hx.b.rd h (by simp)) (BsS.one hx.b) (by simpa using hl) (by simpa [List.map_map, Function.comp_def] using hr)
  simp only [List.map_map, Function.comp_def] at hcon hr hl ⊢
  unfold vW
  simp only at *
  have hc1 := fun y => (Chg.refl [] w).alloc (.cells #[.int .i64 tk, .int .i64 nb, .int .i64 nj, .int .i64 gx, .int .i64 gy, .slice ab L.length cb, .slice aj js.length cj, .slice ak ks.length ck] y)
  have HX := hd hx
  clear hx hl hr
  go_enter Tryz.func111, Tryz.ntmps111
  go_wp2_with (go_at_call 137; refine (hcon _ (hc1 _)).mono ?_; rintro e w2 ⟨rfl, h2⟩)
  go_ret2
  exact ⟨rfl, (hc1 _).k h2⟩
end Go.Proofs.YtbiadpkglcdihaaGreat

/- world.Joint: where a number stands. -/
namespace Go.Proofs.YtbiadpkglcdihaaGreat
open Go.RowKit

set_option maxHeartbeats 1000000 in
theorem FIdJ_any (w : World) (x : Jnt) (_ho : (cJt x).toArray.all (·.oneCell') = true) : Calls Tryz.prog 169 #[.agg (cJt x).toArray] w fun e w' => e = .returned (.int .i64 x.id) ∧ Chg [] w w' := by
  obtain ⟨i, a, b, ⟨px, py⟩, ⟨vx, vy⟩, ln⟩ := x
  unfold cJt
  simp only
  go_enter Tryz.func169, Tryz.ntmps169
  go_wp2
  go_ret
  exact ⟨rfl, (Chg.refl [] w).alloc _⟩
set_option maxHeartbeats 1000000 in
theorem FCmpJ_any (w : World) (x : Jnt) (id : Int) (fb : Nat) (hf : w.cell? ⟨fb, 0, none⟩ = some (.func (.func 169) #[] #[])) (ho : (cJt x).toArray.all (·.oneCell') = true) :
    Calls Tryz.prog 192 #[.agg (cJt x).toArray, .int .i64 id, .pointer (some ⟨fb, 0, none⟩)] w fun e w' => e = .returned (.int .i64 (cmpI (x.id) id)) ∧ Chg [] w w' := by
  have hc1 := (Chg.refl [] w).alloc (.cells (cJt x).toArray 101)
  have k1 := Blk.new w (cJt x).toArray 101
  have hf1 := hc1.cellS hf
  have hid := fun W => FIdJ_any W x ho
  have hcm := fun W => Cmp_any (x.id) id W
  clear hf
  go_enter Tryz.func192, Tryz.ntmps192
  go_upto_region 1 with (fail)
  generalize w.alloc (.cells (cJt x).toArray 101) = w1 at *
  go_wp2_with (first
    | (refine wpList_load_row rfl _ _ rfl _ rfl 101 _ (0, 0) _ k1 Tryz.underlying101 rfl (by kernel_rfl) ?_)
    | (go_at_call 169; refine (hid _).mono ?_; rintro e w2 ⟨rfl, h2⟩)
    | (go_at_call 141; refine (hcm _).mono ?_; rintro e w3 ⟨rfl, rfl⟩))
  go_ret
  exact ⟨rfl, hc1.k h2⟩
set_option maxRecDepth 100000 in
set_option maxHeartbeats 4000000 in
theorem BinJ_any (w : World) (v : Value) (l : List Jnt) (id : Int) (fb : Nat) (hv : Rd w 8 v l.length (l.flatMap cJt)) (ho : ∀ x ∈ l, (cJt x).toArray.all (·.oneCell') = true) (hl : l.length ≤ 100000000000) (hr : risI (l.map (fun x => x.id)))
    (hf : w.cell? ⟨fb, 0, none⟩ = some (.func (.func 169) #[] #[])) :
    Calls Tryz.prog 191 #[v, .int .i64 id, .func (.func 192) #[] #[.pointer (some ⟨fb, 0, none⟩)]] w fun e w' =>
      (∃ k : Nat, e = .returned (.tuple #[.int .i64 (k : Int), .bool (fndI (l.map (fun x => x.id)) id).2]) ∧ ((fndI (l.map (fun x => x.id)) id).2 = true → k = (fndI (l.map (fun x => x.id)) id).1)) ∧ Chg [] w w' := by
  obtain ⟨ao, c, rfl, hm, hao⟩ := Rd.form (by decide) hv
  have HV := hd hv
  have HAO := hd hao
  have HO := hd ho
  have HR := hd hr
  have HF := hd hf
  clear hv hao ho hr hf
  obtain ⟨P, hP⟩ : ∃ P : Ending → World → Prop, P = fun e w' => (∃ k : Nat, e = .returned (.tuple #[.int .i64 (k : Int), .bool (fndI (l.map (fun x => x.id)) id).2]) ∧ ((fndI (l.map (fun x => x.id)) id).2 = true → k = (fndI (l.map (fun x => x.id)) id).1)) ∧ Chg [] w w' := ⟨_, rfl⟩
  rw [← hP]
  have HP := hd hP
  clear hP
  go_enter Tryz.func191, Tryz.ntmps191
  go_wp2_with fail
  go_loopw [9, 10] (fun i j wr => ∃ p q : Nat, i = .int .i64 (p : Int) ∧ j = .int .i64 (q : Int) ∧ p ≤ q ∧ q ≤ l.length ∧ Hd (Mid (l.map (fun x => x.id)) id p q) ∧ Chg [] w wr) (fun i j _ => ((intOf j).toNat - (intOf i).toNat))
  case atStart => exact ⟨0, l.length, rfl, rfl, by omega, by omega, hd (by simpa using Mid.start (l.map (fun x => x.id)) id), Chg.refl _ _⟩
  case round =>
    obtain ⟨p, q, rfl, rfl, hpq, hql, hmid, hc⟩ := hrel
    have HC := hd hc
    clear hc
    by_cases hlt : p < q
    · have h1 : p ≤ (p + q) / 2 := by omega
      have h2 : (p + q) / 2 < q := by omega
      have h3 : (p + q) / 2 < l.length := by omega
      obtain ⟨b, off, e1, hb⟩ := HAO.out (by omega)
      subst e1
      have hrg := hd (rangeAt_k (Rd.rangeAt cJt_len HV.out ((p + q) / 2) h3) HC.out)
      have hcon := FCmpJ_any wr l[(p + q) / 2] id fb (HC.out.cellS HF.out) (HO.out _ (List.getElem_mem h3))
      have hup : l[(p + q) / 2].id < id → _ := fun hx => Mid.up (h := (p + q) / 2) HR.out hmid.out h2 (by simpa using h3) (by simpa using hx)
      have hdn : ¬ l[(p + q) / 2].id < id → _ := fun hx => Mid.down (h := (p + q) / 2) HR.out hmid.out h1 h2 (by simpa using h3) (by simpa using hx)
      have HUP := hd hup
      have HDN := hd hdn
      clear hup hdn
      generalize l[(p + q) / 2] = x at *
      by_cases hx : x.id < id
      · have HX := hd hx
        have e2 : cmpI x.id id = -1 := by unfold cmpI; rw [if_pos hx]
        simp only [e2] at hcon
        clear hx e2
        go_wp2_with (first
          | (refine wpList_load_mid rfl _ _ rfl _ _ rfl (cJt x) _ hrg.out Tryz.underlying101 rfl (by kernel_rfl) ?_)
          | (go_at_call 192; refine hcon.mono ?_; rintro e w2 ⟨rfl, hc2⟩))
        go_roundw
        case rel => exact ⟨(p + q) / 2 + 1, q, by go_num, rfl, by omega, by omega, hd (HUP.out HX.out), HC.out.k hc2⟩
        case measure => simp [intOf]; omega
      · have HX := hd hx
        obtain ⟨z, hz⟩ : ∃ z, z = cmpI x.id id := ⟨_, rfl⟩
        have hz2 : ¬ z < 0 := by rw [hz]; unfold cmpI; rw [if_neg hx]; split <;> omega
        simp only [← hz] at hcon
        clear hx hz
        go_wp2_with (first
          | (refine wpList_load_mid rfl _ _ rfl _ _ rfl (cJt x) _ hrg.out Tryz.underlying101 rfl (by kernel_rfl) ?_)
          | (go_at_call 192; refine hcon.mono ?_; rintro e w2 ⟨rfl, hc2⟩))
        go_roundw
        case rel => exact ⟨p, (p + q) / 2, rfl, by go_num, by omega, by omega, hd (HDN.out HX.out), HC.out.k hc2⟩
        case measure => simp [intOf]; omega
    · obtain rfl : p = q := by omega
      by_cases hlt2 : p < l.length
      · obtain ⟨b, off, e1, hb⟩ := HAO.out (by omega)
        subst e1
        have hrg := hd (rangeAt_k (Rd.rangeAt cJt_len HV.out p hlt2) HC.out)
        have hcon := FCmpJ_any wr l[p] id fb (HC.out.cellS HF.out) (HO.out _ (List.getElem_mem hlt2))
        have hhit : l[p].id = id → _ := fun hx => Mid.hit (i := p) HR.out (by simpa using hlt2) (by simpa using hx)
        have hmiss : l[p].id ≠ id → _ := fun hx => Mid.miss hmid.out (by intro _; simpa using hx) HR.out
        have HUP := hd hhit
        have HDN := hd hmiss
        clear hhit hmiss
        generalize l[p] = x at *
        by_cases hx : x.id = id
        · have HX := hd (HUP.out hx)
          have e2 : cmpI x.id id = 0 := by unfold cmpI; rw [if_neg (by omega), if_neg (by omega)]
          simp only [e2] at hcon
          clear hx e2
          go_wp2_with (first
            | (refine wpList_load_midW rfl _ _ rfl _ _ rfl (cJt x) _ hrg.out Tryz.underlying101 rfl (by kernel_rfl) ?_)
            | (go_at_call 192; refine hcon.mono ?_; rintro e w2 ⟨rfl, hc2⟩))
          rw [HP.out]
          exact ⟨⟨p, by rw [HX.out]; rfl, fun _ => by rw [HX.out]⟩, HC.out.k hc2⟩
        · have HX := hd (HDN.out hx)
          obtain ⟨z, hz⟩ : ∃ z, z = cmpI x.id id := ⟨_, rfl⟩
          have hz2 : (z == 0) = false := by rw [hz, beq_eq_false_iff_ne]; unfold cmpI; split <;> (try split) <;> omega
          simp only [← hz] at hcon
          clear hx hz
          go_wp2_with (first
            | (refine wpList_load_midW rfl _ _ rfl _ _ rfl (cJt x) _ hrg.out Tryz.underlying101 rfl (by kernel_rfl) ?_)
            | (go_at_call 192; refine hcon.mono ?_; rintro e w2 ⟨rfl, hc2⟩))
          rw [HP.out]
          exact ⟨⟨p, by rw [HX.out]; rfl, fun h => by rw [HX.out] at h; cases h⟩, HC.out.k hc2⟩
      · have HX := hd (Mid.miss hmid.out (by intro h; simp at h; omega) HR.out)
        go_wp2_with (fail)
        rw [HP.out]
        exact ⟨⟨p, by rw [HX.out]; rfl, fun h => by rw [HX.out] at h; cases h⟩, HC.out⟩
set_option maxHeartbeats 1000000 in
theorem FindJ_any (w : World) (v : Value) (l : List Jnt) (id : Int) (hv : Rd w 8 v l.length (l.flatMap cJt)) (ho : ∀ x ∈ l, (cJt x).toArray.all (·.oneCell') = true) (hl : l.length ≤ 100000000000) (hr : risI (l.map (fun x => x.id))) :
    Calls Tryz.prog 168 #[v, .int .i64 id, .func (.func 169) #[] #[]] w fun e w' => e = .returned (.tuple #[.int .i64 ((fndI (l.map (fun x => x.id)) id).1 : Int), .bool (fndI (l.map (fun x => x.id)) id).2]) ∧ Chg [] w w' := by
  have hc1 := (Chg.refl [] w).alloc (.cells #[.func (.func 169) #[] #[]] 188)
  have hb := (Blk.new w #[.func (.func 169) #[] #[]] 188).cell 0
  have hcon := BinJ_any _ v l id w.heap.size (Rd.keep hv hc1 (by simp)) ho hl hr hb
  obtain ⟨av, cv, rfl, -, -⟩ := Rd.form (by decide) hv
  have hno : (fndI (l.map (fun x => x.id)) id).2 = false → (fndI (l.map (fun x => x.id)) id).1 = 0 := by unfold fndI; split <;> simp
  generalize fndI (l.map (fun x => x.id)) id = r at *
  obtain ⟨ri, rb⟩ := r
  simp only at hcon hno ⊢
  clear hv hb ho hr
  go_enter Tryz.func168, Tryz.ntmps168
  cases rb
  · obtain rfl := hno rfl
    clear hno
    go_wp2_with (go_at_call 191; refine hcon.mono ?_; rintro e w2 ⟨⟨k, rfl, -⟩, h2⟩)
    go_ret2
    exact ⟨rfl, hc1.k h2⟩
  · go_wp2_with (go_at_call 191; refine hcon.mono ?_; rintro e w2 ⟨⟨k, rfl, hk⟩, h2⟩; obtain rfl := hk (by trivial))
    go_ret2
    exact ⟨rfl, hc1.k h2⟩
set_option maxHeartbeats 1000000 in
theorem JointAt_any (w : World) (bv jv kv : Value) (L : List BV) (X : Wld) (id : Int) (hx : WlP w bv jv kv L X) (hl : X.joints.length ≤ 100000000000) (hr : risI (X.joints.map (·.id))) :
    Calls Tryz.prog 130 #[vW X bv jv kv, .int .i64 id] w fun e w' => e = .returned (.tuple #[.int .i64 ((fndI (X.joints.map (·.id)) id).1 : Int), .bool (fndI (X.joints.map (·.id)) id).2]) ∧ Chg [] w w' := by
  obtain ⟨ab, cb, rfl, -, -⟩ := Rd.form (by decide) hx.b.rd
  obtain ⟨aj, cj, rfl, -, -⟩ := Rd.form (by decide) hx.j
  obtain ⟨ak, ck, rfl, -, -⟩ := Rd.form (by decide) hx.c
  obtain ⟨tk, nb, nj, ⟨gx, gy⟩, bs, js, ks⟩ := X
  have hcon := fun W (h : Chg [] w W) => FindJ_any W _ js id (Rd.keep hx.j h (by simp)) (fun x _ => all_oneCell_toArray (cJt_one x)) hl hr
  simp only at hcon hr hl ⊢
  unfold vW
  simp only at *
  have hc1 := fun y => (Chg.refl [] w).alloc (.cells #[.int .i64 tk, .int .i64 nb, .int .i64 nj, .int .i64 gx, .int .i64 gy, .slice ab L.length cb, .slice aj js.length cj, .slice ak ks.length ck] y)
  have HX := hd hx
  clear hx hl hr
  go_enter Tryz.func130, Tryz.ntmps130
  go_wp2_with (go_at_call 168; refine (hcon _ (hc1 _)).mono ?_; rintro e w2 ⟨rfl, h2⟩)
  go_ret2
  exact ⟨rfl, (hc1 _).k h2⟩
end Go.Proofs.YtbiadpkglcdihaaGreat

/- What is read without failing is what would be written: plain functions. -/
namespace Go.Proofs.YtbiadpkglcdihaaGreat
open Go.RowKit

end Go.Proofs.YtbiadpkglcdihaaGreat

/- What the codec reads without failing is what it writes. -/
namespace Go.Proofs.YtbiadpkglcdihaaGreat
open Go.RowKit

section
attribute [local irreducible] numR plR shapeR
end
end Go.Proofs.YtbiadpkglcdihaaGreat

/- Batches: what is read is what is written: plain laws. -/
namespace Go.Proofs.YtbiadpkglcdihaaGreat
open Go.RowKit

end Go.Proofs.YtbiadpkglcdihaaGreat

/- A batch of so many pulls, told with whatever count: a plain law. -/
namespace Go.Proofs.YtbiadpkglcdihaaGreat
open Go.RowKit

theorem numR_app (n : Nat) (a r : List UInt8) (b : Bool) (h : a.length = n) : numR n (a ++ r, b) = (rdNum a, (r, b)) := by
  unfold numR
  rw [if_neg (by simp; omega)]
  simp only
  rw [List.take_append_of_le_length (by omega), List.drop_append_of_le_length (by omega), List.take_of_length_le (by omega), List.drop_eq_nil_of_le (by omega)]
  rfl
end Go.Proofs.YtbiadpkglcdihaaGreat

/- Right orders are read back as they were: a plain law. -/
namespace Go.Proofs.YtbiadpkglcdihaaGreat
open Go.RowKit

theorem rd8 (x : Int) (h : I64 x) : rdNum (leB 8 x) = x := by
  rw [rdNum, rdB_leB, show (256 : Int) ^ 8 = 18446744073709551616 from rfl]
  unfold I64 at h
  unfold wrap64
  omega
theorem rd1 (x : Int) (h0 : 0 ≤ x) (h1 : x < 256) : rdNum (leB 1 x) = x := by
  rw [rdNum, rdB_leB, show (256 : Int) ^ 1 = 256 from rfl]
  unfold wrap64
  omega
theorem num8 (x : Int) (h : I64 x) (r : List UInt8) : numR 8 (leB 8 x ++ r, false) = (x, (r, false)) := by rw [numR_app _ _ _ _ (by simp), rd8 x h]
theorem num1 (x : Int) (h0 : 0 ≤ x) (h1 : x < 256) (r : List UInt8) : numR 1 (leB 1 x ++ r, false) = (x, (r, false)) := by rw [numR_app _ _ _ _ (by simp), rd1 x h0 h1]
theorem pl8 (v : V2) (h : IV v) (r : List UInt8) : plR (leB 8 v.1 ++ (leB 8 v.2 ++ r), false) = (v, (r, false)) := by
  unfold plR
  rw [num8 _ h.1]
  simp only
  rw [num8 _ h.2]
theorem ps8 (p : List V2) (h : ∀ x ∈ p, IV x) (r : List UInt8) : psR p.length (leF (fV p) ++ r, false) = (p, (r, false)) := by
  induction p with
  | nil => simp [psR, leF, fV]
  | cons v p ih =>
    have e : leF (fV (v :: p)) ++ r = leB 8 v.1 ++ (leB 8 v.2 ++ (leF (fV p) ++ r)) := by simp [leF, fV]
    rw [e, List.length_cons, psR_go _ _ rfl, pl8 v (h v (by simp))]
    simp only
    rw [ih (fun x hx => h x (by simp [hx]))]
theorem sh8 (s : Shp) (hr : rightS s = true) (hi : I64 s.r) (hp : ∀ x ∈ s.p, IV x) (r : List UInt8) : shapeR (leS s ++ r, false) = (s, (r, false)) := by
  obtain ⟨k, ra, p⟩ := s
  simp only at hi hp
  unfold rightS at hr
  simp only at hr
  by_cases h1 : k = 1
  · subst h1
    rw [if_pos rfl] at hr
    simp only [Bool.and_eq_true, decide_eq_true_eq] at hr
    have hp0 : p = [] := List.length_eq_zero_iff.mp hr.1.1
    subst hp0
    have e : leS ⟨1, ra, []⟩ ++ r = leB 1 1 ++ (leB 8 ra ++ r) := by simp [leS, leF]
    rw [e]
    unfold shapeR
    rw [num1 1 (by omega) (by omega), if_pos rfl]
    simp only
    rw [num8 _ hi]
  · rw [if_neg h1] at hr
    split at hr
    · cases hr
    · rename_i h2
      simp only [not_or] at h2
      obtain ⟨hk, hra, hlo, hhi⟩ := h2
      have hk : k = 2 := by omega
      have hra : ra = 0 := by omega
      subst hk hra
      have e : leS ⟨2, 0, p⟩ ++ r = leB 1 2 ++ (leB 1 (p.length : Int) ++ (leF (fV p) ++ r)) := by simp [leS]
      rw [e]
      unfold shapeR
      rw [num1 2 (by omega) (by omega), if_neg (by simp)]
      simp only
      rw [num1 _ (by omega) (by omega)]
      simp only [Int.toNat_natCast]
      rw [ps8 p hp]
section
attribute [local irreducible] numR plR shapeR
end
end Go.Proofs.YtbiadpkglcdihaaGreat

/- Worlds are read as functions; what is laid of a world is read back: a plain law. -/
namespace Go.Proofs.YtbiadpkglcdihaaGreat
open Go.RowKit

def bdyR (s : St) : Bdy × St :=
  let i := numR 8 s; let p := plR i.2; let v := plR p.2; let a := numR 8 v.2; let sp := numR 8 a.2; let d := numR 8 sp.2; let sh := shapeR d.2
  (⟨i.1, p.1, v.1, a.1, sp.1, d.1, sh.1⟩, sh.2)
def jntR (s : St) : Jnt × St :=
  let i := numR 8 s; let a := numR 8 i.2; let b := numR 8 a.2; let p := plR b.2; let v := plR p.2; let l := numR 8 v.2
  (⟨i.1, a.1, b.1, p.1, v.1, l.1⟩, l.2)
def cntR (s : St) : Cnt × St :=
  let a := numR 8 s; let b := numR 8 a.2; let k := numR 8 b.2; let n := numR 8 k.2; let t := numR 8 n.2
  (⟨a.1, b.1, k.1, n.1, t.1⟩, t.2)
def sevR {α : Type} (f : St → α × St) : Nat → St → List α × St
  | 0, s => ([], s)
  | n + 1, s => if s.2 = true then ([], s) else ((f s).1 :: (sevR f n (f s).2).1, (sevR f n (f s).2).2)
theorem sevR_no {α : Type} (f : St → α × St) (n : Nat) (s : St) (h : s.2 = true) : sevR f n s = ([], s) := by
  cases n with
  | zero => rfl
  | succ n => simp only [sevR, h, if_true]
theorem sevR_go {α : Type} (f : St → α × St) (n : Nat) (s : St) (h : s.2 = false) : sevR f (n + 1) s = ((f s).1 :: (sevR f n (f s).2).1, (sevR f n (f s).2).2) := by simp only [sevR, h, Bool.false_eq_true, if_false]
/-- Numbers fit, shapes may be. -/
structure FitB (b : Bdy) : Prop where
  id : I64 b.id
  pos : IV b.pos
  vel : IV b.vel
  angle : I64 b.angle
  spin : I64 b.spin
  density : I64 b.density
  sh : rightS b.shape = true
  sr : I64 b.shape.r
  sp : ∀ x ∈ b.shape.p, IV x
structure FitJ (j : Jnt) : Prop where
  id : I64 j.id
  a : I64 j.a
  b : I64 j.b
  at_ : IV j.at_
  to_ : IV j.to_
  len : I64 j.len
structure FitC (c : Cnt) : Prop where
  a : I64 c.a
  b : I64 c.b
  key : I64 c.key
  n : I64 c.n
  t : I64 c.t
structure FitW (W : Wld) : Prop where
  tick : I64 W.tick
  nb : I64 W.nb
  nj : I64 W.nj
  grav : IV W.grav
  b : ∀ x ∈ W.bodies, FitB x
  j : ∀ x ∈ W.joints, FitJ x
  c : ∀ x ∈ W.contacts, FitC x
  bl : W.bodies.length ≤ 1024
  jl : W.joints.length ≤ 1024
  cl : W.contacts.length < 4294967296
section
attribute [local irreducible] numR plR shapeR
theorem bdyR_fwd (b : Bdy) (h : FitB b) (r : List UInt8) : bdyR (leBd b ++ r, false) = (b, (r, false)) := by
  obtain ⟨i, ⟨px, py⟩, ⟨vx, vy⟩, an, sp, de, sh⟩ := b
  have e : leBd ⟨i, (px, py), (vx, vy), an, sp, de, sh⟩ ++ r = leB 8 i ++ (leB 8 px ++ (leB 8 py ++ (leB 8 vx ++ (leB 8 vy ++ (leB 8 an ++ (leB 8 sp ++ (leB 8 de ++ (leS sh ++ r)))))))) := by simp [leBd, leF, fV]
  rw [e]
  unfold bdyR
  simp only [num8 i h.id, pl8 (px, py) h.pos, pl8 (vx, vy) h.vel, num8 an h.angle, num8 sp h.spin, num8 de h.density, sh8 sh h.sh h.sr h.sp]
theorem jntR_fwd (j : Jnt) (h : FitJ j) (r : List UInt8) : jntR (leJt j ++ r, false) = (j, (r, false)) := by
  obtain ⟨i, a, b, ⟨px, py⟩, ⟨vx, vy⟩, le⟩ := j
  have e : leJt ⟨i, a, b, (px, py), (vx, vy), le⟩ ++ r = leB 8 i ++ (leB 8 a ++ (leB 8 b ++ (leB 8 px ++ (leB 8 py ++ (leB 8 vx ++ (leB 8 vy ++ (leB 8 le ++ r))))))) := by simp [leJt, leF, fV]
  rw [e]
  unfold jntR
  simp only [num8 i h.id, num8 a h.a, num8 b h.b, pl8 (px, py) h.at_, pl8 (vx, vy) h.to_, num8 le h.len]
theorem cntR_fwd (c : Cnt) (h : FitC c) (r : List UInt8) : cntR (leCt c ++ r, false) = (c, (r, false)) := by
  obtain ⟨a, b, k, n, t⟩ := c
  have e : leCt ⟨a, b, k, n, t⟩ ++ r = leB 8 a ++ (leB 8 b ++ (leB 8 k ++ (leB 8 n ++ (leB 8 t ++ r)))) := by simp [leCt, leF]
  rw [e]
  unfold cntR
  simp only [num8 a h.a, num8 b h.b, num8 k h.key, num8 n h.n, num8 t h.t]
theorem sevR_fwd {α : Type} (f : St → α × St) (enc : α → List UInt8) (l : List α) (h : ∀ x ∈ l, ∀ r, f (enc x ++ r, false) = (x, (r, false))) (r : List UInt8) : sevR f l.length (l.flatMap enc ++ r, false) = (l, (r, false)) := by
  induction l with
  | nil => simp [sevR]
  | cons x l ih =>
    have e : f ((x :: l).flatMap enc ++ r, false) = (x, (l.flatMap enc ++ r, false)) := by
      rw [List.flatMap_cons, List.append_assoc]; exact h x (by simp) _
    rw [List.length_cons, sevR_go _ _ _ rfl, e]
    simp only
    rw [ih (fun y hy => h y (by simp [hy]))]
theorem count2 (m : Int) (n : Nat) (hn : (n : Int) ≤ m) (hm : n < 65536) (r : List UInt8) : countR m (leB 2 (n : Int) ++ r, false) = ((n : Int), (r, false)) := by
  have h2 : numR 2 (leB 2 (n : Int) ++ r, false) = ((n : Int), (r, false)) := by
    rw [numR_app _ _ _ _ (by simp), rdNum, rdB_leB, show (256 : Int) ^ 2 = 65536 from rfl, IntWalk.wrap64_in _ (by omega)]
    congr 1
    omega
  unfold countR
  rw [h2, if_neg (by simp only; omega)]
theorem num4 (n : Nat) (hm : n < 4294967296) (r : List UInt8) : numR 4 (leB 4 (n : Int) ++ r, false) = ((n : Int), (r, false)) := by
  rw [numR_app _ _ _ _ (by simp), rdNum, rdB_leB, show (256 : Int) ^ 4 = 4294967296 from rfl, IntWalk.wrap64_in _ (by omega)]
  congr 1
  omega
end
end Go.Proofs.YtbiadpkglcdihaaGreat

/- Worlds that a pointer names; what comes and goes, as plain functions; shape.Copy; append onto a clipped list. -/
namespace Go.Proofs.YtbiadpkglcdihaaGreat
open Go.RowKit

def wC (X : Wld) (bv jv kv : Value) : Array Value := #[.int .i64 X.tick, .int .i64 X.nb, .int .i64 X.nj, .int .i64 X.grav.1, .int .i64 X.grav.2, bv, jv, kv]
/-- Blocks in S stand apart from a world's. -/
structure Apart (S : List Nat) (bv jv kv : Value) (L : List BV) (X : Wld) : Prop where
  b : 0 < L.length → ∀ k, bv.ownBlock = some k → k ∉ S
  j : 0 < X.joints.length → ∀ k, jv.ownBlock = some k → k ∉ S
  k : 0 < X.contacts.length → ∀ k, kv.ownBlock = some k → k ∉ S
  s : ∀ x ∈ L, 0 < x.1.shape.p.length → ∀ k, x.2.ownBlock = some k → k ∉ S
/-- Block wb holds a world; its lists stand apart from the blocks S. -/
structure WB (w : World) (wb : Nat) (S : List Nat) (bv jv kv : Value) (L : List BV) (X : Wld) : Prop where
  blk : Blk w wb (wC X bv jv kv) 32
  p : WlP w bv jv kv L X
  a : Apart S bv jv kv L X
  ws : wb ∈ S
  lt : ∀ x ∈ S, x < w.heap.size
theorem Apart.one {S : List Nat} {bv jv kv : Value} {L : List BV} {X : Wld} (h : Apart S bv jv kv L X) {wb : Nat} (hw : wb ∈ S) : Apart [wb] bv jv kv L X :=
  ⟨fun hn k hk hm => h.b hn k hk (by simp at hm; rw [hm]; exact hw), fun hn k hk hm => h.j hn k hk (by simp at hm; rw [hm]; exact hw), fun hn k hk hm => h.k hn k hk (by simp at hm; rw [hm]; exact hw), fun x hx hn k hk hm => h.s x hx hn k hk (by simp at hm; rw [hm]; exact hw)⟩
theorem WB.a1 {w : World} {wb : Nat} {S : List Nat} {bv jv kv : Value} {L : List BV} {X : Wld} (h : WB w wb S bv jv kv L X) : Apart [wb] bv jv kv L X := h.a.one h.ws
theorem VsS.chg {S : List Nat} {w w' : World} {v : Value} {l : List V2} (h : VsS w v l) (hc : Chg S w w') (hn : 0 < l.length → ∀ k, v.ownBlock = some k → k ∉ S) : VsS w' v l := Rd.keep h hc hn
theorem BsS.chg {S : List Nat} {w w' : World} {v : Value} {l : List BV} (h : BsS w v l) (hc : Chg S w w') (hn : 0 < l.length → ∀ k, v.ownBlock = some k → k ∉ S) (hs : ∀ x ∈ l, 0 < x.1.shape.p.length → ∀ k, x.2.ownBlock = some k → k ∉ S) : BsS w' v l :=
  ⟨Rd.keep h.rd hc hn, fun x hx => (h.ps x hx).chg hc (hs x hx)⟩
theorem JsS.chg {S : List Nat} {w w' : World} {v : Value} {l : List Jnt} (h : JsS w v l) (hc : Chg S w w') (hn : 0 < l.length → ∀ k, v.ownBlock = some k → k ∉ S) : JsS w' v l := Rd.keep h hc hn
theorem CsS.chg {S : List Nat} {w w' : World} {v : Value} {l : List Cnt} (h : CsS w v l) (hc : Chg S w w') (hn : 0 < l.length → ∀ k, v.ownBlock = some k → k ∉ S) : CsS w' v l := Rd.keep h hc hn
theorem WB.k {w w' : World} {wb : Nat} {S : List Nat} {bv jv kv : Value} {L : List BV} {X : Wld} (h : WB w wb S bv jv kv L X) (hc : Chg [] w w') : WB w' wb S bv jv kv L X := ⟨h.blk.k hc, h.p.k hc, h.a, h.ws, fun x hx => Nat.lt_of_lt_of_le (h.lt x hx) hc.size⟩
theorem WlP.chg {S : List Nat} {w w' : World} {bv jv kv : Value} {L : List BV} {X : Wld} (h : WlP w bv jv kv L X) (hc : Chg S w w') (a : Apart S bv jv kv L X) : WlP w' bv jv kv L X :=
  ⟨h.b.chg hc a.b a.s, h.l, h.j.chg hc a.j, h.c.chg hc a.k⟩
/-- What a world has lies below the heap's end. -/
theorem WlP.apart {S : List Nat} {w : World} {bv jv kv : Value} {L : List BV} {X : Wld} (h : WlP w bv jv kv L X) (hS : ∀ x ∈ S, w.heap.size ≤ x) : Apart S bv jv kv L X :=
  ⟨fun hn k hk hm => by have := Rd.lt h.b.rd hn (by decide) k hk; have := hS k hm; omega, fun hn k hk hm => by have := Rd.lt h.j hn (by decide) k hk; have := hS k hm; omega,
   fun hn k hk hm => by have := Rd.lt h.c hn (by decide) k hk; have := hS k hm; omega, fun x hx hn k hk hm => by have := Rd.lt (h.b.ps x hx) hn (by decide) k hk; have := hS k hm; omega⟩
theorem rightB_s {b : Bdy} (h : rightB b = true) : rightS b.shape = true := by
  unfold rightB at h
  simp only [Bool.and_eq_true] at h
  exact h.1.1.1.1.1.1.1.1
theorem rightS_len {s : Shp} (h : rightS s = true) : s.p.length ≤ 8 := by
  unfold rightS at h
  split at h
  · simp only [Bool.and_eq_true, decide_eq_true_eq] at h; omega
  · split at h
    · cases h
    · omega
/-- What comes and goes. -/
def addB (X : Wld) (b : Bdy) : Wld × Int × Int :=
  if rightB b = false then (X, 0, 2) else if 1024 ≤ X.bodies.length ∨ 4611686018427387904 ≤ X.nb then (X, 0, 3)
  else ({ X with nb := X.nb + 1, bodies := X.bodies ++ [{ b with id := X.nb }] }, X.nb, 0)
def addJ (X : Wld) (j : Jnt) : Wld × Int × Int :=
  if rightJ j = false then (X, 0, 2)
  else if (fndI (X.bodies.map (·.id)) j.a).2 = false ∨ (fndI (X.bodies.map (·.id)) j.b).2 = false then (X, 0, 4)
  else if 1024 ≤ X.joints.length ∨ 4611686018427387904 ≤ X.nj then (X, 0, 3)
  else ({ X with nj := X.nj + 1, joints := X.joints ++ [{ j with id := X.nj }] }, X.nj, 0)
def remB (X : Wld) (id : Int) : Wld × Bool :=
  if (fndI (X.bodies.map (·.id)) id).2 = false then (X, false)
  else ({ X with bodies := stay (fun b => b.id == id) X.bodies, joints := stay (fun j => j.a == id || j.b == id) X.joints, contacts := stay (fun c => c.a == id || c.b == id) X.contacts }, true)
def remJ (X : Wld) (id : Int) : Wld × Bool :=
  if (fndI (X.joints.map (·.id)) id).2 = false then (X, false) else ({ X with joints := stay (fun j => j.id == id) X.joints }, true)

set_option maxHeartbeats 1000000 in
theorem ShCopy_any (w : World) (s : Shp) (pv : Value) (hp : VsS w pv s.p) (hn : s.p.length ≤ 100000000000) :
    Calls Tryz.prog 132 #[vS s pv] w fun e w' => ∃ qv, e = .returned (vS s qv) ∧ VsS w' qv s.p ∧ Chg [] w w' ∧ ∀ k, qv.ownBlock = some k → w.heap.size ≤ k := by
  obtain ⟨k, r, p⟩ := s
  simp only at hp hn
  obtain ⟨ap, cp, rfl, -⟩ := hp.form
  unfold vS
  simp only
  have rowV : RowT Tryz.prog 93 27 2 16 := RowT.mk (z := .agg #[.int .i64 0, .int .i64 0]) (by kernel_rfl) (by kernel_rfl) rfl (by decide)
  have hc1 := ((Chg.refl [] w).alloc (.cells #[.int .i64 k, .int .i64 r, .slice ap p.length cp] 95)).alloc (.cells #[.int .i64 0, .int .i64 0, .slice none 0 0] 95)
  have hk1 := (Blk.new w #[.int .i64 k, .int .i64 r, .slice ap p.length cp] 95).alloc (.cells #[.int .i64 0, .int .i64 0, .slice none 0 0] 95)
  have hk2 := Blk.new (w.alloc (.cells #[.int .i64 k, .int .i64 r, .slice ap p.length cp] 95)) #[.int .i64 0, .int .i64 0, .slice none 0 0] 95
  rw [World.size_alloc] at hk2
  have hp1 := hp.k hc1
  go_enter Tryz.func132, Tryz.ntmps132
  go_upto_region 1 with (fail)
  generalize (w.alloc (.cells #[.int .i64 k, .int .i64 r, .slice ap p.length cp] 95)).alloc (.cells #[.int .i64 0, .int .i64 0, .slice none 0 0] 95) = w1 at *
  obtain ⟨ta, hta⟩ : ∃ ta, ta = w.heap.size := ⟨_, rfl⟩
  rw [← hta] at hk1 hk2 ⊢
  have HTA : Hd (ta = w.heap.size ∧ ta + 1 < w1.heap.size) := hd ⟨hta, hk2.lt⟩
  clear hta
  have HC := hd hc1
  have HP := hd hp1
  have HK1 := hd hk1
  have HK2 := hd hk2
  have c2 := hk1.cell 2
  simp at c2
  clear hp hc1 hp1 hk1 hk2
  go_upto_region 2 with (at_builtin; refine wpApp rowV rfl _ _ rfl w1.heap.size (.slice none 0 0) 0 [] rfl (World.ownsRow_nil _ _ _ _) _ p.length (p.flatMap cV) rfl HP.out (flat_one cV cV_one p) (by omega) (by omega) (Nat.le_refl _) ?_; intro ao1 c1 w2 k1 k2 k3 _; have hg := (Chg.refl [] w1).grown k2 (by simp [Value.ownBlock]); have hf2 := (HK1.out.k hg).free 2; have hd2 := (HK1.out.k hg).cell 2; simp at hd2)
  have ho := World.ownsRow.lt k1
  have hV : VsS w2 (.slice ao1 (0 + p.length) c1) p := by have := Rd.ofOwn k1; rw [Nat.zero_add, List.nil_append] at this; rw [Nat.zero_add]; exact this
  have hS := Chg.setCell (Chg.refl [ta] w2) ⟨ta, 2, none⟩ (.slice ao1 (0 + p.length) c1) (by simp)
  have kA := (HK1.out.k hg).set 2 (.slice ao1 (0 + p.length) c1)
  have kB := (HK2.out.k hg).chg hS (by simp)
  simp only [Nat.zero_add] at *
  have HV := hd (hV.chg hS (fun _ b hb hm => by have := (ho b hb).1; have := HTA.out; simp at hm; omega))
  have HG := hd hg
  have HS := hd hS
  have HO := hd ho
  clear hV hS ho k1 k2 k3 hg hf2 hd2
  generalize w2.setCell ⟨ta, 2, none⟩ (.slice ao1 p.length c1) = w3 at *
  simp at kA
  go_wp2_with (first
    | (refine wpList_load_row rfl _ _ rfl ta rfl 95 _ (0, 0) _ kA Tryz.underlying95 rfl (by kernel_rfl) ?_)
    | (refine wpList_store_row rfl _ _ _ rfl (ta + 1) #[.int .i64 k, .int .i64 r, .slice ao1 p.length c1] rfl rfl 95 _ kB (by kernel_rfl) (by simp) (by simp [Value.oneCell']) ?_))
  have k5 : Blk (w3.setRow (ta + 1) #[.int .i64 k, .int .i64 r, .slice ao1 p.length c1]) (ta + 1) #[.int .i64 k, .int .i64 r, .slice ao1 p.length c1] 95 := kB.row
  have hs5 := Chg.row (Chg.refl [ta + 1] w3) (ta + 1) #[.int .i64 k, .int .i64 r, .slice ao1 p.length c1] (by simp)
  refine bodyPost_ret (results_cell_row rfl _ _ (ta + 1) 95 _ (0, 0) _ rfl k5 Tryz.underlying95 rfl (by kernel_rfl)) rfl ⟨_, rfl, ?_, ?_, ?_⟩
  · exact HV.out.chg hs5 (fun _ b hb hm => by have := (HO.out b hb).1; have := HTA.out; simp at hm; omega)
  · exact ((HC.out.k HG.out).trans HS.out (fun x hx hl => by have := HTA.out; simp at hx; omega)).trans hs5 (fun x hx hl => by have := HTA.out; simp at hx; omega)
  · intro b hb
    have := (HO.out b hb).1
    have := HTA.out
    omega
/-- append onto a list without room: a new one. -/
theorem run_appClip {P : Program} (w : World) {t ty e : TypeId} {size bytes : Nat} (hT : RowT P t e size bytes) {ao : Option Addr} {n : Nat} {xs : List Value} (hv : Rd w size (.slice ao n n) n xs)
    {u : Value} {m : Nat} {news : List Value} (hu : Rd w size u m news) (hm : 0 < m) (hbytes : (n + m) * bytes ≤ 140737488355328) (hcount : n + m ≤ 140737488355328) :
    ∃ g c w', (Builtin.append_ #[t, t] ty #[.slice ao n n, u]).run P w = .ok (.slice (some ⟨g, 0, none⟩) (n + m) c) w' ∧ w'.ownsRow w.heap.size e size (.slice (some ⟨g, 0, none⟩) (n + m) c) (n + m) (xs ++ news) ∧ Chg [] w w' := by
  obtain ⟨i, z, ht, hi, hz, rfl, rfl, hzs, hsz⟩ := hT
  have h63 : n + m ≤ maxLen := by unfold maxLen; omega
  obtain ⟨b, off, cap, rfl, hl, hnews⟩ := hu.cells hm
  have hxl := hv.length
  have hlen : (xs ++ news).length = (n + m) * i.size := by rw [List.length_append, hxl, hl, Nat.add_mul]
  have grown : ∀ (old : Nat), old < n + m →
      (w.drew.alloc (.cells (xs.toArray ++ news.toArray ++ Builtin.zeroCells z.cells (grownCap w (n + m) old e - (n + m))) e)).ownsRow w.heap.size e i.size
        (.slice (some ⟨w.heap.size, 0, none⟩) (n + m) (grownCap w (n + m) old e)) (n + m) (xs ++ news) := by
    intro old ho
    have hge := grownCap_ge w (n + m) old e
    have hcm : grownCap w (n + m) old e ≤ maxLen := grownCap_le_maxLen w (n + m) old e h63
    refine ⟨hlen, .inr ⟨w.heap.size, _, _, rfl, Nat.le_refl _, heap_alloc_new w.drew _, hge, hcm, ?_, ?_⟩⟩
    · simp only [Array.size_append, List.size_toArray, size_zeroCells, hzs, hxl, hl, ← Nat.add_mul]
      congr 1
      omega
    · simp only [Array.toList_append, List.append_assoc]
      rw [← List.append_assoc, ← hlen]
      exact List.take_left
  rcases ao with _ | a
  · obtain ⟨_, ao', cap', b', off', he, h2, h3, h4, h5, h6⟩ := hv
    simp only [Value.slice.injEq] at he
    obtain ⟨rfl, -, rfl⟩ := he
    obtain ⟨rfl, -⟩ := h4 rfl
    obtain rfl : xs = [] := List.eq_nil_of_length_eq_zero (by simpa using hxl)
    have hr := run_append_nil (P := P) w t ty e i z ht hi hz ⟨b, off, none⟩ m cap news hl hnews (by omega) (by unfold maxLen at h63; omega) (by have hb := hbytes; simp only [Nat.zero_add] at hb; omega)
    have hgr := grown 0 (by omega)
    simp only [Nat.zero_add, List.nil_append, Array.empty_append] at hgr ⊢
    exact ⟨_, _, _, hr, hgr, (Chg.refl [] w).drew.alloc _⟩
  · have holds : ∀ j u, xs[j]? = some u → w.cell? (a.add j) = some u := by
      intro j u hu
      have hn : 0 < n := by
        rcases Nat.eq_zero_or_pos n with rfl | h
        · simp at hxl; subst hxl; simp at hu
        · exact h
      obtain ⟨b', off', cap', he, -, hc⟩ := hv.cells hn
      simp only [Value.slice.injEq, Option.some.injEq] at he
      obtain ⟨rfl, -⟩ := he
      exact hc j u hu
    have hr := run_append_grow (P := P) w t ty e i z ht hi hz a n n xs hxl holds ⟨b, off, none⟩ m cap news hl hnews (by omega) (by unfold maxLen at h63; omega) (growslice_fits (by omega) hbytes)
    exact ⟨_, _, _, hr, grown n (by omega), (Chg.refl [] w).drew.alloc _⟩
theorem wp_appClip {P : Program} {w : World} {o : Oper} {a : Act} {K : Act → World → Prop} {Q : Exit → Act → World → Prop} {t e : TypeId} {size bytes : Nat} (hT : RowT P t e size bytes) (s x : Operand)
    (ho : o.op = .call { callee := .builtin .append, args := #[s, x], argTypes := #[t, t] }) (ao : Option Addr) (n : Nat) (xs : List Value) (hs : a.eval s = .slice ao n n) (hv : Rd w size (.slice ao n n) n xs)
    (u : Value) (m : Nat) (news : List Value) (hx : a.eval x = u) (hu : Rd w size u m news) (hm : 0 < m) (hbytes : (n + m) * bytes ≤ 140737488355328) (hcount : n + m ≤ 140737488355328)
    (h : ∀ g c w', w'.ownsRow w.heap.size e size (.slice (some ⟨g, 0, none⟩) (n + m) c) (n + m) (xs ++ news) → Chg [] w w' → K (a.put o.dst (.slice (some ⟨g, 0, none⟩) (n + m) c)) w') : o.wp P a w K Q := by
  obtain ⟨g, c, w', hr, h2, h3⟩ := run_appClip (P := P) w (ty := o.type) hT hv hu hm hbytes hcount
  unfold Oper.wp execOp
  simp only [ho, resolve, invoke, builtin, Sem.run_bind, Sem.run_pure, Result.andThen_ok, List.map_toArray, List.map_cons, List.map_nil, hs, hx, hr]
  exact h g c w' h2 h3
theorem Rd.caps {w : World} {size : Nat} {ao : Option Addr} {n m c : Nat} {xs : List Value} (h : Rd w size (.slice ao n c) m xs) : m ≤ c ∧ c ≤ 9223372036854775807 := by
  obtain ⟨_, ao', cap, b, off, he, h2, h3, _⟩ := h
  simp only [Value.slice.injEq] at he
  unfold maxLen at h3
  omega
/-- A literal row, just laid inside a region. -/
theorem Chg.litRd {S : List Nat} {a W : World} (h : Chg S a W) (xs : List Value) (size n : Nat) (t : TypeId) (hn : xs.length = n * size) (hl : n ≤ 140737488355328) :
    Chg S a (W.alloc (.cells xs.toArray t)) ∧ Rd (W.alloc (.cells xs.toArray t)) size (.slice (some ⟨W.heap.size, 0, none⟩) n n) n xs ∧ Chg [] W (W.alloc (.cells xs.toArray t)) :=
  ⟨h.alloc _, Rd.lit W size n xs _ t rfl hn hl, (Chg.refl [] W).alloc _⟩
end Go.Proofs.YtbiadpkglcdihaaGreat

/- world.AddBody. -/
namespace Go.Proofs.YtbiadpkglcdihaaGreat
open Go.RowKit

theorem Rd.clip {w : World} {size : Nat} {ao : Option Addr} {n c : Nat} {xs : List Value} (h : Rd w size (.slice ao n c) n xs) : Rd w size (.slice ao n n) n xs := by
  obtain ⟨h0, ao', cap, b, off, he, h2, h3, h4, h5, h6⟩ := h
  simp only [Value.slice.injEq] at he
  obtain ⟨rfl, -, rfl⟩ := he
  exact ⟨h0, ao, n, b, off, rfl, Nat.le_refl _, by omega, fun e => ⟨(h4 e).1, (h4 e).1⟩, h5, h6⟩
theorem bsS_snoc {w : World} {v : Value} {l : List BV} {x : BV} (h : Rd w 11 v (l.length + 1) (l.flatMap cBV ++ cBV x)) (hp : ∀ y ∈ l, VsS w y.2 y.1.shape.p) (hx : VsS w x.2 x.1.shape.p) : BsS w v (l ++ [x]) := by
  refine ⟨?_, fun y hy => ?_⟩
  · rw [List.length_append, List.flatMap_append]
    simpa using h
  · rcases List.mem_append.1 hy with h | h
    · exact hp y h
    · obtain rfl := List.mem_singleton.1 h
      exact hx
theorem wb_snocB {w7 w9 wf : World} {wb : Nat} {S : List Nat} {bv jv kv : Value} {L : List BV} {X : Wld} {g c : Nat} {x : BV} {n' : Int} (h : WB w7 wb S bv jv kv L X) (h1 : Chg [wb] w7 w9) (h2 : Chg [wb] w9 wf)
    (hR : Rd w9 11 (.slice (some ⟨g, 0, none⟩) (L.length + 1) c) (L.length + 1) (L.flatMap cBV ++ cBV x)) (hg : ∀ x ∈ S, x < g) (hq : VsS w9 x.2 x.1.shape.p) (ho : ∀ k, x.2.ownBlock = some k → ∀ y ∈ S, y < k)
    (hb : Blk wf wb (wC { X with nb := n', bodies := X.bodies ++ [x.1] } (.slice (some ⟨g, 0, none⟩) (L.length + 1) c) jv kv) 32) :
    WB wf wb S (.slice (some ⟨g, 0, none⟩) (L.length + 1) c) jv kv (L ++ [x]) { X with nb := n', bodies := X.bodies ++ [x.1] } := by
  have p9 := h.p.chg h1 h.a1
  have a : Apart S (.slice (some ⟨g, 0, none⟩) (L.length + 1) c) jv kv (L ++ [x]) { X with nb := n', bodies := X.bodies ++ [x.1] } :=
    ⟨fun _ k hk hm => by simp [Value.ownBlock] at hk; have := hg k hm; omega, h.a.j, h.a.k, fun y hy hn k hk hm => by
      rcases List.mem_append.1 hy with h' | h'
      · exact h.a.s y h' hn k hk hm
      · obtain rfl := List.mem_singleton.1 h'
        have := ho k hk k hm
        omega⟩
  have hP : WlP w9 (.slice (some ⟨g, 0, none⟩) (L.length + 1) c) jv kv (L ++ [x]) { X with nb := n', bodies := X.bodies ++ [x.1] } :=
    ⟨bsS_snoc hR (fun y hy => p9.b.ps y hy) hq, by rw [List.map_append, p9.l]; rfl, p9.j, p9.c⟩
  exact ⟨hb, hP.chg h2 (a.one h.ws), a, h.ws, fun x hx => Nat.lt_of_lt_of_le (h.lt x hx) (Nat.le_trans h1.size h2.size)⟩
set_option maxRecDepth 100000 in
set_option maxHeartbeats 8000000 in
theorem AddBody_any (w : World) (wb : Nat) (S : List Nat) (bv jv kv : Value) (L : List BV) (X : Wld) (x : Bdy) (pv : Value) (h : WB w wb S bv jv kv L X) (hp : VsS w pv x.shape.p) (hi : ∀ a ∈ x.shape.p, IV a) (h1 : IV x.pos) (h2 : IV x.vel) (h3 : I64 x.spin)
    (hl : X.bodies.length ≤ 100000000000) (hnb : I64 X.nb) :
    Calls Tryz.prog 98 #[.pointer (some ⟨wb, 0, none⟩), vB x pv] w fun e w' => e = .returned (.tuple #[.int .i64 (addB X x).2.1, .int .i64 (addB X x).2.2]) ∧ Chg [wb] w w' ∧ ∃ bv' L', WB w' wb S bv' jv kv L' (addB X x).1 := by
  obtain ⟨i, ⟨px, py⟩, ⟨vx, vy⟩, an, sp, de, ⟨k, r, p⟩⟩ := x
  obtain ⟨tk, nb, nj, ⟨gx, gy⟩, bs, js, ks⟩ := X
  have hlb := h.p.l
  simp only at hlb hp hi h1 h2 h3 hl hnb
  subst hlb
  rw [List.length_map] at hl
  obtain ⟨ab, cb, rfl, hmb, -⟩ := Rd.form (by decide) h.p.b.rd
  obtain ⟨ap, cp, rfl, -⟩ := hp.form
  have hcb := h.p.b.rd
  have hncb : L.length ≤ cb := by
    obtain ⟨_, ao', cap, b, off, he, h2', h3', _⟩ := hcb
    simp only [Value.slice.injEq] at he
    omega
  have hccb : cb ≤ 9223372036854775807 := by
    obtain ⟨_, ao', cap, b, off, he, h2', h3', _⟩ := hcb
    simp only [Value.slice.injEq] at he
    unfold maxLen at h3'
    omega
  clear hcb
  have hr := fun W (hW : Chg [] w W) => RightB_any W ⟨i, (px, py), (vx, vy), an, sp, de, ⟨k, r, p⟩⟩ _ (hp.k hW) hi h1 h2 h3
  obtain ⟨P, hP⟩ : ∃ P : Ending → World → Prop, P = fun e w' => e = .returned (.tuple #[.int .i64 (addB ⟨tk, nb, nj, (gx, gy), L.map (·.1), js, ks⟩ ⟨i, (px, py), (vx, vy), an, sp, de, ⟨k, r, p⟩⟩).2.1, .int .i64 (addB ⟨tk, nb, nj, (gx, gy), L.map (·.1), js, ks⟩ ⟨i, (px, py), (vx, vy), an, sp, de, ⟨k, r, p⟩⟩).2.2]) ∧ Chg [wb] w w' ∧
      ∃ bv' L', WB w' wb S bv' jv kv L' (addB ⟨tk, nb, nj, (gx, gy), L.map (·.1), js, ks⟩ ⟨i, (px, py), (vx, vy), an, sp, de, ⟨k, r, p⟩⟩).1 := ⟨_, rfl⟩
  rw [← hP]
  have HP := hd hP
  unfold addB at HP
  simp only [List.length_map] at HP
  clear hP h1 h2 h3 hi
  unfold vB at *
  simp only at *
  have hc0 := (Chg.refl [] w).alloc (.cells #[.int .i64 i, .int .i64 px, .int .i64 py, .int .i64 vx, .int .i64 vy, .int .i64 an, .int .i64 sp, .int .i64 de, .int .i64 k, .int .i64 r, .slice ap p.length cp] 97)
  have hk0 := Blk.new w #[.int .i64 i, .int .i64 px, .int .i64 py, .int .i64 vx, .int .i64 vy, .int .i64 an, .int .i64 sp, .int .i64 de, .int .i64 k, .int .i64 r, .slice ap p.length cp] 97
  have hwl := h.blk.lt
  go_enter Tryz.func98, Tryz.ntmps98
  go_upto_region 1 with (fail)
  generalize w.alloc (.cells #[.int .i64 i, .int .i64 px, .int .i64 py, .int .i64 vx, .int .i64 vy, .int .i64 an, .int .i64 sp, .int .i64 de, .int .i64 k, .int .i64 r, .slice ap p.length cp] 97) = w0 at *
  obtain ⟨xb, hxb⟩ : ∃ xb, xb = w.heap.size := ⟨_, rfl⟩
  rw [← hxb] at hk0 ⊢
  have HXB : Hd (wb < xb ∧ xb = w.heap.size) := hd ⟨by omega, hxb⟩
  clear hxb hwl
  have HC0 := hd hc0
  have HW0 := hd (h.k hc0)
  have HPV := hd (hp.k hc0)
  have hr0 := hr _ hc0
  have HH := hd h
  clear hr hc0 hp h
  cases hrb : rightB ⟨i, (px, py), (vx, vy), an, sp, de, ⟨k, r, p⟩⟩ with
  | false =>
    rw [hrb] at hr0
    have HRB := hd hrb
    clear hrb
    go_wp2_with (first | (refine wpList_load_row rfl _ _ rfl xb rfl 97 _ (0, 0) _ hk0 Tryz.underlying97 rfl (by kernel_rfl) ?_) | (go_at_call 112; refine hr0.mono ?_; rintro e w1 ⟨rfl, hc1⟩))
    rw [HP.out, if_pos HRB.out]
    exact ⟨rfl, (HC0.out.k hc1).mono (by simp), _, _, HW0.out.k hc1⟩
  | true =>
    rw [hrb] at hr0
    rw [if_neg (by rw [hrb]; simp)] at HP
    have hn : p.length ≤ 100000000000 := by have := rightS_len (rightB_s hrb); simp only at this; omega
    clear hrb
    go_upto_region 3 with (first | (refine wpList_load_row rfl _ _ rfl xb rfl 97 _ (0, 0) _ hk0 Tryz.underlying97 rfl (by kernel_rfl) ?_) | (go_at_call 112; refine hr0.mono ?_; rintro e w1 ⟨rfl, hc1⟩))
    have HC1 := hd (HC0.out.k hc1)
    have HX1 := hd (hk0.k hc1)
    have hw1 := HW0.out.k hc1
    have HPV1 := hd (HPV.out.k hc1)
    have b1 := hw1.blk.cell 1
    have b5 := hw1.blk.cell 5
    simp [wC] at b1 b5
    have HW1 := hd hw1
    clear hr0 hk0 hc1 hw1 HW0 HPV HC0
    by_cases hf1 : 1024 ≤ L.length
    · have HF := hd (show 1024 ≤ L.length ∨ 4611686018427387904 ≤ nb from .inl hf1)
      go_wp2_with fail
      rw [HP.out, if_pos HF.out]
      exact ⟨rfl, HC1.out.mono (by simp), _, _, HW1.out⟩
    by_cases hf2 : 4611686018427387904 ≤ nb
    · have HF := hd (show 1024 ≤ L.length ∨ 4611686018427387904 ≤ nb from .inr hf2)
      go_wp2_with fail
      rw [HP.out, if_pos HF.out]
      exact ⟨rfl, HC1.out.mono (by simp), _, _, HW1.out⟩
    rw [if_neg (by omega)] at HP
    go_upto_region 5 with (fail)
    have HB1 := hd b1
    clear b1 b5
    have hT := HX1.out.k (Chg.refl [] w1).drew
    have HPd := hd (HPV1.out.k (Chg.refl [] w1).drew)
    have NX : Hd (wb ∉ [xb]) := hd (by have := HXB.out; simp; omega)
    have hcop := fun W (hW : VsS W (.slice ap p.length cp) p) => ShCopy_any W ⟨k, r, p⟩ _ hW hn
    unfold vS at hcop
    simp only at hcop
    refine rg (N := 11) (by kernel_rfl) (by kernel_rfl) (S := (fun wx => Chg [xb] w1 wx)) ((Chg.refl _ _).drew) (fun hHeld => ?_)
    have HSZ : Hd (w1.heap.size ≤ w1.drew.heap.size) := hd (Nat.le_refl _); generalize w1.drew = w1d at *
    refine tks [0, 1, 2, 3, 4] (by kernel_rfl) (fun _ _ _ _ _ h => h) (by assumption) ?_
    iterate 5 (refine tkc rfl rfl (by rfl) (fun wx hSw => by (try dsimp only at hSw); (have t1 := hSw.cellT HB1.out NX.out); go_simp; (try with_reducible rfl)) ?_; simp only [List.set])
    refine tk0 ?_
    refine rn 5 rfl (by kernel_rfl) (by rfl) fun KK hKK => ?_
    (have t8 := hT.cell 8; have t9 := hT.cell 9; have t10 := hT.cell 10; simp at t8 t9 t10; go_simp); refine hKK.out _ _ (by assumption) fun hHeld => ?_; clear hKK KK; try simp only [Act.put, List.setIfInBounds_toArray, List.set]
    refine tks [7] (by kernel_rfl) (fun _ _ _ _ _ h => h) (by assumption) ?_
    refine tkc rfl rfl (by rfl) (fun wx hSw => by (try dsimp only at hSw); (have t1 := hSw.cellT HB1.out NX.out); go_simp; (try with_reducible rfl)) ?_; simp only [List.set]
    refine tk0 ?_
    refine rn 6 rfl (by kernel_rfl) (by rfl) fun KK hKK => ?_
    go_simp; (refine (hcop _ HPd.out).mono ?_; rintro e w5 ⟨qv, rfl, hq, hm0, hqo⟩; have hm := Chg.k' hHeld hm0; replace hT := hT.k hm0; have f0 := hT.free 0; have q0 := hT.cell 0; simp at q0; clear hm0; (try go_simp)); refine hKK.out _ _ (by assumption) fun hHeld => ?_; clear hKK KK; try simp only [Act.put, List.setIfInBounds_toArray, List.set]
    refine rn 8 rfl (by kernel_rfl) (by rfl) fun KK hKK => ?_
    go_simp; (have hs8 := Chg.setCell hHeld ⟨xb, 0, none⟩ (.int .i64 nb) (by simp); have hT8 := hT.set 0 (.int .i64 nb); simp at hT8); refine hKK.out _ _ (by assumption) fun hHeld => ?_; clear hKK KK; try simp only [Act.put, List.setIfInBounds_toArray, List.set]
    refine tks [9] (by kernel_rfl) (fun _ _ _ _ _ h => h) (by assumption) ?_
    refine tkc rfl rfl (by rfl) (fun wx hSw => by (try dsimp only at hSw); (have t1 := hSw.cellT HB1.out NX.out); go_simp; (try with_reducible rfl)) ?_; simp only [List.set]
    refine tk0 ?_
    refine rn 10 rfl (by kernel_rfl) (by rfl) fun KK hKK => ?_
    (refine wp_store_mid 95 _ _ rfl xb 8 #[.int .i64 k, .int .i64 r, qv] rfl rfl (fun j hj => ⟨by rw [hT8.cell]; (have : 8 + j < 11 := by simp at hj; omega); simp [this], hT8.free _⟩) (by kernel_rfl) (by obtain ⟨aq, cq, rfl, -⟩ := hq.form; simp [Value.oneCell']) ?_; have hs10 := Chg.setCells' (g := xb) [.int .i64 k, .int .i64 r, qv] 8 hHeld (by simp); have hT10 := hT8.setCells' [.int .i64 k, .int .i64 r, qv] 8; simp [setArr] at hT10); refine hKK.out _ _ (by assumption) fun hHeld => ?_; clear hKK KK; try simp only [Act.put]
    refine wpAnyH_done (by kernel_rfl) ?_ _
    skip
    have hc7 := HC1.out.trans hs10 (fun x hx hl => by have := HXB.out; simp at hx; omega)
    have hq7 := hq.chg (Chg.setCells' (g := xb) [.int .i64 k, .int .i64 r, qv] 8 (Chg.setCell (Chg.refl [xb] w5) ⟨xb, 0, none⟩ (.int .i64 nb) (by simp)) (by simp)) (fun _ b hb hm => by have := hqo b hb; have := HSZ.out; have := HX1.out.lt; simp at hm; omega)
    obtain ⟨aq, cq, rfl, -⟩ := hq.form
    have HQO : Hd (∀ b, (Value.slice aq p.length cq).ownBlock = some b → w.heap.size ≤ b) := hd (fun b hb => by have := hqo b hb; have := HSZ.out; have := HC1.out.size; omega)
    clear hs8 hT8 hs10 hm f0 q0 hq hqo t8 t9 t10 hT HPd hHeld HSZ HX1 HPV1 HB1 HW1 hcop NX
    (try simp only at hT10); (try simp only at hc7); (try simp only at hq7); (try simp only)
    generalize (w5.setCell ⟨xb, 0, none⟩ (.int .i64 nb)).setCells xb 8 [.int .i64 k, .int .i64 r, .slice aq p.length cq] = w7 at *
    have HC7 := hd hc7
    have HX7 := hd hT10
    have HQ7 := hd hq7
    have HW7 := HH.out.k hc7
    have HV := Rd.clip (HW7.p.b.rd.keep (Chg.refl [] w7).drew (by simp))
    have HW := HW7.blk.k (Chg.refl [] w7).drew
    have HW7 := hd HW7
    have NX : Hd (xb ∉ [wb]) := hd (by have := HXB.out; simp; omega)
    have hclip := fun W => ClipRB_any W ab L.length cb hncb hccb
    clear hc7 hT10 hq7 HC1
    go_upto_region 6 with (fail)
    refine rg (N := 12) (by kernel_rfl) (by kernel_rfl) (S := (fun wx => Chg [wb] w7 wx)) ((Chg.refl _ _).drew) (fun hHeld => ?_)
    generalize w7.drew = w7d at *
    refine tks [0, 1, 2, 3, 6] (by kernel_rfl) (fun _ _ _ _ _ h => h) (by assumption) ?_
    iterate 4 (refine tkc rfl rfl (by rfl) (fun wx hSw => by (try dsimp only at hSw); go_simp; (try with_reducible rfl)) ?_; simp only [List.set])
    refine tkc rfl rfl (by rfl) (fun wx hSw => by (try dsimp only at hSw); (refine exec_load_row (x := .tmp 3) (t := 97) ?_ ?_ (HX7.out.chg hSw NX.out) Tryz.underlying97 rfl (by kernel_rfl) <;> rfl)) ?_; simp only [List.set]
    refine tk0 ?_
    refine rn2 4 7 rfl rfl (by kernel_rfl) (by rfl) (by rfl) (fun KK hKK => ?ra1) (fun KK hKK => ?rb1)
    case' ra1 =>
      (have t4 := HW.cell 5; simp [wC] at t4; go_simp); refine hKK.out _ _ (by assumption) fun hHeld => ?_; clear hKK KK; try simp only [Act.put, List.setIfInBounds_toArray, List.set]
      refine rn2 5 7 rfl rfl (by kernel_rfl) (by rfl) (by rfl) (fun KK hKK => ?ra2) (fun KK hKK => ?rb2)
      case' ra2 =>
        go_simp; (refine (hclip _).mono ?_; rintro e w8 ⟨rfl, rfl⟩; (try go_simp)); refine hKK.out _ _ (by assumption) fun hHeld => ?_; clear hKK KK; try simp only [Act.put, List.setIfInBounds_toArray, List.set]
        refine rn 7 rfl (by kernel_rfl) (by rfl) fun KK hKK => ?_
        go_simp; (obtain ⟨hm, hU, hA⟩ := Chg.litRd hHeld [.int .i64 nb, .int .i64 px, .int .i64 py, .int .i64 vx, .int .i64 vy, .int .i64 an, .int .i64 sp, .int .i64 de, .int .i64 k, .int .i64 r, .slice aq p.length cq] 11 1 97 rfl (by decide); replace HV := Rd.keep HV hA (by simp); replace HW := HW.k hA); refine hKK.out _ _ (by assumption) fun hHeld => ?_; clear hKK KK; try simp only [Act.put, List.setIfInBounds_toArray, List.set]
        refine rn 8 rfl (by kernel_rfl) (by rfl) fun KK hKK => ?_
        (refine wp_appClip rowRB _ _ rfl ab L.length (L.flatMap cBV) rfl HV _ 1 [.int .i64 nb, .int .i64 px, .int .i64 py, .int .i64 vx, .int .i64 vy, .int .i64 an, .int .i64 sp, .int .i64 de, .int .i64 k, .int .i64 r, .slice aq p.length cq] rfl hU (by decide) (by omega) (by omega) ?_; intro g c w9 k1 k2; have hm2 := Chg.k' hHeld k2; have HW9 := HW.k k2; have c5 := HW9.cell 5; have f5 := HW9.free 5; simp [wC] at c5); refine hKK.out _ _ (by assumption) fun hHeld => ?_; clear hKK KK; try simp only [Act.put, List.setIfInBounds_toArray, List.set]
        refine tks [9, 10] (by kernel_rfl) (fun _ _ _ _ _ h => h) (by assumption) ?_
        iterate 2 (refine tkc rfl rfl (by rfl) (fun wx hSw => by (try dsimp only at hSw); go_simp; (try with_reducible rfl)) ?_; simp only [List.set])
        refine tk0 ?_
        refine rn 11 rfl (by kernel_rfl) (by rfl) fun KK hKK => ?_
        go_simp; (have hS11 := Chg.setCell hHeld ⟨wb, 5, none⟩ (.slice (some ⟨g, 0, none⟩) (L.length + 1) c) (by simp); have hW11 := HW9.set 5 (.slice (some ⟨g, 0, none⟩) (L.length + 1) c); simp [wC] at hW11); refine hKK.out _ _ (by assumption) fun hHeld => ?_; clear hKK KK; try simp only [Act.put, List.setIfInBounds_toArray, List.set]
        refine wpAnyH_done (by kernel_rfl) ?_ _
        skip
      case' rb2 =>
        go_simp; (obtain ⟨hm, hU, hA⟩ := Chg.litRd hHeld [.int .i64 nb, .int .i64 px, .int .i64 py, .int .i64 vx, .int .i64 vy, .int .i64 an, .int .i64 sp, .int .i64 de, .int .i64 k, .int .i64 r, .slice aq p.length cq] 11 1 97 rfl (by decide); replace HV := Rd.keep HV hA (by simp); replace HW := HW.k hA); refine hKK.out _ _ (by assumption) fun hHeld => ?_; clear hKK KK; try simp only [Act.put, List.setIfInBounds_toArray, List.set]
        refine rn 5 rfl (by kernel_rfl) (by rfl) fun KK hKK => ?_
        go_simp; (refine (hclip _).mono ?_; rintro e w8 ⟨rfl, rfl⟩; (try go_simp)); refine hKK.out _ _ (by assumption) fun hHeld => ?_; clear hKK KK; try simp only [Act.put, List.setIfInBounds_toArray, List.set]
        refine rn 8 rfl (by kernel_rfl) (by rfl) fun KK hKK => ?_
        (refine wp_appClip rowRB _ _ rfl ab L.length (L.flatMap cBV) rfl HV _ 1 [.int .i64 nb, .int .i64 px, .int .i64 py, .int .i64 vx, .int .i64 vy, .int .i64 an, .int .i64 sp, .int .i64 de, .int .i64 k, .int .i64 r, .slice aq p.length cq] rfl hU (by decide) (by omega) (by omega) ?_; intro g c w9 k1 k2; have hm2 := Chg.k' hHeld k2; have HW9 := HW.k k2; have c5 := HW9.cell 5; have f5 := HW9.free 5; simp [wC] at c5); refine hKK.out _ _ (by assumption) fun hHeld => ?_; clear hKK KK; try simp only [Act.put, List.setIfInBounds_toArray, List.set]
        refine tks [9, 10] (by kernel_rfl) (fun _ _ _ _ _ h => h) (by assumption) ?_
        iterate 2 (refine tkc rfl rfl (by rfl) (fun wx hSw => by (try dsimp only at hSw); go_simp; (try with_reducible rfl)) ?_; simp only [List.set])
        refine tk0 ?_
        refine rn 11 rfl (by kernel_rfl) (by rfl) fun KK hKK => ?_
        go_simp; (have hS11 := Chg.setCell hHeld ⟨wb, 5, none⟩ (.slice (some ⟨g, 0, none⟩) (L.length + 1) c) (by simp); have hW11 := HW9.set 5 (.slice (some ⟨g, 0, none⟩) (L.length + 1) c); simp [wC] at hW11); refine hKK.out _ _ (by assumption) fun hHeld => ?_; clear hKK KK; try simp only [Act.put, List.setIfInBounds_toArray, List.set]
        refine wpAnyH_done (by kernel_rfl) ?_ _
        skip
    case' rb1 =>
      go_simp; (obtain ⟨hm, hU, hA⟩ := Chg.litRd hHeld [.int .i64 nb, .int .i64 px, .int .i64 py, .int .i64 vx, .int .i64 vy, .int .i64 an, .int .i64 sp, .int .i64 de, .int .i64 k, .int .i64 r, .slice aq p.length cq] 11 1 97 rfl (by decide); replace HV := Rd.keep HV hA (by simp); replace HW := HW.k hA); refine hKK.out _ _ (by assumption) fun hHeld => ?_; clear hKK KK; try simp only [Act.put, List.setIfInBounds_toArray, List.set]
      refine rn 4 rfl (by kernel_rfl) (by rfl) fun KK hKK => ?_
      (have t4 := HW.cell 5; simp [wC] at t4; go_simp); refine hKK.out _ _ (by assumption) fun hHeld => ?_; clear hKK KK; try simp only [Act.put, List.setIfInBounds_toArray, List.set]
      refine rn 5 rfl (by kernel_rfl) (by rfl) fun KK hKK => ?_
      go_simp; (refine (hclip _).mono ?_; rintro e w8 ⟨rfl, rfl⟩; (try go_simp)); refine hKK.out _ _ (by assumption) fun hHeld => ?_; clear hKK KK; try simp only [Act.put, List.setIfInBounds_toArray, List.set]
      refine rn 8 rfl (by kernel_rfl) (by rfl) fun KK hKK => ?_
      (refine wp_appClip rowRB _ _ rfl ab L.length (L.flatMap cBV) rfl HV _ 1 [.int .i64 nb, .int .i64 px, .int .i64 py, .int .i64 vx, .int .i64 vy, .int .i64 an, .int .i64 sp, .int .i64 de, .int .i64 k, .int .i64 r, .slice aq p.length cq] rfl hU (by decide) (by omega) (by omega) ?_; intro g c w9 k1 k2; have hm2 := Chg.k' hHeld k2; have HW9 := HW.k k2; have c5 := HW9.cell 5; have f5 := HW9.free 5; simp [wC] at c5); refine hKK.out _ _ (by assumption) fun hHeld => ?_; clear hKK KK; try simp only [Act.put, List.setIfInBounds_toArray, List.set]
      refine tks [9, 10] (by kernel_rfl) (fun _ _ _ _ _ h => h) (by assumption) ?_
      iterate 2 (refine tkc rfl rfl (by rfl) (fun wx hSw => by (try dsimp only at hSw); go_simp; (try with_reducible rfl)) ?_; simp only [List.set])
      refine tk0 ?_
      refine rn 11 rfl (by kernel_rfl) (by rfl) fun KK hKK => ?_
      go_simp; (have hS11 := Chg.setCell hHeld ⟨wb, 5, none⟩ (.slice (some ⟨g, 0, none⟩) (L.length + 1) c) (by simp); have hW11 := HW9.set 5 (.slice (some ⟨g, 0, none⟩) (L.length + 1) c); simp [wC] at hW11); refine hKK.out _ _ (by assumption) fun hHeld => ?_; clear hKK KK; try simp only [Act.put, List.setIfInBounds_toArray, List.set]
      refine wpAnyH_done (by kernel_rfl) ?_ _
      skip
    all_goals
      have hgw : ∀ x ∈ S, x < g := fun x hx => by have := HH.out.lt x hx; have := HC7.out.size; have := hm.size; have := (World.ownsRow.lt k1 g rfl).1; omega
      have c1 := hW11.cell 1
      have f1 := hW11.free 1
      have x0 := (HX7.out.chg hS11 NX.out).cell 0
      simp at c1 x0
      have hne : xb ≠ wb := by have := HXB.out; omega
      have HR9 := hd (Rd.ofOwn k1)
      have HM2 := hd hm2
      have HW11 := hd hW11
      have HQ9 := hd (HQ7.out.chg hm2 (fun _ b hb hm => by have := HQO.out b hb; have := HXB.out; simp at hm; omega))
      have hS12 := Chg.setCell (Chg.setCell (Chg.refl [wb] w9) ⟨wb, 5, none⟩ (.slice (some ⟨g, 0, none⟩) (L.length + 1) c) (by simp)) ⟨wb, 1, none⟩ (.int .i64 (nb + 1)) (by simp)
      have HS12 := hd hS12
      have HG := hd hgw
      clear k1 k2 hm2 HW9 hS11 hW11 hHeld c5 f5 hU hA hm HV HW hS12 hgw
      generalize w9.setCell ⟨wb, 5, none⟩ (.slice (some ⟨g, 0, none⟩) (L.length + 1) c) = w11 at *
      have hwr : wrap64 (nb + 1) = nb + 1 := IntWalk.wrap64_in _ (by unfold I64 at hnb; omega)
      go_wp2_with fail
      rw [HP.out]
      refine ⟨rfl, (HC7.out.mono (by simp)).trans (HM2.out.trans HS12.out (fun x hx _ => hx)) (fun x hx _ => hx), _, _, wb_snocB (x := (⟨nb, (px, py), (vx, vy), an, sp, de, ⟨k, r, p⟩⟩, .slice aq p.length cq)) HW7.out HM2.out HS12.out HR9.out HG.out HQ9.out (fun b hb y hy => by have := HQO.out b hb; have := HH.out.lt y hy; omega) ?_⟩
      have := HW11.out.set 1 (.int .i64 (nb + 1))
      simpa [wC] using this
end Go.Proofs.YtbiadpkglcdihaaGreat

/- world.AddJoint. -/
namespace Go.Proofs.YtbiadpkglcdihaaGreat
open Go.RowKit

theorem wb_snocJ {w7 w9 wf : World} {wb : Nat} {S : List Nat} {bv jv kv : Value} {L : List BV} {X : Wld} {g c : Nat} {x : Jnt} {n' : Int} (h : WB w7 wb S bv jv kv L X) (h1 : Chg [wb] w7 w9) (h2 : Chg [wb] w9 wf)
    (hR : Rd w9 8 (.slice (some ⟨g, 0, none⟩) (X.joints.length + 1) c) (X.joints.length + 1) (X.joints.flatMap cJt ++ cJt x)) (hg : ∀ x ∈ S, x < g)
    (hb : Blk wf wb (wC { X with nj := n', joints := X.joints ++ [x] } bv (.slice (some ⟨g, 0, none⟩) (X.joints.length + 1) c) kv) 32) :
    WB wf wb S bv (.slice (some ⟨g, 0, none⟩) (X.joints.length + 1) c) kv L { X with nj := n', joints := X.joints ++ [x] } := by
  have p9 := h.p.chg h1 h.a1
  have a : Apart S bv (.slice (some ⟨g, 0, none⟩) (X.joints.length + 1) c) kv L { X with nj := n', joints := X.joints ++ [x] } :=
    ⟨h.a.b, fun _ k hk hm => by simp [Value.ownBlock] at hk; have := hg k hm; omega, h.a.k, h.a.s⟩
  have hP : WlP w9 bv (.slice (some ⟨g, 0, none⟩) (X.joints.length + 1) c) kv L { X with nj := n', joints := X.joints ++ [x] } :=
    ⟨p9.b, p9.l, by unfold JsS; rw [List.length_append, List.flatMap_append]; simpa using hR, p9.c⟩
  exact ⟨hb, hP.chg h2 (a.one h.ws), a, h.ws, fun x hx => Nat.lt_of_lt_of_le (h.lt x hx) (Nat.le_trans h1.size h2.size)⟩
set_option maxRecDepth 100000 in
set_option maxHeartbeats 8000000 in
theorem AddJoint_any (w : World) (wb : Nat) (S : List Nat) (bv jv kv : Value) (L : List BV) (X : Wld) (x : Jnt) (h : WB w wb S bv jv kv L X) (h1 : IV x.at_) (h2 : IV x.to_)
    (hlb : X.bodies.length ≤ 100000000000) (hr : risI (X.bodies.map (·.id))) (hlj : X.joints.length ≤ 100000000000) (hnj : I64 X.nj) :
    Calls Tryz.prog 94 #[.pointer (some ⟨wb, 0, none⟩), vJ x] w fun e w' => e = .returned (.tuple #[.int .i64 (addJ X x).2.1, .int .i64 (addJ X x).2.2]) ∧ Chg [wb] w w' ∧ ∃ jv', WB w' wb S bv jv' kv L (addJ X x).1 := by
  have hrj := fun W => RightJ_any W x h1 h2
  have hfa := fun W bv' (hW : WlP W bv' jv kv L X) => BodyAt_any W bv' jv kv L X x.a hW hlb hr
  have hfb := fun W bv' (hW : WlP W bv' jv kv L X) => BodyAt_any W bv' jv kv L X x.b hW hlb hr
  obtain ⟨i, a, b, ⟨px, py⟩, ⟨qx, qy⟩, ln⟩ := x
  obtain ⟨tk, nb, nj, ⟨gx, gy⟩, bs, js, ks⟩ := X
  simp only at hrj hfa hfb h1 h2 hlb hr hlj hnj
  obtain ⟨aj, cj, rfl, hmj, -⟩ := Rd.form (by decide) h.p.j
  obtain ⟨hncb, hccb⟩ : js.length ≤ cj ∧ cj ≤ 9223372036854775807 := Rd.caps h.p.j
  obtain ⟨P, hP⟩ : ∃ P : Ending → World → Prop, P = fun e w' => e = .returned (.tuple #[.int .i64 (addJ ⟨tk, nb, nj, (gx, gy), bs, js, ks⟩ ⟨i, a, b, (px, py), (qx, qy), ln⟩).2.1, .int .i64 (addJ ⟨tk, nb, nj, (gx, gy), bs, js, ks⟩ ⟨i, a, b, (px, py), (qx, qy), ln⟩).2.2]) ∧ Chg [wb] w w' ∧
      ∃ jv', WB w' wb S bv jv' kv L (addJ ⟨tk, nb, nj, (gx, gy), bs, js, ks⟩ ⟨i, a, b, (px, py), (qx, qy), ln⟩).1 := ⟨_, rfl⟩
  rw [← hP]
  have HP := hd hP
  unfold addJ at HP
  simp only at HP
  clear hP h1 h2 hr
  unfold vJ vW at *
  simp only at *
  generalize fndI (bs.map (·.id)) a = fa at *
  generalize fndI (bs.map (·.id)) b = fb at *
  obtain ⟨na, oa⟩ := fa
  obtain ⟨nb', ob⟩ := fb
  simp only at hfa hfb HP
  have hc0 := (Chg.refl [] w).alloc (.cells #[.int .i64 i, .int .i64 a, .int .i64 b, .int .i64 px, .int .i64 py, .int .i64 qx, .int .i64 qy, .int .i64 ln] 101)
  have hk0 := Blk.new w #[.int .i64 i, .int .i64 a, .int .i64 b, .int .i64 px, .int .i64 py, .int .i64 qx, .int .i64 qy, .int .i64 ln] 101
  have hwl := h.blk.lt
  go_enter Tryz.func94, Tryz.ntmps94
  go_upto_region 1 with (fail)
  generalize w.alloc (.cells #[.int .i64 i, .int .i64 a, .int .i64 b, .int .i64 px, .int .i64 py, .int .i64 qx, .int .i64 qy, .int .i64 ln] 101) = w0 at *
  obtain ⟨xb, hxb⟩ : ∃ xb, xb = w.heap.size := ⟨_, rfl⟩
  rw [← hxb] at hk0 ⊢
  have HXB : Hd (wb < xb ∧ xb = w.heap.size) := hd ⟨by omega, hxb⟩
  clear hxb hwl
  have HC0 := hd hc0
  have HH := hd h
  clear hc0 h
  cases hrb : rightJ ⟨i, a, b, (px, py), (qx, qy), ln⟩ with
  | false =>
    simp only [hrb] at hrj
    have HRB := hd hrb
    clear hrb
    go_wp2_with (first | (refine wpList_load_row rfl _ _ rfl xb rfl 101 _ (0, 0) _ hk0 Tryz.underlying101 rfl (by kernel_rfl) ?_) | (go_at_call 113; refine (hrj _).mono ?_; rintro e w1 ⟨rfl, hc1⟩))
    rw [HP.out, if_pos HRB.out]
    exact ⟨rfl, (HC0.out.k hc1).mono (by simp), _, HH.out.k (HC0.out.k hc1)⟩
  | true =>
    simp only [hrb] at hrj
    rw [if_neg (by rw [hrb]; simp)] at HP
    clear hrb
    go_upto_region 3 with (first | (refine wpList_load_row rfl _ _ rfl xb rfl 101 _ (0, 0) _ hk0 Tryz.underlying101 rfl (by kernel_rfl) ?_) | (go_at_call 113; refine (hrj _).mono ?_; rintro e w1 ⟨rfl, hc1⟩))
    have HC1 := hd (HC0.out.k hc1)
    have HX1 := hd (hk0.k hc1)
    have HW1 := hd (HH.out.k HC1.out)
    clear hrj hk0 hc1 HC0
    unfold wC at *
    refine rg (N := 11) (by kernel_rfl) (by kernel_rfl) (S := (fun wx => Chg [] w1 wx)) ((Chg.refl _ _).drew) (fun hHeld => ?_)
    generalize w1.drew = w1d at *
    refine tks [0, 1, 2, 3, 4] (by kernel_rfl) (fun _ _ _ _ _ h => h) (by assumption) ?_
    iterate 2 (refine tkc rfl rfl (by rfl) (fun wx hSw => by (try dsimp only at hSw); (have t1 := (HX1.out.k hSw).cell 1; simp at t1); go_simp; (try with_reducible rfl)) ?_; simp only [List.set])
    refine tkc rfl rfl (by rfl) (fun wx hSw => by (try dsimp only at hSw); (refine exec_load_row (x := .tmp 15) (t := 32) ?_ ?_ (HW1.out.k hSw).blk Tryz.underlying32 rfl (by kernel_rfl) <;> rfl)) ?_; simp only [List.set]
    iterate 2 (refine tkc rfl rfl (by rfl) (fun wx hSw => by (try dsimp only at hSw); (have t1 := (HX1.out.k hSw).cell 1; simp at t1); go_simp; (try with_reducible rfl)) ?_; simp only [List.set])
    refine tk0 ?_
    refine rn 5 rfl (by kernel_rfl) (by rfl) fun KK hKK => ?_
    go_simp; (refine (hfa _ _ (HW1.out.k hHeld).p).mono ?_; rintro e w2 ⟨rfl, hm0⟩; have hm := Chg.k' hHeld hm0; (try go_simp)); refine hKK.out _ _ (by assumption) fun hHeld => ?_; clear hKK KK; try simp only [Act.put, List.setIfInBounds_toArray, List.set]
    refine rn 6 rfl (by kernel_rfl) (by rfl) fun KK hKK => ?_
    go_simp; refine hKK.out _ _ (by assumption) fun hHeld => ?_; clear hKK KK; try simp only [Act.put, List.setIfInBounds_toArray, List.set]
    refine tks [7, 8] (by kernel_rfl) (fun _ _ _ _ _ h => h) (by assumption) ?_
    iterate 2 (refine tkc rfl rfl (by rfl) (fun wx hSw => by (try dsimp only at hSw); (have t1 := (HX1.out.k hSw).cell 1; simp at t1); go_simp; (try with_reducible rfl)) ?_; simp only [List.set])
    refine tk0 ?_
    refine rn 9 rfl (by kernel_rfl) (by rfl) fun KK hKK => ?_
    go_simp; refine hKK.out _ _ (by assumption) fun hHeld => ?_; clear hKK KK; try simp only [Act.put, List.setIfInBounds_toArray, List.set]
    refine rn 10 rfl (by kernel_rfl) (by rfl) fun KK hKK => ?_
    go_simp; refine hKK.out _ _ (by assumption) fun hHeld => ?_; clear hKK KK; try simp only [Act.put, List.setIfInBounds_toArray, List.set]
    refine wpAnyH_done (by kernel_rfl) ?_ _
    skip
    have HM2 := hd hm
    clear hm0 hm hHeld
    go_upto_region 4 with (fail)
    refine rg (N := 11) (by kernel_rfl) (by kernel_rfl) (S := (fun wx => Chg [] w2 wx)) ((Chg.refl _ _).drew) (fun hHeld => ?_)
    generalize w2.drew = w2d at *
    refine tks [0, 1, 2, 3, 4] (by kernel_rfl) (fun _ _ _ _ _ h => h) (by assumption) ?_
    iterate 2 (refine tkc rfl rfl (by rfl) (fun wx hSw => by (try dsimp only at hSw); (have t2 := (HX1.out.k (HM2.out.k hSw)).cell 2; simp at t2); go_simp; (try with_reducible rfl)) ?_; simp only [List.set])
    refine tkc rfl rfl (by rfl) (fun wx hSw => by (try dsimp only at hSw); (refine exec_load_row (x := .tmp 24) (t := 32) ?_ ?_ (HW1.out.k (HM2.out.k hSw)).blk Tryz.underlying32 rfl (by kernel_rfl) <;> rfl)) ?_; simp only [List.set]
    iterate 2 (refine tkc rfl rfl (by rfl) (fun wx hSw => by (try dsimp only at hSw); (have t2 := (HX1.out.k (HM2.out.k hSw)).cell 2; simp at t2); go_simp; (try with_reducible rfl)) ?_; simp only [List.set])
    refine tk0 ?_
    refine rn 5 rfl (by kernel_rfl) (by rfl) fun KK hKK => ?_
    go_simp; (refine (hfb _ _ (HW1.out.k (HM2.out.k hHeld)).p).mono ?_; rintro e w3 ⟨rfl, hm0⟩; have hm := Chg.k' hHeld hm0; (try go_simp)); refine hKK.out _ _ (by assumption) fun hHeld => ?_; clear hKK KK; try simp only [Act.put, List.setIfInBounds_toArray, List.set]
    refine rn 6 rfl (by kernel_rfl) (by rfl) fun KK hKK => ?_
    go_simp; refine hKK.out _ _ (by assumption) fun hHeld => ?_; clear hKK KK; try simp only [Act.put, List.setIfInBounds_toArray, List.set]
    refine tks [7, 8] (by kernel_rfl) (fun _ _ _ _ _ h => h) (by assumption) ?_
    iterate 2 (refine tkc rfl rfl (by rfl) (fun wx hSw => by (try dsimp only at hSw); (have t2 := (HX1.out.k (HM2.out.k hSw)).cell 2; simp at t2); go_simp; (try with_reducible rfl)) ?_; simp only [List.set])
    refine tk0 ?_
    refine rn 9 rfl (by kernel_rfl) (by rfl) fun KK hKK => ?_
    go_simp; refine hKK.out _ _ (by assumption) fun hHeld => ?_; clear hKK KK; try simp only [Act.put, List.setIfInBounds_toArray, List.set]
    refine rn 10 rfl (by kernel_rfl) (by rfl) fun KK hKK => ?_
    go_simp; refine hKK.out _ _ (by assumption) fun hHeld => ?_; clear hKK KK; try simp only [Act.put, List.setIfInBounds_toArray, List.set]
    refine wpAnyH_done (by kernel_rfl) ?_ _
    skip
    have HC3 := hd ((HC1.out.k HM2.out).k hm)
    have HX3 := hd ((HX1.out.k HM2.out).k hm)
    have hw3 := HH.out.k HC3.out
    have d2 := hw3.blk.cell 2
    have d6 := hw3.blk.cell 6
    simp [wC] at d2 d6
    have x0 := HX3.out.cell 0
    have xf0 := HX3.out.free 0
    simp at x0
    have HW3 := hd hw3
    clear hw3 hm0 hm hHeld hfa hfb HX1 HW1 HC1 HM2
    by_cases hoa : oa = false ∨ ob = false
    · rw [if_pos hoa] at HP
      rcases hoa with rfl | rfl
      · go_wp2_with fail
        rw [HP.out]
        exact ⟨rfl, HC3.out.mono (by simp), _, HW3.out⟩
      · cases oa
        · go_wp2_with fail
          rw [HP.out]
          exact ⟨rfl, HC3.out.mono (by simp), _, HW3.out⟩
        · go_wp2_with fail
          rw [HP.out]
          exact ⟨rfl, HC3.out.mono (by simp), _, HW3.out⟩
    rw [if_neg hoa] at HP
    obtain ⟨rfl, rfl⟩ : oa = true ∧ ob = true := by cases oa <;> cases ob <;> simp_all
    clear hoa
    by_cases hf1 : 1024 ≤ js.length
    · have HF := hd (show 1024 ≤ js.length ∨ 4611686018427387904 ≤ nj from .inl hf1)
      go_wp2_with fail
      rw [HP.out, if_pos HF.out]
      exact ⟨rfl, HC3.out.mono (by simp), _, HW3.out⟩
    by_cases hf2 : 4611686018427387904 ≤ nj
    · have HF := hd (show 1024 ≤ js.length ∨ 4611686018427387904 ≤ nj from .inr hf2)
      go_wp2_with fail
      rw [HP.out, if_pos HF.out]
      exact ⟨rfl, HC3.out.mono (by simp), _, HW3.out⟩
    rw [if_neg (by omega)] at HP
    go_upto_region 10 with (fail)
    have hX7 := HX3.out.set 0 (.int .i64 nj)
    simp at hX7
    have hc7 := HC3.out.setCell ⟨xb, 0, none⟩ (.int .i64 nj) (fun hl => by have := HXB.out; simp at hl; omega)
    clear x0 xf0 d2 d6 HX3 HW3 HC3
    generalize w3.setCell ⟨xb, 0, none⟩ (.int .i64 nj) = w7 at *
    have HC7 := hd hc7
    have HX7 := hd hX7
    have HW7 := HH.out.k hc7
    have HV := Rd.clip (HW7.p.j.keep (Chg.refl [] w7).drew (by simp))
    have HW := HW7.blk.k (Chg.refl [] w7).drew
    have HW7 := hd HW7
    have NX : Hd (xb ∉ [wb]) := hd (by have := HXB.out; simp; omega)
    have hclip := fun W => ClipRJ_any W aj js.length cj hncb hccb
    clear hc7 hX7
    refine rg (N := 12) (by kernel_rfl) (by kernel_rfl) (S := (fun wx => Chg [wb] w7 wx)) ((Chg.refl _ _).drew) (fun hHeld => ?_)
    generalize w7.drew = w7d at *
    refine tks [0, 1, 2, 3, 6] (by kernel_rfl) (fun _ _ _ _ _ h => h) (by assumption) ?_
    iterate 4 (refine tkc rfl rfl (by rfl) (fun wx hSw => by (try dsimp only at hSw); go_simp; (try with_reducible rfl)) ?_; simp only [List.set])
    refine tkc rfl rfl (by rfl) (fun wx hSw => by (try dsimp only at hSw); (refine exec_load_row (x := .tmp 3) (t := 101) ?_ ?_ (HX7.out.chg hSw NX.out) Tryz.underlying101 rfl (by kernel_rfl) <;> rfl)) ?_; simp only [List.set]
    refine tk0 ?_
    refine rn2 4 7 rfl rfl (by kernel_rfl) (by rfl) (by rfl) (fun KK hKK => ?ra2) (fun KK hKK => ?rb2)
    case' ra2 =>
      (have t4 := HW.cell 6; simp [wC] at t4; go_simp); refine hKK.out _ _ (by assumption) fun hHeld => ?_; clear hKK KK; try simp only [Act.put, List.setIfInBounds_toArray, List.set]
      refine rn2 5 7 rfl rfl (by kernel_rfl) (by rfl) (by rfl) (fun KK hKK => ?ra3) (fun KK hKK => ?rb3)
      case' ra3 =>
        go_simp; (refine (hclip _).mono ?_; rintro e w8 ⟨rfl, rfl⟩; (try go_simp)); refine hKK.out _ _ (by assumption) fun hHeld => ?_; clear hKK KK; try simp only [Act.put, List.setIfInBounds_toArray, List.set]
        refine rn 7 rfl (by kernel_rfl) (by rfl) fun KK hKK => ?_
        go_simp; (obtain ⟨hm, hU, hA⟩ := Chg.litRd hHeld [.int .i64 nj, .int .i64 a, .int .i64 b, .int .i64 px, .int .i64 py, .int .i64 qx, .int .i64 qy, .int .i64 ln] 8 1 101 rfl (by decide); replace HV := Rd.keep HV hA (by simp); replace HW := HW.k hA); refine hKK.out _ _ (by assumption) fun hHeld => ?_; clear hKK KK; try simp only [Act.put, List.setIfInBounds_toArray, List.set]
        refine rn 8 rfl (by kernel_rfl) (by rfl) fun KK hKK => ?_
        (refine wp_appClip rowRJ _ _ rfl aj js.length (js.flatMap cJt) rfl HV _ 1 [.int .i64 nj, .int .i64 a, .int .i64 b, .int .i64 px, .int .i64 py, .int .i64 qx, .int .i64 qy, .int .i64 ln] rfl hU (by decide) (by omega) (by omega) ?_; intro g c w9 k1 k2; have hm2 := Chg.k' hHeld k2; have HW9 := HW.k k2; have c6 := HW9.cell 6; have f6 := HW9.free 6; simp [wC] at c6); refine hKK.out _ _ (by assumption) fun hHeld => ?_; clear hKK KK; try simp only [Act.put, List.setIfInBounds_toArray, List.set]
        refine tks [9, 10] (by kernel_rfl) (fun _ _ _ _ _ h => h) (by assumption) ?_
        iterate 2 (refine tkc rfl rfl (by rfl) (fun wx hSw => by (try dsimp only at hSw); go_simp; (try with_reducible rfl)) ?_; simp only [List.set])
        refine tk0 ?_
        refine rn 11 rfl (by kernel_rfl) (by rfl) fun KK hKK => ?_
        go_simp; (have hS11 := Chg.setCell hHeld ⟨wb, 6, none⟩ (.slice (some ⟨g, 0, none⟩) (js.length + 1) c) (by simp); have hW11 := HW9.set 6 (.slice (some ⟨g, 0, none⟩) (js.length + 1) c); simp [wC] at hW11); refine hKK.out _ _ (by assumption) fun hHeld => ?_; clear hKK KK; try simp only [Act.put, List.setIfInBounds_toArray, List.set]
        refine wpAnyH_done (by kernel_rfl) ?_ _
        skip
      case' rb3 =>
        go_simp; (obtain ⟨hm, hU, hA⟩ := Chg.litRd hHeld [.int .i64 nj, .int .i64 a, .int .i64 b, .int .i64 px, .int .i64 py, .int .i64 qx, .int .i64 qy, .int .i64 ln] 8 1 101 rfl (by decide); replace HV := Rd.keep HV hA (by simp); replace HW := HW.k hA); refine hKK.out _ _ (by assumption) fun hHeld => ?_; clear hKK KK; try simp only [Act.put, List.setIfInBounds_toArray, List.set]
        refine rn 5 rfl (by kernel_rfl) (by rfl) fun KK hKK => ?_
        go_simp; (refine (hclip _).mono ?_; rintro e w8 ⟨rfl, rfl⟩; (try go_simp)); refine hKK.out _ _ (by assumption) fun hHeld => ?_; clear hKK KK; try simp only [Act.put, List.setIfInBounds_toArray, List.set]
        refine rn 8 rfl (by kernel_rfl) (by rfl) fun KK hKK => ?_
        (refine wp_appClip rowRJ _ _ rfl aj js.length (js.flatMap cJt) rfl HV _ 1 [.int .i64 nj, .int .i64 a, .int .i64 b, .int .i64 px, .int .i64 py, .int .i64 qx, .int .i64 qy, .int .i64 ln] rfl hU (by decide) (by omega) (by omega) ?_; intro g c w9 k1 k2; have hm2 := Chg.k' hHeld k2; have HW9 := HW.k k2; have c6 := HW9.cell 6; have f6 := HW9.free 6; simp [wC] at c6); refine hKK.out _ _ (by assumption) fun hHeld => ?_; clear hKK KK; try simp only [Act.put, List.setIfInBounds_toArray, List.set]
        refine tks [9, 10] (by kernel_rfl) (fun _ _ _ _ _ h => h) (by assumption) ?_
        iterate 2 (refine tkc rfl rfl (by rfl) (fun wx hSw => by (try dsimp only at hSw); go_simp; (try with_reducible rfl)) ?_; simp only [List.set])
        refine tk0 ?_
        refine rn 11 rfl (by kernel_rfl) (by rfl) fun KK hKK => ?_
        go_simp; (have hS11 := Chg.setCell hHeld ⟨wb, 6, none⟩ (.slice (some ⟨g, 0, none⟩) (js.length + 1) c) (by simp); have hW11 := HW9.set 6 (.slice (some ⟨g, 0, none⟩) (js.length + 1) c); simp [wC] at hW11); refine hKK.out _ _ (by assumption) fun hHeld => ?_; clear hKK KK; try simp only [Act.put, List.setIfInBounds_toArray, List.set]
        refine wpAnyH_done (by kernel_rfl) ?_ _
        skip
    case' rb2 =>
      go_simp; (obtain ⟨hm, hU, hA⟩ := Chg.litRd hHeld [.int .i64 nj, .int .i64 a, .int .i64 b, .int .i64 px, .int .i64 py, .int .i64 qx, .int .i64 qy, .int .i64 ln] 8 1 101 rfl (by decide); replace HV := Rd.keep HV hA (by simp); replace HW := HW.k hA); refine hKK.out _ _ (by assumption) fun hHeld => ?_; clear hKK KK; try simp only [Act.put, List.setIfInBounds_toArray, List.set]
      refine rn 4 rfl (by kernel_rfl) (by rfl) fun KK hKK => ?_
      (have t4 := HW.cell 6; simp [wC] at t4; go_simp); refine hKK.out _ _ (by assumption) fun hHeld => ?_; clear hKK KK; try simp only [Act.put, List.setIfInBounds_toArray, List.set]
      refine rn 5 rfl (by kernel_rfl) (by rfl) fun KK hKK => ?_
      go_simp; (refine (hclip _).mono ?_; rintro e w8 ⟨rfl, rfl⟩; (try go_simp)); refine hKK.out _ _ (by assumption) fun hHeld => ?_; clear hKK KK; try simp only [Act.put, List.setIfInBounds_toArray, List.set]
      refine rn 8 rfl (by kernel_rfl) (by rfl) fun KK hKK => ?_
      (refine wp_appClip rowRJ _ _ rfl aj js.length (js.flatMap cJt) rfl HV _ 1 [.int .i64 nj, .int .i64 a, .int .i64 b, .int .i64 px, .int .i64 py, .int .i64 qx, .int .i64 qy, .int .i64 ln] rfl hU (by decide) (by omega) (by omega) ?_; intro g c w9 k1 k2; have hm2 := Chg.k' hHeld k2; have HW9 := HW.k k2; have c6 := HW9.cell 6; have f6 := HW9.free 6; simp [wC] at c6); refine hKK.out _ _ (by assumption) fun hHeld => ?_; clear hKK KK; try simp only [Act.put, List.setIfInBounds_toArray, List.set]
      refine tks [9, 10] (by kernel_rfl) (fun _ _ _ _ _ h => h) (by assumption) ?_
      iterate 2 (refine tkc rfl rfl (by rfl) (fun wx hSw => by (try dsimp only at hSw); go_simp; (try with_reducible rfl)) ?_; simp only [List.set])
      refine tk0 ?_
      refine rn 11 rfl (by kernel_rfl) (by rfl) fun KK hKK => ?_
      go_simp; (have hS11 := Chg.setCell hHeld ⟨wb, 6, none⟩ (.slice (some ⟨g, 0, none⟩) (js.length + 1) c) (by simp); have hW11 := HW9.set 6 (.slice (some ⟨g, 0, none⟩) (js.length + 1) c); simp [wC] at hW11); refine hKK.out _ _ (by assumption) fun hHeld => ?_; clear hKK KK; try simp only [Act.put, List.setIfInBounds_toArray, List.set]
      refine wpAnyH_done (by kernel_rfl) ?_ _
      skip
    all_goals
      have hgw : ∀ x ∈ S, x < g := fun x hx => by have := HH.out.lt x hx; have := HC7.out.size; have := hm.size; have := (World.ownsRow.lt k1 g rfl).1; omega
      have c2 := hW11.cell 2
      have f2 := hW11.free 2
      have x0 := (HX7.out.chg hS11 NX.out).cell 0
      simp at c2 x0
      have hne : xb ≠ wb := by have := HXB.out; omega
      have HR9 := hd (Rd.ofOwn k1)
      have HM2 := hd hm2
      have HW11 := hd hW11
      have hS12 := Chg.setCell (Chg.setCell (Chg.refl [wb] w9) ⟨wb, 6, none⟩ (.slice (some ⟨g, 0, none⟩) (js.length + 1) c) (by simp)) ⟨wb, 2, none⟩ (.int .i64 (nj + 1)) (by simp)
      have HS12 := hd hS12
      have HG := hd hgw
      clear k1 k2 hm2 HW9 hS11 hW11 hHeld c6 f6 hU hA hm HV HW hS12 hgw
      generalize w9.setCell ⟨wb, 6, none⟩ (.slice (some ⟨g, 0, none⟩) (js.length + 1) c) = w11 at *
      have hwr : wrap64 (nj + 1) = nj + 1 := IntWalk.wrap64_in _ (by unfold I64 at hnj; omega)
      go_wp2_with fail
      rw [HP.out]
      refine ⟨rfl, (HC7.out.mono (by simp)).trans (HM2.out.trans HS12.out (fun x hx _ => hx)) (fun x hx _ => hx), _, wb_snocJ (x := ⟨nj, a, b, (px, py), (qx, qy), ln⟩) HW7.out HM2.out HS12.out HR9.out HG.out ?_⟩
      have := HW11.out.set 2 (.int .i64 (nj + 1))
      simpa [wC] using this
end Go.Proofs.YtbiadpkglcdihaaGreat
