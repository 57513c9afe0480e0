/- Words and walks that SF rests on: RightW. -/
import Derived.Test.YtbiadpkglcdihaaGreatWSF10
/- world.Right: worlds that may be are right (without contacts). -/
namespace Go.Proofs.YtbiadpkglcdihaaGreat
open Go.RowKit

set_option maxHeartbeats 1000000 in
theorem JID_any (w : World) (x : Jnt) : Calls Tryz.prog 109 #[.agg (cJt x).toArray] w fun e w' => e = .returned (.int .i64 x.id) ∧ Chg [] w w' := by
  obtain ⟨i, a, b, ⟨px, py⟩, ⟨vx, vy⟩, ln⟩ := x
  unfold cJt
  simp only
  go_enter Tryz.func109, Tryz.ntmps109
  go_wp2
  go_ret
  exact ⟨rfl, (Chg.refl [] w).alloc _⟩
set_option maxRecDepth 100000 in
set_option maxHeartbeats 4000000 in
theorem RisJ_ok (w : World) (va : Value) (A : List Jnt) (next : Int) (ha : Rd w 8 va A.length (A.flatMap cJt)) (h1 : risI (A.map (·.id))) (h0 : ∀ x ∈ A, 1 ≤ x.id ∧ x.id < next) (hn : 1 ≤ next) :
    Calls Tryz.prog 108 #[va, .int .i64 next, .func (.func 109) #[] #[]] w fun e w' => e = .returned (.bool true) ∧ Chg [] w w' := by
  obtain ⟨aa, ca, rfl, hma, haa⟩ := Rd.form (by decide) ha
  have HA := hd ha
  have HAA := hd haa
  have H1 := hd h1
  have H0 := hd h0
  clear ha haa h1 h0
  obtain ⟨P, hP⟩ : ∃ P : Ending → World → Prop, P = fun e w' => e = .returned (.bool true) ∧ Chg [] w w' := ⟨_, rfl⟩
  rw [← hP]
  have HP := hd hP
  clear hP
  go_enter Tryz.func108, Tryz.ntmps108
  go_wp2_with (fail)
  go_loopw [7, 9, 12] (fun t _ i wr => ∃ (k : Nat) (last : Int), k ≤ A.length ∧ t = .int .i64 last ∧ i = .int .i64 k ∧ Chg [] w wr ∧ Hd (∀ x ∈ A.drop k, last < x.id))
    (fun _ _ i _ => A.length - (intOf i).toNat)
  case atStart => exact ⟨0, 0, by omega, rfl, rfl, Chg.refl _ _, hd (fun x hx => by have := (H0.out x (by simpa using hx)).1; omega)⟩
  case round =>
    obtain ⟨j, last, hj, rfl, rfl, hc, hr⟩ := hrel
    have HC := hd hc
    clear hc
    by_cases hlt : j < A.length
    · obtain ⟨ga, offa, e1, hga⟩ := HAA.out (by omega)
      subst e1
      have HCA := hd (rangeAt_k (Rd.rangeAt cJt_len HA.out j hlt) HC.out)
      have hd1 : last < A[j].id := hr.out _ (by rw [List.drop_eq_getElem_cons hlt]; exact List.mem_cons_self)
      have hd2 : A[j].id < next := (H0.out _ (List.getElem_mem hlt)).2
      have HD3 : Hd (∀ x ∈ A.drop (j + 1), A[j].id < x.id) := hd (fun x hx => by
        obtain ⟨k, hk, rfl⟩ := List.mem_iff_getElem.1 hx
        rw [List.getElem_drop]
        have := ris_get H1.out (i := j) (j := j + 1 + k) (by simpa using hlt) (by simp at hk ⊢; omega) (by omega)
        simpa using this)
      generalize A[j] = x at *
      have ho := all_oneCell_toArray (cJt_one x)
      have kA := Blk.new wr #[.int .i64 0, .int .i64 0, .int .i64 0, .int .i64 0, .int .i64 0, .int .i64 0, .int .i64 0, .int .i64 0] 101
      have k1 := kA.row (cs' := (cJt x).toArray)
      have hc1 : Chg [] wr ((wr.alloc (.cells #[.int .i64 0, .int .i64 0, .int .i64 0, .int .i64 0, .int .i64 0, .int .i64 0, .int .i64 0, .int .i64 0] 101)).setRow wr.heap.size (cJt x).toArray) := Chg.row ((Chg.refl [] wr).alloc _) wr.heap.size _ (fun h => absurd h (Nat.lt_irrefl _))
      go_upto_region 5 with (first
        | (refine wpList_load_mid rfl _ _ rfl _ _ rfl (cJt x) _ HCA.out Tryz.underlying101 rfl (by kernel_rfl) ?_)
        | (refine wpList_store_row rfl _ _ _ rfl wr.heap.size (cJt x).toArray rfl rfl 101 _ kA (by kernel_rfl) rfl ho ?_))
      clear kA
      generalize (wr.alloc (.cells #[.int .i64 0, .int .i64 0, .int .i64 0, .int .i64 0, .int .i64 0, .int .i64 0, .int .i64 0, .int .i64 0] 101)).setRow wr.heap.size (cJt x).toArray = w1 at *
      have K1 := hd k1
      have HM := hd (HC.out.k hc1)
      generalize wr.heap.size = tb at *
      clear k1 hc1
      have hn1 : ¬ x.id ≤ last := by omega
      have hn2 : ¬ next ≤ x.id := by omega
      have c0 := K1.out.cell 0
      go_upto_region 7 with (first
        | (refine wpList_load_row rfl _ _ rfl tb rfl 101 _ (0, 0) _ K1.out Tryz.underlying101 rfl (by kernel_rfl) ?_)
        | (go_at_call 109; refine (JID_any _ x).mono ?_; rintro e w5 ⟨rfl, h5⟩; have d0 := (K1.out.k h5).cell 0; have d1 := (K1.out.k h5).cell 1; have d2 := (K1.out.k h5).cell 2; have d3 := (K1.out.k h5).cell 3; have d4 := (K1.out.k h5).cell 4; have d5 := (K1.out.k h5).cell 5; have d6 := (K1.out.k h5).cell 6; have d7 := (K1.out.k h5).cell 7; simp [cJt] at d0 d1 d2 d3 d4 d5 d6 d7)
        | (go_at_call 109; refine (JID_any _ x).mono ?_; rintro e w6 ⟨rfl, h6⟩))
      go_wp2_with (first
        | (refine wpList_load_row rfl _ _ rfl tb rfl 101 _ (0, 0) _ ((K1.out.k h5).k h6) Tryz.underlying101 rfl (by kernel_rfl) ?_)
        | (go_at_call 109; refine (JID_any _ x).mono ?_; rintro e w7 ⟨rfl, h7⟩))
      go_roundw
      case rel => exact ⟨j + 1, x.id, by omega, rfl, by go_num, ((HM.out.k h5).k h6).k h7, HD3⟩
      case measure => simp [intOf]; omega
    · go_wp2_with (fail)
      rw [HP.out]
      exact ⟨rfl, HC.out⟩
theorem RisB_ok (w : World) (va : Value) (A : List BV) (next : Int) (ha : BsS w va A) (h1 : risI (A.map (·.1.id))) (h0 : ∀ x ∈ A, 1 ≤ x.1.id ∧ x.1.id < next) (hn : 1 ≤ next) :
    Calls Tryz.prog 106 #[va, .int .i64 next, .func (.func 107) #[] #[]] w fun e w' => e = .returned (.bool true) ∧ Chg [] w w' := by
  have := RisB_any w va A next ha
  have e : ∀ (l : List Int) (last : Int), risI l → (∀ x ∈ l, last < x ∧ x < next) → risL next last l = true := by
    intro l
    induction l with
    | nil => intro last _ _; simp [risL, hn]
    | cons x l ih =>
      intro last hr hx
      have h2 := hx x (by simp)
      rw [risL, if_neg (by omega)]
      rw [risI, List.pairwise_cons] at hr
      exact ih x hr.2 (fun y hy => ⟨hr.1 y hy, (hx y (by simp [hy])).2⟩)
  rwa [e _ 0 h1 (fun x hx => by obtain ⟨y, hy, rfl⟩ := List.mem_map.1 hx; have := h0 y hy; omega)] at this
set_option maxRecDepth 100000 in
set_option maxHeartbeats 2000000 in
theorem There_any (w : World) (xb : Nat) (bv jv kv : Value) (L : List BV) (X : Wld) (a b : Int) (hk : Blk w xb (wC X bv jv kv) 32) (hp : WlP w bv jv kv L X) (hl : X.bodies.length ≤ 100000000000) (hr : risI (X.bodies.map (·.id)))
    (ha : a ∈ X.bodies.map (·.id)) (hb : b ∈ X.bodies.map (·.id)) :
    Calls Tryz.prog 110 #[.int .i64 a, .int .i64 b, .pointer (some ⟨xb, 0, none⟩)] w fun e w' => e = .returned (.bool true) ∧ Chg [] w w' := by
  have hA := fun W (h : Chg [] w W) => BodyAt_any W bv jv kv L X a (hp.k h) hl hr
  have hB := fun W (h : Chg [] w W) => BodyAt_any W bv jv kv L X b (hp.k h) hl hr
  rw [fnd_mem.2 ha] at hA
  rw [fnd_mem.2 hb] at hB
  rw [show vW X bv jv kv = .agg (wC X bv jv kv) from rfl] at hA hB
  generalize ((fndI (X.bodies.map (·.id)) a).1 : Int) = n1 at *
  generalize ((fndI (X.bodies.map (·.id)) b).1 : Int) = n2 at *
  have HK := hd hk
  clear hk hp hr ha hb
  go_enter Tryz.func110, Tryz.ntmps110
  go_upto_region 2 with (first
    | (refine wpList_load_row rfl _ _ rfl xb rfl 32 _ (0, 0) _ HK.out Tryz.underlying32 rfl (by kernel_rfl) ?_)
    | (go_at_call 111; refine (hA _ (Chg.refl _ _)).mono ?_; rintro e w1 ⟨rfl, h1⟩))
  go_wp2_with (first
    | (refine wpList_load_row rfl _ _ rfl xb rfl 32 _ (0, 0) _ (HK.out.k h1) Tryz.underlying32 rfl (by kernel_rfl) ?_)
    | (go_at_call 111; refine (hB _ h1).mono ?_; rintro e w2 ⟨rfl, h2⟩))
  go_ret
  exact ⟨rfl, h1.k h2⟩
set_option maxRecDepth 100000 in
set_option maxHeartbeats 8000000 in
theorem RightE_any (w : World) (bv jv kv : Value) (L : List BV) (X : Wld) (h : WlP w bv jv kv L X) (hg : GW X) (hc0 : X.contacts = []) :
    Calls Tryz.prog 83 #[vW X bv jv kv] w fun e w' => e = .returned (.bool true) ∧ Chg [] w w' := by
  have hbl := hg.fit.bl
  have hjl := hg.fit.jl
  have hg1 := hg.t
  have hg2 := hg.nb
  have hg3 := hg.nj
  have hgr := fun W => WWithin_any X.grav 17592186044416 hg.fit.grav W
  rw [hg.grav] at hgr
  have hRB := fun W (hW : Chg [] w W) => RisB_ok W bv L X.nb (h.k hW).b (by have := hg.rb; rw [← h.l, List.map_map] at this; exact this) (fun x hx => hg.rb0 x.1 (by rw [← h.l]; exact List.mem_map_of_mem hx)) hg2.1
  have hRJ := fun W (hW : Chg [] w W) => RisJ_ok W jv X.joints X.nj (h.k hW).j hg.rj hg.rj0 hg3.1
  have hBB := fun W (hW : Chg [] w W) (x : BV) (hx : x ∈ L) => RightB_any W x.1 x.2 ((h.k hW).b.ps x hx) (hg.fit.b x.1 (by rw [← h.l]; exact List.mem_map_of_mem hx)).sp (hg.fit.b x.1 (by rw [← h.l]; exact List.mem_map_of_mem hx)).pos (hg.fit.b x.1 (by rw [← h.l]; exact List.mem_map_of_mem hx)).vel (hg.fit.b x.1 (by rw [← h.l]; exact List.mem_map_of_mem hx)).spin
  have hbo := BsS.one h.b
  have hbr : ∀ x ∈ L, rightB x.1 = true := fun x hx => hg.b x.1 (by rw [← h.l]; exact List.mem_map_of_mem hx)
  have hJJ := fun W (x : Jnt) (hx : x ∈ X.joints) => RightJ_any W x (hg.fit.j x hx).at_ (hg.fit.j x hx).to_
  have hTT := fun W xb (hk : Blk W xb (wC X bv jv kv) 32) (hW : Chg [] w W) (x : Jnt) (hx : x ∈ X.joints) => There_any W xb bv jv kv L X x.a x.b hk (h.k hW) (by omega) hg.rb (hg.j x hx).2.1 (hg.j x hx).2.2
  have hjr : ∀ x ∈ X.joints, rightJ x = true := fun x hx => (hg.j x hx).1
  have hll : L.length = X.bodies.length := by rw [← h.l, List.length_map]
  obtain ⟨tk, nb, nj, ⟨gx, gy⟩, bs, js, ks⟩ := X
  simp only at hc0 hbl hjl hg1 hg2 hg3 hgr hRB hRJ hJJ hTT hjr hll
  subst hc0
  rw [← hll] at hbl
  clear hll
  obtain ⟨ab, cb, rfl, hmb, hab⟩ := Rd.form (by decide) h.b.rd
  obtain ⟨aj, cj, rfl, hmj, haj⟩ := Rd.form (by decide) h.j
  obtain ⟨ak, ck, rfl, hmk, -⟩ := Rd.form (by decide) h.c
  simp only [List.length_nil] at *
  obtain ⟨P, hP⟩ : ∃ P : Ending → World → Prop, P = fun e w' => e = .returned (.bool true) ∧ Chg [] w w' := ⟨_, rfl⟩
  rw [← hP]
  have HP := hd hP
  clear hP
  have HH := hd h
  have HAB := hd hab
  have HAJ := hd haj
  have HTT := hd hTT
  have HBO := hd hbo
  have HBR := hd hbr
  have HJR := hd hjr
  have HBB := hd hBB
  clear h hg hab haj hTT hbo hbr hjr hBB
  have hc1 := (Chg.refl [] w).alloc (.cells #[.int .i64 tk, .int .i64 nb, .int .i64 nj, .int .i64 gx, .int .i64 gy, .slice ab L.length cb, .slice aj js.length cj, .slice ak 0 ck] 32)
  have hk1 := Blk.new w #[.int .i64 tk, .int .i64 nb, .int .i64 nj, .int .i64 gx, .int .i64 gy, .slice ab L.length cb, .slice aj js.length cj, .slice ak 0 ck] 32
  unfold vV at hgr
  unfold vW
  simp only at hgr ⊢
  go_enter Tryz.func83, Tryz.ntmps83
  go_upto_region 1 with (fail)
  generalize w.alloc (.cells #[.int .i64 tk, .int .i64 nb, .int .i64 nj, .int .i64 gx, .int .i64 gy, .slice ab L.length cb, .slice aj js.length cj, .slice ak 0 ck] 32) = w1 at *
  generalize w.heap.size = xb at *
  have HK1 := hd hk1
  have HC1 := hd hc1
  have q0 := hk1.cell 0
  have q1 := hk1.cell 1
  have q2 := hk1.cell 2
  have q3 := hk1.cell 3
  have q4 := hk1.cell 4
  have q5 := hk1.cell 5
  have q6 := hk1.cell 6
  simp at q0 q1 q2 q3 q4 q5 q6
  clear hk1 hc1
  have n1 : ¬ tk < 0 := by omega
  have n2 : ¬ 4611686018427387904 < tk := by omega
  have n3 : ¬ 4611686018427387904 < nb := by omega
  have n4 : ¬ 4611686018427387904 < nj := by omega
  have n5 : ¬ (1024 : Int) < (L.length : Int) := by omega
  have n6 : ¬ (1024 : Int) < (js.length : Int) := by omega
  go_upto_region 3 with (go_at_call 105; refine (hgr _).mono ?_; rintro e w2 ⟨rfl, h2⟩; replace q1 := h2.cellS q1; replace q2 := h2.cellS q2; replace q5 := h2.cellS q5; replace q6 := h2.cellS q6)
  go_upto_region 5 with (first
    | (go_at_call 106; refine (hRB _ (HC1.out.k h2)).mono ?_; rintro e w3 ⟨rfl, h3⟩; replace q1 := h3.cellS q1; replace q2 := h3.cellS q2; replace q5 := h3.cellS q5; replace q6 := h3.cellS q6)
    | (go_at_call 108; refine (hRJ _ ((HC1.out.k h2).k h3)).mono ?_; rintro e w4 ⟨rfl, h4⟩; replace q1 := h4.cellS q1; replace q2 := h4.cellS q2; replace q5 := h4.cellS q5; replace q6 := h4.cellS q6))
  have HC4 := hd (((HC1.out.k h2).k h3).k h4)
  have HK4 := hd (((HK1.out.k h2).k h3).k h4)
  clear h2 h3 h4 q0 q1 q2 q3 q4 n1 n2 n3 n4 hRB hRJ hgr hg1 hg2 hg3 HK1 HC1
  go_wp2_with (fail)
  clear q5
  go_loopw [5, 64] (fun _ i wr => ∃ k : Nat, k ≤ L.length ∧ i = .int .i64 k ∧ Chg [] w4 wr) (fun _ i _ => L.length - (intOf i).toNat)
  case atStart => exact ⟨0, by omega, rfl, Chg.refl _ _⟩
  case round =>
    obtain ⟨j, hj, rfl, hc⟩ := hrel
    have HC := hd hc
    clear hc
    by_cases hlt : j < L.length
    · obtain ⟨ga, offa, e1, hga⟩ := HAB.out (by omega)
      subst e1
      have HCA := hd (rangeAt_k (Rd.rangeAt cBV_len HH.out.b.rd j hlt) (HC4.out.k HC.out))
      have ho := HBO.out _ (List.getElem_mem hlt)
      have hcon := fun W (h : Chg [] w W) => HBB.out W h _ (List.getElem_mem hlt)
      simp only [HBR.out _ (List.getElem_mem hlt)] at hcon
      generalize L[j] = x at *
      have kA := Blk.new wr #[.int .i64 0, .int .i64 0, .int .i64 0, .int .i64 0, .int .i64 0, .int .i64 0, .int .i64 0, .int .i64 0, .int .i64 0, .int .i64 0, .slice none 0 0] 97
      have k1 := kA.row (cs' := (cBV x).toArray)
      have hc1 : Chg [] wr ((wr.alloc (.cells #[.int .i64 0, .int .i64 0, .int .i64 0, .int .i64 0, .int .i64 0, .int .i64 0, .int .i64 0, .int .i64 0, .int .i64 0, .int .i64 0, .slice none 0 0] 97)).setRow wr.heap.size (cBV x).toArray) := Chg.row ((Chg.refl [] wr).alloc _) wr.heap.size _ (fun h => absurd h (Nat.lt_irrefl _))
      go_upto_region 9 with (first
        | (refine wpList_load_mid rfl _ _ rfl _ _ rfl (cBV x) _ HCA.out Tryz.underlying97 rfl (by kernel_rfl) ?_)
        | (refine wpList_store_row rfl _ _ _ rfl wr.heap.size (cBV x).toArray rfl rfl 97 _ kA (by kernel_rfl) rfl ho ?_))
      clear kA
      generalize (wr.alloc (.cells #[.int .i64 0, .int .i64 0, .int .i64 0, .int .i64 0, .int .i64 0, .int .i64 0, .int .i64 0, .int .i64 0, .int .i64 0, .int .i64 0, .slice none 0 0] 97)).setRow wr.heap.size (cBV x).toArray = w5 at *
      have K1 := hd k1
      have HM := hd (HC.out.k hc1)
      generalize wr.heap.size = tb at *
      clear k1 hc1
      go_wp2_with (first
        | (refine wpList_load_row rfl _ _ rfl tb rfl 97 _ (0, 0) _ K1.out Tryz.underlying97 rfl (by kernel_rfl) ?_)
        | (go_at_call 112; refine (hcon _ (HC4.out.k HM.out)).mono ?_; rintro e w6 ⟨rfl, h6⟩))
      go_roundw
      case rel => exact ⟨j + 1, by omega, by go_num, HM.out.k h6⟩
      case measure => simp [intOf]; omega
    · have HC5 := hd (HC4.out.k HC.out)
      have HK5 := hd (HK4.out.k HC.out)
      replace q6 := HC.out.cellS q6
      have q7 := HK5.out.cell 7
      simp at q7
      clear HC HC4 HK4 HAB HBO HBR HBB
      go_wp2_with (fail)
      clear q6
      go_loopw [7, 75] (fun _ i wx => ∃ k : Nat, k ≤ js.length ∧ i = .int .i64 k ∧ Chg [] wr wx) (fun _ i _ => js.length - (intOf i).toNat)
      case atStart => exact ⟨0, by omega, rfl, Chg.refl _ _⟩
      case round =>
        obtain ⟨j2, hj2, rfl, hc⟩ := hrel
        have HC := hd hc
        clear hc
        by_cases hlt : j2 < js.length
        · obtain ⟨ga, offa, e1, hga⟩ := HAJ.out (by omega)
          subst e1
          have HCA := hd (rangeAt_k (Rd.rangeAt cJt_len HH.out.j j2 hlt) (HC5.out.k HC.out))
          have hcon := fun W => hJJ W _ (List.getElem_mem hlt)
          simp only [HJR.out _ (List.getElem_mem hlt)] at hcon
          have hth := fun W (hk : Blk W xb _ _) (h : Chg [] w W) => HTT.out W xb hk h _ (List.getElem_mem hlt)
          generalize js[j2] = x at *
          have ho := all_oneCell_toArray (cJt_one x)
          have kA := Blk.new wr #[.int .i64 0, .int .i64 0, .int .i64 0, .int .i64 0, .int .i64 0, .int .i64 0, .int .i64 0, .int .i64 0] 101
          have k1 := kA.row (cs' := (cJt x).toArray)
          have hc1 : Chg [] wr ((wr.alloc (.cells #[.int .i64 0, .int .i64 0, .int .i64 0, .int .i64 0, .int .i64 0, .int .i64 0, .int .i64 0, .int .i64 0] 101)).setRow wr.heap.size (cJt x).toArray) := Chg.row ((Chg.refl [] wr).alloc _) wr.heap.size _ (fun h => absurd h (Nat.lt_irrefl _))
          go_upto_region 15 with (first
            | (refine wpList_load_mid rfl _ _ rfl _ _ rfl (cJt x) _ HCA.out Tryz.underlying101 rfl (by kernel_rfl) ?_)
            | (refine wpList_store_row rfl _ _ _ rfl wr.heap.size (cJt x).toArray rfl rfl 101 _ kA (by kernel_rfl) rfl ho ?_))
          clear kA
          generalize (wr.alloc (.cells #[.int .i64 0, .int .i64 0, .int .i64 0, .int .i64 0, .int .i64 0, .int .i64 0, .int .i64 0, .int .i64 0] 101)).setRow wr.heap.size (cJt x).toArray = w5 at *
          have K1 := hd k1
          have HM := hd (HC.out.k hc1)
          generalize wr.heap.size = tb at *
          clear k1 hc1
          go_wp2_with (first
            | (refine wpList_load_row rfl _ _ rfl tb rfl 101 _ (0, 0) _ K1.out Tryz.underlying101 rfl (by kernel_rfl) ?_)
            | (go_at_call 113; refine (hcon _).mono ?_; rintro e w6 ⟨rfl, h6⟩; have d1 := (K1.out.k h6).cell 1; have d2 := (K1.out.k h6).cell 2; simp [cJt] at d1 d2)
            | (go_at_call 110; refine (hth _ ((HK5.out.k HM.out).k h6) ((HC5.out.k HM.out).k h6)).mono ?_; rintro e w7 ⟨rfl, h7⟩))
          go_roundw
          case rel => exact ⟨j2 + 1, by omega, by go_num, (HM.out.k h6).k h7⟩
          case measure => simp [intOf]; omega
        · have HC6 := hd (HC5.out.k HC.out)
          replace q7 := HC.out.cellS q7
          go_wp2_with (fail)
          go_loopw [95] (fun i wy => i = .int .i64 0 ∧ wy = wr) (fun _ _ => 0)
          case atStart => exact ⟨rfl, rfl⟩
          case round =>
            obtain ⟨rfl, rfl⟩ := hrel
            go_wp2_with (fail)
            rw [HP.out]
            exact ⟨rfl, HC6.out⟩
end Go.Proofs.YtbiadpkglcdihaaGreat
