/- Words and walks that SF rests on: CodecRP, CodecRA, OrderR, CodecRO, CodecRK0, CodecRK1, CodecRK2, CodecRK3, CodecRK4, CodecRK5, CodecRK6, CodecRD, CodecRB, Deed, Seed, SeedP, DeedB, DeedJ, DeedBd, DeedO. -/
import Derived.Test.YtbiadpkglcdihaaGreatWSF5
/- codec.reader: shapes with corners. -/
namespace Go.Proofs.YtbiadpkglcdihaaGreat
open Go.RowKit

theorem numR1_lo (s : St) : 0 ≤ (numR 1 s).1 ∧ (numR 1 s).1 ≤ 255 := by
  unfold numR
  split
  · simp
  · rename_i h
    obtain ⟨l, bad⟩ := s
    cases l with
    | nil => simp at h
    | cons c l =>
      have h1 := n8_lo c
      have h2 := n8_hi c
      simp only [List.take_succ_cons, List.take_zero, rdNum, rdB, wrap64]
      omega
/-- What stands while the corners are read: the shape's record, the row of corners, the reader, the call's own records. -/
structure Cor (w0 : World) (base b xb rb tb : Nat) (kd : Int) (v : Value) (A : List V2) (cur : World) (st : St) : Prop where
  t : Blk cur tb #[.int .i64 kd, .int .i64 0, v] 95
  o : cur.ownsRow xb 27 2 v A.length (A.flatMap cV)
  r : RdB base cur b st
  x : Blk cur xb #[.pointer (some ⟨b, 0, none⟩)] 152
  q : Blk cur rb #[.int .i64 0, .int .i64 0, .slice none 0 0] 95
  c : Chg [b] w0 cur
theorem Cor.step {w0 : World} {base b xb rb tb : Nat} {kd : Int} {v : Value} {A : List V2} {cur cur' : World} {st st' : St} (h : Cor w0 base b xb rb tb kd v A cur st) (hm : Chg [b] cur cur') (hr : RdB base cur' b st') (hlo : b < xb ∧ xb < rb ∧ rb < tb) : Cor w0 base b xb rb tb kd v A cur' st' :=
  ⟨h.t.chg hm (by simp; omega), ownsRow_chg h.o hm (fun k hk => by have := (World.ownsRow.lt h.o k hk).1; simp; omega), hr, h.x.chg hm (by simp; omega), h.q.chg hm (by simp; omega), h.c.trans hm (fun x hx _ => hx)⟩
theorem Cor.k {w0 : World} {base b xb rb tb : Nat} {kd : Int} {v : Value} {A : List V2} {cur cur' : World} {st : St} (h : Cor w0 base b xb rb tb kd v A cur st) (hm : Chg [] cur cur') : Cor w0 base b xb rb tb kd v A cur' st :=
  ⟨h.t.k hm, ownsRow_k h.o hm, h.r.k hm, h.x.k hm, h.q.k hm, h.c.k' hm⟩
theorem Cor.lit {w0 : World} {base b xb rb tb : Nat} {kd : Int} {v : Value} {A : List V2} {cur : World} {st : St} (h : Cor w0 base b xb rb tb kd v A cur st) (px py : Int) :
    Cor w0 base b xb rb tb kd v A (cur.alloc (.cells #[.int .i64 px, .int .i64 py] 27)) st ∧ Rd (cur.alloc (.cells #[.int .i64 px, .int .i64 py] 27)) 2 (.slice (some ⟨cur.heap.size, 0, none⟩) 1 1) 1 [.int .i64 px, .int .i64 py] :=
  ⟨h.k ((Chg.refl [] _).alloc _), Rd.lit cur 2 1 _ _ _ rfl rfl (by decide)⟩
theorem Cor.app {w0 : World} {base b xb rb tb : Nat} {kd : Int} {v u : Value} {A : List V2} {cur w6 : World} {st : St} {px py : Int} (h : Cor w0 base b xb rb tb kd v A cur st) (hg : cur.grownBy w6 v.ownBlock) (hr : w6.ownsRow xb 27 2 u (A.length + 1) (A.flatMap cV ++ [.int .i64 px, .int .i64 py])) (hlo : rb < tb ∧ xb < rb ∧ base ≤ xb ∧ b < xb ∧ xb = w0.heap.size) :
    Cor w0 base b xb rb tb kd u (A ++ [(px, py)]) (w6.setCell ⟨tb, 2, none⟩ u) st := by
  have e1 := ownsRow_apart h.o h.t (by decide)
  have e2 := ownsRow_apart h.o h.x (by decide)
  have e3 := ownsRow_apart h.o h.q (by decide)
  have t6 := h.t.grown hg e1
  have x6 := h.x.grown hg e2
  have q6 := h.q.grown hg e3
  have r6 := h.r.keep ((Chg.refl v.ownBlock.toList cur).grown hg (fun k hk _ => by simp [hk])) (fun k hk => by have := (World.ownsRow.lt h.o k (by simpa using hk)).1; omega)
  refine ⟨?_, ?_, ?_, ?_, ?_, ?_⟩
  · have := t6.set 2 u; simpa using this
  · have := ownsRow_set hr t6 (by decide) 2 u
    rw [List.length_append, List.flatMap_append]
    exact this
  · exact r6.keep ((Chg.refl [tb] w6).setCell ⟨tb, 2, none⟩ u (by simp)) (by simp; omega)
  · exact x6.other (by simp; omega) _
  · exact q6.other (by simp; omega) _
  · exact (h.c.grown hg (fun k hk hl => by have := (World.ownsRow.lt h.o k hk).1; omega)).setCell _ _ (fun hx => by simp at hx; omega)
theorem psR_no (m : Nat) (st : St) (h : st.2 = true) : psR m st = ([], st) := by
  cases m with
  | zero => rfl
  | succ m => simp only [psR, h, if_true]
theorem psR_go (m : Nat) (st : St) (h : st.2 = false) : psR (m + 1) st = ((plR st).1 :: (psR m (plR st).2).1, (psR m (plR st).2).2) := by
  simp only [psR, h, Bool.false_eq_true, if_false]
set_option maxRecDepth 100000 in
set_option maxHeartbeats 8000000 in
theorem RShape_poly (base b : Nat) (s : St) (w : World) (hr : RdB base w b s) (hbase : base ≤ w.heap.size) (h1 : (numR 1 s).1 ≠ 1) :
    Calls Tryz.prog 104 #[.agg #[.pointer (some ⟨b, 0, none⟩)]] w fun e w' => ∃ v, e = .returned (.agg #[.int .i64 (numR 1 s).1, .int .i64 0, v]) ∧ w'.ownsRow w.heap.size 27 2 v (psR (numR 1 (numR 1 s).2).1.toNat (numR 1 (numR 1 s).2).2).1.length ((psR (numR 1 (numR 1 s).2).1.toNat (numR 1 (numR 1 s).2).2).1.flatMap cV) ∧ RdB base w' b (psR (numR 1 (numR 1 s).2).1.toNat (numR 1 (numR 1 s).2).2).2 ∧ Chg [b] w w' := by
  have hc1 := fun W (h : RdB base W b s) => NumB_any 1 base b s W h (by omega)
  have hc2 := fun W (h : RdB base W b (numR 1 s).2) => NumB_any 1 base b (numR 1 s).2 W h (by omega)
  have hn := numR1_lo (numR 1 s).2
  generalize numR 1 (numR 1 s).2 = z at *
  have g1 : ((numR 1 s).1 == 1) = false := by rw [beq_eq_false_iff_ne]; exact h1
  generalize (numR 1 s).1 = kd at *
  generalize (numR 1 s).2 = y at *
  clear h1
  obtain ⟨n, s0⟩ := z
  simp only at hc2 hn ⊢
  obtain ⟨n, rfl⟩ := Int.eq_ofNat_of_zero_le hn.1
  simp only [Int.toNat_natCast]
  have hn2 : n ≤ 255 := by omega
  clear hn
  have hlt := hr.lt
  have hcA := (Chg.refl [] w).alloc (.cells #[.pointer (some ⟨b, 0, none⟩)] 152)
  have hcB := hcA.alloc (.cells #[.int .i64 0, .int .i64 0, .slice none 0 0] 95)
  have kA := (Blk.new w #[.pointer (some ⟨b, 0, none⟩)] 152).alloc (.cells #[.int .i64 0, .int .i64 0, .slice none 0 0] 95)
  have kB := Blk.new (w.alloc (.cells #[.pointer (some ⟨b, 0, none⟩)] 152)) #[.int .i64 0, .int .i64 0, .slice none 0 0] 95
  rw [World.size_alloc] at kB
  have hr0 := hr.k hcB
  have hc1 := hc1 _ hr0
  go_enter Tryz.func104, Tryz.ntmps104
  go_upto_region 1 with (fail)
  have hsz : ((w.alloc (.cells #[.pointer (some ⟨b, 0, none⟩)] 152)).alloc (.cells #[.int .i64 0, .int .i64 0, .slice none 0 0] 95)).heap.size = w.heap.size + 1 + 1 := by simp
  generalize (w.alloc (.cells #[.pointer (some ⟨b, 0, none⟩)] 152)).alloc (.cells #[.int .i64 0, .int .i64 0, .slice none 0 0] 95) = w0 at *
  have a0 := kA.cell 0
  simp at a0
  go_upto_region 5 with (first
    | (go_at_call 73; refine hc1.mono ?_; rintro e w1 ⟨rfl, hr1, hm1⟩; have kA1 := kA.chg hm1 (by simp; omega); have kB1 := kB.chg hm1 (by simp; omega); have a1 := kA1.cell 0; simp at a1))
  have hcC := (Chg.refl [] w1).alloc (.cells #[.int .i64 kd, .int .i64 0, .slice none 0 0] 95)
  have kC := Blk.new w1 #[.int .i64 kd, .int .i64 0, .slice none 0 0] 95
  have kA2 := kA1.k hcC
  have kB2 := kB1.k hcC
  have hr2 := hr1.k hcC
  have hc2 := hc2 _ hr2
  have hM2 : Chg [b] w (w1.alloc (.cells #[.int .i64 kd, .int .i64 0, .slice none 0 0] 95)) := ((hcB.mono (S' := [b]) (by simp)).trans hm1 (fun x hx _ => hx)).k' hcC
  have hT : w.heap.size + 1 < w1.heap.size := kB1.lt
  generalize w1.alloc (.cells #[.int .i64 kd, .int .i64 0, .slice none 0 0] 95) = w2 at *
  have a2 := kA2.cell 0
  simp at a2
  clear a0 a1 kA kB kA1 kB1 hr0 hr1 hcA hcB hcC hr hc1
  obtain ⟨tb, htb⟩ : ∃ tb, w1.heap.size = tb := ⟨_, rfl⟩
  obtain ⟨rb, hrb⟩ : ∃ rb, w.heap.size + 1 = rb := ⟨_, rfl⟩
  obtain ⟨xb, hxb⟩ : ∃ xb, w.heap.size = xb := ⟨_, rfl⟩
  rw [htb] at kC hT ⊢
  rw [hrb] at kB2 hT ⊢
  rw [hxb] at kA2 a2 hbase ⊢
  have HT : Hd (rb < tb ∧ xb < rb ∧ base ≤ xb ∧ b < xb ∧ xb = w.heap.size) := hd ⟨hT, by omega, hbase, by omega, hxb.symm⟩
  clear htb hrb hT hm1 hxb hbase hlt hsz
  have HM2 := hd hM2
  clear hM2
  go_wp2_with (first
    | (go_at_call 73; refine hc2.mono ?_; rintro e w3 ⟨rfl, hr3, hm3⟩))
  have kA3 := kA2.chg hm3 (by have := HT.out; simp; omega)
  have kB3 := kB2.chg hm3 (by have := HT.out; simp; omega)
  have kC3 := kC.chg hm3 (by have := HT.out; simp; omega)
  have HM3 := hd (HM2.out.trans hm3 (fun x hx _ => hx))
  clear kA2 kB2 kC hr2 hm3 a2 HM2 hc2
  have hcor : Cor w base b xb rb tb kd (.slice none 0 0) [] w3 s0 := ⟨kC3, World.ownsRow_nil _ _ _ _, hr3, kA3, kB3, HM3.out⟩
  clear hr3 kA3 kB3 kC3 HM3
  go_loopw [19] (fun i wr => ∃ (j : Nat) (A : List V2) (v : Value) (st : St), j ≤ n ∧ A.length ≤ j ∧ i = .int .i64 j ∧ A ++ (psR (n - j) st).1 = (psR n s0).1 ∧ (psR (n - j) st).2 = (psR n s0).2 ∧ Cor w base b xb rb tb kd v A wr st)
    (fun i _ => n - (intOf i).toNat)
  case atStart => exact ⟨0, [], _, s0, by omega, by simp, rfl, rfl, rfl, hcor⟩
  case round =>
    clear hcor
    obtain ⟨j, A, v, st, hj, hAj, rfl, hp1, hp2, hcor⟩ := hrel
    have a0 := hcor.x.cell 0
    simp at a0
    obtain ⟨ao, c, rfl⟩ : ∃ ao c, v = .slice ao A.length c := by
      rcases hcor.o.2 with ⟨rfl, hz⟩ | ⟨g, cap, cur, rfl, _⟩
      · exact ⟨none, 0, by rw [hz]⟩
      · exact ⟨_, cap, rfl⟩
    by_cases hlt : j < n
    · by_cases hbad : st.2 = true
      · rw [psR_no _ _ hbad] at hp1 hp2
        have HBAD := hd hbad
        clear hbad
        have hA : A = (psR n s0).1 ∧ st = (psR n s0).2 := ⟨by simpa using hp1, hp2⟩
        obtain ⟨hA1, hA2⟩ := hA
        have k4 := hcor.t
        have kB4 := hcor.q
        have HC := hd hcor
        have HPS := hd hA1
        have HPT := hd hA2
        clear hA1 hA2 hp1 hp2 hcor
        go_wp2_with (first | (go_at_call 103; refine (BadB_any base b st _ HC.out.r).mono ?_; rintro e w5 ⟨rfl, rfl⟩; rw [HBAD.out]) | (refine wpList_load_row rfl _ _ rfl tb rfl 95 _ (0, 0) _ k4 Tryz.underlying95 rfl (by kernel_rfl) ?_) | (refine wpList_store_row rfl _ _ _ rfl rb #[.int .i64 kd, .int .i64 0, .slice ao A.length c] rfl rfl 95 _ kB4 (by kernel_rfl) (by simp) (by simp [Value.oneCell']) ?_))
        have k5 : Blk (wr.setRow rb #[.int .i64 kd, .int .i64 0, .slice ao A.length c]) rb #[.int .i64 kd, .int .i64 0, .slice ao A.length c] 95 := kB4.row
        have hs5 := Chg.row (Chg.refl [rb] wr) rb #[.int .i64 kd, .int .i64 0, .slice ao A.length c] (by simp)
        refine bodyPost_ret (results_cell_row rfl _ _ rb 95 _ (0, 0) _ rfl k5 Tryz.underlying95 rfl (by kernel_rfl)) rfl ⟨_, rfl, ?_, ?_, ?_⟩
        · rw [← HPS.out, ← HT.out.2.2.2.2]
          exact ownsRow_chg HC.out.o hs5 (fun k hk hx => by rw [List.mem_singleton.mp hx] at hk; exact ownsRow_apart HC.out.o kB4 (by decide) hk)
        · rw [← HPT.out]
          exact HC.out.r.keep hs5 (by have := HT.out; simp; omega)
        · exact HC.out.c.trans hs5 (fun x hx hl => by have := HT.out; simp at hx; omega)
      · have hbad : st.2 = false := by simpa using hbad
        have HBAD := hd hbad
        obtain ⟨m, hm⟩ : ∃ m, n - j = m + 1 := ⟨n - j - 1, by omega⟩
        rw [hm, psR_go _ _ hbad] at hp1 hp2
        have HM := hd hm
        clear hbad hm
        have hcV := fun W (h : RdB base W b st) (hb : base ≤ W.heap.size) => VB_any base b st W h hb
        unfold vV at hcV
        generalize plR st = pl at *
        obtain ⟨⟨px, py⟩, st1⟩ := pl
        simp only at hcV hp1 hp2
        have HP1 := hd hp1
        have HP2 := hd hp2
        clear hp1 hp2
        have HC := hd hcor
        have NX : Hd (xb ∉ b :: tb :: (Value.slice ao A.length c).ownBlock.toList) := hd (by
          have h1 := HT.out
          have h2 := ownsRow_apart hcor.o hcor.x (by decide)
          cases ao with
          | none => simp [Value.ownBlock]; omega
          | some a => simp [Value.ownBlock] at h2 ⊢; omega)
        have Q0 := hd a0
        clear hcor
        go_upto_region 8 with (first | (go_at_call 103; refine (BadB_any base b st _ HC.out.r).mono ?_; rintro e w5 ⟨rfl, rfl⟩; rw [HBAD.out]))
        clear a0
        have hB := HC.out.k (Chg.refl [] wr).drew
        refine rg (N := 9) (by kernel_rfl) (by kernel_rfl) (S := (fun wx => Chg (b :: tb :: (Value.slice ao A.length c).ownBlock.toList) wr wx)) ((Chg.refl _ _).drew) (fun hHeld => ?_)
        generalize wr.drew = wd at *
        refine tks [0, 2, 3] (by kernel_rfl) (fun _ _ _ _ _ h => h) (by assumption) ?_
        iterate 3 (refine tkc rfl rfl (by rfl) (fun wx hSw => by (try dsimp only at hSw); (have t0 := Chg.cellT hSw Q0.out NX.out); go_simp; (try with_reducible rfl)) ?_; simp only [List.set])
        refine tk0 ?_
        refine rn2 1 4 rfl rfl (by kernel_rfl) (by rfl) (by rfl) (fun KK hKK => ?ra0) (fun KK hKK => ?rb0)
        case' ra0 =>
          (have t1 := hB.t.cell 2; simp at t1; go_simp); refine hKK.out _ _ (by assumption) fun hHeld => ?_; clear hKK KK; try simp only [Act.put, List.setIfInBounds_toArray, List.set]
          refine rn 4 rfl (by kernel_rfl) (by rfl) fun KK hKK => ?_
          go_simp; (refine (hcV _ hB.r (by have := HT.out; have := hB.x.lt; omega)).mono ?_; rintro e w4 ⟨rfl, hr4, hm4⟩; have hm := Chg.trans hHeld hm4 (by simp); replace hB := hB.step hm4 hr4 (by have := HT.out; omega); clear hm4 hr4; (try go_simp)); refine hKK.out _ _ (by assumption) fun hHeld => ?_; clear hKK KK; try simp only [Act.put, List.setIfInBounds_toArray, List.set]
          refine rn 5 rfl (by kernel_rfl) (by rfl) fun KK hKK => ?_
          (obtain ⟨m1, hLit⟩ := hB.lit px py; replace hB := m1; (try simp only [World.size_alloc] at hLit); have hm5 := Chg.alloc hHeld (.cells #[.int .i64 px, .int .i64 py] 27); go_simp); refine hKK.out _ _ (by assumption) fun hHeld => ?_; clear hKK KK; try simp only [Act.put, List.setIfInBounds_toArray, List.set]
          refine rn 6 rfl (by kernel_rfl) (by rfl) fun KK hKK => ?_
          (refine wp_appT rowV _ _ rfl xb _ A.length (A.flatMap cV) rfl hB.o _ 1 [.int .i64 px, .int .i64 py] rfl hLit (by simp [Value.oneCell']) (by omega) (by omega) (Nat.le_of_lt hB.x.lt) ?_; intro ao6 c6 w6 hr6 hg6 hm6; have k6 := hB.t.grown hg6 (ownsRow_apart hB.o hB.t (by decide)); have q6 := k6.cell 2; have f6 := k6.free 2; simp at q6; have hS6 : Chg (b :: tb :: (Value.slice ao A.length c).ownBlock.toList) wr w6 := hHeld.grown hg6 (by intro k hk _; simp only [List.mem_cons, Option.mem_toList]; exact Or.inr (Or.inr hk)); clear hm6 k6); refine hKK.out _ _ (by assumption) fun hHeld => ?_; clear hKK KK; try simp only [Act.put, List.setIfInBounds_toArray, List.set]
          refine tks [7] (by kernel_rfl) (fun _ _ _ _ _ h => h) (by assumption) ?_
          refine tkc rfl rfl (by rfl) (fun wx hSw => by (try dsimp only at hSw); (have t0 := Chg.cellT hSw Q0.out NX.out); go_simp; (try with_reducible rfl)) ?_; simp only [List.set]
          refine tk0 ?_
          refine rn 8 rfl (by kernel_rfl) (by rfl) fun KK hKK => ?_
          go_simp; (have hS8 := Chg.setCell hHeld ⟨tb, 2, none⟩ (.slice ao6 (A.length + 1) c6) (by simp)); refine hKK.out _ _ (by assumption) fun hHeld => ?_; clear hKK KK; try simp only [Act.put, List.setIfInBounds_toArray, List.set]
          refine wpAnyH_done (by kernel_rfl) ?_ _
          clear hHeld q6 f6; go_wp2_with (fail); refine ⟨⟨j + 1, A ++ [(px, py)], _, st1, by omega, by simp; omega, by go_num, ?_, ?_, hB.app hg6 hr6 HT.out⟩, by simp [intOf]; omega⟩; (rw [show n - (j + 1) = m by have := HM.out; omega]; simpa using HP1.out); (rw [show n - (j + 1) = m by have := HM.out; omega]; exact HP2.out)
        case' rb0 =>
          go_simp; (refine (hcV _ hB.r (by have := HT.out; have := hB.x.lt; omega)).mono ?_; rintro e w4 ⟨rfl, hr4, hm4⟩; have hm := Chg.trans hHeld hm4 (by simp); replace hB := hB.step hm4 hr4 (by have := HT.out; omega); clear hm4 hr4; (try go_simp)); refine hKK.out _ _ (by assumption) fun hHeld => ?_; clear hKK KK; try simp only [Act.put, List.setIfInBounds_toArray, List.set]
          refine rn2 1 5 rfl rfl (by kernel_rfl) (by rfl) (by rfl) (fun KK hKK => ?ra1) (fun KK hKK => ?rb1)
          case' ra1 =>
            (have t1 := hB.t.cell 2; simp at t1; go_simp); refine hKK.out _ _ (by assumption) fun hHeld => ?_; clear hKK KK; try simp only [Act.put, List.setIfInBounds_toArray, List.set]
            refine rn 5 rfl (by kernel_rfl) (by rfl) fun KK hKK => ?_
            (obtain ⟨m1, hLit⟩ := hB.lit px py; replace hB := m1; (try simp only [World.size_alloc] at hLit); have hm5 := Chg.alloc hHeld (.cells #[.int .i64 px, .int .i64 py] 27); go_simp); refine hKK.out _ _ (by assumption) fun hHeld => ?_; clear hKK KK; try simp only [Act.put, List.setIfInBounds_toArray, List.set]
            refine rn 6 rfl (by kernel_rfl) (by rfl) fun KK hKK => ?_
            (refine wp_appT rowV _ _ rfl xb _ A.length (A.flatMap cV) rfl hB.o _ 1 [.int .i64 px, .int .i64 py] rfl hLit (by simp [Value.oneCell']) (by omega) (by omega) (Nat.le_of_lt hB.x.lt) ?_; intro ao6 c6 w6 hr6 hg6 hm6; have k6 := hB.t.grown hg6 (ownsRow_apart hB.o hB.t (by decide)); have q6 := k6.cell 2; have f6 := k6.free 2; simp at q6; have hS6 : Chg (b :: tb :: (Value.slice ao A.length c).ownBlock.toList) wr w6 := hHeld.grown hg6 (by intro k hk _; simp only [List.mem_cons, Option.mem_toList]; exact Or.inr (Or.inr hk)); clear hm6 k6); refine hKK.out _ _ (by assumption) fun hHeld => ?_; clear hKK KK; try simp only [Act.put, List.setIfInBounds_toArray, List.set]
            refine tks [7] (by kernel_rfl) (fun _ _ _ _ _ h => h) (by assumption) ?_
            refine tkc rfl rfl (by rfl) (fun wx hSw => by (try dsimp only at hSw); (have t0 := Chg.cellT hSw Q0.out NX.out); go_simp; (try with_reducible rfl)) ?_; simp only [List.set]
            refine tk0 ?_
            refine rn 8 rfl (by kernel_rfl) (by rfl) fun KK hKK => ?_
            go_simp; (have hS8 := Chg.setCell hHeld ⟨tb, 2, none⟩ (.slice ao6 (A.length + 1) c6) (by simp)); refine hKK.out _ _ (by assumption) fun hHeld => ?_; clear hKK KK; try simp only [Act.put, List.setIfInBounds_toArray, List.set]
            refine wpAnyH_done (by kernel_rfl) ?_ _
            clear hHeld q6 f6; go_wp2_with (fail); refine ⟨⟨j + 1, A ++ [(px, py)], _, st1, by omega, by simp; omega, by go_num, ?_, ?_, hB.app hg6 hr6 HT.out⟩, by simp [intOf]; omega⟩; (rw [show n - (j + 1) = m by have := HM.out; omega]; simpa using HP1.out); (rw [show n - (j + 1) = m by have := HM.out; omega]; exact HP2.out)
          case' rb1 =>
            (obtain ⟨m1, hLit⟩ := hB.lit px py; replace hB := m1; (try simp only [World.size_alloc] at hLit); have hm5 := Chg.alloc hHeld (.cells #[.int .i64 px, .int .i64 py] 27); go_simp); refine hKK.out _ _ (by assumption) fun hHeld => ?_; clear hKK KK; try simp only [Act.put, List.setIfInBounds_toArray, List.set]
            refine rn 1 rfl (by kernel_rfl) (by rfl) fun KK hKK => ?_
            (have t1 := hB.t.cell 2; simp at t1; go_simp); refine hKK.out _ _ (by assumption) fun hHeld => ?_; clear hKK KK; try simp only [Act.put, List.setIfInBounds_toArray, List.set]
            refine rn 6 rfl (by kernel_rfl) (by rfl) fun KK hKK => ?_
            (refine wp_appT rowV _ _ rfl xb _ A.length (A.flatMap cV) rfl hB.o _ 1 [.int .i64 px, .int .i64 py] rfl hLit (by simp [Value.oneCell']) (by omega) (by omega) (Nat.le_of_lt hB.x.lt) ?_; intro ao6 c6 w6 hr6 hg6 hm6; have k6 := hB.t.grown hg6 (ownsRow_apart hB.o hB.t (by decide)); have q6 := k6.cell 2; have f6 := k6.free 2; simp at q6; have hS6 : Chg (b :: tb :: (Value.slice ao A.length c).ownBlock.toList) wr w6 := hHeld.grown hg6 (by intro k hk _; simp only [List.mem_cons, Option.mem_toList]; exact Or.inr (Or.inr hk)); clear hm6 k6); refine hKK.out _ _ (by assumption) fun hHeld => ?_; clear hKK KK; try simp only [Act.put, List.setIfInBounds_toArray, List.set]
            refine tks [7] (by kernel_rfl) (fun _ _ _ _ _ h => h) (by assumption) ?_
            refine tkc rfl rfl (by rfl) (fun wx hSw => by (try dsimp only at hSw); (have t0 := Chg.cellT hSw Q0.out NX.out); go_simp; (try with_reducible rfl)) ?_; simp only [List.set]
            refine tk0 ?_
            refine rn 8 rfl (by kernel_rfl) (by rfl) fun KK hKK => ?_
            go_simp; (have hS8 := Chg.setCell hHeld ⟨tb, 2, none⟩ (.slice ao6 (A.length + 1) c6) (by simp)); refine hKK.out _ _ (by assumption) fun hHeld => ?_; clear hKK KK; try simp only [Act.put, List.setIfInBounds_toArray, List.set]
            refine wpAnyH_done (by kernel_rfl) ?_ _
            clear hHeld q6 f6; go_wp2_with (fail); refine ⟨⟨j + 1, A ++ [(px, py)], _, st1, by omega, by simp; omega, by go_num, ?_, ?_, hB.app hg6 hr6 HT.out⟩, by simp [intOf]; omega⟩; (rw [show n - (j + 1) = m by have := HM.out; omega]; simpa using HP1.out); (rw [show n - (j + 1) = m by have := HM.out; omega]; exact HP2.out)
    · have hjn : n - j = 0 := by omega
      rw [hjn] at hp1 hp2
      simp only [psR] at hp1 hp2
      have hA : A = (psR n s0).1 ∧ st = (psR n s0).2 := ⟨by simpa using hp1, hp2⟩
      obtain ⟨hA1, hA2⟩ := hA
      have k4 := hcor.t
      have kB4 := hcor.q
      have HC := hd hcor
      have HPS := hd hA1
      have HPT := hd hA2
      clear hA1 hA2 hp1 hp2 hcor
      go_wp2_with (first | (refine wpList_load_row rfl _ _ rfl tb rfl 95 _ (0, 0) _ k4 Tryz.underlying95 rfl (by kernel_rfl) ?_) | (refine wpList_store_row rfl _ _ _ rfl rb #[.int .i64 kd, .int .i64 0, .slice ao A.length c] rfl rfl 95 _ kB4 (by kernel_rfl) (by simp) (by simp [Value.oneCell']) ?_))
      have k5 : Blk (wr.setRow rb #[.int .i64 kd, .int .i64 0, .slice ao A.length c]) rb #[.int .i64 kd, .int .i64 0, .slice ao A.length c] 95 := kB4.row
      have hs5 := Chg.row (Chg.refl [rb] wr) rb #[.int .i64 kd, .int .i64 0, .slice ao A.length c] (by simp)
      refine bodyPost_ret (results_cell_row rfl _ _ rb 95 _ (0, 0) _ rfl k5 Tryz.underlying95 rfl (by kernel_rfl)) rfl ⟨_, rfl, ?_, ?_, ?_⟩
      · rw [← HPS.out, ← HT.out.2.2.2.2]
        exact ownsRow_chg HC.out.o hs5 (fun k hk hx => by rw [List.mem_singleton.mp hx] at hk; exact ownsRow_apart HC.out.o kB4 (by decide) hk)
      · rw [← HPT.out]
        exact HC.out.r.keep hs5 (by have := HT.out; simp; omega)
      · exact HC.out.c.trans hs5 (fun x hx hl => by have := HT.out; simp at hx; omega)
end Go.Proofs.YtbiadpkglcdihaaGreat

/- codec.reader.shape; what stands while an order is read. -/
namespace Go.Proofs.YtbiadpkglcdihaaGreat
open Go.RowKit

theorem RShape_any (base b : Nat) (s : St) (w : World) (hr : RdB base w b s) (hbase : base ≤ w.heap.size) :
    Calls Tryz.prog 104 #[.agg #[.pointer (some ⟨b, 0, none⟩)]] w fun e w' => ∃ pv, e = .returned (vS (shapeR s).1 pv) ∧ VsS w' pv (shapeR s).1.p ∧ (∀ k, pv.ownBlock = some k → w.heap.size ≤ k) ∧ RdB base w' b (shapeR s).2 ∧ Chg [b] w w' := by
  by_cases h1 : (numR 1 s).1 = 1
  · refine (RShape_circle base b s w hr hbase h1).mono ?_
    rintro e w' ⟨rfl, h2, h3⟩
    have e1 : shapeR s = (⟨1, (numR 8 (numR 1 s).2).1, []⟩, (numR 8 (numR 1 s).2).2) := if_pos h1
    rw [e1]
    exact ⟨_, rfl, Rd.ofOwn (e := 27) (base := 0) (World.ownsRow_nil _ _ _ _), by simp [Value.ownBlock], h2, h3⟩
  · refine (RShape_poly base b s w hr hbase h1).mono ?_
    rintro e w' ⟨v, rfl, h2, h3, h4⟩
    have e1 : shapeR s = (⟨(numR 1 s).1, 0, (psR (numR 1 (numR 1 s).2).1.toNat (numR 1 (numR 1 s).2).2).1⟩, (psR (numR 1 (numR 1 s).2).1.toNat (numR 1 (numR 1 s).2).2).2) := if_neg h1
    rw [e1]
    exact ⟨v, rfl, Rd.ofOwn h2, fun k hk => (World.ownsRow.lt h2 k hk).1, h3, h4⟩
end Go.Proofs.YtbiadpkglcdihaaGreat

/- order.Right. -/
namespace Go.Proofs.YtbiadpkglcdihaaGreat
open Go.RowKit

end Go.Proofs.YtbiadpkglcdihaaGreat

/- codec.reader.order as a function; the kinds of one number. -/
namespace Go.Proofs.YtbiadpkglcdihaaGreat
open Go.RowKit

end Go.Proofs.YtbiadpkglcdihaaGreat

/- codec.reader.order: other kinds. -/
namespace Go.Proofs.YtbiadpkglcdihaaGreat
open Go.RowKit

end Go.Proofs.YtbiadpkglcdihaaGreat

/- codec.reader.order: kind 1. -/
namespace Go.Proofs.YtbiadpkglcdihaaGreat
open Go.RowKit

end Go.Proofs.YtbiadpkglcdihaaGreat

/- codec.reader.order: kind 2. -/
namespace Go.Proofs.YtbiadpkglcdihaaGreat
open Go.RowKit

end Go.Proofs.YtbiadpkglcdihaaGreat

/- codec.reader.order: kind 3. -/
namespace Go.Proofs.YtbiadpkglcdihaaGreat
open Go.RowKit

end Go.Proofs.YtbiadpkglcdihaaGreat

/- codec.reader.order: kind 4. -/
namespace Go.Proofs.YtbiadpkglcdihaaGreat
open Go.RowKit

end Go.Proofs.YtbiadpkglcdihaaGreat

/- codec.reader.order: kind 5. -/
namespace Go.Proofs.YtbiadpkglcdihaaGreat
open Go.RowKit

end Go.Proofs.YtbiadpkglcdihaaGreat

/- codec.reader.order: kind 6. -/
namespace Go.Proofs.YtbiadpkglcdihaaGreat
open Go.RowKit

end Go.Proofs.YtbiadpkglcdihaaGreat

/- codec.reader.order. -/
namespace Go.Proofs.YtbiadpkglcdihaaGreat
open Go.RowKit

end Go.Proofs.YtbiadpkglcdihaaGreat

/- codec.ReadBatch. -/
namespace Go.Proofs.YtbiadpkglcdihaaGreat
open Go.RowKit

end Go.Proofs.YtbiadpkglcdihaaGreat

/- What the laws make of a deed: places, shapes. -/
namespace Go.Proofs.YtbiadpkglcdihaaGreat
open Go.RowKit

def bringF (x lo hi : Int) : Int := min (max (whF x) lo) hi
def bringV (v : V2) (m : Int) : V2 := (bringF v.1 (-m) m, bringF v.2 (-m) m)
theorem Bring_any (x lo hi : Int) (w : World) : Calls Tryz.prog 135 #[.int .i64 x, .int .i64 lo, .int .i64 hi] w fun e w' => e = .returned (.int .i64 (bringF x lo hi)) ∧ w' = w := by
  unfold bringF
  go_enter Tryz.func135, Tryz.ntmps135
  go_wp2_with (go_at_call 171; refine (Whole_any _ _).mono ?_; rintro e w1 ⟨rfl, rfl⟩)
  all_goals go_ret
  all_goals exact ⟨congrArg (fun z => Ending.returned (Value.int .i64 z)) (by omega), rfl⟩
set_option maxRecDepth 100000 in
set_option maxHeartbeats 2000000 in
theorem Box_any (a b : Int) (ha : I64 a) (hb : I64 b) (w : World) : Calls Tryz.prog 193 #[.int .i64 a, .int .i64 b] w fun e w' => ∃ pv, e = .returned (vS ⟨2, 0, [(negF a, negF b), (a, negF b), (a, b), (negF a, b)]⟩ pv) ∧ VsS w' pv [(negF a, negF b), (a, negF b), (a, b), (negF a, b)] ∧ Chg [] w w' ∧ ∀ k, pv.ownBlock = some k → w.heap.size ≤ k := by
  have h1 := fun W => FNeg_any a ha W
  have h2 := fun W => FNeg_any b hb W
  generalize negF a = na at *
  generalize negF b = nb at *
  unfold vS
  simp only
  go_enter Tryz.func193, Tryz.ntmps193
  go_wp2_with (go_at_call 172; first | (refine (h1 _).mono ?_; rintro e w1 ⟨rfl, rfl⟩) | (refine (h2 _).mono ?_; rintro e w1 ⟨rfl, rfl⟩))
  refine bodyPost_ret (v := .agg #[.int .i64 2, .int .i64 0, .slice (some ⟨w.heap.size + 1, 0, none⟩) 4 4]) (by simp only [results]; go_simp) rfl ⟨_, rfl, ?_, ((Chg.refl [] w).alloc _).alloc _, fun k hk => by simp [Value.ownBlock] at hk; omega⟩
  have := Rd.lit (w.alloc (.cells #[.int .i64 2, .int .i64 0, .slice (some ⟨w.heap.size + 1, 0, none⟩) 4 4] 95)) 2 4 [.int .i64 na, .int .i64 nb, .int .i64 a, .int .i64 nb, .int .i64 a, .int .i64 b, .int .i64 na, .int .i64 b] _ 27 rfl rfl (by decide)
  rw [World.size_alloc] at this
  exact this
set_option maxRecDepth 100000 in
set_option maxHeartbeats 400000 in
theorem VBring_any (v : V2) (m : Int) (hm : S64 m) (w : World) : Calls Tryz.prog 123 #[vV v, .int .i64 m] w fun e w' => e = .returned (vV (bringV v m)) ∧ Chg [] w w' := by
  obtain ⟨x, y⟩ := v
  have h1 := fun W => Bring_any x (-m) m W
  have h2 := fun W => Bring_any y (-m) m W
  unfold bringV vV
  simp only
  generalize bringF x (-m) m = bx at *
  generalize bringF y (-m) m = bz at *
  have hmm : wrap64 (-m) = -m := IntWalk.wrap64_in _ (by unfold S64 at hm; omega)
  have hmw : IntKind.i64.wrap (-m) = -m := by have := hmm; unfold wrap64 at this; simp [IntKind.wrap, IntKind.signed, IntKind.bits] at this ⊢; omega
  have hk2 := (Blk.new w #[.int .i64 x, .int .i64 y] 27).alloc (.cells #[.int .i64 0, .int .i64 0] 27)
  have hk4 := Blk.new (w.alloc (.cells #[.int .i64 x, .int .i64 y] 27)) #[.int .i64 0, .int .i64 0] 27
  rw [World.size_alloc] at hk4
  have hc := ((Chg.refl [] w).alloc (.cells #[.int .i64 x, .int .i64 y] 27)).alloc (.cells #[.int .i64 0, .int .i64 0] 27)
  go_enter Tryz.func123, Tryz.ntmps123
  go_upto_region 1 with (fail)
  generalize (w.alloc (.cells #[.int .i64 x, .int .i64 y] 27)).alloc (.cells #[.int .i64 0, .int .i64 0] 27) = w0 at *
  generalize hkb : w.heap.size + 1 = kb at *
  have Q0 := hd (show w0.cell? ⟨w.heap.size, 0, none⟩ = some (.int .i64 x) from hk2.cell 0)
  have Q1 := hd (show w0.cell? ⟨w.heap.size, 1, none⟩ = some (.int .i64 y) from hk2.cell 1)
  have HKB := hd hkb
  clear hkb hk2
  generalize hxb : w.heap.size = xb at *
  have HXB := hd hxb
  clear hxb
  have hT := hk4.k (Chg.refl [] w0).drew
  have HC := hd hc
  clear hk4 hc
  have NX : Hd (xb ∉ [kb]) := hd (by have := HKB.out; simp; omega)
  refine rg (N := 14) (by kernel_rfl) (by kernel_rfl) (S := (fun wx => Chg [kb] w0 wx)) ((Chg.refl _ _).drew) (fun hHeld => ?_)
  refine tks [0, 1, 2, 3, 4, 6, 7, 8, 9, 10] (by kernel_rfl) (fun _ _ _ _ _ h => h) (by assumption) ?_
  iterate 10 (refine tkc rfl rfl (by rfl) (fun wx hSw => by (try dsimp only at hSw); (have t0 := Chg.cellT hSw Q0.out NX.out; have t1 := Chg.cellT hSw Q1.out NX.out; have t2 := hmm; have t3 := hmw); go_simp; (try with_reducible rfl)) ?_; simp only [List.set])
  refine tk0 ?_
  refine rn 5 rfl (by kernel_rfl) (by rfl) fun KK hKK => ?_
  go_simp; (refine (h1 _).mono ?_; rintro e w5 ⟨rfl, rfl⟩; have hS := hHeld; (try go_simp)); refine hKK.out _ _ (by assumption) fun hHeld => ?_; clear hKK KK; try simp only [Act.put, List.setIfInBounds_toArray, List.set]
  refine rn 11 rfl (by kernel_rfl) (by rfl) fun KK hKK => ?_
  go_simp; (refine (h2 _).mono ?_; rintro e w6 ⟨rfl, rfl⟩; have hS := hHeld; (try go_simp)); refine hKK.out _ _ (by assumption) fun hHeld => ?_; clear hKK KK; try simp only [Act.put, List.setIfInBounds_toArray, List.set]
  refine rn 12 rfl (by kernel_rfl) (by rfl) fun KK hKK => ?_
  go_simp; refine hKK.out _ _ (by assumption) fun hHeld => ?_; clear hKK KK; try simp only [Act.put, List.setIfInBounds_toArray, List.set]
  refine rn 13 rfl (by kernel_rfl) (by rfl) fun KK hKK => ?_
  (refine wp_store_row 27 _ _ rfl _ #[.int .i64 bx, .int .i64 bz] rfl rfl 27 _ hT (by kernel_rfl) rfl (by simp [Value.oneCell']) ?_; have hS9 := hT.row (cs' := #[.int .i64 bx, .int .i64 bz]); have hS := Chg.row hHeld kb #[.int .i64 bx, .int .i64 bz] (by simp); go_simp); refine hKK.out _ _ (by assumption) fun hHeld => ?_; clear hKK KK; try simp only [Act.put, List.setIfInBounds_toArray, List.set]
  refine wpAnyH_done (by kernel_rfl) ?_ _
  skip
  go_wp2_with (fail)
  refine bodyPost_ret (results_cell_row rfl _ _ kb 27 _ (0, 0) _ rfl hS9 Tryz.underlying27 rfl (by kernel_rfl)) rfl ⟨rfl, ?_⟩
  exact HC.out.trans hHeld (fun x hx hl => by have := HKB.out; have := HXB.out; simp at hx; omega)
def ringL : List V2 := [(65, 0), (52, 39), (25, 60), (-25, 60), (-52, 39), (-65, 0), (-52, -39), (-25, -60), (25, -60), (52, -39)]
theorem Ring_any (w : World) : Calls Tryz.prog 194 #[] w fun e w' => ∃ g, e = .returned (.slice (some ⟨g, 0, none⟩) 10 10) ∧ VsS w' (.slice (some ⟨g, 0, none⟩) 10 10) ringL ∧ Chg [] w w' ∧ g = w.heap.size := by
  go_enter Tryz.func194, Tryz.ntmps194
  go_wp2
  go_ret
  exact ⟨_, rfl, Rd.lit w 2 10 (ringL.flatMap cV) _ 27 rfl rfl (by decide), (Chg.refl [] w).alloc _, rfl⟩
end Go.Proofs.YtbiadpkglcdihaaGreat

/- law04.Seed.Shape. -/
namespace Go.Proofs.YtbiadpkglcdihaaGreat
open Go.RowKit

structure Sd where
  kind : Int
  n : Int
  size : Int
  turn : Int
def vSd (s : Sd) : Value := .agg #[.int .i64 s.kind, .int .i64 s.n, .int .i64 s.size, .int .i64 s.turn]
def sizeSd (x : Int) : Int := (1 + x) * 268435456
def ringAt (m u i : Nat) : V2 := ringL.getD ((i * 10 / m + u) % 10) (0, 0)
def cornSd (sz : Int) (m u i : Nat) : V2 := (((ringAt m u i).1 * sz).tdiv 64, ((ringAt m u i).2 * sz).tdiv 64)
def shapeSd (s : Sd) : Shp :=
  let sz := sizeSd (s.size % 64)
  if s.kind % 4 = 0 then ⟨1, sz, []⟩
  else if s.kind % 4 = 1 then ⟨2, 0, [(-sz, -sizeSd (s.turn % 32)), (sz, -sizeSd (s.turn % 32)), (sz, sizeSd (s.turn % 32)), (-sz, sizeSd (s.turn % 32))]⟩
  else ⟨2, 0, (List.range (3 + (s.n % 256).toNat % 6)).map (cornSd sz (3 + (s.n % 256).toNat % 6) (s.turn % 256).toNat)⟩
theorem ringAt_lo (m u i : Nat) : -65 ≤ (ringAt m u i).1 ∧ (ringAt m u i).1 ≤ 65 ∧ -65 ≤ (ringAt m u i).2 ∧ (ringAt m u i).2 ≤ 65 := by
  unfold ringAt
  have h : (i * 10 / m + u) % 10 < 10 := Nat.mod_lt _ (by omega)
  generalize (i * 10 / m + u) % 10 = j at *
  have : j = 0 ∨ j = 1 ∨ j = 2 ∨ j = 3 ∨ j = 4 ∨ j = 5 ∨ j = 6 ∨ j = 7 ∨ j = 8 ∨ j = 9 := by omega
  rcases this with rfl | rfl | rfl | rfl | rfl | rfl | rfl | rfl | rfl | rfl <;> simp [ringL]
theorem size_div (x : Int) (h0 : 0 ≤ x) : ((1 + x) * 4294967296).tdiv 16 = sizeSd x := by
  unfold sizeSd
  rw [Int.tdiv_eq_ediv_of_nonneg (by omega)]
  omega
set_option maxRecDepth 100000 in
set_option maxHeartbeats 2000000 in
theorem SeedShape0 (s : Sd) (w : World) (hk : s.kind % 4 = 0 ∨ s.kind % 4 = 1) : Calls Tryz.prog 170 #[vSd s] w fun e w' => ∃ pv, e = .returned (vS (shapeSd s) pv) ∧ VsS w' pv (shapeSd s).p ∧ Chg [] w w' ∧ ∀ k, pv.ownBlock = some k → w.heap.size ≤ k := by
  obtain ⟨k, n, z, u⟩ := s
  unfold vSd shapeSd vS
  simp only at hk ⊢
  have a63 : bits .and .i64 z 63 = z % 64 := and_mask z 6 (by decide)
  have a3 : bits .and .i64 k 3 = k % 4 := and_mask k 2 (by decide)
  have a31 : bits .and .i64 u 31 = u % 32 := and_mask u 5 (by decide)
  have b63 : 0 ≤ z % 64 ∧ z % 64 < 64 := by omega
  have b31 : 0 ≤ u % 32 ∧ u % 32 < 32 := by omega
  have d1 := size_div (z % 64) b63.1
  have d2 := size_div (u % 32) b31.1
  have e1 : 268435456 ≤ sizeSd (z % 64) ∧ sizeSd (z % 64) ≤ 17179869184 := by unfold sizeSd; omega
  have e2 : 268435456 ≤ sizeSd (u % 32) ∧ sizeSd (u % 32) ≤ 17179869184 := by unfold sizeSd; omega
  generalize sizeSd (z % 64) = sz at *
  generalize sizeSd (u % 32) = su at *
  generalize z % 64 = zs at *
  generalize u % 32 = us at *
  generalize k % 4 = kk at *
  have hb := fun W => Box_any sz su (by unfold I64; omega) (by unfold I64; omega) W
  have n1 : negF sz = -sz := by unfold negF whF; omega
  have n2 : negF su = -su := by unfold negF whF; omega
  rw [n1, n2] at hb
  unfold vS at hb
  simp only at hb
  clear n1 n2
  rcases hk with rfl | rfl
  · go_enter Tryz.func170, Tryz.ntmps170
    go_wp2_with (fail)
    refine bodyPost_ret (v := .agg #[.int .i64 1, .int .i64 sz, .slice none 0 0]) (by simp only [results]; go_simp) rfl ⟨_, rfl, ?_, ((Chg.refl [] w).alloc _).alloc _, by simp [Value.ownBlock]⟩
    exact Rd.ofOwn (e := 27) (base := 0) (World.ownsRow_nil _ _ _ _)
  · have hkb := Blk.new (w.alloc (.cells #[.int .i64 k, .int .i64 n, .int .i64 z, .int .i64 u] 136)) #[.int .i64 0, .int .i64 0, .slice none 0 0] 95
    rw [World.size_alloc] at hkb
    have hc := ((Chg.refl [] w).alloc (.cells #[.int .i64 k, .int .i64 n, .int .i64 z, .int .i64 u] 136)).alloc (.cells #[.int .i64 0, .int .i64 0, .slice none 0 0] 95)
    go_enter Tryz.func170, Tryz.ntmps170
    go_wp2_with (first
      | (go_at_call 193; refine (hb _).mono ?_; rintro e w1 ⟨pv, rfl, hv, hm, hpo⟩; obtain ⟨ap, cp, rfl, -⟩ := hv.form; have kB4 := hkb.k hm; have HM := hd (hc.k' hm); have HV := hd hv; have hlo : w.heap.size < w1.heap.size := (by have := hm.size; simp at this; omega); clear hm hc hv)
      | (refine wpList_store_row rfl _ _ _ rfl (w.heap.size + 1) #[.int .i64 2, .int .i64 0, .slice ap 4 cp] rfl rfl 95 _ kB4 (by kernel_rfl) (by simp) (by simp [Value.oneCell']) ?_))
    have k5 : Blk (w1.setRow (w.heap.size + 1) #[.int .i64 2, .int .i64 0, .slice ap 4 cp]) (w.heap.size + 1) #[.int .i64 2, .int .i64 0, .slice ap 4 cp] 95 := kB4.row
    have hs := Chg.row (Chg.refl [w.heap.size + 1] w1) (w.heap.size + 1) #[.int .i64 2, .int .i64 0, .slice ap 4 cp] (by simp)
    refine bodyPost_ret (results_cell_row rfl _ _ (w.heap.size + 1) 95 _ (0, 0) _ rfl k5 Tryz.underlying95 rfl (by kernel_rfl)) rfl ⟨_, rfl, ?_, ?_, fun k' hk' => by have := hpo k' hk'; simp at this; omega⟩
    · exact Rd.keep HV.out hs (fun _ k' hk' hx => by have := hpo k' hk'; simp at hx this; omega)
    · exact HM.out.trans hs (fun x hx hl => by simp at hx; omega)
theorem ring_cell {w : World} {g : Nat} (h : VsS w (.slice (some ⟨g, 0, none⟩) 10 10) ringL) (j : Nat) (hj : j < 10) (m : Nat) (hm : m < 2) : w.cell? ⟨g, 0 + j * 2 + m, none⟩ = some ((cV (ringL.getD j (0, 0)))[m]'(by rw [cV_len]; exact hm)) := by
  have := Rd.cellAt (l := ringL) cV_len h j hj m hm
  rw [this]
  congr 2
  rw [List.getD_eq_getElem?_getD, List.getElem?_eq_getElem hj]
  rfl
structure Pol (w0 : World) (base tb xb rb g : Nat) (xs : Array Value) (v : Value) (A : List V2) (cur : World) : Prop where
  t : Blk cur tb #[.int .i64 2, .int .i64 0, v] 95
  o : cur.ownsRow base 27 2 v A.length (A.flatMap cV)
  x : Blk cur xb xs 136
  q : Blk cur rb #[.int .i64 0, .int .i64 0, .slice none 0 0] 95
  r : VsS cur (.slice (some ⟨g, 0, none⟩) 10 10) ringL
  c : Chg [] w0 cur
theorem Pol.k {w0 : World} {base tb xb rb g : Nat} {xs : Array Value} {v : Value} {A : List V2} {cur cur' : World} (h : Pol w0 base tb xb rb g xs v A cur) (hm : Chg [] cur cur') : Pol w0 base tb xb rb g xs v A cur' :=
  ⟨h.t.k hm, ownsRow_k h.o hm, h.x.k hm, h.q.k hm, h.r.k hm, h.c.k' hm⟩
theorem Pol.app {w0 : World} {base tb xb rb g : Nat} {xs : Array Value} {v u : Value} {A : List V2} {cur w6 : World} {px py : Int} (h : Pol w0 base tb xb rb g xs v A cur) (hg : cur.grownBy w6 v.ownBlock) (hr : w6.ownsRow base 27 2 u (A.length + 1) (A.flatMap cV ++ [.int .i64 px, .int .i64 py])) (hlo : w0.heap.size ≤ tb ∧ w0.heap.size ≤ base ∧ g < base ∧ g ≠ tb ∧ xb ≠ tb ∧ rb ≠ tb) :
    Pol w0 base tb xb rb g xs u (A ++ [(px, py)]) (w6.setCell ⟨tb, 2, none⟩ u) := by
  have t6 := h.t.grown hg (ownsRow_apart h.o h.t (by decide))
  have x6 := h.x.grown hg (ownsRow_apart h.o h.x (by decide))
  have q6 := h.q.grown hg (ownsRow_apart h.o h.q (by decide))
  have r6 := Rd.keep h.r ((Chg.refl v.ownBlock.toList cur).grown hg (fun k hk _ => by simp [hk])) (fun _ k hk hx => by
    have h1 : g = k := by simpa [Value.ownBlock] using hk
    have := (World.ownsRow.lt h.o k (by simpa using hx)).1; omega)
  have hs := (Chg.refl [tb] w6).setCell ⟨tb, 2, none⟩ u (by simp)
  refine ⟨?_, ?_, x6.chg hs (by simp; omega), q6.chg hs (by simp; omega), ?_, ?_⟩
  · have := t6.set 2 u; simpa using this
  · have := ownsRow_set hr t6 (by decide) 2 u
    rw [List.length_append, List.flatMap_append]
    exact this
  · exact Rd.keep r6 hs (fun _ k hk hx => by
      have h1 : g = k := by simpa [Value.ownBlock] using hk
      simp at hx; omega)
  · exact (h.c.grown hg (fun k hk hl => by have := (World.ownsRow.lt h.o k hk).1; omega)).setCell _ _ (fun hx => by simp at hx; omega)
end Go.Proofs.YtbiadpkglcdihaaGreat

/- law04.Seed.Shape: places of a ring. -/
namespace Go.Proofs.YtbiadpkglcdihaaGreat
open Go.RowKit

theorem cornSd_lo (sz : Int) (m u i : Nat) (h : 268435456 ≤ sz ∧ sz ≤ 17179869184) : -1116691496960 ≤ (ringAt m u i).1 * sz ∧ (ringAt m u i).1 * sz ≤ 1116691496960 ∧ -1116691496960 ≤ (ringAt m u i).2 * sz ∧ (ringAt m u i).2 * sz ≤ 1116691496960 := by
  obtain ⟨h1, h2, h3, h4⟩ := ringAt_lo m u i
  have g1 := Int.mul_le_mul_of_nonneg_right h1 (show 0 ≤ sz by omega)
  have g2 := Int.mul_le_mul_of_nonneg_right h2 (show 0 ≤ sz by omega)
  have g3 := Int.mul_le_mul_of_nonneg_right h3 (show 0 ≤ sz by omega)
  have g4 := Int.mul_le_mul_of_nonneg_right h4 (show 0 ≤ sz by omega)
  omega
theorem tdiv64_lo (x : Int) (h : -1116691496960 ≤ x ∧ x ≤ 1116691496960) : -1116691496960 ≤ x.tdiv 64 ∧ x.tdiv 64 ≤ 1116691496960 := by
  rcases Int.le_total 0 x with h0 | h0
  · rw [Int.tdiv_eq_ediv_of_nonneg h0]; omega
  · have e : x.tdiv 64 = -((-x).tdiv 64) := by rw [Int.neg_tdiv]; omega
    rw [e, Int.tdiv_eq_ediv_of_nonneg (by omega)]; omega
set_option maxRecDepth 100000 in
set_option maxHeartbeats 4000000 in
theorem SeedShapeP (s : Sd) (w : World) (hk0 : s.kind % 4 ≠ 0) (hk1 : s.kind % 4 ≠ 1) : Calls Tryz.prog 170 #[vSd s] w fun e w' => ∃ pv, e = .returned (vS (shapeSd s) pv) ∧ VsS w' pv (shapeSd s).p ∧ Chg [] w w' ∧ ∀ k, pv.ownBlock = some k → w.heap.size ≤ k := by
  obtain ⟨k, n, z, u⟩ := s
  unfold vSd shapeSd vS
  simp only at hk0 hk1 ⊢
  rw [if_neg hk0, if_neg hk1]
  simp only
  have a63 : bits .and .i64 z 63 = z % 64 := and_mask z 6 (by decide)
  have a3 : bits .and .i64 k 3 = k % 4 := and_mask k 2 (by decide)
  have b63 : 0 ≤ z % 64 ∧ z % 64 < 64 := by omega
  have d1 := size_div (z % 64) b63.1
  have e1 : 268435456 ≤ sizeSd (z % 64) ∧ sizeSd (z % 64) ≤ 17179869184 := by unfold sizeSd; omega
  have an : bits .and .i64 n 255 = n % 256 := and_mask n 8 (by decide)
  have au : bits .and .i64 u 255 = u % 256 := and_mask u 8 (by decide)
  generalize sizeSd (z % 64) = sz at *
  generalize z % 64 = zs at *
  have g0 : (k % 4 == 0) = false := by rw [beq_eq_false_iff_ne]; exact hk0
  have g1 : (k % 4 == 1) = false := by rw [beq_eq_false_iff_ne]; exact hk1
  generalize k % 4 = kk at *
  clear hk0 hk1
  obtain ⟨nn, hnn⟩ : ∃ nn : Nat, n % 256 = nn := ⟨(n % 256).toNat, by omega⟩
  obtain ⟨uu, huu⟩ : ∃ uu : Nat, u % 256 = uu := ⟨(u % 256).toNat, by omega⟩
  have hub : uu < 256 := by omega
  rw [hnn] at an ⊢
  rw [huu] at au ⊢
  have h6 : ((nn : Int)).tmod 6 = ((nn % 6 : Nat) : Int) := by rw [Int.tmod_eq_emod_of_nonneg (by omega)]; omega
  simp only [Int.toNat_natCast]
  have hm6 : nn % 6 < 6 := Nat.mod_lt _ (by omega)
  generalize nn % 6 = n6 at *
  obtain ⟨m, hm⟩ : ∃ m, m = 3 + n6 := ⟨_, rfl⟩
  have hm2 : (3 : Int) + (n6 : Int) = (m : Int) := by omega
  have hm3 : 3 ≤ m ∧ m ≤ 8 := by omega
  rw [← hm]
  clear hm hnn huu
  have hX := (Blk.new w #[.int .i64 k, .int .i64 n, .int .i64 z, .int .i64 u] 136).alloc (.cells #[.int .i64 0, .int .i64 0, .slice none 0 0] 95)
  have hY := Blk.new (w.alloc (.cells #[.int .i64 k, .int .i64 n, .int .i64 z, .int .i64 u] 136)) #[.int .i64 0, .int .i64 0, .slice none 0 0] 95
  rw [World.size_alloc] at hY
  have hc := ((Chg.refl [] w).alloc (.cells #[.int .i64 k, .int .i64 n, .int .i64 z, .int .i64 u] 136)).alloc (.cells #[.int .i64 0, .int .i64 0, .slice none 0 0] 95)
  go_enter Tryz.func170, Tryz.ntmps170
  go_upto_region 9 with (fail)
  have hX3 := hX.alloc (.cells #[.int .i64 2, .int .i64 0, .slice none 0 0] 95)
  have hY3 := hY.alloc (.cells #[.int .i64 2, .int .i64 0, .slice none 0 0] 95)
  have hZ3 := Blk.new ((w.alloc (.cells #[.int .i64 k, .int .i64 n, .int .i64 z, .int .i64 u] 136)).alloc (.cells #[.int .i64 0, .int .i64 0, .slice none 0 0] 95)) #[.int .i64 2, .int .i64 0, .slice none 0 0] 95
  have hc3 := hc.alloc (.cells #[.int .i64 2, .int .i64 0, .slice none 0 0] 95)
  rw [World.size_alloc, World.size_alloc] at hZ3
  generalize ((w.alloc (.cells #[.int .i64 k, .int .i64 n, .int .i64 z, .int .i64 u] 136)).alloc (.cells #[.int .i64 0, .int .i64 0, .slice none 0 0] 95)).alloc (.cells #[.int .i64 2, .int .i64 0, .slice none 0 0] 95) = w0 at *
  clear hX hY hc
  obtain ⟨xb, hxb⟩ : ∃ xb, xb = w.heap.size := ⟨_, rfl⟩
  obtain ⟨rb, hrb⟩ : ∃ rb, rb = w.heap.size + 1 := ⟨_, rfl⟩
  obtain ⟨tb, htb⟩ : ∃ tb, tb = w.heap.size + 1 + 1 := ⟨_, rfl⟩
  rw [← htb] at hZ3 ⊢
  rw [← hrb] at hY3 ⊢
  rw [← hxb] at hX3 ⊢
  have HT : Hd (xb = w.heap.size ∧ rb = w.heap.size + 1 ∧ tb = w.heap.size + 1 + 1) := hd ⟨hxb, hrb, htb⟩
  clear hxb hrb htb
  go_wp2_with (go_at_call 194; refine (Ring_any _).mono ?_; rintro e w1 ⟨g, rfl, hr, hm, hg⟩; have HGE := hd hg; clear hg)
  have hlt0 := hZ3.lt
  have hP0 : Pol w (g + 1) tb xb rb g #[.int .i64 k, .int .i64 n, .int .i64 z, .int .i64 u] (.slice none 0 0) [] w1 := ⟨hZ3.k hm, World.ownsRow_nil _ _ _ _, hX3.k hm, hY3.k hm, hr, hc3.k' hm⟩
  have HLO : Hd (w.heap.size ≤ tb ∧ w.heap.size ≤ g + 1 ∧ g < g + 1 ∧ g ≠ tb ∧ xb ≠ tb ∧ rb ≠ tb) := hd (by have := HT.out; have := HGE.out; omega)
  have HG : Hd (g + 1 ≤ w1.heap.size) := hd (by have := Rd.lt hr (by decide) (by decide) g rfl; omega)
  clear hZ3 hX3 hY3 hc3 hm hr HGE hlt0
  have HE1 := hd e1
  go_loopw [7, 8, 40] (fun _ _ i wr => ∃ (j : Nat) (v : Value), j ≤ m ∧ i = .int .i64 j ∧ Pol w (g + 1) tb xb rb g #[.int .i64 k, .int .i64 n, .int .i64 z, .int .i64 u] v ((List.range j).map (cornSd sz m uu)) wr ∧ g + 1 ≤ wr.heap.size)
    (fun _ _ i _ => m - (intOf i).toNat)
  case atStart => exact ⟨0, _, by omega, rfl, hP0, HG.out⟩
  case round =>
    clear hP0 HG
    obtain ⟨j, v, hj, rfl, hP, hgs⟩ := hrel
    by_cases hlt : j < m
    · have hq9 : j * 10 / m < 10 := by rw [Nat.div_lt_iff_lt_mul (by omega)]; omega
      have f1 : ((j : Int) * 10).tdiv (m : Int) = ((j * 10 / m : Nat) : Int) := by rw [Int.tdiv_eq_ediv_of_nonneg (by omega)]; simp
      have hcor : cornSd sz m uu j = (((ringAt m uu j).1 * sz).tdiv 64, ((ringAt m uu j).2 * sz).tdiv 64) := rfl
      have hlo := cornSd_lo sz m uu j HE1.out
      have hra : ringAt m uu j = ringL.getD ((j * 10 / m + uu) % 10) (0, 0) := rfl
      rw [hra] at hlo hcor
      clear hra
      generalize j * 10 / m = q at *
      have f2 : ((q : Int) + (uu : Int)).tmod 10 = (((q + uu) % 10 : Nat) : Int) := by rw [Int.tmod_eq_emod_of_nonneg (by omega)]; omega
      have hix : (q + uu) % 10 < 10 := Nat.mod_lt _ (by omega)
      generalize (q + uu) % 10 = ix at *
      have c0 := ring_cell hP.r ix hix 0 (by decide)
      have c1 := ring_cell hP.r ix hix 1 (by decide)
      generalize ringL.getD ix (0, 0) = aa at *
      obtain ⟨ax, ay⟩ := aa
      simp only [cV, List.getElem_cons_zero, List.getElem_cons_succ, Nat.add_zero, Nat.zero_add] at c0 c1
      simp only at hlo hcor
      have wa : wrap64 (ax * sz) = ax * sz := IntWalk.wrap64_in _ (by omega)
      have wb : wrap64 (ay * sz) = ay * sz := IntWalk.wrap64_in _ (by omega)
      have va := tdiv64_lo (ax * sz) (by omega)
      have vb' := tdiv64_lo (ay * sz) (by omega)
      have wc : wrap64 ((ax * sz).tdiv 64) = (ax * sz).tdiv 64 := IntWalk.wrap64_in _ (by omega)
      have wd : wrap64 ((ay * sz).tdiv 64) = (ay * sz).tdiv 64 := IntWalk.wrap64_in _ (by omega)
      have hdone : ∀ W v', Pol w (g + 1) tb xb rb g #[.int .i64 k, .int .i64 n, .int .i64 z, .int .i64 u] v' ((List.range j).map (cornSd sz m uu) ++ [((ax * sz).tdiv 64, (ay * sz).tdiv 64)]) W → Pol w (g + 1) tb xb rb g #[.int .i64 k, .int .i64 n, .int .i64 z, .int .i64 u] v' ((List.range (j + 1)).map (cornSd sz m uu)) W := fun W v' h => by
        rw [List.range_succ, List.map_append, List.map_cons, List.map_nil, hcor]; exact h
      have i1 : IntKind.i64.wrap ((j : Int) * 10) = (j : Int) * 10 := by rw [IntKind.wrap_i64]; omega
      have i2 : IntKind.i64.wrap (q : Int) = (q : Int) := by rw [IntKind.wrap_i64]; omega
      have i3 : IntKind.i64.wrap ((q : Int) + (uu : Int)) = (q : Int) + (uu : Int) := by rw [IntKind.wrap_i64]; omega
      have i4 : IntKind.i64.wrap (ix : Int) = (ix : Int) := by rw [IntKind.wrap_i64]; omega
      have hm0 : ¬ m = 0 := by omega
      have hixi : (ix : Int) < 10 := by omega
      have HD := hd hdone
      clear hdone hcor hlo va vb'
      have hAm : ((List.range j).map (cornSd sz m uu)).length ≤ 8 := by simp; omega
      generalize (List.range j).map (cornSd sz m uu) = A at *
      obtain ⟨ao, c, rfl⟩ : ∃ ao c, v = .slice ao A.length c := by
        rcases hP.o.2 with ⟨rfl, hz⟩ | ⟨g, cap, cur, rfl, _⟩
        · exact ⟨none, 0, by rw [hz]⟩
        · exact ⟨_, cap, rfl⟩
      have HP := hd hP
      have q3 := hP.x.cell 3
      simp at q3
      have Q3 := hd q3
      have C0 := hd c0
      have C1 := hd c1
      clear hP c0 c1 q3 a63 an d1
      go_upto_region 13 with (fail)
      refine rg (N := 14) (by kernel_rfl) (by kernel_rfl) (S := (fun wx => Chg [] wr wx)) ((Chg.refl _ _).drew) (fun hHeld => ?_)
      generalize wr.drew = wd at *
      refine tks [0, 1, 2, 3, 4, 5, 6, 7, 8, 9, 10, 11] (by kernel_rfl) (fun _ _ _ _ _ h => h) (by assumption) ?_
      iterate 12 (refine tkc rfl rfl (by rfl) (fun wx hSw => by (try dsimp only at hSw); (have t0 := Chg.cellT hSw C0.out (by simp); have t1 := Chg.cellT hSw C1.out (by simp); have t2 := Chg.cellT hSw Q3.out (by simp); have t3 := au; have t4 := f1; have t5 := f2; have t6 := i1; have t7 := i2; have t8 := i3; have t9 := i4); go_simp; (try with_reducible rfl)) ?_; simp only [List.set])
      refine tk0 ?_
      refine rn 12 rfl (by kernel_rfl) (by rfl) fun KK hKK => ?_
      (have h00 := hHeld; have hm12 := Chg.alloc hHeld (.cells #[.int .i64 0, .int .i64 0] 27); go_simp); refine hKK.out _ _ (by assumption) fun hHeld => ?_; clear hKK KK; try simp only [Act.put, List.setIfInBounds_toArray, List.set]
      refine rn 13 rfl (by kernel_rfl) (by rfl) fun KK hKK => ?_
      go_simp; (have hS13 := Chg.alloc h00 (.cells #[.int .i64 ax, .int .i64 ay] 27)); refine hKK.out _ _ (by assumption) fun hHeld => ?_; clear hKK KK; try simp only [Act.put, List.setIfInBounds_toArray, List.set]
      refine wpAnyH_done (by kernel_rfl) ?_ _
      skip
      have hk8 := Blk.new wd #[.int .i64 ax, .int .i64 ay] 27
      have hB := HP.out.k hHeld
      clear hHeld hS13 h00 hm12
      generalize wd.alloc (.cells #[.int .i64 ax, .int .i64 ay] 27) = w8 at *
      generalize wd.heap.size = kb at *
      have r0 := hk8.cell 0
      have r1 := hk8.cell 1
      have t2 := hB.t.cell 2
      have f2' := hB.t.free 2
      simp at r0 r1 t2
      have HB := hd hB
      have HK8 := hd hk8
      clear hB hk8
      have hB2 := HB.out.k ((Chg.refl [] w8).alloc (.cells #[.int .i64 ((ax * sz).tdiv 64), .int .i64 ((ay * sz).tdiv 64)] 27))
      have hLit := Rd.lit w8 2 1 [.int .i64 ((ax * sz).tdiv 64), .int .i64 ((ay * sz).tdiv 64)] #[.int .i64 ((ax * sz).tdiv 64), .int .i64 ((ay * sz).tdiv 64)] 27 rfl rfl (by decide)
      have HB2 := hd hB2
      have hgs8 : g + 1 ≤ w8.heap.size := by have := (Rd.lt HB.out.r (by decide) (by decide) g rfl); omega
      clear hB2
      go_wp2_with (at_builtin; refine wpApp rowV rfl _ _ rfl (g + 1) (.slice ao A.length c) A.length (A.flatMap cV) rfl HB2.out.o _ 1 [.int .i64 ((ax * sz).tdiv 64), .int .i64 ((ay * sz).tdiv 64)] rfl hLit (by simp [Value.oneCell']) (by omega) (by omega) (by simp; omega) ?_; intro ao6 c6 w6 hr6 hg6 hm6 hno6; have t6 := (HB2.out.t.grown hg6 (ownsRow_apart HB2.out.o HB2.out.t (by decide))).cell 2; have f6 := (HB2.out.t.grown hg6 (ownsRow_apart HB2.out.o HB2.out.t (by decide))).free 2; simp at t6)
      go_roundw
      case rel => exact ⟨j + 1, _, by omega, by go_num, HD.out _ _ (HB2.out.app hg6 hr6 HLO.out), by have := hg6.size; simp at this ⊢; omega⟩
      case measure => simp [intOf]; omega
    · have hjm : j = m := by omega
      subst hjm
      obtain ⟨A, hA⟩ : ∃ A, A = (List.range j).map (cornSd sz j uu) := ⟨_, rfl⟩
      rw [← hA] at hP
      have HA := hd hA
      clear hA
      obtain ⟨ao, c, rfl⟩ : ∃ ao c, v = .slice ao A.length c := by
        rcases hP.o.2 with ⟨rfl, hz⟩ | ⟨g, cap, cur, rfl, _⟩
        · exact ⟨none, 0, by rw [hz]⟩
        · exact ⟨_, cap, rfl⟩
      have k4 := hP.t
      have kB4 := hP.q
      have HP := hd hP
      clear hP
      go_wp2_with (first | (refine wpList_load_row rfl _ _ rfl tb rfl 95 _ (0, 0) _ k4 Tryz.underlying95 rfl (by kernel_rfl) ?_) | (refine wpList_store_row rfl _ _ _ rfl rb #[.int .i64 2, .int .i64 0, .slice ao A.length c] rfl rfl 95 _ kB4 (by kernel_rfl) (by simp) (by simp [Value.oneCell']) ?_))
      have k5 : Blk (wr.setRow rb #[.int .i64 2, .int .i64 0, .slice ao A.length c]) rb #[.int .i64 2, .int .i64 0, .slice ao A.length c] 95 := kB4.row
      have hs5 := Chg.row (Chg.refl [rb] wr) rb #[.int .i64 2, .int .i64 0, .slice ao A.length c] (by simp)
      refine bodyPost_ret (results_cell_row rfl _ _ rb 95 _ (0, 0) _ rfl k5 Tryz.underlying95 rfl (by kernel_rfl)) rfl ⟨_, rfl, ?_, ?_, fun k' hk' => by have := (World.ownsRow.lt HP.out.o k' hk').1; have := HLO.out; omega⟩
      · rw [← HA.out]
        exact Rd.ofOwn (ownsRow_chg HP.out.o hs5 (fun k hk hx => by rw [List.mem_singleton.mp hx] at hk; exact ownsRow_apart HP.out.o kB4 (by decide) hk))
      · exact HP.out.c.trans hs5 (fun x hx hl => by have := HT.out; simp at hx; omega)
theorem SeedShape_any (s : Sd) (w : World) : Calls Tryz.prog 170 #[vSd s] w fun e w' => ∃ pv, e = .returned (vS (shapeSd s) pv) ∧ VsS w' pv (shapeSd s).p ∧ Chg [] w w' ∧ ∀ k, pv.ownBlock = some k → w.heap.size ≤ k := by
  by_cases h0 : s.kind % 4 = 0
  · exact SeedShape0 s w (.inl h0)
  by_cases h1 : s.kind % 4 = 1
  · exact SeedShape0 s w (.inr h1)
  exact SeedShapeP s w h0 h1
end Go.Proofs.YtbiadpkglcdihaaGreat

/- Bodies and joints of deeds. -/
namespace Go.Proofs.YtbiadpkglcdihaaGreat
open Go.RowKit

structure Pls where
  seed : Sd
  pos : V2
  angle : Int
structure Deed where
  kind : Int
  place : Pls
  vel : V2
  spin : Int
  density : Int
  a : Int
  b : Int
  at_ : V2
  to_ : V2
  len : Int
  raw : Bdy
def vPl (p : Pls) : Value := .agg #[.int .i64 p.seed.kind, .int .i64 p.seed.n, .int .i64 p.seed.size, .int .i64 p.seed.turn, .int .i64 p.pos.1, .int .i64 p.pos.2, .int .i64 p.angle]
def cD (d : Deed) (pv : Value) : List Value := [.int .i64 d.kind, .int .i64 d.place.seed.kind, .int .i64 d.place.seed.n, .int .i64 d.place.seed.size, .int .i64 d.place.seed.turn, .int .i64 d.place.pos.1, .int .i64 d.place.pos.2, .int .i64 d.place.angle, .int .i64 d.vel.1, .int .i64 d.vel.2, .int .i64 d.spin, .int .i64 d.density, .int .i64 d.a, .int .i64 d.b, .int .i64 d.at_.1, .int .i64 d.at_.2, .int .i64 d.to_.1, .int .i64 d.to_.2, .int .i64 d.len, .int .i64 d.raw.id, .int .i64 d.raw.pos.1, .int .i64 d.raw.pos.2, .int .i64 d.raw.vel.1, .int .i64 d.raw.vel.2, .int .i64 d.raw.angle, .int .i64 d.raw.spin, .int .i64 d.raw.density, .int .i64 d.raw.shape.kind, .int .i64 d.raw.shape.r, pv]
def vD (d : Deed) (pv : Value) : Value := .agg (cD d pv).toArray
def bodyPl (p : Pls) : Bdy := ⟨0, bringV p.pos 4294967296000, (0, 0), p.angle % 4294967296, 0, 0, shapeSd p.seed⟩
def bodyD (d : Deed) : Bdy :=
  if d.kind % 16 = 15 then d.raw
  else if d.density % 4 = 0 then bodyPl d.place
  else { bodyPl d.place with vel := bringV d.vel 85899345920, spin := bringF d.spin (-85899345920) 85899345920, density := 1 + d.density % 34359738368 }
def jointD (d : Deed) : Jnt := ⟨0, d.a % 16, d.b % 16, bringV d.at_ 17179869184, bringV d.to_ 17179869184, d.len⟩

set_option maxRecDepth 100000 in
set_option maxHeartbeats 2000000 in
theorem PlaceBody_any (p : Pls) (w : World) : Calls Tryz.prog 134 #[vPl p] w fun e w' => ∃ pv, e = .returned (vB (bodyPl p) pv) ∧ VsS w' pv (bodyPl p).shape.p ∧ Chg [] w w' ∧ ∀ k, pv.ownBlock = some k → w.heap.size ≤ k := by
  obtain ⟨⟨sk, sn, sz, st⟩, ⟨x, y⟩, an⟩ := p
  have h1 := fun W => VBring_any (x, y) 4294967296000 (by unfold S64; omega) W
  have h2 := fun W => SeedShape_any ⟨sk, sn, sz, st⟩ W
  have ha : bits .and .i64 an 4294967295 = an % 4294967296 := and_mask an 32 (by decide)
  unfold bodyPl vB vPl
  simp only
  generalize bringV (x, y) 4294967296000 = bz at *
  obtain ⟨bx, bz⟩ := bz
  generalize shapeSd ⟨sk, sn, sz, st⟩ = sh at *
  generalize an % 4294967296 = ra at *
  obtain ⟨hk, hr, hp⟩ := sh
  unfold vV at h1
  unfold vSd vS at h2
  simp only at h1 h2 ⊢
  have hX := (Blk.new w #[.int .i64 sk, .int .i64 sn, .int .i64 sz, .int .i64 st, .int .i64 x, .int .i64 y, .int .i64 an] 138).alloc (.cells #[.int .i64 0, .int .i64 0, .int .i64 0, .int .i64 0, .int .i64 0, .int .i64 0, .int .i64 0, .int .i64 0, .int .i64 0, .int .i64 0, .slice none 0 0] 97)
  have hY := Blk.new (w.alloc (.cells #[.int .i64 sk, .int .i64 sn, .int .i64 sz, .int .i64 st, .int .i64 x, .int .i64 y, .int .i64 an] 138)) #[.int .i64 0, .int .i64 0, .int .i64 0, .int .i64 0, .int .i64 0, .int .i64 0, .int .i64 0, .int .i64 0, .int .i64 0, .int .i64 0, .slice none 0 0] 97
  rw [World.size_alloc] at hY
  have hc := ((Chg.refl [] w).alloc (.cells #[.int .i64 sk, .int .i64 sn, .int .i64 sz, .int .i64 st, .int .i64 x, .int .i64 y, .int .i64 an] 138)).alloc (.cells #[.int .i64 0, .int .i64 0, .int .i64 0, .int .i64 0, .int .i64 0, .int .i64 0, .int .i64 0, .int .i64 0, .int .i64 0, .int .i64 0, .slice none 0 0] 97)
  go_enter Tryz.func134, Tryz.ntmps134
  go_upto_region 1 with (fail)
  generalize (w.alloc (.cells #[.int .i64 sk, .int .i64 sn, .int .i64 sz, .int .i64 st, .int .i64 x, .int .i64 y, .int .i64 an] 138)).alloc (.cells #[.int .i64 0, .int .i64 0, .int .i64 0, .int .i64 0, .int .i64 0, .int .i64 0, .int .i64 0, .int .i64 0, .int .i64 0, .int .i64 0, .slice none 0 0] 97) = w0 at *
  obtain ⟨kb, hkb⟩ : ∃ kb, kb = w.heap.size + 1 := ⟨_, rfl⟩
  obtain ⟨xb, hxb⟩ : ∃ xb, xb = w.heap.size := ⟨_, rfl⟩
  rw [← hkb] at hY ⊢
  rw [← hxb] at hX ⊢
  have HT : Hd (xb = w.heap.size ∧ kb = w.heap.size + 1) := hd ⟨hxb, hkb⟩
  clear hkb hxb
  have HX := hd hX
  have HC := hd hc
  have hT := hY.k (Chg.refl [] w0).drew
  have HKS : Hd (kb < w0.heap.size) := hd hY.lt
  have NX : Hd (xb ∉ [kb]) := hd (by have := HT.out; simp; omega)
  clear hX hc hY
  refine rg (N := 11) (by kernel_rfl) (by kernel_rfl) (S := (fun wx => Chg [kb] w0 wx)) ((Chg.refl _ _).drew) (fun hHeld => ?_)
  generalize w0.drew = w0d at *
  refine tks [0, 1, 3, 4, 5, 6, 7] (by kernel_rfl) (fun _ _ _ _ _ h => h) (by assumption) ?_
  iterate 7 (refine tkc rfl rfl (by rfl) (fun wx hSw => by (try dsimp only at hSw); (have hx := HX.out.chg hSw NX.out; have t0 := hx.cell 0; have t1 := hx.cell 1; have t2 := hx.cell 2; have t3 := hx.cell 3; have t4 := hx.cell 4; have t5 := hx.cell 5; have t6 := hx.cell 6; simp at t0 t1 t2 t3 t4 t5 t6; have t7 := ha); go_simp; (try with_reducible rfl)) ?_; simp only [List.set])
  refine tk0 ?_
  refine rn 2 rfl (by kernel_rfl) (by rfl) fun KK hKK => ?_
  go_simp; (refine (h1 _).mono ?_; rintro e w5 ⟨rfl, hm0⟩; have hm := Chg.k' hHeld hm0; replace hT := hT.k hm0; clear hm0; (try go_simp)); refine hKK.out _ _ (by assumption) fun hHeld => ?_; clear hKK KK; try simp only [Act.put, List.setIfInBounds_toArray, List.set]
  refine rn 8 rfl (by kernel_rfl) (by rfl) fun KK hKK => ?_
  go_simp; (refine (h2 _).mono ?_; rintro e w6 ⟨pv, rfl, hv, hm0, hpo⟩; have hpo2 := (fun k' hk' => Nat.le_trans hHeld.size (hpo k' hk')); have hm := Chg.k' hHeld hm0; replace hT := hT.k hm0; clear hm0; obtain ⟨ap, cp, rfl, -⟩ := hv.form; (try go_simp)); refine hKK.out _ _ (by assumption) fun hHeld => ?_; clear hKK KK; try simp only [Act.put, List.setIfInBounds_toArray, List.set]
  refine rn 9 rfl (by kernel_rfl) (by rfl) fun KK hKK => ?_
  go_simp; refine hKK.out _ _ (by assumption) fun hHeld => ?_; clear hKK KK; try simp only [Act.put, List.setIfInBounds_toArray, List.set]
  refine rn 10 rfl (by kernel_rfl) (by rfl) fun KK hKK => ?_
  (refine wp_store_row 97 _ _ rfl _ #[.int .i64 0, .int .i64 bx, .int .i64 bz, .int .i64 0, .int .i64 0, .int .i64 ra, .int .i64 0, .int .i64 0, .int .i64 hk, .int .i64 hr, .slice ap hp.length cp] rfl rfl 97 _ hT (by kernel_rfl) rfl (by simp [Value.oneCell']) ?_; have hS9 := hT.row (cs' := #[.int .i64 0, .int .i64 bx, .int .i64 bz, .int .i64 0, .int .i64 0, .int .i64 ra, .int .i64 0, .int .i64 0, .int .i64 hk, .int .i64 hr, .slice ap hp.length cp]); have hS := Chg.row hHeld kb #[.int .i64 0, .int .i64 bx, .int .i64 bz, .int .i64 0, .int .i64 0, .int .i64 ra, .int .i64 0, .int .i64 0, .int .i64 hk, .int .i64 hr, .slice ap hp.length cp] (by simp); go_simp); refine hKK.out _ _ (by assumption) fun hHeld => ?_; clear hKK KK; try simp only [Act.put, List.setIfInBounds_toArray, List.set]
  refine wpAnyH_done (by kernel_rfl) ?_ _
  skip
  go_wp2_with (fail)
  refine bodyPost_ret (results_cell_row rfl _ _ kb 97 _ (0, 0) _ rfl hS9 Tryz.underlying97 rfl (by kernel_rfl)) rfl ⟨_, rfl, ?_, ?_, ?_⟩
  · exact Rd.keep hv (Chg.row (Chg.refl [kb] w6) kb _ (by simp)) (fun _ k' hk' hx => by have := hpo2 k' hk'; have := HC.out.size; have := HT.out; have := HKS.out; simp at hx; omega)
  · exact HC.out.trans hHeld (fun x hx hl => by have := HT.out; simp at hx; omega)
  · intro k' hk'
    have := hpo2 k' hk'; have := HC.out.size; omega
end Go.Proofs.YtbiadpkglcdihaaGreat

/- Joints of deeds. -/
namespace Go.Proofs.YtbiadpkglcdihaaGreat
open Go.RowKit

set_option maxRecDepth 100000 in
set_option maxHeartbeats 2000000 in
theorem DeedJoint_any (d : Deed) (pv : Value) (w : World) (hpv : VsS w pv d.raw.shape.p) : Calls Tryz.prog 95 #[vD d pv] w fun e w' => e = .returned (vJ (jointD d)) ∧ Chg [] w w' := by
  unfold jointD vJ
  obtain ⟨kd, ⟨⟨sk, sn, sz, st⟩, ⟨px, py⟩, pa⟩, ⟨vx, vy⟩, sp, de, a, b, ⟨ax, ay⟩, ⟨tx, ty⟩, le, ⟨ri, ⟨rpx, rpy⟩, ⟨rvx, rvy⟩, ra, rs, rd, ⟨rk, rr, rp⟩⟩⟩ := d
  obtain ⟨ap, cp, rfl, -⟩ := hpv.form
  unfold vD cD
  simp only
  have h1 := fun W => VBring_any (ax, ay) 17179869184 (by unfold S64; omega) W
  have h2 := fun W => VBring_any (tx, ty) 17179869184 (by unfold S64; omega) W
  have u1 : bits .and .i64 a 15 = a % 16 := and_mask a 4 (by decide)
  have u2 : bits .and .i64 b 15 = b % 16 := and_mask b 4 (by decide)
  generalize bringV (ax, ay) 17179869184 = p1 at *
  generalize bringV (tx, ty) 17179869184 = p2 at *
  obtain ⟨ax', ay'⟩ := p1
  obtain ⟨tx', ty'⟩ := p2
  unfold vV at h1 h2
  simp only at h1 h2 ⊢
  generalize a % 16 = a' at *
  generalize b % 16 = b' at *
  have hX := (Blk.new w #[.int .i64 kd, .int .i64 sk, .int .i64 sn, .int .i64 sz, .int .i64 st, .int .i64 px, .int .i64 py, .int .i64 pa, .int .i64 vx, .int .i64 vy, .int .i64 sp, .int .i64 de, .int .i64 a, .int .i64 b, .int .i64 ax, .int .i64 ay, .int .i64 tx, .int .i64 ty, .int .i64 le, .int .i64 ri, .int .i64 rpx, .int .i64 rpy, .int .i64 rvx, .int .i64 rvy, .int .i64 ra, .int .i64 rs, .int .i64 rd, .int .i64 rk, .int .i64 rr, .slice ap rp.length cp] 140).alloc (.cells #[.int .i64 0, .int .i64 0, .int .i64 0, .int .i64 0, .int .i64 0, .int .i64 0, .int .i64 0, .int .i64 0] 101)
  have hY := Blk.new (w.alloc (.cells #[.int .i64 kd, .int .i64 sk, .int .i64 sn, .int .i64 sz, .int .i64 st, .int .i64 px, .int .i64 py, .int .i64 pa, .int .i64 vx, .int .i64 vy, .int .i64 sp, .int .i64 de, .int .i64 a, .int .i64 b, .int .i64 ax, .int .i64 ay, .int .i64 tx, .int .i64 ty, .int .i64 le, .int .i64 ri, .int .i64 rpx, .int .i64 rpy, .int .i64 rvx, .int .i64 rvy, .int .i64 ra, .int .i64 rs, .int .i64 rd, .int .i64 rk, .int .i64 rr, .slice ap rp.length cp] 140)) #[.int .i64 0, .int .i64 0, .int .i64 0, .int .i64 0, .int .i64 0, .int .i64 0, .int .i64 0, .int .i64 0] 101
  rw [World.size_alloc] at hY
  have hc := ((Chg.refl [] w).alloc (.cells #[.int .i64 kd, .int .i64 sk, .int .i64 sn, .int .i64 sz, .int .i64 st, .int .i64 px, .int .i64 py, .int .i64 pa, .int .i64 vx, .int .i64 vy, .int .i64 sp, .int .i64 de, .int .i64 a, .int .i64 b, .int .i64 ax, .int .i64 ay, .int .i64 tx, .int .i64 ty, .int .i64 le, .int .i64 ri, .int .i64 rpx, .int .i64 rpy, .int .i64 rvx, .int .i64 rvy, .int .i64 ra, .int .i64 rs, .int .i64 rd, .int .i64 rk, .int .i64 rr, .slice ap rp.length cp] 140)).alloc (.cells #[.int .i64 0, .int .i64 0, .int .i64 0, .int .i64 0, .int .i64 0, .int .i64 0, .int .i64 0, .int .i64 0] 101)
  go_enter Tryz.func95, Tryz.ntmps95
  go_upto_region 1 with (fail)
  generalize (w.alloc (.cells #[.int .i64 kd, .int .i64 sk, .int .i64 sn, .int .i64 sz, .int .i64 st, .int .i64 px, .int .i64 py, .int .i64 pa, .int .i64 vx, .int .i64 vy, .int .i64 sp, .int .i64 de, .int .i64 a, .int .i64 b, .int .i64 ax, .int .i64 ay, .int .i64 tx, .int .i64 ty, .int .i64 le, .int .i64 ri, .int .i64 rpx, .int .i64 rpy, .int .i64 rvx, .int .i64 rvy, .int .i64 ra, .int .i64 rs, .int .i64 rd, .int .i64 rk, .int .i64 rr, .slice ap rp.length cp] 140)).alloc (.cells #[.int .i64 0, .int .i64 0, .int .i64 0, .int .i64 0, .int .i64 0, .int .i64 0, .int .i64 0, .int .i64 0] 101) = w0 at *
  obtain ⟨kb, hkb⟩ : ∃ kb, kb = w.heap.size + 1 := ⟨_, rfl⟩
  obtain ⟨xb, hxb⟩ : ∃ xb, xb = w.heap.size := ⟨_, rfl⟩
  rw [← hkb] at hY ⊢
  rw [← hxb] at hX ⊢
  have HT : Hd (xb = w.heap.size ∧ kb = w.heap.size + 1) := hd ⟨hxb, hkb⟩
  have HKS : Hd (kb < w0.heap.size) := hd hY.lt
  clear hkb hxb
  have HX := hd hX
  have HC := hd hc
  have hT := hY.k (Chg.refl [] w0).drew
  have NX : Hd (xb ∉ [kb]) := hd (by have := HT.out; simp; omega)
  clear hX hc hY
  refine rg (N := 16) (by kernel_rfl) (by kernel_rfl) (S := (fun wx => Chg [kb] w0 wx)) ((Chg.refl _ _).drew) (fun hHeld => ?_)
  generalize w0.drew = w0d at *
  refine tks [0, 1, 2, 3, 4, 5, 6, 7, 9, 10, 12, 13] (by kernel_rfl) (fun _ _ _ _ _ h => h) (by assumption) ?_
  iterate 12 (refine tkc rfl rfl (by rfl) (fun wx hSw => by (try dsimp only at hSw); (have hx := HX.out.chg hSw NX.out; have t12 := hx.cell 12; have t13 := hx.cell 13; have t14 := hx.cell 14; have t15 := hx.cell 15; have t16 := hx.cell 16; have t17 := hx.cell 17; have t18 := hx.cell 18; simp at t12 t13 t14 t15 t16 t17 t18; have t30 := u1; have t31 := u2); go_simp; (try with_reducible rfl)) ?_; simp only [List.set])
  refine tk0 ?_
  refine rn 8 rfl (by kernel_rfl) (by rfl) fun KK hKK => ?_
  go_simp; (refine (h1 _).mono ?_; rintro e w5 ⟨rfl, hm0⟩; have hm := Chg.k' hHeld hm0; replace hT := hT.k hm0; clear hm0; (try go_simp)); refine hKK.out _ _ (by assumption) fun hHeld => ?_; clear hKK KK; try simp only [Act.put, List.setIfInBounds_toArray, List.set]
  refine rn 11 rfl (by kernel_rfl) (by rfl) fun KK hKK => ?_
  go_simp; (refine (h2 _).mono ?_; rintro e w6 ⟨rfl, hm0⟩; have hm := Chg.k' hHeld hm0; replace hT := hT.k hm0; clear hm0; (try go_simp)); refine hKK.out _ _ (by assumption) fun hHeld => ?_; clear hKK KK; try simp only [Act.put, List.setIfInBounds_toArray, List.set]
  refine rn 14 rfl (by kernel_rfl) (by rfl) fun KK hKK => ?_
  go_simp; refine hKK.out _ _ (by assumption) fun hHeld => ?_; clear hKK KK; try simp only [Act.put, List.setIfInBounds_toArray, List.set]
  refine rn 15 rfl (by kernel_rfl) (by rfl) fun KK hKK => ?_
  (refine wp_store_row 101 _ _ rfl _ #[.int .i64 0, .int .i64 a', .int .i64 b', .int .i64 ax', .int .i64 ay', .int .i64 tx', .int .i64 ty', .int .i64 le] rfl rfl 101 _ hT (by kernel_rfl) rfl (by simp [Value.oneCell']) ?_; have hS9 := hT.row (cs' := #[.int .i64 0, .int .i64 a', .int .i64 b', .int .i64 ax', .int .i64 ay', .int .i64 tx', .int .i64 ty', .int .i64 le]); have hS := Chg.row hHeld kb #[.int .i64 0, .int .i64 a', .int .i64 b', .int .i64 ax', .int .i64 ay', .int .i64 tx', .int .i64 ty', .int .i64 le] (by simp); go_simp); refine hKK.out _ _ (by assumption) fun hHeld => ?_; clear hKK KK; try simp only [Act.put, List.setIfInBounds_toArray, List.set]
  refine wpAnyH_done (by kernel_rfl) ?_ _
  skip
  go_wp2_with (fail)
  refine bodyPost_ret (results_cell_row rfl _ _ kb 101 _ (0, 0) _ rfl hS9 Tryz.underlying101 rfl (by kernel_rfl)) rfl ⟨rfl, ?_⟩
  exact HC.out.trans hHeld (fun x hx hl => by have := HT.out; simp at hx; omega)
end Go.Proofs.YtbiadpkglcdihaaGreat

/- Bodies of deeds. -/
namespace Go.Proofs.YtbiadpkglcdihaaGreat
open Go.RowKit

set_option maxRecDepth 100000 in
set_option maxHeartbeats 4000000 in
theorem DeedBody_any (d : Deed) (pv : Value) (w : World) (hpv : VsS w pv d.raw.shape.p) : Calls Tryz.prog 99 #[vD d pv] w fun e w' => ∃ bv, e = .returned (vB (bodyD d) bv) ∧ VsS w' bv (bodyD d).shape.p ∧ Chg [] w w' ∧ (bv = pv ∨ ∀ k, bv.ownBlock = some k → w.heap.size ≤ k) := by
  unfold bodyD
  obtain ⟨kd, ⟨⟨sk, sn, sz, st⟩, ⟨px, py⟩, pa⟩, ⟨vx, vy⟩, sp, de, a, b, ⟨ax, ay⟩, ⟨tx, ty⟩, le, ⟨ri, ⟨rpx, rpy⟩, ⟨rvx, rvy⟩, ra, rs, rd, ⟨rk, rr, rp⟩⟩⟩ := d
  obtain ⟨ap, cp, rfl, -⟩ := hpv.form
  unfold vD cD
  simp only
  have h0 := fun W => PlaceBody_any ⟨⟨sk, sn, sz, st⟩, (px, py), pa⟩ W
  have h1 := fun W => VBring_any (vx, vy) 85899345920 (by unfold S64; omega) W
  have h2 := fun W => Bring_any sp (-85899345920) 85899345920 W
  have u1 : bits .and .i64 kd 15 = kd % 16 := and_mask kd 4 (by decide)
  have u2 : bits .and .i64 de 3 = de % 4 := and_mask de 2 (by decide)
  have u3 : bits .and .i64 de 34359738367 = de % 34359738368 := and_mask de 35 (by decide)
  have u4 : 0 ≤ de % 34359738368 ∧ de % 34359738368 < 34359738368 := by omega
  generalize bodyPl ⟨⟨sk, sn, sz, st⟩, (px, py), pa⟩ = B at *
  obtain ⟨Bi, ⟨Bx, By⟩, ⟨Bvx, Bvy⟩, Ba, Bs', Bd, ⟨Bk, Br, Bp⟩⟩ := B
  generalize bringV (vx, vy) 85899345920 = p1 at *
  obtain ⟨vx', vy'⟩ := p1
  generalize bringF sp (-85899345920) 85899345920 = sp' at *
  unfold vPl vB at h0
  unfold vV at h1
  simp only at h0 h1 ⊢
  generalize de % 34359738368 = d35 at *
  by_cases k1 : kd % 16 = 15
  · rw [if_pos k1]
    rw [k1] at u1
    clear k1
    unfold vB
    simp only
    go_enter Tryz.func99, Tryz.ntmps99
    go_wp2
    refine bodyPost_ret (v := .agg #[.int .i64 ri, .int .i64 rpx, .int .i64 rpy, .int .i64 rvx, .int .i64 rvy, .int .i64 ra, .int .i64 rs, .int .i64 rd, .int .i64 rk, .int .i64 rr, .slice ap rp.length cp]) (by simp only [results]; go_simp) rfl ⟨_, rfl, ?_, ((Chg.refl [] w).alloc _).alloc _, .inl rfl⟩
    exact hpv.k (((Chg.refl [] w).alloc _).alloc _)
  rw [if_neg k1]
  have g1 : (kd % 16 == 15) = false := by rw [beq_eq_false_iff_ne]; exact k1
  clear k1
  generalize kd % 16 = k16 at *
  by_cases k2 : de % 4 = 0
  · rw [if_pos k2]
    rw [k2] at u2
    clear k2
    unfold vB
    simp only
    have hX := (Blk.new w #[.int .i64 kd, .int .i64 sk, .int .i64 sn, .int .i64 sz, .int .i64 st, .int .i64 px, .int .i64 py, .int .i64 pa, .int .i64 vx, .int .i64 vy, .int .i64 sp, .int .i64 de, .int .i64 a, .int .i64 b, .int .i64 ax, .int .i64 ay, .int .i64 tx, .int .i64 ty, .int .i64 le, .int .i64 ri, .int .i64 rpx, .int .i64 rpy, .int .i64 rvx, .int .i64 rvy, .int .i64 ra, .int .i64 rs, .int .i64 rd, .int .i64 rk, .int .i64 rr, .slice ap rp.length cp] 140).alloc (.cells #[.int .i64 0, .int .i64 0, .int .i64 0, .int .i64 0, .int .i64 0, .int .i64 0, .int .i64 0, .int .i64 0, .int .i64 0, .int .i64 0, .slice none 0 0] 97)
    have hY := Blk.new (w.alloc (.cells #[.int .i64 kd, .int .i64 sk, .int .i64 sn, .int .i64 sz, .int .i64 st, .int .i64 px, .int .i64 py, .int .i64 pa, .int .i64 vx, .int .i64 vy, .int .i64 sp, .int .i64 de, .int .i64 a, .int .i64 b, .int .i64 ax, .int .i64 ay, .int .i64 tx, .int .i64 ty, .int .i64 le, .int .i64 ri, .int .i64 rpx, .int .i64 rpy, .int .i64 rvx, .int .i64 rvy, .int .i64 ra, .int .i64 rs, .int .i64 rd, .int .i64 rk, .int .i64 rr, .slice ap rp.length cp] 140)) #[.int .i64 0, .int .i64 0, .int .i64 0, .int .i64 0, .int .i64 0, .int .i64 0, .int .i64 0, .int .i64 0, .int .i64 0, .int .i64 0, .slice none 0 0] 97
    rw [World.size_alloc] at hY
    have hc := ((Chg.refl [] w).alloc (.cells #[.int .i64 kd, .int .i64 sk, .int .i64 sn, .int .i64 sz, .int .i64 st, .int .i64 px, .int .i64 py, .int .i64 pa, .int .i64 vx, .int .i64 vy, .int .i64 sp, .int .i64 de, .int .i64 a, .int .i64 b, .int .i64 ax, .int .i64 ay, .int .i64 tx, .int .i64 ty, .int .i64 le, .int .i64 ri, .int .i64 rpx, .int .i64 rpy, .int .i64 rvx, .int .i64 rvy, .int .i64 ra, .int .i64 rs, .int .i64 rd, .int .i64 rk, .int .i64 rr, .slice ap rp.length cp] 140)).alloc (.cells #[.int .i64 0, .int .i64 0, .int .i64 0, .int .i64 0, .int .i64 0, .int .i64 0, .int .i64 0, .int .i64 0, .int .i64 0, .int .i64 0, .slice none 0 0] 97)
    go_enter Tryz.func99, Tryz.ntmps99
    go_upto_region 1 with (fail)
    generalize (w.alloc (.cells #[.int .i64 kd, .int .i64 sk, .int .i64 sn, .int .i64 sz, .int .i64 st, .int .i64 px, .int .i64 py, .int .i64 pa, .int .i64 vx, .int .i64 vy, .int .i64 sp, .int .i64 de, .int .i64 a, .int .i64 b, .int .i64 ax, .int .i64 ay, .int .i64 tx, .int .i64 ty, .int .i64 le, .int .i64 ri, .int .i64 rpx, .int .i64 rpy, .int .i64 rvx, .int .i64 rvy, .int .i64 ra, .int .i64 rs, .int .i64 rd, .int .i64 rk, .int .i64 rr, .slice ap rp.length cp] 140)).alloc (.cells #[.int .i64 0, .int .i64 0, .int .i64 0, .int .i64 0, .int .i64 0, .int .i64 0, .int .i64 0, .int .i64 0, .int .i64 0, .int .i64 0, .slice none 0 0] 97) = w0 at *
    obtain ⟨kb, hkb⟩ : ∃ kb, kb = w.heap.size + 1 := ⟨_, rfl⟩
    obtain ⟨xb, hxb⟩ : ∃ xb, xb = w.heap.size := ⟨_, rfl⟩
    rw [← hkb] at hY ⊢
    rw [← hxb] at hX ⊢
    have HT : Hd (xb = w.heap.size ∧ kb = w.heap.size + 1) := hd ⟨hxb, hkb⟩
    have HKS : Hd (kb < w0.heap.size) := hd hY.lt
    clear hkb hxb
    have HX := hd hX
    have HC := hd hc
    have HNK : Hd (w.heap.size ≤ w0.heap.size) := hd hc.size
    have HY := hd hY
    have q0 := hX.cell 0
    have q1 := hX.cell 1
    have q2 := hX.cell 2
    have q3 := hX.cell 3
    have q4 := hX.cell 4
    have q5 := hX.cell 5
    have q6 := hX.cell 6
    have q7 := hX.cell 7
    simp at q0 q1 q2 q3 q4 q5 q6 q7
    clear hX hc hY
    go_upto_region 4 with (go_at_call 134; refine (h0 _).mono ?_; rintro e w1 ⟨bv, rfl, hv, hm, hpo⟩; obtain ⟨ab, cb, rfl, -⟩ := hv.form)
    have hZ := Blk.new w1 #[.int .i64 Bi, .int .i64 Bx, .int .i64 By, .int .i64 Bvx, .int .i64 Bvy, .int .i64 Ba, .int .i64 Bs', .int .i64 Bd, .int .i64 Bk, .int .i64 Br, .slice ab Bp.length cb] 97
    have hcA := hm.alloc (.cells #[.int .i64 Bi, .int .i64 Bx, .int .i64 By, .int .i64 Bvx, .int .i64 Bvy, .int .i64 Ba, .int .i64 Bs', .int .i64 Bd, .int .i64 Bk, .int .i64 Br, .slice ab Bp.length cb] 97)
    have hX2 := HX.out.k hcA
    have hY2 := HY.out.k hcA
    have hv2 := hv.k ((Chg.refl [] w1).alloc (.cells #[.int .i64 Bi, .int .i64 Bx, .int .i64 By, .int .i64 Bvx, .int .i64 Bvy, .int .i64 Ba, .int .i64 Bs', .int .i64 Bd, .int .i64 Bk, .int .i64 Br, .slice ab Bp.length cb] 97))
    have hM2 := HC.out.k' hcA
    have hsz1 := hm.size
    have hvlt := hv.own
    generalize w1.alloc (.cells #[.int .i64 Bi, .int .i64 Bx, .int .i64 By, .int .i64 Bvx, .int .i64 Bvy, .int .i64 Ba, .int .i64 Bs', .int .i64 Bd, .int .i64 Bk, .int .i64 Br, .slice ab Bp.length cb] 97) = w2 at *
    obtain ⟨tb, htb⟩ : ∃ tb, tb = w1.heap.size := ⟨_, rfl⟩
    rw [← htb] at hZ hsz1 hvlt ⊢
    have HT2 : Hd (xb = w.heap.size ∧ kb = w.heap.size + 1 ∧ kb < tb) := hd (by have := HT.out; have := HKS.out; omega)
    have HPO : Hd (∀ k, (Value.slice ab Bp.length cb).ownBlock = some k → w0.heap.size ≤ k) := hd hpo
    have HVL : Hd (0 < Bp.length → ∀ k, (Value.slice ab Bp.length cb).ownBlock = some k → k < tb) := hd hvlt
    have HX2 := hd hX2
    have HY2 := hd hY2
    have HV2 := hd hv2
    have HM2 := hd hM2
    clear hX2 hY2 hv2 hM2 hcA hm hpo hv HX HY HC htb hsz1 hvlt q0 q1 q2 q3 q4 q5 q6 q7
    have q11 := HX2.out.cell 11
    simp at q11
    have k4 := hZ
    have kB4 := HY2.out
    go_wp2_with (first | (refine wpList_load_row rfl _ _ rfl tb rfl 97 _ (0, 0) _ k4 Tryz.underlying97 rfl (by kernel_rfl) ?_) | (refine wpList_store_row rfl _ _ _ rfl kb #[.int .i64 Bi, .int .i64 Bx, .int .i64 By, .int .i64 Bvx, .int .i64 Bvy, .int .i64 Ba, .int .i64 Bs', .int .i64 Bd, .int .i64 Bk, .int .i64 Br, .slice ab Bp.length cb] rfl rfl 97 _ kB4 (by kernel_rfl) (by simp) (by simp [Value.oneCell']) ?_))
    have k5 : Blk (w2.setRow kb #[.int .i64 Bi, .int .i64 Bx, .int .i64 By, .int .i64 Bvx, .int .i64 Bvy, .int .i64 Ba, .int .i64 Bs', .int .i64 Bd, .int .i64 Bk, .int .i64 Br, .slice ab Bp.length cb]) kb #[.int .i64 Bi, .int .i64 Bx, .int .i64 By, .int .i64 Bvx, .int .i64 Bvy, .int .i64 Ba, .int .i64 Bs', .int .i64 Bd, .int .i64 Bk, .int .i64 Br, .slice ab Bp.length cb] 97 := kB4.row
    have hs5 := Chg.row (Chg.refl [kb] w2) kb #[.int .i64 Bi, .int .i64 Bx, .int .i64 By, .int .i64 Bvx, .int .i64 Bvy, .int .i64 Ba, .int .i64 Bs', .int .i64 Bd, .int .i64 Bk, .int .i64 Br, .slice ab Bp.length cb] (by simp)
    refine bodyPost_ret (results_cell_row rfl _ _ kb 97 _ (0, 0) _ rfl k5 Tryz.underlying97 rfl (by kernel_rfl)) rfl ⟨_, rfl, ?_, ?_, .inr (fun k' hk' => by have := HPO.out k' hk'; have := HNK.out; omega)⟩
    · exact Rd.keep HV2.out hs5 (fun _ k' hk' hx => by have := HPO.out k' hk'; have := HKS.out; simp at hx; omega)
    · exact HM2.out.trans hs5 (fun x hx hl => by have := HT2.out; simp at hx; omega)
  · rw [if_neg k2]
    have g2 : (de % 4 == 0) = false := by rw [beq_eq_false_iff_ne]; exact k2
    clear k2
    generalize de % 4 = k4' at *
    unfold vB
    simp only
    have hX := (Blk.new w #[.int .i64 kd, .int .i64 sk, .int .i64 sn, .int .i64 sz, .int .i64 st, .int .i64 px, .int .i64 py, .int .i64 pa, .int .i64 vx, .int .i64 vy, .int .i64 sp, .int .i64 de, .int .i64 a, .int .i64 b, .int .i64 ax, .int .i64 ay, .int .i64 tx, .int .i64 ty, .int .i64 le, .int .i64 ri, .int .i64 rpx, .int .i64 rpy, .int .i64 rvx, .int .i64 rvy, .int .i64 ra, .int .i64 rs, .int .i64 rd, .int .i64 rk, .int .i64 rr, .slice ap rp.length cp] 140).alloc (.cells #[.int .i64 0, .int .i64 0, .int .i64 0, .int .i64 0, .int .i64 0, .int .i64 0, .int .i64 0, .int .i64 0, .int .i64 0, .int .i64 0, .slice none 0 0] 97)
    have hY := Blk.new (w.alloc (.cells #[.int .i64 kd, .int .i64 sk, .int .i64 sn, .int .i64 sz, .int .i64 st, .int .i64 px, .int .i64 py, .int .i64 pa, .int .i64 vx, .int .i64 vy, .int .i64 sp, .int .i64 de, .int .i64 a, .int .i64 b, .int .i64 ax, .int .i64 ay, .int .i64 tx, .int .i64 ty, .int .i64 le, .int .i64 ri, .int .i64 rpx, .int .i64 rpy, .int .i64 rvx, .int .i64 rvy, .int .i64 ra, .int .i64 rs, .int .i64 rd, .int .i64 rk, .int .i64 rr, .slice ap rp.length cp] 140)) #[.int .i64 0, .int .i64 0, .int .i64 0, .int .i64 0, .int .i64 0, .int .i64 0, .int .i64 0, .int .i64 0, .int .i64 0, .int .i64 0, .slice none 0 0] 97
    rw [World.size_alloc] at hY
    have hc := ((Chg.refl [] w).alloc (.cells #[.int .i64 kd, .int .i64 sk, .int .i64 sn, .int .i64 sz, .int .i64 st, .int .i64 px, .int .i64 py, .int .i64 pa, .int .i64 vx, .int .i64 vy, .int .i64 sp, .int .i64 de, .int .i64 a, .int .i64 b, .int .i64 ax, .int .i64 ay, .int .i64 tx, .int .i64 ty, .int .i64 le, .int .i64 ri, .int .i64 rpx, .int .i64 rpy, .int .i64 rvx, .int .i64 rvy, .int .i64 ra, .int .i64 rs, .int .i64 rd, .int .i64 rk, .int .i64 rr, .slice ap rp.length cp] 140)).alloc (.cells #[.int .i64 0, .int .i64 0, .int .i64 0, .int .i64 0, .int .i64 0, .int .i64 0, .int .i64 0, .int .i64 0, .int .i64 0, .int .i64 0, .slice none 0 0] 97)
    go_enter Tryz.func99, Tryz.ntmps99
    go_upto_region 1 with (fail)
    generalize (w.alloc (.cells #[.int .i64 kd, .int .i64 sk, .int .i64 sn, .int .i64 sz, .int .i64 st, .int .i64 px, .int .i64 py, .int .i64 pa, .int .i64 vx, .int .i64 vy, .int .i64 sp, .int .i64 de, .int .i64 a, .int .i64 b, .int .i64 ax, .int .i64 ay, .int .i64 tx, .int .i64 ty, .int .i64 le, .int .i64 ri, .int .i64 rpx, .int .i64 rpy, .int .i64 rvx, .int .i64 rvy, .int .i64 ra, .int .i64 rs, .int .i64 rd, .int .i64 rk, .int .i64 rr, .slice ap rp.length cp] 140)).alloc (.cells #[.int .i64 0, .int .i64 0, .int .i64 0, .int .i64 0, .int .i64 0, .int .i64 0, .int .i64 0, .int .i64 0, .int .i64 0, .int .i64 0, .slice none 0 0] 97) = w0 at *
    obtain ⟨kb, hkb⟩ : ∃ kb, kb = w.heap.size + 1 := ⟨_, rfl⟩
    obtain ⟨xb, hxb⟩ : ∃ xb, xb = w.heap.size := ⟨_, rfl⟩
    rw [← hkb] at hY ⊢
    rw [← hxb] at hX ⊢
    have HT : Hd (xb = w.heap.size ∧ kb = w.heap.size + 1) := hd ⟨hxb, hkb⟩
    have HKS : Hd (kb < w0.heap.size) := hd hY.lt
    clear hkb hxb
    have HX := hd hX
    have HC := hd hc
    have HNK : Hd (w.heap.size ≤ w0.heap.size) := hd hc.size
    have HY := hd hY
    have q0 := hX.cell 0
    have q1 := hX.cell 1
    have q2 := hX.cell 2
    have q3 := hX.cell 3
    have q4 := hX.cell 4
    have q5 := hX.cell 5
    have q6 := hX.cell 6
    have q7 := hX.cell 7
    simp at q0 q1 q2 q3 q4 q5 q6 q7
    clear hX hc hY
    go_upto_region 4 with (go_at_call 134; refine (h0 _).mono ?_; rintro e w1 ⟨bv, rfl, hv, hm, hpo⟩; obtain ⟨ab, cb, rfl, -⟩ := hv.form)
    have hZ := Blk.new w1 #[.int .i64 Bi, .int .i64 Bx, .int .i64 By, .int .i64 Bvx, .int .i64 Bvy, .int .i64 Ba, .int .i64 Bs', .int .i64 Bd, .int .i64 Bk, .int .i64 Br, .slice ab Bp.length cb] 97
    have hcA := hm.alloc (.cells #[.int .i64 Bi, .int .i64 Bx, .int .i64 By, .int .i64 Bvx, .int .i64 Bvy, .int .i64 Ba, .int .i64 Bs', .int .i64 Bd, .int .i64 Bk, .int .i64 Br, .slice ab Bp.length cb] 97)
    have hX2 := HX.out.k hcA
    have hY2 := HY.out.k hcA
    have hv2 := hv.k ((Chg.refl [] w1).alloc (.cells #[.int .i64 Bi, .int .i64 Bx, .int .i64 By, .int .i64 Bvx, .int .i64 Bvy, .int .i64 Ba, .int .i64 Bs', .int .i64 Bd, .int .i64 Bk, .int .i64 Br, .slice ab Bp.length cb] 97))
    have hM2 := HC.out.k' hcA
    have hsz1 := hm.size
    have hvlt := hv.own
    generalize w1.alloc (.cells #[.int .i64 Bi, .int .i64 Bx, .int .i64 By, .int .i64 Bvx, .int .i64 Bvy, .int .i64 Ba, .int .i64 Bs', .int .i64 Bd, .int .i64 Bk, .int .i64 Br, .slice ab Bp.length cb] 97) = w2 at *
    obtain ⟨tb, htb⟩ : ∃ tb, tb = w1.heap.size := ⟨_, rfl⟩
    rw [← htb] at hZ hsz1 hvlt ⊢
    have HT2 : Hd (xb = w.heap.size ∧ kb = w.heap.size + 1 ∧ kb < tb) := hd (by have := HT.out; have := HKS.out; omega)
    have HPO : Hd (∀ k, (Value.slice ab Bp.length cb).ownBlock = some k → w0.heap.size ≤ k) := hd hpo
    have HVL : Hd (0 < Bp.length → ∀ k, (Value.slice ab Bp.length cb).ownBlock = some k → k < tb) := hd hvlt
    have HX2 := hd hX2
    have HY2 := hd hY2
    have HV2 := hd hv2
    have HM2 := hd hM2
    clear hX2 hY2 hv2 hM2 hcA hm hpo hv HX HY HC htb hsz1 hvlt q0 q1 q2 q3 q4 q5 q6 q7
    have q11 := HX2.out.cell 11
    simp at q11
    have z7 := hZ.cell 7
    have y7 := hZ.free 7
    simp at z7
    go_upto_region 7 with (fail)
    have hZ3 := hZ.set 7 (.int .i64 (1 + d35))
    simp at hZ3
    have hs3 := (Chg.refl [tb] w2).setCell ⟨tb, 7, none⟩ (.int .i64 (1 + d35)) (by simp)
    have hX3 := HX2.out.chg hs3 (by have := HT2.out; simp; omega)
    have hY3 := HY2.out.chg hs3 (by have := HT2.out; simp; omega)
    have hV3 := Rd.keep HV2.out hs3 (fun hn k hk hx => by have := HVL.out hn k hk; simp at hx; omega)
    have hM3 := HM2.out.trans hs3 (fun x hx hl => by have := HT2.out; simp at hx; omega)
    clear z7 y7 hZ hs3 q11
    generalize w2.setCell ⟨tb, 7, none⟩ (.int .i64 (1 + d35)) = w3 at *
    have HX3 := hd hX3
    have HY3 := hd hY3
    have HV3 := hd hV3
    have HM3 := hd hM3
    have hT := hZ3.k (Chg.refl [] w3).drew
    have NX : Hd (xb ∉ [tb]) := hd (by have := HT2.out; simp; omega)
    clear hX3 hY3 hV3 hM3 hZ3 HX2 HY2 HV2 HM2
    refine rg (N := 10) (by kernel_rfl) (by kernel_rfl) (S := (fun wx => Chg [tb] w3 wx)) ((Chg.refl _ _).drew) (fun hHeld => ?_)
    generalize w3.drew = w3d at *
    refine tks [0, 1, 3, 4] (by kernel_rfl) (fun _ _ _ _ _ h => h) (by assumption) ?_
    iterate 4 (refine tkc rfl rfl (by rfl) (fun wx hSw => by (try dsimp only at hSw); (have hx := HX3.out.chg hSw NX.out; have t8 := hx.cell 8; have t9 := hx.cell 9; have t10 := hx.cell 10; simp at t8 t9 t10); go_simp; (try with_reducible rfl)) ?_; simp only [List.set])
    refine tk0 ?_
    refine rn 2 rfl (by kernel_rfl) (by rfl) fun KK hKK => ?_
    go_simp; (refine (h1 _).mono ?_; rintro e w5 ⟨rfl, hm0⟩; have hm := Chg.k' hHeld hm0; replace hT := hT.k hm0; clear hm0; (try go_simp)); refine hKK.out _ _ (by assumption) fun hHeld => ?_; clear hKK KK; try simp only [Act.put, List.setIfInBounds_toArray, List.set]
    refine tks [6] (by kernel_rfl) (fun _ _ _ _ _ h => h) (by assumption) ?_
    refine tkc rfl rfl (by rfl) (fun wx hSw => by (try dsimp only at hSw); (have hx := HX3.out.chg hSw NX.out; have t8 := hx.cell 8; have t9 := hx.cell 9; have t10 := hx.cell 10; simp at t8 t9 t10); go_simp; (try with_reducible rfl)) ?_; simp only [List.set]
    refine tk0 ?_
    refine rn 5 rfl (by kernel_rfl) (by rfl) fun KK hKK => ?_
    go_simp; (refine (h2 _).mono ?_; rintro e w6 ⟨rfl, rfl⟩; have hm := hHeld; have c3 := hT.cell 3; have c4 := hT.cell 4; have f3 := hT.free 3; have f4 := hT.free 4; simp at c3 c4; (try go_simp)); refine hKK.out _ _ (by assumption) fun hHeld => ?_; clear hKK KK; try simp only [Act.put, List.setIfInBounds_toArray, List.set]
    refine rn 7 rfl (by kernel_rfl) (by rfl) fun KK hKK => ?_
    go_simp; (have hs7 := (Chg.setCell (Chg.setCell hHeld ⟨tb, 3, none⟩ (.int .i64 vx') (by simp)) ⟨tb, 4, none⟩ (.int .i64 vy') (by simp)); have hT7 := (hT.set 3 (.int .i64 vx')).set 4 (.int .i64 vy'); simp at hT7; have c6 := hT7.cell 6; have f6 := hT7.free 6; simp at c6); refine hKK.out _ _ (by assumption) fun hHeld => ?_; clear hKK KK; try simp only [Act.put, List.setIfInBounds_toArray, List.set]
    refine tks [8] (by kernel_rfl) (fun _ _ _ _ _ h => h) (by assumption) ?_
    refine tkc rfl rfl (by rfl) (fun wx hSw => by (try dsimp only at hSw); (have hx := HX3.out.chg hSw NX.out; have t8 := hx.cell 8; have t9 := hx.cell 9; have t10 := hx.cell 10; simp at t8 t9 t10); go_simp; (try with_reducible rfl)) ?_; simp only [List.set]
    refine tk0 ?_
    refine rn 9 rfl (by kernel_rfl) (by rfl) fun KK hKK => ?_
    go_simp; (have hT9 := hT7.set 6 (.int .i64 sp'); have hs9 := Chg.setCell hHeld ⟨tb, 6, none⟩ (.int .i64 sp') (by simp); simp at hT9); refine hKK.out _ _ (by assumption) fun hHeld => ?_; clear hKK KK; try simp only [Act.put, List.setIfInBounds_toArray, List.set]
    refine wpAnyH_done (by kernel_rfl) ?_ _
    skip
    have hY4 := HY3.out.chg hs9 (by have := HT2.out; simp; omega)
    have hV4 := Rd.keep HV3.out hs9 (fun hn k hk hx => by have := HVL.out hn k hk; simp at hx; omega)
    have hM4 := HM3.out.trans hs9 (fun x hx hl => by have := HT2.out; simp at hx; omega)
    clear hs7 hT7 c6 f6 c3 c4 f3 f4 hHeld hs9 hm
    generalize ((w6.setCell ⟨tb, 3, none⟩ (.int .i64 vx')).setCell ⟨tb, 4, none⟩ (.int .i64 vy')).setCell ⟨tb, 6, none⟩ (.int .i64 sp') = w9 at *
    have kB4 := hY4
    have HV4 := hd hV4
    have HM4 := hd hM4
    clear hV4 hM4
    go_wp2_with (first | (refine wpList_load_row rfl _ _ rfl tb rfl 97 _ (0, 0) _ hT9 Tryz.underlying97 rfl (by kernel_rfl) ?_) | (refine wpList_store_row rfl _ _ _ rfl kb #[.int .i64 Bi, .int .i64 Bx, .int .i64 By, .int .i64 vx', .int .i64 vy', .int .i64 Ba, .int .i64 sp', .int .i64 (1 + d35), .int .i64 Bk, .int .i64 Br, .slice ab Bp.length cb] rfl rfl 97 _ kB4 (by kernel_rfl) (by simp) (by simp [Value.oneCell']) ?_))
    have k5 : Blk (w9.setRow kb #[.int .i64 Bi, .int .i64 Bx, .int .i64 By, .int .i64 vx', .int .i64 vy', .int .i64 Ba, .int .i64 sp', .int .i64 (1 + d35), .int .i64 Bk, .int .i64 Br, .slice ab Bp.length cb]) kb #[.int .i64 Bi, .int .i64 Bx, .int .i64 By, .int .i64 vx', .int .i64 vy', .int .i64 Ba, .int .i64 sp', .int .i64 (1 + d35), .int .i64 Bk, .int .i64 Br, .slice ab Bp.length cb] 97 := kB4.row
    have hs5 := Chg.row (Chg.refl [kb] w9) kb #[.int .i64 Bi, .int .i64 Bx, .int .i64 By, .int .i64 vx', .int .i64 vy', .int .i64 Ba, .int .i64 sp', .int .i64 (1 + d35), .int .i64 Bk, .int .i64 Br, .slice ab Bp.length cb] (by simp)
    refine bodyPost_ret (results_cell_row rfl _ _ kb 97 _ (0, 0) _ rfl k5 Tryz.underlying97 rfl (by kernel_rfl)) rfl ⟨_, rfl, ?_, ?_, .inr (fun k' hk' => by have := HPO.out k' hk'; have := HNK.out; omega)⟩
    · exact Rd.keep HV4.out hs5 (fun _ k' hk' hx => by have := HPO.out k' hk'; have := HKS.out; simp at hx; omega)
    · exact HM4.out.trans hs5 (fun x hx hl => by have := HT2.out; simp at hx; omega)
end Go.Proofs.YtbiadpkglcdihaaGreat

/- law10.Order: orders of deeds. -/
namespace Go.Proofs.YtbiadpkglcdihaaGreat
open Go.RowKit

theorem Chg.lit {S : List Nat} {a W : World} (h : Chg S a W) (cs : Array Value) (t : TypeId) : Chg S a (W.alloc (.cells cs t)) ∧ Blk (W.alloc (.cells cs t)) W.heap.size cs t ∧ a.heap.size ≤ W.heap.size := ⟨h.alloc _, Blk.new _ _ _, h.size⟩
theorem Blk.lit {W : World} {b : Nat} {cs : Array Value} {t : TypeId} (h : Blk W b cs t) (o : Obj) : Blk (W.alloc o) b cs t ∧ b < W.heap.size := ⟨h.alloc o, h.lt⟩
theorem exec_load_row {P : Program} {o : Oper} {a : Act} {ty : TypeId} {x : Operand} {w : World} {g : Nat} {t : TypeId} {cs : Array Value} {d : TypeDesc} (ho : o.op = .load ty x) (hx : a.eval x = .pointer (some ⟨g, 0, none⟩)) (hg : Blk w g cs t)
    (hu : P.underlying ty = some d) (hd : (match d with | .struct _ | .array _ _ => true | _ => false) = true) (hi : (P.info? ty).map (·.size) = some cs.size) : (execOp a.eval o).run P w = .ok (.value (.agg cs)) w := by
  unfold execOp
  simp only [ho, hx, Instr.loadAt, Instr.sureAddr, Sem.run_bind, Sem.run_pure, Result.andThen_ok, run_loadVar_row w g t ty cs (0, 0) d hg hu hd hi]
end Go.Proofs.YtbiadpkglcdihaaGreat
