/- Words and walks that Codec rests on: CodecRB, CodecLaw, WorldM. -/
import Derived.Test.YtlicefbgcoddbaaWCodec27
import Derived.Test.YtlicefbgcoddbaaWCodec28
import Derived.Test.YtlicefbgcoddbaaWCodec18
/- codec.ReadBatch. -/
namespace Go.Proofs.Ytlicefbgcoddbaa
open Go.RowKit

def osR : Nat → St → Option (List Ord × St)
  | 0, s => some ([], s)
  | n + 1, s => if (orderR s).2.2 = true then none else (osR n (orderR s).2).map fun r => ((orderR s).1 :: r.1, r.2)
def readB (l : List UInt8) : Option (List Ord) :=
  (osR (countR 64 (l, false)).1.toNat (countR 64 (l, false)).2).bind fun r => if (!r.2.2 && r.2.1.isEmpty) = true then some r.1 else none
theorem osR_no (n : Nat) (s : St) (h : (orderR s).2.2 = true) : osR (n + 1) s = none := by simp only [osR, h, if_true]
theorem osR_go (n : Nat) (s : St) (h : (orderR s).2.2 = false) : osR (n + 1) s = (osR n (orderR s).2).map fun r => ((orderR s).1 :: r.1, r.2) := by simp only [osR, h, Bool.false_eq_true, if_false]
theorem rowO : RowT Try.prog 24 35 15 136 := RowT.mk (z := .agg #[.int .i64 0, .int .i64 0, .int .i64 0, .int .i64 0, .int .i64 0, .int .i64 0, .int .i64 0, .int .i64 0, .int .i64 0, .int .i64 0, .int .i64 0, .int .i64 0, .int .i64 0, .int .i64 0, .slice none 0 0]) (by kernel_rfl) (by kernel_rfl) rfl (by decide)
theorem countR_lo (m : Int) (hm : 0 ≤ m) (s : St) : 0 ≤ (countR m s).1 ∧ (countR m s).1 ≤ m := by
  unfold countR
  split
  · simp; omega
  · rename_i h
    refine ⟨?_, by omega⟩
    unfold numR
    split
    · simp
    · rename_i h2
      obtain ⟨l, bad⟩ := s
      match l with
      | [] => simp at h2
      | [a] => simp at h2
      | a :: c :: l =>
        have h1 := n8_lo c
        have h2 := n8_hi c
        have h3 := n8_lo a
        have h4 := n8_hi a
        simp only [List.take_succ_cons, List.take_zero, rdNum, rdB, wrap64]
        omega
/-- What stands while orders are read. -/
structure Red (w0 : World) (base b xb tb : Nat) (v : Value) (L : List OV) (cur : World) (st : St) : Prop where
  o : cur.ownsRow xb 35 15 v L.length (L.flatMap cOV)
  p : ∀ x ∈ L, VsS cur x.2 x.1.shape.p
  q : ∀ x ∈ L, 0 < x.1.shape.p.length → ∀ k, x.2.ownBlock = some k → v.ownBlock ≠ some k ∧ xb ≤ k
  r : RdB base cur b st
  x : Blk cur tb #[.pointer (some ⟨b, 0, none⟩)] 73
  c : Chg [] w0 cur
theorem cOV_one (x : OV) (h : x.2.oneCell' = true) : ∀ v ∈ cOV x, v.oneCell' = true := by
  intro v hv
  simp only [cOV, cO, List.mem_cons, List.not_mem_nil, or_false] at hv
  rcases hv with rfl | rfl | rfl | rfl | rfl | rfl | rfl | rfl | rfl | rfl | rfl | rfl | rfl | rfl | rfl <;> first | rfl | exact h
theorem Red.step {w0 : World} {base b xb tb : Nat} {v : Value} {L : List OV} {cur cur' : World} {st st' : St} (h : Red w0 base b xb tb v L cur st) (hm : Chg [b] cur cur') (hr : RdB base cur' b st') (hlo : w0.heap.size ≤ b ∧ b < tb ∧ tb < xb ∧ base ≤ tb) : Red w0 base b xb tb v L cur' st' :=
  ⟨ownsRow_chg h.o hm (fun k hk => by have := (World.ownsRow.lt h.o k hk).1; simp; omega), fun x hx => Rd.keep (h.p x hx) hm (fun hn k hk => by have := (h.q x hx hn k hk).2; simp; omega), h.q, hr, h.x.chg hm (by simp; omega), h.c.trans hm (fun x hx hl => by simp at hx; omega)⟩
theorem Red.k {w0 : World} {base b xb tb : Nat} {v : Value} {L : List OV} {cur cur' : World} {st : St} (h : Red w0 base b xb tb v L cur st) (hm : Chg [] cur cur') : Red w0 base b xb tb v L cur' st :=
  ⟨ownsRow_k h.o hm, fun x hx => (h.p x hx).k hm, h.q, h.r.k hm, h.x.k hm, h.c.k' hm⟩
theorem Red.app {w0 : World} {base b xb tb : Nat} {v u : Value} {L : List OV} {cur w6 : World} {st : St} {y : OV} (h : Red w0 base b xb tb v L cur st) (hy : VsS cur y.2 y.1.shape.p) (hyq : ∀ k, y.2.ownBlock = some k → v.ownBlock ≠ some k ∧ xb ≤ k)
    (hg : cur.grownBy w6 v.ownBlock) (hmv : Moved cur v u) (hr : w6.ownsRow xb 35 15 u (L.length + 1) (L.flatMap cOV ++ cOV y)) (hlo : w0.heap.size ≤ b ∧ b < tb ∧ tb < xb ∧ base ≤ tb) :
    Red w0 base b xb tb u (L ++ [y]) w6 st := by
  have hc : Chg v.ownBlock.toList cur w6 := (Chg.refl v.ownBlock.toList cur).grown hg (fun k hk _ => by simp [hk])
  have keep : ∀ x : OV, VsS cur x.2 x.1.shape.p → (0 < x.1.shape.p.length → ∀ k, x.2.ownBlock = some k → v.ownBlock ≠ some k) → VsS w6 x.2 x.1.shape.p := fun x hx hq => Rd.keep hx hc (fun hn k hk hmem => hq hn k hk (by simpa using hmem))
  have apart : ∀ x : OV, VsS cur x.2 x.1.shape.p → (0 < x.1.shape.p.length → ∀ k, x.2.ownBlock = some k → v.ownBlock ≠ some k) → (0 < x.1.shape.p.length → ∀ k, x.2.ownBlock = some k → u.ownBlock ≠ some k) := fun x hx hq hn k hk he => by
    rcases hmv with e | e
    · exact hq hn k hk (e ▸ he)
    · have := e k he; have := hx.own hn k hk; omega
  refine ⟨?_, ?_, ?_, ?_, ?_, ?_⟩
  · rw [List.length_append, List.flatMap_append]
    simpa using hr
  · intro x hx
    rcases List.mem_append.mp hx with hx | hx
    · exact keep x (h.p x hx) (fun hn k hk => (h.q x hx hn k hk).1)
    · rw [List.mem_singleton] at hx; subst hx
      exact keep x hy (fun _ k hk => (hyq k hk).1)
  · intro x hx hn k hk
    rcases List.mem_append.mp hx with hx | hx
    · exact ⟨apart x (h.p x hx) (fun hn k hk => (h.q x hx hn k hk).1) hn k hk, (h.q x hx hn k hk).2⟩
    · rw [List.mem_singleton] at hx; subst hx
      exact ⟨apart x hy (fun _ k hk => (hyq k hk).1) hn k hk, (hyq k hk).2⟩
  · exact h.r.keep hc (fun k hk => by have := (World.ownsRow.lt h.o k (by simpa using hk)).1; omega)
  · exact h.x.grown hg (fun e => by have := (World.ownsRow.lt h.o tb e).1; omega)
  · exact h.c.grown hg (fun k hk hl => by have := (World.ownsRow.lt h.o k hk).1; omega)

def RBout (w : World) (l : List UInt8) (e : Ending) (w' : World) : Prop :=
  (readB l = none ∧ e = .returned (.tuple #[.slice none 0 0, .int .i64 1])) ∨ (∃ L v, readB l = some (L.map (·.1)) ∧ L.length ≤ 64 ∧ e = .returned (.tuple #[v, .int .i64 0]) ∧ OsS w' v L ∧ ∀ x ∈ L, ∀ k, 0 < x.1.shape.p.length → x.2.ownBlock = some k → w.heap.size ≤ k)
set_option maxRecDepth 100000 in
set_option maxHeartbeats 8000000 in
theorem ReadBatch_any (w : World) (v : Value) (l : List UInt8) (hv : Bs w v l) :
    Calls Try.prog 7 #[v] w fun e w' => RBout w l e w' ∧ Chg [] w w' := by
  obtain ⟨P, hP⟩ : ∃ P : Ending → World → Prop, P = fun e w' => RBout w l e w' ∧ Chg [] w w' := ⟨_, rfl⟩
  rw [← hP]
  have HP := hd hP
  clear hP
  have hlo := countR_lo 64 (by decide) (l, false)
  obtain ⟨n, hn⟩ := Int.eq_ofNat_of_zero_le hlo.1
  have hn64 : n ≤ 64 := by omega
  have HN := hd hn
  have hc3 := fun W (h : RdB (w.heap.size + 1) W w.heap.size (l, false)) => CountB_any 64 (w.heap.size + 1) w.heap.size (l, false) W h
  obtain ⟨s0, hs0⟩ : ∃ s0, s0 = (countR 64 (l, false)).2 := ⟨_, rfl⟩
  rw [← hs0, hn] at hc3
  have HS0 := hd hs0
  clear hn hs0 hlo
  obtain ⟨ao, cap, b0, off, rfl, -⟩ := hv.open
  go_enter Try.func7, Try.ntmps7
  go_upto_region 3 with (go_at_call 20; refine (NewB_any _ l _ hv).mono ?_; rintro e w1 ⟨rfl, hr1, hm1⟩)
  have hcC := (Chg.refl [] w1).alloc (.cells #[.pointer (some ⟨w.heap.size, 0, none⟩)] 73)
  have kC := Blk.new w1 #[.pointer (some ⟨w.heap.size, 0, none⟩)] 73
  have hr2 := hr1.k hcC
  have hM2 := hm1.k' hcC
  have hT : w.heap.size + 1 ≤ w1.heap.size := hr1.down.lt
  have hc3 := hc3 _ hr2
  generalize w1.alloc (.cells #[.pointer (some ⟨w.heap.size, 0, none⟩)] 73) = w2 at *
  obtain ⟨b, hb⟩ : ∃ b, b = w.heap.size := ⟨_, rfl⟩
  obtain ⟨tb, htb⟩ : ∃ tb, tb = w1.heap.size := ⟨_, rfl⟩
  rw [← htb] at kC hT ⊢
  rw [← hb] at kC hT hr2 hc3 ⊢
  have HT : Hd (w.heap.size ≤ b ∧ b < tb ∧ tb < tb + 1 ∧ b + 1 ≤ tb) := hd ⟨by omega, by omega, by omega, hT⟩
  have a0 := kC.cell 0
  simp at a0
  clear hr1 hm1 hcC hT hb htb hv
  go_wp2_with (first | (go_at_call 21; refine hc3.mono ?_; rintro e w3 ⟨rfl, hr3, hm3⟩))
  have hred : Red w (b + 1) b (tb + 1) tb (.slice none 0 0) [] w3 s0 := ⟨World.ownsRow_nil _ _ _ _, by simp, by simp, hr3, kC.chg hm3 (by have := HT.out; simp; omega), hM2.trans hm3 (fun x hx hl => by have := HT.out; simp at hx; omega)⟩
  have HF : Hd (osR (countR 64 (l, false)).1.toNat (countR 64 (l, false)).2 = (osR n s0).map fun r => ([] ++ r.1, r.2)) := hd (by rw [HN.out, ← HS0.out]; simp)
  clear hr3 hm3 hr2 hM2 kC hc3 a0
  go_loopw [5, 12] (fun u i wr => ∃ (j : Nat) (A : List OV) (v : Value) (st : St), v = u ∧ j ≤ n ∧ A.length = j ∧ i = .int .i64 j ∧ osR (countR 64 (l, false)).1.toNat (countR 64 (l, false)).2 = (osR (n - j) st).map (fun r => (A.map (·.1) ++ r.1, r.2)) ∧ Red w (b + 1) b (tb + 1) tb v A wr st)
    (fun _ i _ => n - (intOf i).toNat)
  case atStart => exact ⟨0, [], _, s0, rfl, by omega, rfl, rfl, HF.out, hred⟩
  case round =>
    clear hred HF
    obtain ⟨j, A, v, st, rfl, hj, rfl, rfl, hf, hcor⟩ := hrel
    have a0 := hcor.x.cell 0
    simp at a0
    obtain ⟨ao, c, rfl⟩ : ∃ ao c, v = .slice ao A.length c := by
      rcases hcor.o.2 with ⟨rfl, hz⟩ | ⟨g, cap, cur, rfl, _⟩
      · exact ⟨none, 0, by rw [hz]⟩
      · exact ⟨_, cap, rfl⟩
    by_cases hlt : A.length < n
    · obtain ⟨m, hm⟩ : ∃ m, n - A.length = m + 1 := ⟨n - A.length - 1, by omega⟩
      rw [hm] at hf
      have HM := hd hm
      clear hm
      have hcO := fun W (h : RdB (b + 1) W b st) (hb : b + 1 ≤ W.heap.size) => ROrder_any (b + 1) b st W h hb
      have HF0 := hd hf
      clear hf
      have HC := hd hcor
      have hbs : b + 1 ≤ wr.heap.size := by have := HT.out; have := hcor.x.lt; omega
      obtain ⟨o1, st1, ho⟩ : ∃ o1 st1, orderR st = (o1, st1) := ⟨_, _, rfl⟩
      rw [ho] at hcO
      have HO := hd ho
      clear ho
      obtain ⟨k, i, a, b1, ⟨px, py⟩, ⟨vx, vy⟩, an, sp, de, ln, ⟨sk, sr, p⟩⟩ := o1
      unfold vO at hcO
      simp only at hcO
      have hcO := hcO _ hcor.r hbs
      clear hcor
      go_upto_region 6 with (first | (go_at_call 22; refine hcO.mono ?_; rintro e w4 ⟨pv, rfl, hpv, hpo, hr4, hm4⟩; obtain ⟨aop, cp, rfl, -⟩ := hpv.form; have hB := (HC.out.step hm4 hr4 HT.out).k ((Chg.refl [] w4).alloc (.cells #[.int .i64 k, .int .i64 i, .int .i64 a, .int .i64 b1, .int .i64 px, .int .i64 py, .int .i64 vx, .int .i64 vy, .int .i64 an, .int .i64 sp, .int .i64 de, .int .i64 ln, .int .i64 sk, .int .i64 sr, .slice aop p.length cp] 35)); have hLit := Rd.lit w4 15 1 (cOV (⟨k, i, a, b1, (px, py), (vx, vy), an, sp, de, ln, ⟨sk, sr, p⟩⟩, .slice aop p.length cp)) #[.int .i64 k, .int .i64 i, .int .i64 a, .int .i64 b1, .int .i64 px, .int .i64 py, .int .i64 vx, .int .i64 vy, .int .i64 an, .int .i64 sp, .int .i64 de, .int .i64 ln, .int .i64 sk, .int .i64 sr, .slice aop p.length cp] 35 rfl rfl (by decide)) | (at_builtin; refine wpApp rowO rfl _ _ rfl (tb + 1) (.slice ao A.length c) A.length (A.flatMap cOV) rfl hB.o _ 1 (cOV (⟨k, i, a, b1, (px, py), (vx, vy), an, sp, de, ln, ⟨sk, sr, p⟩⟩, .slice aop p.length cp)) rfl hLit (cOV_one _ rfl) (by omega) (by omega) (by have := hB.x.lt; omega) ?_; intro ao6 c6 w6 hr6 hg6 hmv6 hno6))
      have hR := hB.app (y := (⟨k, i, a, b1, (px, py), (vx, vy), an, sp, de, ln, ⟨sk, sr, p⟩⟩, .slice aop p.length cp)) (hpv.k ((Chg.refl [] w4).alloc _)) (fun k' hk => ⟨fun he => by have := hpo k' hk; have := (World.ownsRow.lt HC.out.o k' he).2; omega, by have := hpo k' hk; have := HC.out.x.lt; omega⟩) hg6 hmv6 hr6 HT.out
      clear hno6 hmv6 hg6 hr6 hB hLit hpv hpo hr4 hm4 hcO hbs HC a0
      have a0 := hR.x.cell 0
      simp at a0
      cases hb : st1.2 with
      | true =>
        have HBAD := hd hb
        clear hb
        have HR := hd hR
        clear hR
        go_wp2_with (first | (go_at_call 23; refine (BadB_any (b + 1) b st1 _ HR.out.r).mono ?_; rintro e w5 ⟨rfl, rfl⟩; rw [HBAD.out]))
        rw [HP.out]
        refine ⟨.inl ⟨?_, rfl⟩, HR.out.c⟩
        unfold readB
        rw [HF0.out, osR_no _ _ (by rw [HO.out]; exact HBAD.out)]
        rfl
      | false =>
        have HBAD := hd hb
        clear hb
        have HR := hd hR
        clear hR
        go_wp2_with (first | (go_at_call 23; refine (BadB_any (b + 1) b st1 _ HR.out.r).mono ?_; rintro e w5 ⟨rfl, rfl⟩; rw [HBAD.out]))
        go_roundw
        case rel => exact ⟨A.length + 1, A ++ [(⟨k, i, a, b1, (px, py), (vx, vy), an, sp, de, ln, ⟨sk, sr, p⟩⟩, .slice aop p.length cp)], _, st1, rfl, by omega, by simp, by go_num, by rw [show n - (A.length + 1) = m by have := HM.out; omega, HF0.out, osR_go _ _ (by rw [HO.out]; exact HBAD.out), HO.out]; simp [Option.map_map, Function.comp_def], HR.out⟩
        case measure => simp [intOf]; omega
    · have hjn : n - A.length = 0 := by omega
      rw [hjn] at hf
      have HF0 := hd hf
      have HR := hd hcor
      clear hf hcor
      cases hdn : (!st.2 && st.1.isEmpty) with
      | false =>
        have HD := hd hdn
        clear hdn
        go_wp2_with (first | (go_at_call 24; refine (DoneB_any (b + 1) b st _ HR.out.r).mono ?_; rintro e w5 ⟨rfl, rfl⟩; rw [HD.out]))
        rw [HP.out]
        refine ⟨.inl ⟨?_, rfl⟩, HR.out.c⟩
        unfold readB
        rw [HF0.out]
        have hDD := HD.out
        simp only [osR, Option.map_some, Option.bind_some]
        rw [hDD]
        simp
      | true =>
        have HD := hd hdn
        clear hdn
        go_wp2_with (first | (go_at_call 24; refine (DoneB_any (b + 1) b st _ HR.out.r).mono ?_; rintro e w5 ⟨rfl, rfl⟩; rw [HD.out]))
        rw [HP.out]
        refine ⟨.inr ⟨A, _, ?_, by omega, rfl, ⟨Rd.ofOwn HR.out.o, HR.out.p⟩, fun x hx k' hn hk => by have := (HR.out.q x hx hn k' hk).2; have := HT.out; omega⟩, HR.out.c⟩
        unfold readB
        rw [HF0.out]
        have hDD := HD.out
        simp only [osR, Option.map_some, Option.bind_some]
        rw [hDD]
        simp
end Go.Proofs.Ytlicefbgcoddbaa

/- Batches: what is read is what is written: plain laws. -/
namespace Go.Proofs.Ytlicefbgcoddbaa
open Go.RowKit

theorem orderR_IO (s : St) : IO (orderR s).1 := orderR0_IO s
theorem osR_back (n : Nat) (s : St) (l : List Ord) (t : St) (h : osR n s = some (l, t)) (ht : t.2 = false) :
    s.2 = false ∧ l.length = n ∧ (∀ o ∈ l, rightO o = true ∧ IO o) ∧ s.1 = l.flatMap leO ++ t.1 := by
  induction n generalizing s l with
  | zero =>
    simp only [osR, Option.some.injEq, Prod.mk.injEq] at h
    obtain ⟨rfl, rfl⟩ := h
    exact ⟨ht, rfl, by simp, by simp⟩
  | succ n ih =>
    cases hb : (orderR s).2.2 with
    | true => rw [osR_no _ _ hb] at h; cases h
    | false =>
      rw [osR_go _ _ hb] at h
      cases hr : osR n (orderR s).2 with
      | none => rw [hr] at h; cases h
      | some r =>
        rw [hr] at h
        simp only [Option.map_some, Option.some.injEq, Prod.mk.injEq] at h
        obtain ⟨rfl, h2⟩ := h
        obtain ⟨l', t'⟩ := r
        simp only at h2
        subst h2
        obtain ⟨h3, h4, h5, h6⟩ := ih _ _ hr
        obtain ⟨g1, g2, g3⟩ := orderR_back s hb
        refine ⟨g1, by simp [h4], ?_, ?_⟩
        · intro o ho
          rcases List.mem_cons.mp ho with rfl | ho
          · exact ⟨g2, orderR_IO s⟩
          · exact h5 o ho
        · rw [g3, h6]; simp
theorem countR_back (m : Int) (s : St) (h : (countR m s).2.2 = false) : s.2 = false ∧ (countR m s).1 ≤ m ∧ s.1 = leB 2 (countR m s).1 ++ (countR m s).2.1 := by
  unfold countR at h ⊢
  by_cases hm : (numR 2 s).1 > m
  · rw [if_pos hm] at h; simp [failS] at h
  · rw [if_neg hm] at h ⊢
    obtain ⟨h1, h2⟩ := numR_back 2 (by decide) s h
    exact ⟨h1, by omega, h2⟩
theorem readB_back (l : List UInt8) (os : List Ord) (h : readB l = some os) : l = leBatch os ∧ os.length ≤ 64 ∧ ∀ o ∈ os, rightO o = true ∧ IO o := by
  unfold readB at h
  have hlo := countR_lo 64 (by decide) (l, false)
  have hbk := countR_back 64 (l, false)
  generalize countR 64 (l, false) = c at *
  cases hr : osR c.1.toNat c.2 with
  | none => rw [hr] at h; cases h
  | some r =>
    rw [hr] at h
    obtain ⟨os', t⟩ := r
    simp only [Option.bind_some] at h
    split at h
    · rename_i hd
      simp only [Option.some.injEq] at h
      subst h
      simp only [Bool.and_eq_true, Bool.not_eq_true', List.isEmpty_iff] at hd
      obtain ⟨h1, h2, h3, h4⟩ := osR_back _ _ _ _ hr hd.1
      obtain ⟨g1, g2, g3⟩ := hbk h1
      simp only at g3
      refine ⟨?_, by omega, h3⟩
      rw [g3, h4, hd.2, List.append_nil]
      unfold leBatch
      rw [h2, Int.toNat_of_nonneg hlo.1]
    · cases h
theorem rightO_p (o : Ord) (h : rightO o = true) : o.shape.p.length ≤ 8 := by
  unfold rightO at h
  rw [Bool.and_eq_true] at h
  obtain ⟨h1, h2⟩ := h
  unfold sameO sameS at h1
  simp only [Bool.and_eq_true, decide_eq_true_eq] at h1
  have hp := h1.1.1.1.1.1.1.1.1.1.1.2
  by_cases k1 : o.kind = 1
  · unfold kindO at h2
    rw [if_pos k1] at h2
    unfold rightB at h2
    simp only [Bool.and_eq_true] at h2
    have hs : rightS o.shape = true := h2.1.1.1.1.1.1.1.1
    unfold rightS at hs
    split at hs
    · simp only [Bool.and_eq_true, decide_eq_true_eq] at hs
      omega
    · split at hs
      · cases hs
      · rename_i h3
        simp only [not_or] at h3
        omega
  · rw [hp]
    unfold usedO
    rw [if_neg k1]
    repeat' split
    all_goals simp [noS]
end Go.Proofs.Ytlicefbgcoddbaa

/- Worlds as plain data, and what a value reads as. -/
namespace Go.Proofs.Ytlicefbgcoddbaa
open Go.RowKit

structure Cnt where
  a : Int
  b : Int
  key : Int
  n : Int
  t : Int
structure Wld where
  tick : Int
  nb : Int
  nj : Int
  grav : V2
  bodies : List Bdy
  joints : List Jnt
  contacts : List Cnt
abbrev BV := Bdy × Value
def cBV (x : BV) : List Value := [.int .i64 x.1.id, .int .i64 x.1.pos.1, .int .i64 x.1.pos.2, .int .i64 x.1.vel.1, .int .i64 x.1.vel.2, .int .i64 x.1.angle, .int .i64 x.1.spin, .int .i64 x.1.density, .int .i64 x.1.shape.kind, .int .i64 x.1.shape.r, x.2]
def cJt (j : Jnt) : List Value := [.int .i64 j.id, .int .i64 j.a, .int .i64 j.b, .int .i64 j.at_.1, .int .i64 j.at_.2, .int .i64 j.to_.1, .int .i64 j.to_.2, .int .i64 j.len]
def cCt (c : Cnt) : List Value := [.int .i64 c.a, .int .i64 c.b, .int .i64 c.key, .int .i64 c.n, .int .i64 c.t]
def vC (c : Cnt) : Value := .agg #[.int .i64 c.a, .int .i64 c.b, .int .i64 c.key, .int .i64 c.n, .int .i64 c.t]
theorem cBV_len (x : BV) : (cBV x).length = 11 := rfl
theorem cJt_len (x : Jnt) : (cJt x).length = 8 := rfl
theorem cCt_len (x : Cnt) : (cCt x).length = 5 := rfl
theorem cJt_one (x : Jnt) : ∀ v ∈ cJt x, v.oneCell' = true := by
  intro v hv
  simp only [cJt, List.mem_cons, List.not_mem_nil, or_false] at hv
  rcases hv with rfl | rfl | rfl | rfl | rfl | rfl | rfl | rfl <;> rfl
theorem cCt_one (x : Cnt) : ∀ v ∈ cCt x, v.oneCell' = true := by
  intro v hv
  simp only [cCt, List.mem_cons, List.not_mem_nil, or_false] at hv
  rcases hv with rfl | rfl | rfl | rfl | rfl <;> rfl
theorem cBV_one (x : BV) (h : x.2.oneCell' = true) : ∀ v ∈ cBV x, v.oneCell' = true := by
  intro v hv
  simp only [cBV, List.mem_cons, List.not_mem_nil, or_false] at hv
  rcases hv with rfl | rfl | rfl | rfl | rfl | rfl | rfl | rfl | rfl | rfl | rfl <;> first | rfl | exact h
/-- A row of records: its value, and a cell of it. -/
theorem Rd.form {α : Type} {enc : α → List Value} {size : Nat} (hs : 0 < size) {w : World} {v : Value} {l : List α} (h : Rd w size v l.length (l.flatMap enc)) :
    ∃ ao c, v = .slice ao l.length c ∧ l.length ≤ 9223372036854775807 ∧ (0 < l.length → ∃ b off, ao = some ⟨b, off, none⟩ ∧ b < w.heap.size) := by
  have hlt := fun hn => Rd.lt h hn hs
  obtain ⟨_, ao, cap, b, off, rfl, h2, h3, -, h5, -⟩ := h
  refine ⟨ao, cap, rfl, by have : maxLen = 9223372036854775807 := rfl; omega, fun hp => ⟨b, off, h5 hp, ?_⟩⟩
  have := hlt hp
  rw [h5 hp] at this
  exact this b rfl
theorem Rd.cellAt {α : Type} {enc : α → List Value} {size : Nat} (henc : ∀ x, (enc x).length = size) {w : World} {b off n c : Nat} {l : List α} (h : Rd w size (.slice (some ⟨b, off, none⟩) n c) l.length (l.flatMap enc)) (i : Nat) (hi : i < l.length) (j : Nat) (hj : j < size) :
    w.cell? ⟨b, off + i * size + j, none⟩ = some ((enc l[i])[j]'(by rw [henc]; exact hj)) := by
  obtain ⟨h0, ao, cap, b', off', he, h2, h3, h4, h5, h6⟩ := h
  have h5 := h5 (by omega)
  simp only [Value.slice.injEq] at he
  obtain ⟨rfl, -, -⟩ := he
  simp only [Option.some.injEq, Addr.mk.injEq, and_true] at h5
  obtain ⟨rfl, rfl⟩ := h5
  have g := flat_get enc size henc l i j hi hj
  rw [List.getElem?_eq_getElem (l := enc l[i]) (by rw [henc]; exact hj)] at g
  have := h6 (i * size + j) _ g
  rwa [← Nat.add_assoc] at this
structure BsS (w : World) (v : Value) (l : List BV) : Prop where
  rd : Rd w 11 v l.length (l.flatMap cBV)
  ps : ∀ x ∈ l, VsS w x.2 x.1.shape.p
theorem BsS.k {w w' : World} {v : Value} {l : List BV} (h : BsS w v l) (hc : Chg [] w w') : BsS w' v l := ⟨Rd.keep h.rd hc (by simp), fun x hx => (h.ps x hx).k hc⟩
def JsS (w : World) (v : Value) (l : List Jnt) : Prop := Rd w 8 v l.length (l.flatMap cJt)
def CsS (w : World) (v : Value) (l : List Cnt) : Prop := Rd w 5 v l.length (l.flatMap cCt)
theorem JsS.k {w w' : World} {v : Value} {l : List Jnt} (h : JsS w v l) (hc : Chg [] w w') : JsS w' v l := Rd.keep h hc (by simp)
theorem CsS.k {w w' : World} {v : Value} {l : List Cnt} (h : CsS w v l) (hc : Chg [] w w') : CsS w' v l := Rd.keep h hc (by simp)
def vW (W : Wld) (bv jv kv : Value) : Value := .agg #[.int .i64 W.tick, .int .i64 W.nb, .int .i64 W.nj, .int .i64 W.grav.1, .int .i64 W.grav.2, bv, jv, kv]
/-- The parts of a world's value. -/
structure WlP (w : World) (bv jv kv : Value) (L : List BV) (W : Wld) : Prop where
  b : BsS w bv L
  l : L.map (·.1) = W.bodies
  j : JsS w jv W.joints
  c : CsS w kv W.contacts
theorem WlP.k {w w' : World} {bv jv kv : Value} {L : List BV} {W : Wld} (h : WlP w bv jv kv L W) (hc : Chg [] w w') : WlP w' bv jv kv L W := ⟨h.b.k hc, h.l, h.j.k hc, h.c.k hc⟩
/-- A value reads as a world. -/
def WlS (w : World) (x : Value) (W : Wld) : Prop := ∃ bv jv kv L, x = vW W bv jv kv ∧ WlP w bv jv kv L W
theorem WlS.k {w w' : World} {x : Value} {W : Wld} (h : WlS w x W) (hc : Chg [] w w') : WlS w' x W := let ⟨bv, jv, kv, L, e, hp⟩ := h; ⟨bv, jv, kv, L, e, hp.k hc⟩
def leBd (b : Bdy) : List UInt8 := leB 8 b.id ++ leF (fV [b.pos, b.vel]) ++ leF [b.angle, b.spin, b.density] ++ leS b.shape
def leJt (j : Jnt) : List UInt8 := leB 8 j.id ++ leB 8 j.a ++ leB 8 j.b ++ leF (fV [j.at_, j.to_]) ++ leF [j.len]
def leCt (c : Cnt) : List UInt8 := leB 8 c.a ++ leB 8 c.b ++ leB 8 c.key ++ leF [c.n, c.t]
def leW0 (W : Wld) : List UInt8 := leB 8 W.tick ++ leB 8 W.nb ++ leB 8 W.nj ++ leF (fV [W.grav])
def leW1 (W : Wld) : List UInt8 := leW0 W ++ leB 2 W.bodies.length
def leW2 (W : Wld) : List UInt8 := leW1 W ++ W.bodies.flatMap leBd ++ leB 2 W.joints.length
def leW3 (W : Wld) : List UInt8 := leW2 W ++ W.joints.flatMap leJt ++ leB 4 W.contacts.length
def leW (W : Wld) : List UInt8 := leW3 W ++ W.contacts.flatMap leCt
theorem fm_snoc {α : Type} (f : α → List UInt8) (l : List α) (k : Nat) (h : k < l.length) : (l.take (k + 1)).flatMap f = (l.take k).flatMap f ++ f l[k] := by
  rw [List.take_succ_eq_append_getElem h, List.flatMap_append]; simp
theorem fm_le {α : Type} (f : α → List UInt8) (l : List α) (k : Nat) : ((l.take k).flatMap f).length ≤ (l.flatMap f).length := by
  conv => rhs; rw [← List.take_append_drop k l, List.flatMap_append, List.length_append]
  omega
theorem fm_room {α : Type} (f : α → List UInt8) (l : List α) (k : Nat) (h : k < l.length) : ((l.take k).flatMap f).length + (f l[k]).length ≤ (l.flatMap f).length := by
  have := fm_le f l (k + 1)
  rw [fm_snoc f l k h, List.length_append] at this
  exact this
end Go.Proofs.Ytlicefbgcoddbaa
