/- Words and walks that JournalRemoves rests on, part 7. -/
import Derived.Test.YtpoohpmcopjklaaWJournalRemoves6
import Derived.Test.YtpoohpmcopjklaaWJournalRemoves2
/- Disk.Crash. -/
namespace Go.Proofs.Ytpoohpmcopjklaa
open Go.RowKit

variable {w : World} {fp : List Nat} {b : Nat} {fv cv : Value} {nb sb : Nat} {hs : List HF} {d : Dsk}

/-- xs[:q] of a row of the call's own. -/
theorem run_cutOwn {P : Program} {t e : TypeId} {size bytes : Nat} (hT : RowT P t e size bytes) {w : World} {base n cap q : Nat} {ao : Option Addr} {xs : List Value} (h : w.ownsRow base e size (.slice ao n cap) n xs) {hi : Option Value} (hhi : Bound hi q n) (hq : q ≤ n) :
    (∀ W, (Instr.sliceAt t (.slice ao n cap) none hi none).run P W = .ok (.slice ao q cap) W) ∧ w.ownsRow base e size (.slice ao q cap) q (xs.take (q * size)) := by
  have hv := Rd.ofOwn h
  obtain ⟨i, z, ht, hi', hz, rfl, rfl, hzs, hsz⟩ := hT
  have hadd : ∀ a : Addr, a.add 0 = a := by intro a; unfold Addr.add; simp
  rcases h.2 with ⟨he, h0⟩ | ⟨g, cap', cur, he, hb, hg, hnc, hcm, hcs, htake⟩
  · simp only [Value.slice.injEq] at he
    obtain ⟨rfl, rfl, rfl⟩ := he
    obtain rfl : q = 0 := by omega
    refine ⟨fun W => ?_, by simp, .inl ⟨rfl, rfl⟩⟩
    have hbd : (Instr.sliceBounds true 0 0 none hi none).run P W = .ok (0, 0, 0) W := by
      have e1 : ∀ (k : IntKind) (code : BoundsCode), (Instr.sliceBound (.int k 0) 0 code).run P W = .ok 0 W := by
        intro k code; simp [Instr.sliceBound, asIntOf, go_sem]
      rcases hhi with ⟨rfl, _⟩ | ⟨k', rfl⟩ <;> simp [Instr.sliceBounds, e1, go_sem]
    simp [Instr.sliceAt, Instr.slice, run_underlying ht, sizeOf, typeInfo, hi', hbd]
  · simp only [Value.slice.injEq] at he
    obtain ⟨rfl, -, rfl⟩ := he
    refine ⟨fun W => ?_, ?_, .inr ⟨g, cap, cur, rfl, hb, hg, by omega, hcm, hcs, ?_⟩⟩
    · have hbd : (Instr.sliceBounds true n cap none hi none).run P W = .ok (0, q, cap) W := by
        have e1 : ∀ (k : IntKind) (code : BoundsCode), (Instr.sliceBound (.int k (q : Int)) cap code).run P W = .ok q W := by
          intro k code; simp [Instr.sliceBound, asIntOf, show (q : Int) ≤ (cap : Int) by omega, go_sem]
        rcases hhi with ⟨rfl, rfl⟩ | ⟨k', rfl⟩ <;> simp [Instr.sliceBounds, e1, go_sem] <;> (intro h; omega)
      simp [Instr.sliceAt, Instr.slice, run_underlying ht, sizeOf, typeInfo, hi', hbd, hadd]
    · rw [List.length_take, h.1]; exact Nat.min_eq_left (Nat.mul_le_mul_right _ hq)
    · rw [← htake, List.take_take, Nat.min_eq_left (Nat.mul_le_mul_right _ hq)]
theorem DkP.shrink {fp' : List Nat} (h : DkP w fp' b fv cv nb sb hs d) (hsub : ∀ k ∈ fp', k ∈ fp) (hl : ∀ k ∈ fp, k < w.heap.size) : DkP w fp b fv cv nb sb hs d :=
  { h with
    fpb := hsub _ h.fpb
    fpn := hsub _ h.fpn
    fps := hsub _ h.fps
    fpf := fun k hk => hsub _ (h.fpf k hk)
    fpc := fun k hk => hsub _ (h.fpc k hk)
    fph := fun f hf k hk => hsub _ (h.fph f hf k hk)
    fpl := hl }
/-- The names lie in a new map. -/
theorem DkP.newNames (h : DkP w fp b fv cv nb sb hs d) {nb' : Nat} {es : Nm} (hm : MapAt w nb' es) (hne : nb' ≠ sb) (hg : GoodD { d with names := es }) :
    DkP (w.setCell ⟨b, 2, none⟩ (.map (some nb'))) (nb' :: fp) b fv cv nb' sb hs { d with names := es } := by
  have hc : Chg [b] w (w.setCell ⟨b, 2, none⟩ (.map (some nb'))) := (Chg.refl _ _).setCell _ _ (by simp)
  exact
  { box := h.box.set 2 _
    names := hm.chg hc (by simpa using hm.apart h.box)
    sure := h.sure.chg hc (by simpa using h.sure.apart h.box)
    files := ownsRow_chg h.files hc fun k hk => by have := ownsRow_apart h.files h.box (by decide); rw [hk] at this; simpa using this
    same := h.same
    changes := ownsRow_chg h.changes hc fun k hk => by have := ownsRow_apart h.changes h.box (by decide); rw [hk] at this; simpa using this
    bytes := fun f hf => OwB.chg (h.bytes f hf) hc fun k hk => by have := ownsRow_apart (h.bytes f hf) h.box (by decide); rw [hk] at this; simpa using this
    apart := h.apart
    ne := hne
    fpb := by simp [h.fpb]
    fpn := by simp
    fps := by simp [h.fps]
    fpf := fun k hk => by simp [h.fpf k hk]
    fpc := fun k hk => by simp [h.fpc k hk]
    fph := fun f hf k hk => by simp [h.fph f hf k hk]
    fpl := fun k hk => by
      rw [size_set]
      rcases List.mem_cons.1 hk with rfl | hk
      · exact hm.lt
      · exact h.fpl k hk
    good := hg }

theorem Chg.k' {S : List Nat} {a b c : World} (h : Chg S a b) (hc : Chg [] b c) : Chg S a c := h.trans hc (by simp)
theorem undInts : Try.prog.underlying 53 = some (.slice 3) := by kernel_rfl
theorem elemInt : Try.prog.elem 53 = 3 := by kernel_rfl
theorem run_cutI {w : World} {v : Value} {l : List Int} (hv : Fs w v l) {lo hi : Option Value} {p q : Nat} (hlo : Bound lo p 0) (hhi : Bound hi q l.length) (hpq : p ≤ q) (hq : q ≤ l.length) :
    ∃ ao c, (∀ W, (Instr.slice 53 v lo hi none).run Try.prog W = .ok (.slice ao (q - p) c) W) ∧ Fs w (.slice ao (q - p) c) ((l.drop p).take (q - p)) ∧
      (∀ k, (Value.slice ao (q - p) c).ownBlock = some k → v.ownBlock = some k) := by
  obtain ⟨ao, c, h1, h2, h3⟩ := run_cut rowInt hv hlo hhi hpq hq
  refine ⟨ao, c, fun W => ?_, ?_, h3⟩
  · rw [← run_sliceAt_slice (P := Try.prog) W 53 v lo hi none (by rw [elemInt]; exact undInts)]
    exact h1 W
  · have e : ((l.drop p).take (q - p)).length = q - p := by rw [List.length_take, List.length_drop]; omega
    unfold Fs; rw [e]; simpa [List.map_take, List.map_drop] using h2
theorem setF_same {d : Dsk} {k : Nat} {f : List UInt8 × Nat} (h : d.files[k]? = some f) : setF d k f = d := by
  unfold setF
  have : d.files.set k f = d.files := by
    apply List.ext_getElem?
    intro i
    rw [List.getElem?_set]
    split
    · rename_i e; subst e
      rw [h]; have := (List.getElem?_eq_some_iff.1 h).1; simp [this]
    · rfl
  rw [this]
theorem crash_cut {g cf k m ck : Nat} {aok : Option Addr} {Xb : List UInt8} {Xs : Nat} (hD : DkP w fp b (.slice (some ⟨g, 0, none⟩) hs.length cf) cv nb sb hs d) (hk : k < hs.length) (hX : hs[k] = (.slice aok Xb.length ck, Xb, Xs)) (h1 : Xs ≤ m) (h2 : m ≤ Xb.length) :
    (∀ W, (Instr.slice 30 (.slice aok Xb.length ck) none (some (.int .i64 (m : Int))) none).run Try.prog W = .ok (.slice aok m ck) W) ∧
    ∃ hs', DkP (w.setCell ⟨g, k * 2, none⟩ (.slice aok m ck)) fp b (.slice (some ⟨g, 0, none⟩) hs.length cf) cv nb sb hs' (setF d k (Xb.take m, Xs)) := by
  have hb := hD.bytes _ (List.getElem_mem hk)
  rw [hX] at hb
  simp only at hb
  obtain ⟨hr, hown⟩ := run_cutOwn rowBytes hb (hi := some (.int .i64 (m : Int))) (.inr ⟨_, rfl⟩) h2
  refine ⟨fun W => ?_, ?_⟩
  · rw [← run_sliceAt_slice (P := Try.prog) W 30 _ _ _ none (by rw [elemBytes]; exact undBytes)]
    exact hr W
  · have hfm : d.files[k]? = some (Xb, Xs) := by rw [← hD.same, List.getElem?_map, List.getElem?_eq_getElem hk, hX]; rfl
    have hgood := hD.good.files _ (List.mem_of_getElem? hfm)
    have hv : OwB w 0 (.slice aok m ck) (Xb.take m) := by
      unfold OwB
      have e : (Xb.take m).length = m := by rw [List.length_take]; omega
      rw [e, List.map_take]; simpa using hown
    have hX2 : hs[k].2.2 = Xs := by rw [hX]
    have hmv : Moved w hs[k].1 (.slice aok m ck) := .inl (by rw [hX]; cases aok <;> rfl)
    have hgd : GoodD (setF d k (Xb.take m, hs[k].2.2)) := by
      rw [hX2]
      have e : (Xb.take m).length = m := by rw [List.length_take]; omega
      refine hD.good.putF k _ ⟨by simp only [e]; exact h1, ?_, ?_⟩
      · simp only [e]; have := hgood.2.1; simp only at this; omega
      · simp only [e]; have := hgood.2.2; simp only at this; omega
    have := hD.byteSet hk (Chg.refl _ _) hv hmv hgd
    rw [hX2] at this
    refine ⟨_, this.shrink (fun j hj => ?_) (fun j hj => by rw [size_set]; exact hD.fpl j hj)⟩
    rcases List.mem_append.1 hj with hj | hj
    · refine hD.fph _ (List.getElem_mem hk) j ?_
      rw [hX]
      cases aok with
      | none => simp [Value.ownBlock] at hj
      | some a => simpa [Value.ownBlock, eq_comm] using hj
    · exact hj

theorem chCells_get : ∀ (l : List (List UInt8 × List UInt8 × Nat)) (i : Nat) (h : i < l.length), (chCells l)[i * 3]? = some (.string (strB l[i].1)) ∧ (chCells l)[i * 3 + 1]? = some (.string (strB l[i].2.1)) ∧ (chCells l)[i * 3 + 2]? = some (.int .i64 (l[i].2.2 : Int))
  | f :: l, 0, _ => by simp [chCells]
  | f :: l, i + 1, h => by
    have := chCells_get l i (by simpa using h)
    rw [show (i + 1) * 3 = i * 3 + 1 + 1 + 1 by omega]
    simpa [chCells] using this
theorem undChs : Try.prog.underlying 83 = some (.slice 99) := by kernel_rfl
theorem elemCh : Try.prog.elem 83 = 99 := by kernel_rfl
theorem crash_cutCh {base n cap q : Nat} {ao : Option Addr} {xs : List Value} (h : w.ownsRow base 99 3 (.slice ao n cap) n xs) (hq : q ≤ n) :
    ∀ W, (Instr.slice 83 (.slice ao n cap) none (some (.int .i64 (q : Int))) none).run Try.prog W = .ok (.slice ao q cap) W := fun W => by
  rw [← run_sliceAt_slice (P := Try.prog) W 83 _ _ _ none (by rw [elemCh]; exact undChs)]
  exact (run_cutOwn rowCh h (.inr ⟨_, rfl⟩) hq).1 W

set_option maxRecDepth 100000 in
set_option maxHeartbeats 2000000 in
theorem Crash_any (h : Dk w fp b d) (names : Int) (vk : Value) (kept : List Int) (hk : Fs w vk kept) (hkf : ∀ j, vk.ownBlock = some j → j ∉ fp) : Calls Try.prog 25 #[.pointer (some ⟨b, 0, none⟩), .int .i64 names, vk] w fun e w' => e = .returned (.tuple #[]) ∧ DkOut w fp b (crashD d names kept) w' := by
  obtain ⟨fv, cv, nb, sb, hs, h⟩ := h
  have H := hd h
  have HK := hd hk
  obtain ⟨aof, cf, rfl⟩ : ∃ ao c, fv = .slice ao hs.length c := by
    rcases h.files.2 with ⟨rfl, hz⟩ | ⟨g, cap, cur, rfl, _⟩
    · exact ⟨none, 0, by rw [hz]⟩
    · exact ⟨_, cap, rfl⟩
  have hfl : (hs.length : Int) ≤ d.ops := by rw [h.len]; exact h.good.nfiles
  have hol : d.ops ≤ 1073741824 := h.good.ops.2
  have q1 := h.box.cell 1
  simp [boxCells] at q1
  have hkl : kept.length ≤ 9223372036854775807 := by obtain ⟨_, _, _, _, _, h1, h2, _⟩ := hk.open; omega
  have HKL := hd hkl
  have h0 : ∃ hs', DkP w fp b (.slice aof hs.length cf) cv nb sb hs' { d with files := filesAt d.files kept 0 } := by rw [filesAt_zero]; exact ⟨hs, h⟩
  have hk0 : Fs w vk (keptAt d.files kept 0) := by rw [keptAt_zero]; exact hk
  clear hkl
  go_enter Try.func25, Try.ntmps25
  clear h hk
  go_wp2_with fail
  go_loopw [2, 6, 7, 8, 9, 17] (fun t2 _ _ _ _ t17 wr => ∃ k : Nat, k ≤ hs.length ∧ t17 = .int .i64 k ∧ Fs wr t2 (keptAt d.files kept k) ∧ (∃ hs', DkP wr fp b (.slice aof hs.length cf) cv nb sb hs' { d with files := filesAt d.files kept k }) ∧ Chg fp w wr ∧ wr.heap.size = w.heap.size ∧ (∀ j, t2.ownBlock = some j → j ∉ fp))
    (fun _ _ _ _ _ t17 _ => hs.length - (intOf t17).toNat)
  case atStart => exact ⟨0, by omega, rfl, hk0, h0, Chg.refl _ _, rfl, hkf⟩
  case round =>
    obtain ⟨k, hkk, rfl, hkr, ⟨hs', hD⟩, hc, hz, hkf⟩ := hrel
    by_cases hlt : k < hs.length
    · have hl' : hs'.length = hs.length := by rw [hD.len, H.out.len]; exact filesAt_length _ _ _
      obtain ⟨g, cg, e⟩ := hD.slice (by omega)
      rw [hl'] at e
      simp only [Value.slice.injEq, true_and] at e
      obtain ⟨rfl, rfl⟩ := e
      have hlt' : k < hs'.length := by omega
      have hlf : k < d.files.length := by rw [← H.out.len]; exact hlt
      have hD' : DkP wr fp b (.slice (some ⟨g, 0, none⟩) hs'.length cf) cv nb sb hs' { d with files := filesAt d.files kept k } := by rw [hl']; exact hD
      obtain ⟨aok, ck, hv, c0, c1, hfk⟩ := hD'.file hlt'
      have hfk2 := filesAt_get d.files kept k hlf
      have hsucc := filesAt_succ d.files kept k hlf
      have hgf := H.out.good.files d.files[k] (List.getElem_mem hlf)
      have q1 := hD.box.cell 1
      simp [boxCells] at q1
      rw [hfk2] at hfk
      simp only [Option.some.injEq] at hfk
      rw [hfk] at hsucc hgf
      have HD := hd hD'
      have HL' := hd hl'
      have hlti : (k : Int) < (hs.length : Int) := by omega
      obtain ⟨Xv, Xb, Xs, hX⟩ : ∃ Xv Xb Xs, hs'[k] = (Xv, Xb, Xs) := ⟨_, _, _, rfl⟩
      have hfk3 : (filesAt d.files kept k)[k]? = some (Xb, Xs) := by rw [hfk2, hfk, hX]
      rw [hX] at c0 c1 hgf hsucc
      simp only at c0 c1 hgf hsucc
      have hsn : ¬ Xs < Xb.length → { d with files := filesAt d.files kept (k + 1) } = { d with files := filesAt d.files kept k } ∧ keptAt d.files kept (k + 1) = keptAt d.files kept k := fun hn => by
        rw [if_neg hn, if_neg hn] at hsucc
        refine ⟨?_, hsucc.2⟩
        rw [hsucc.1]
        exact setF_same (d := { d with files := filesAt d.files kept k }) hfk3
      have hsc : Xs < Xb.length → ∀ m : Nat, (m : Int) = Xs + min (max ((keptAt d.files kept k).headD 0) 0) ((Xb.length : Int) - Xs) → { d with files := filesAt d.files kept (k + 1) } = setF { d with files := filesAt d.files kept k } k (Xb.take m, Xs) ∧ keptAt d.files kept (k + 1) = (keptAt d.files kept k).tail := fun hy m hm => by
        rw [if_pos hy, if_pos hy] at hsucc
        refine ⟨?_, hsucc.2⟩
        rw [hsucc.1]
        unfold setF cutOne
        simp only
        have : m = Xs + (min (max ((keptAt d.files kept k).headD 0) 0) ((Xb.length : Int) - Xs)).toNat := by omega
        rw [this]
      have hX' : hs'[k] = (.slice aok Xb.length ck, Xb, Xs) := by
        rw [hX] at hv ⊢
        simp only at hv
        rw [hv]
      have HSN := hd hsn
      have HSC := hd hsc
      have HXE := hd hX'
      have Q1 := hd q1
      have C0 := hd c0
      have C1 := hd c1
      clear hX hX' hv hD hD' hfk hfk2 hfk3 hsucc hsn hsc q1 c0 c1 h0 hk0 hl'
      have q1 := Q1.out
      go_upto_region 4 with (fail)
      clear q1
      obtain ⟨g1, -, g2⟩ := hgf
      have hsb : IntKind.i64.wrap ((Xb.length : Int) - (Xs : Int)) = (Xb.length : Int) - (Xs : Int) := IntWalk.i64_in _ (by omega)
      refine anyH_start (n := 11) (L := #[false, false, false, false, false, false, false, false, false, false, false]) (by kernel_rfl) (by kernel_rfl) (S := (fun wx => Chg [] wr wx)) ((Chg.refl _ _).drew) (fun hHeld => ?_)
      refine anyH_take (i := 0) (d := 26) (L' := #[true, false, false, false, false, false, false, false, false, false, false]) (v := ?v2) rfl rfl (by kernel_rfl) (fun _ _ _ h => h) (by rfl) ?hy2 (by assumption) ?rest2
      case hy2 => (intro wx hSw; (try dsimp only at hSw); (have t0 := hSw.cellT C0.out (by simp); have t1 := hSw.cellT C1.out (by simp)); go_simp; (try with_reducible rfl))
      simp only [Act.put, List.setIfInBounds_toArray, List.set_cons_zero, List.set_cons_succ]
      refine anyH_take (i := 1) (d := 27) (L' := #[true, true, false, false, false, false, false, false, false, false, false]) (v := ?v3) rfl rfl (by kernel_rfl) (fun _ _ _ h => h) (by rfl) ?hy3 (by assumption) ?rest3
      case hy3 => (intro wx hSw; (try dsimp only at hSw); (have t0 := hSw.cellT C0.out (by simp); have t1 := hSw.cellT C1.out (by simp)); go_simp; (try with_reducible rfl))
      simp only [Act.put, List.setIfInBounds_toArray, List.set_cons_zero, List.set_cons_succ]
      refine anyH_take (i := 2) (d := 28) (L' := #[true, true, true, false, false, false, false, false, false, false, false]) (v := ?v4) rfl rfl (by kernel_rfl) (fun _ _ _ h => h) (by rfl) ?hy4 (by assumption) ?rest4
      case hy4 => (intro wx hSw; (try dsimp only at hSw); (have t0 := hSw.cellT C0.out (by simp); have t1 := hSw.cellT C1.out (by simp)); go_simp; (try with_reducible rfl))
      simp only [Act.put, List.setIfInBounds_toArray, List.set_cons_zero, List.set_cons_succ]
      refine anyH_take (i := 3) (d := 29) (L' := #[true, true, true, true, false, false, false, false, false, false, false]) (v := ?v5) rfl rfl (by kernel_rfl) (fun _ _ _ h => h) (by rfl) ?hy5 (by assumption) ?rest5
      case hy5 => (intro wx hSw; (try dsimp only at hSw); (have t0 := hSw.cellT C0.out (by simp); have t1 := hSw.cellT C1.out (by simp)); go_simp; (try with_reducible rfl))
      simp only [Act.put, List.setIfInBounds_toArray, List.set_cons_zero, List.set_cons_succ]
      refine anyH_take (i := 4) (d := 30) (L' := #[true, true, true, true, true, false, false, false, false, false, false]) (v := ?v6) rfl rfl (by kernel_rfl) (fun _ _ _ h => h) (by rfl) ?hy6 (by assumption) ?rest6
      case hy6 => (intro wx hSw; (try dsimp only at hSw); (have t0 := hSw.cellT C0.out (by simp); have t1 := hSw.cellT C1.out (by simp)); go_simp; (try with_reducible rfl))
      simp only [Act.put, List.setIfInBounds_toArray, List.set_cons_zero, List.set_cons_succ]
      refine anyH_take (i := 5) (d := 31) (L' := #[true, true, true, true, true, true, false, false, false, false, false]) (v := ?v7) rfl rfl (by kernel_rfl) (fun _ _ _ h => h) (by rfl) ?hy7 (by assumption) ?rest7
      case hy7 => (intro wx hSw; (try dsimp only at hSw); (have t0 := hSw.cellT C0.out (by simp); have t1 := hSw.cellT C1.out (by simp)); go_simp; (try with_reducible rfl))
      simp only [Act.put, List.setIfInBounds_toArray, List.set_cons_zero, List.set_cons_succ]
      refine anyH_take (i := 6) (d := 32) (L' := #[true, true, true, true, true, true, true, false, false, false, false]) (v := ?v8) rfl rfl (by kernel_rfl) (fun _ _ _ h => h) (by rfl) ?hy8 (by assumption) ?rest8
      case hy8 => (intro wx hSw; (try dsimp only at hSw); (have t0 := hSw.cellT C0.out (by simp); have t1 := hSw.cellT C1.out (by simp)); go_simp; (try with_reducible rfl))
      simp only [Act.put, List.setIfInBounds_toArray, List.set_cons_zero, List.set_cons_succ]
      refine anyH_take (i := 7) (d := 33) (L' := #[true, true, true, true, true, true, true, true, false, false, false]) (v := ?v9) rfl rfl (by kernel_rfl) (fun _ _ _ h => h) (by rfl) ?hy9 (by assumption) ?rest9
      case hy9 => (intro wx hSw; (try dsimp only at hSw); (have t0 := hSw.cellT C0.out (by simp); have t1 := hSw.cellT C1.out (by simp)); go_simp; (try with_reducible rfl))
      simp only [Act.put, List.setIfInBounds_toArray, List.set_cons_zero, List.set_cons_succ]
      refine anyH_take (i := 8) (d := 34) (L' := #[true, true, true, true, true, true, true, true, true, false, false]) (v := ?v10) rfl rfl (by kernel_rfl) (fun _ _ _ h => h) (by rfl) ?hy10 (by assumption) ?rest10
      case hy10 => (intro wx hSw; (try dsimp only at hSw); (have t0 := hSw.cellT C0.out (by simp); have t1 := hSw.cellT C1.out (by simp)); go_simp; (try with_reducible rfl))
      simp only [Act.put, List.setIfInBounds_toArray, List.set_cons_zero, List.set_cons_succ]
      refine anyH_take (i := 9) (d := 35) (L' := #[true, true, true, true, true, true, true, true, true, true, false]) (v := ?v11) rfl rfl (by kernel_rfl) (fun _ _ _ h => h) (by rfl) ?hy11 (by assumption) ?rest11
      case hy11 => (intro wx hSw; (try dsimp only at hSw); (have t0 := hSw.cellT C0.out (by simp); have t1 := hSw.cellT C1.out (by simp)); go_simp; (try with_reducible rfl))
      simp only [Act.put, List.setIfInBounds_toArray, List.set_cons_zero, List.set_cons_succ]
      refine anyH_take (i := 10) (d := 8) (L' := #[true, true, true, true, true, true, true, true, true, true, true]) (v := ?v12) rfl rfl (by kernel_rfl) (fun _ _ _ h => h) (by rfl) ?hy12 (by assumption) ?rest12
      case hy12 => (intro wx hSw; (try dsimp only at hSw); (have t0 := hSw.cellT C0.out (by simp); have t1 := hSw.cellT C1.out (by simp)); go_simp; (try with_reducible rfl))
      simp only [Act.put, List.setIfInBounds_toArray, List.set_cons_zero, List.set_cons_succ]
      refine wpAnyH_done (by kernel_rfl) ?_ _
      clear hsb
      by_cases hcut : Xs < Xb.length
      case neg =>
        have hn0 : ¬ (0 : Int) < (Xb.length : Int) - (Xs : Int) := by omega
        have HSS := hd (HSN.out hcut)
        clear hcut
        go_wp2_with fail
        go_roundw
        case rel => exact ⟨k + 1, by omega, by go_num, by rw [HSS.out.2]; exact hkr.k (Chg.refl _ _).drew, by rw [HSS.out.1, ← HL'.out]; exact ⟨_, HD.out.k (Chg.refl _ _).drew⟩, hc.drew, hz, hkf⟩
        case measure => simp [intOf]; omega
      have hn0 : (0 : Int) < (Xb.length : Int) - (Xs : Int) := by omega
      have HSS := hd (HSC.out hcut)
      clear HSC HSN
      generalize keptAt d.files kept k = kr at *
      cases kr with
      | nil =>
        have hu2 : ∃ ao2 cap2, u2 = .slice ao2 0 cap2 := by obtain ⟨ao2, cap2, _, _, h, _⟩ := hkr.open; exact ⟨ao2, cap2, h⟩
        obtain ⟨ao2, cap2, rfl⟩ := hu2
        have hcc := HSS.out Xs (by simp; omega)
        have hc2 : Chg [] wr wr.drew := (Chg.refl [] wr).drew
        obtain ⟨hrun, hnew⟩ := crash_cut (m := Xs) (HD.out.k hc2.drew) hlt' HXE.out (Nat.le_refl _) (by omega)
        have hz2 : wr.drew.heap.size = w.heap.size := hz
        have hw : IntKind.i64.wrap (Xs : Int) = (Xs : Int) := IntWalk.i64_in _ (by omega)
        go_upto_region 9 with (fail)
        generalize wr.drew = W2 at *
        have hgfp : g ∈ fp := HD.out.fpf g rfl
        have F0 : Hd (W2.frozen? ⟨g, k * 2, none⟩ = false) := hd (by rw [Chg.frozenS hc2 C0.out]; exact World.ownsRow.frozenAt HD.out.files (k * 2))
        replace C0 := hd (Chg.cellS hc2 C0.out)
        replace C1 := hd (Chg.cellS hc2 C1.out)
        have hne1 : (⟨g, k * 2, none⟩ : Addr) ≠ ⟨g, k * 2 + 1, none⟩ := by simp
        have HNEW := hd hnew
        have hS2 : Chg [g] W2 (W2.drew.setCell ⟨g, k * 2, none⟩ (.slice aok Xs ck)) ∧ (W2.drew.setCell ⟨g, k * 2, none⟩ (.slice aok Xs ck)).cell? ⟨g, k * 2 + 1, none⟩ = some (.int .i64 (Xs : Int)) := ⟨(Chg.refl [g] W2).drew.setCell _ _ (by simp), by rw [World.cell?_setCell_other (h := hne1)]; exact C1.out⟩
        have HS2 := hd hS2
        have HF := hd hkr
        clear hS2 hnew hkr
        refine anyH_start (n := 15) (L := #[false, false, false, false, false, false, false, false, false, false, false, false, false, false, false]) (by kernel_rfl) (by kernel_rfl) (S := (fun wx => Chg [g] W2 wx ∧ wx.cell? ⟨g, k * 2 + 1, none⟩ = some (.int .i64 (Xs : Int)))) ⟨(Chg.refl _ _).drew, C1.out⟩ (fun hHeld => ?_)
        refine anyH_take (i := 0) (d := 49) (L' := #[true, false, false, false, false, false, false, false, false, false, false, false, false, false, false]) (v := ?v15) rfl rfl (by kernel_rfl) (fun _ _ _ h => h) (by rfl) ?hy15 (by assumption) ?rest15
        case hy15 => (intro wx hSw; (try dsimp only at hSw); (have t1 := hSw.2); go_simp; (try with_reducible rfl))
        simp only [Act.put, List.setIfInBounds_toArray, List.set_cons_zero, List.set_cons_succ]
        refine anyH_take (i := 1) (d := 50) (L' := #[true, true, false, false, false, false, false, false, false, false, false, false, false, false, false]) (v := ?v16) rfl rfl (by kernel_rfl) (fun _ _ _ h => h) (by rfl) ?hy16 (by assumption) ?rest16
        case hy16 => (intro wx hSw; (try dsimp only at hSw); (have t1 := hSw.2); go_simp; (try with_reducible rfl))
        simp only [Act.put, List.setIfInBounds_toArray, List.set_cons_zero, List.set_cons_succ]
        refine anyH_take (i := 2) (d := 51) (L' := #[true, true, true, false, false, false, false, false, false, false, false, false, false, false, false]) (v := ?v17) rfl rfl (by kernel_rfl) (fun _ _ _ h => h) (by rfl) ?hy17 (by assumption) ?rest17
        case hy17 => (intro wx hSw; (try dsimp only at hSw); (have t1 := hSw.2); go_simp; (try with_reducible rfl))
        simp only [Act.put, List.setIfInBounds_toArray, List.set_cons_zero, List.set_cons_succ]
        refine anyH_take (i := 3) (d := 52) (L' := #[true, true, true, true, false, false, false, false, false, false, false, false, false, false, false]) (v := ?v18) rfl rfl (by kernel_rfl) (fun _ _ _ h => h) (by rfl) ?hy18 (by assumption) ?rest18
        case hy18 => (intro wx hSw; (try dsimp only at hSw); (have t1 := hSw.2); go_simp; (try with_reducible rfl))
        simp only [Act.put, List.setIfInBounds_toArray, List.set_cons_zero, List.set_cons_succ]
        refine anyH_take (i := 5) (d := 54) (L' := #[true, true, true, true, false, true, false, false, false, false, false, false, false, false, false]) (v := ?v19) rfl rfl (by kernel_rfl) (fun _ _ _ h => h) (by rfl) ?hy19 (by assumption) ?rest19
        case hy19 => (intro wx hSw; (try dsimp only at hSw); (have t1 := hSw.2); go_simp; (try with_reducible rfl))
        simp only [Act.put, List.setIfInBounds_toArray, List.set_cons_zero, List.set_cons_succ]
        refine anyH_take (i := 6) (d := 55) (L' := #[true, true, true, true, false, true, true, false, false, false, false, false, false, false, false]) (v := ?v20) rfl rfl (by kernel_rfl) (fun _ _ _ h => h) (by rfl) ?hy20 (by assumption) ?rest20
        case hy20 => (intro wx hSw; (try dsimp only at hSw); (have t1 := hSw.2); go_simp; (try with_reducible rfl))
        simp only [Act.put, List.setIfInBounds_toArray, List.set_cons_zero, List.set_cons_succ]
        refine anyH_take (i := 7) (d := 56) (L' := #[true, true, true, true, false, true, true, true, false, false, false, false, false, false, false]) (v := ?v21) rfl rfl (by kernel_rfl) (fun _ _ _ h => h) (by rfl) ?hy21 (by assumption) ?rest21
        case hy21 => (intro wx hSw; (try dsimp only at hSw); (have t1 := hSw.2); go_simp; (try with_reducible rfl))
        simp only [Act.put, List.setIfInBounds_toArray, List.set_cons_zero, List.set_cons_succ]
        refine anyH_take (i := 8) (d := 57) (L' := #[true, true, true, true, false, true, true, true, true, false, false, false, false, false, false]) (v := ?v22) rfl rfl (by kernel_rfl) (fun _ _ _ h => h) (by rfl) ?hy22 (by assumption) ?rest22
        case hy22 => (intro wx hSw; (try dsimp only at hSw); (have t1 := hSw.2); go_simp; (try with_reducible rfl))
        simp only [Act.put, List.setIfInBounds_toArray, List.set_cons_zero, List.set_cons_succ]
        refine anyH_take (i := 9) (d := 58) (L' := #[true, true, true, true, false, true, true, true, true, true, false, false, false, false, false]) (v := ?v23) rfl rfl (by kernel_rfl) (fun _ _ _ h => h) (by rfl) ?hy23 (by assumption) ?rest23
        case hy23 => (intro wx hSw; (try dsimp only at hSw); (have t1 := hSw.2); go_simp; (try with_reducible rfl))
        simp only [Act.put, List.setIfInBounds_toArray, List.set_cons_zero, List.set_cons_succ]
        refine anyH_take (i := 10) (d := 59) (L' := #[true, true, true, true, false, true, true, true, true, true, true, false, false, false, false]) (v := ?v24) rfl rfl (by kernel_rfl) (fun _ _ _ h => h) (by rfl) ?hy24 (by assumption) ?rest24
        case hy24 => (intro wx hSw; (try dsimp only at hSw); (have t1 := hSw.2); go_simp; (try with_reducible rfl))
        simp only [Act.put, List.setIfInBounds_toArray, List.set_cons_zero, List.set_cons_succ]
        refine anyH_run (i := 4) (L' := #[true, true, true, true, true, true, true, true, true, true, true, false, false, false, false]) rfl (by kernel_rfl) (by rfl) (fun KK hKK => ?_)
        (have t0 : W2.drew.cell? ⟨g, k * 2, none⟩ = _ := C0.out; go_simp)
        refine hKK.out _ _ (by assumption) (fun hHeld => ?_)
        clear hKK KK
        try simp only [Act.put, List.setIfInBounds_toArray, List.set_cons_zero, List.set_cons_succ]
        refine anyH_run (i := 11) (L' := #[true, true, true, true, true, true, true, true, true, true, true, true, false, false, false]) rfl (by kernel_rfl) (by rfl) (fun KK hKK => ?_)
        go_simp
        (skip)
        refine hKK.out _ _ (by assumption) (fun hHeld => ?_)
        clear hKK KK
        try simp only [Act.put, List.setIfInBounds_toArray, List.set_cons_zero, List.set_cons_succ]
        refine anyH_take (i := 12) (d := 61) (L' := #[true, true, true, true, true, true, true, true, true, true, true, true, true, false, false]) (v := ?v27) rfl rfl (by kernel_rfl) (fun _ _ _ h => h) (by rfl) ?hy27 (by assumption) ?rest27
        case hy27 => (intro wx hSw; (try dsimp only at hSw); (have t1 := hSw.2); go_simp; (try with_reducible rfl))
        simp only [Act.put, List.setIfInBounds_toArray, List.set_cons_zero, List.set_cons_succ]
        refine anyH_take (i := 13) (d := 62) (L' := #[true, true, true, true, true, true, true, true, true, true, true, true, true, true, false]) (v := ?v28) rfl rfl (by kernel_rfl) (fun _ _ _ h => h) (by rfl) ?hy28 (by assumption) ?rest28
        case hy28 => (intro wx hSw; (try dsimp only at hSw); (have t1 := hSw.2); go_simp; (try with_reducible rfl))
        simp only [Act.put, List.setIfInBounds_toArray, List.set_cons_zero, List.set_cons_succ]
        refine anyH_run (i := 14) (L' := #[true, true, true, true, true, true, true, true, true, true, true, true, true, true, true]) rfl (by kernel_rfl) (by rfl) (fun KK hKK => ?_)
        (have t0 : W2.drew.cell? ⟨g, k * 2, none⟩ = _ := C0.out; have f0 : W2.drew.frozen? ⟨g, k * 2, none⟩ = false := F0.out; have hS2 := HS2.out; go_simp)
        refine hKK.out _ _ (by assumption) (fun hHeld => ?_)
        clear hKK KK
        try simp only [Act.put, List.setIfInBounds_toArray, List.set_cons_zero, List.set_cons_succ]
        refine wpAnyH_done (by kernel_rfl) ?_ _
        go_wp2_with fail
        go_roundw
        case rel =>
          have hc3 := HS2.out.1
          exact ⟨k + 1, by omega, by go_num, by rw [hcc.2]; exact Fs.chg (HF.out.k hc2) hc3 (fun _ j hj => by simp only [List.mem_singleton]; rintro rfl; exact hkf j hj hgfp), by rw [hcc.1, ← HL'.out]; exact HNEW.out, (hc.trans hc2 (by simp)).trans hc3 (by simp only [List.mem_singleton]; rintro x rfl _; exact hgfp), by show (W2.setCell _ _).heap.size = _; rw [size_set]; exact hz2, hkf⟩
        case measure => simp [intOf]; omega
      | cons x xs =>
        obtain ⟨ao2, cap2, b2, off2, rfl, hl2, hm2, -, hao2, hel2⟩ := hkr.open
        obtain rfl := hao2 (by simp)
        obtain ⟨aoN, cN, hrun, hFN, hbN⟩ := run_cutI hkr (lo := some (.int .i64 1)) (hi := none) (p := 1) (.inr ⟨.i64, rfl⟩) (.inl ⟨rfl, rfl⟩) (by simp) (Nat.le_refl _)
        have e0 := hel2 0 (by simp)
        simp only [List.getElem_cons_zero, Nat.add_zero] at e0
        have E0 := hd e0
        simp only [List.length_cons, Nat.add_sub_cancel] at hrun hFN hbN ⊢
        have HRUN := hd hrun
        have hpos : 0 < (xs.length : Int) + 1 := by omega
        clear hel2 hao2 e0 hrun
        go_upto_region 8 with (fail)
        refine anyH_start (n := 10) (L := #[false, false, false, false, false, false, false, false, false, false]) (by kernel_rfl) (by kernel_rfl) (S := (fun wx => Chg [] wr wx)) ((Chg.refl _ _).drew.drew) (fun hHeld => ?_)
        refine anyH_take (i := 0) (d := 41) (L' := #[true, false, false, false, false, false, false, false, false, false]) (v := ?v32) rfl rfl (by kernel_rfl) (fun _ _ _ h => h) (by rfl) ?hy32 (by assumption) ?rest32
        case hy32 => (intro wx hSw; (try dsimp only at hSw); (have t0 := hSw.cellT E0.out (by simp)); go_simp; (try with_reducible rfl))
        simp only [Act.put, List.setIfInBounds_toArray, List.set_cons_zero, List.set_cons_succ]
        refine anyH_take (i := 1) (d := 42) (L' := #[true, true, false, false, false, false, false, false, false, false]) (v := ?v33) rfl rfl (by kernel_rfl) (fun _ _ _ h => h) (by rfl) ?hy33 (by assumption) ?rest33
        case hy33 => (intro wx hSw; (try dsimp only at hSw); (have t0 := hSw.cellT E0.out (by simp)); go_simp; (try with_reducible rfl))
        simp only [Act.put, List.setIfInBounds_toArray, List.set_cons_zero, List.set_cons_succ]
        refine anyH_take (i := 2) (d := 43) (L' := #[true, true, true, false, false, false, false, false, false, false]) (v := ?v34) rfl rfl (by kernel_rfl) (fun _ _ _ h => h) (by rfl) ?hy34 (by assumption) ?rest34
        case hy34 => (intro wx hSw; (try dsimp only at hSw); (have t0 := hSw.cellT E0.out (by simp)); go_simp; (try with_reducible rfl))
        simp only [Act.put, List.setIfInBounds_toArray, List.set_cons_zero, List.set_cons_succ]
        refine anyH_take (i := 3) (d := 44) (L' := #[true, true, true, true, false, false, false, false, false, false]) (v := ?v35) rfl rfl (by kernel_rfl) (fun _ _ _ h => h) (by rfl) ?hy35 (by assumption) ?rest35
        case hy35 => (intro wx hSw; (try dsimp only at hSw); (have t0 := hSw.cellT E0.out (by simp)); go_simp; (try with_reducible rfl))
        simp only [Act.put, List.setIfInBounds_toArray, List.set_cons_zero, List.set_cons_succ]
        refine anyH_take (i := 4) (d := 45) (L' := #[true, true, true, true, true, false, false, false, false, false]) (v := ?v36) rfl rfl (by kernel_rfl) (fun _ _ _ h => h) (by rfl) ?hy36 (by assumption) ?rest36
        case hy36 => (intro wx hSw; (try dsimp only at hSw); (have t0 := hSw.cellT E0.out (by simp)); go_simp; (try with_reducible rfl))
        simp only [Act.put, List.setIfInBounds_toArray, List.set_cons_zero, List.set_cons_succ]
        refine anyH_take (i := 5) (d := 46) (L' := #[true, true, true, true, true, true, false, false, false, false]) (v := ?v37) rfl rfl (by kernel_rfl) (fun _ _ _ h => h) (by rfl) ?hy37 (by assumption) ?rest37
        case hy37 => (intro wx hSw; (try dsimp only at hSw); (have t0 := hSw.cellT E0.out (by simp)); go_simp; (try with_reducible rfl))
        simp only [Act.put, List.setIfInBounds_toArray, List.set_cons_zero, List.set_cons_succ]
        refine anyH_take (i := 6) (d := 47) (L' := #[true, true, true, true, true, true, true, false, false, false]) (v := ?v38) rfl rfl (by kernel_rfl) (fun _ _ _ h => h) (by rfl) ?hy38 (by assumption) ?rest38
        case hy38 => (intro wx hSw; (try dsimp only at hSw); (have t0 := hSw.cellT E0.out (by simp)); go_simp; (try with_reducible rfl))
        simp only [Act.put, List.setIfInBounds_toArray, List.set_cons_zero, List.set_cons_succ]
        refine anyH_take (i := 7) (d := 48) (L' := #[true, true, true, true, true, true, true, true, false, false]) (v := ?v39) rfl rfl (by kernel_rfl) (fun _ _ _ h => h) (by rfl) ?hy39 (by assumption) ?rest39
        case hy39 => (intro wx hSw; (try dsimp only at hSw); (have t7 := HRUN.out); go_simp; (try with_reducible rfl))
        simp only [Act.put, List.setIfInBounds_toArray, List.set_cons_zero, List.set_cons_succ]
        refine anyH_take (i := 8) (d := 9) (L' := #[true, true, true, true, true, true, true, true, true, false]) (v := ?v40) rfl rfl (by kernel_rfl) (fun _ _ _ h => h) (by rfl) ?hy40 (by assumption) ?rest40
        case hy40 => (intro wx hSw; (try dsimp only at hSw); (have t0 := hSw.cellT E0.out (by simp)); go_simp; (try with_reducible rfl))
        simp only [Act.put, List.setIfInBounds_toArray, List.set_cons_zero, List.set_cons_succ]
        refine anyH_take (i := 9) (d := 2) (L' := #[true, true, true, true, true, true, true, true, true, true]) (v := ?v41) rfl rfl (by kernel_rfl) (fun _ _ _ h => h) (by rfl) ?hy41 (by assumption) ?rest41
        case hy41 => (intro wx hSw; (try dsimp only at hSw); (have t0 := hSw.cellT E0.out (by simp)); go_simp; (try with_reducible rfl))
        simp only [Act.put, List.setIfInBounds_toArray, List.set_cons_zero, List.set_cons_succ]
        refine wpAnyH_done (by kernel_rfl) ?_ _
        generalize hzz : (if (Xb.length : Int) - (Xs : Int) < if x < 0 then 0 else x then (Xb.length : Int) - (Xs : Int) else if x < 0 then 0 else x) = z
        have hz1 : 0 ≤ z ∧ z ≤ (Xb.length : Int) - (Xs : Int) ∧ z = min (max x 0) ((Xb.length : Int) - (Xs : Int)) := by rw [← hzz]; split <;> split <;> omega
        clear hzz
        obtain ⟨hz1, hz2, hz3⟩ := hz1
        obtain ⟨zn, rfl⟩ := Int.eq_ofNat_of_zero_le hz1
        have hcc := HSS.out (Xs + zn) (by simp only [List.headD_cons]; omega)
        have hc2 : Chg [] wr wr.drew.drew := (Chg.refl [] wr).drew.drew
        obtain ⟨hrun, hnew⟩ := crash_cut (m := Xs + zn) (HD.out.k hc2.drew) hlt' HXE.out (by omega) (by omega)
        rw [Int.natCast_add] at hrun
        have hz2 : wr.drew.drew.heap.size = w.heap.size := hz
        have hbN' : ∀ j, (Value.slice aoN xs.length cN).ownBlock = some j → j ∉ fp := fun j hj => hkf j (hbN j hj)
        have hFN' : Fs wr (.slice aoN xs.length cN) xs := by simpa using hFN
        have hw : IntKind.i64.wrap ((Xs : Int) + (zn : Int)) = (Xs : Int) + (zn : Int) := IntWalk.i64_in _ (by omega)
        clear hbN hFN E0 HRUN hkr HSS hcut hm2 hl2 hpos hz1 hz3
        go_upto_region 9 with (fail)
        generalize wr.drew.drew = W2 at *
        have hgfp : g ∈ fp := HD.out.fpf g rfl
        have F0 : Hd (W2.frozen? ⟨g, k * 2, none⟩ = false) := hd (by rw [Chg.frozenS hc2 C0.out]; exact World.ownsRow.frozenAt HD.out.files (k * 2))
        replace C0 := hd (Chg.cellS hc2 C0.out)
        replace C1 := hd (Chg.cellS hc2 C1.out)
        have hne1 : (⟨g, k * 2, none⟩ : Addr) ≠ ⟨g, k * 2 + 1, none⟩ := by simp
        have HNEW := hd hnew
        have hS2 : Chg [g] W2 (W2.drew.setCell ⟨g, k * 2, none⟩ (.slice aok (Xs + zn) ck)) ∧ (W2.drew.setCell ⟨g, k * 2, none⟩ (.slice aok (Xs + zn) ck)).cell? ⟨g, k * 2 + 1, none⟩ = some (.int .i64 (Xs : Int)) := ⟨(Chg.refl [g] W2).drew.setCell _ _ (by simp), by rw [World.cell?_setCell_other (h := hne1)]; exact C1.out⟩
        have HS2 := hd hS2
        have HF := hd hFN'
        clear hS2 hnew hFN'
        refine anyH_start (n := 15) (L := #[false, false, false, false, false, false, false, false, false, false, false, false, false, false, false]) (by kernel_rfl) (by kernel_rfl) (S := (fun wx => Chg [g] W2 wx ∧ wx.cell? ⟨g, k * 2 + 1, none⟩ = some (.int .i64 (Xs : Int)))) ⟨(Chg.refl _ _).drew, C1.out⟩ (fun hHeld => ?_)
        refine anyH_take (i := 0) (d := 49) (L' := #[true, false, false, false, false, false, false, false, false, false, false, false, false, false, false]) (v := ?v44) rfl rfl (by kernel_rfl) (fun _ _ _ h => h) (by rfl) ?hy44 (by assumption) ?rest44
        case hy44 => (intro wx hSw; (try dsimp only at hSw); (have t1 := hSw.2); go_simp; (try with_reducible rfl))
        simp only [Act.put, List.setIfInBounds_toArray, List.set_cons_zero, List.set_cons_succ]
        refine anyH_take (i := 1) (d := 50) (L' := #[true, true, false, false, false, false, false, false, false, false, false, false, false, false, false]) (v := ?v45) rfl rfl (by kernel_rfl) (fun _ _ _ h => h) (by rfl) ?hy45 (by assumption) ?rest45
        case hy45 => (intro wx hSw; (try dsimp only at hSw); (have t1 := hSw.2); go_simp; (try with_reducible rfl))
        simp only [Act.put, List.setIfInBounds_toArray, List.set_cons_zero, List.set_cons_succ]
        refine anyH_take (i := 2) (d := 51) (L' := #[true, true, true, false, false, false, false, false, false, false, false, false, false, false, false]) (v := ?v46) rfl rfl (by kernel_rfl) (fun _ _ _ h => h) (by rfl) ?hy46 (by assumption) ?rest46
        case hy46 => (intro wx hSw; (try dsimp only at hSw); (have t1 := hSw.2); go_simp; (try with_reducible rfl))
        simp only [Act.put, List.setIfInBounds_toArray, List.set_cons_zero, List.set_cons_succ]
        refine anyH_take (i := 3) (d := 52) (L' := #[true, true, true, true, false, false, false, false, false, false, false, false, false, false, false]) (v := ?v47) rfl rfl (by kernel_rfl) (fun _ _ _ h => h) (by rfl) ?hy47 (by assumption) ?rest47
        case hy47 => (intro wx hSw; (try dsimp only at hSw); (have t1 := hSw.2); go_simp; (try with_reducible rfl))
        simp only [Act.put, List.setIfInBounds_toArray, List.set_cons_zero, List.set_cons_succ]
        refine anyH_take (i := 5) (d := 54) (L' := #[true, true, true, true, false, true, false, false, false, false, false, false, false, false, false]) (v := ?v48) rfl rfl (by kernel_rfl) (fun _ _ _ h => h) (by rfl) ?hy48 (by assumption) ?rest48
        case hy48 => (intro wx hSw; (try dsimp only at hSw); (have t1 := hSw.2); go_simp; (try with_reducible rfl))
        simp only [Act.put, List.setIfInBounds_toArray, List.set_cons_zero, List.set_cons_succ]
        refine anyH_take (i := 6) (d := 55) (L' := #[true, true, true, true, false, true, true, false, false, false, false, false, false, false, false]) (v := ?v49) rfl rfl (by kernel_rfl) (fun _ _ _ h => h) (by rfl) ?hy49 (by assumption) ?rest49
        case hy49 => (intro wx hSw; (try dsimp only at hSw); (have t1 := hSw.2); go_simp; (try with_reducible rfl))
        simp only [Act.put, List.setIfInBounds_toArray, List.set_cons_zero, List.set_cons_succ]
        refine anyH_take (i := 7) (d := 56) (L' := #[true, true, true, true, false, true, true, true, false, false, false, false, false, false, false]) (v := ?v50) rfl rfl (by kernel_rfl) (fun _ _ _ h => h) (by rfl) ?hy50 (by assumption) ?rest50
        case hy50 => (intro wx hSw; (try dsimp only at hSw); (have t1 := hSw.2); go_simp; (try with_reducible rfl))
        simp only [Act.put, List.setIfInBounds_toArray, List.set_cons_zero, List.set_cons_succ]
        refine anyH_take (i := 8) (d := 57) (L' := #[true, true, true, true, false, true, true, true, true, false, false, false, false, false, false]) (v := ?v51) rfl rfl (by kernel_rfl) (fun _ _ _ h => h) (by rfl) ?hy51 (by assumption) ?rest51
        case hy51 => (intro wx hSw; (try dsimp only at hSw); (have t1 := hSw.2); go_simp; (try with_reducible rfl))
        simp only [Act.put, List.setIfInBounds_toArray, List.set_cons_zero, List.set_cons_succ]
        refine anyH_take (i := 9) (d := 58) (L' := #[true, true, true, true, false, true, true, true, true, true, false, false, false, false, false]) (v := ?v52) rfl rfl (by kernel_rfl) (fun _ _ _ h => h) (by rfl) ?hy52 (by assumption) ?rest52
        case hy52 => (intro wx hSw; (try dsimp only at hSw); (have t1 := hSw.2); go_simp; (try with_reducible rfl))
        simp only [Act.put, List.setIfInBounds_toArray, List.set_cons_zero, List.set_cons_succ]
        refine anyH_take (i := 10) (d := 59) (L' := #[true, true, true, true, false, true, true, true, true, true, true, false, false, false, false]) (v := ?v53) rfl rfl (by kernel_rfl) (fun _ _ _ h => h) (by rfl) ?hy53 (by assumption) ?rest53
        case hy53 => (intro wx hSw; (try dsimp only at hSw); (have t1 := hSw.2); go_simp; (try with_reducible rfl))
        simp only [Act.put, List.setIfInBounds_toArray, List.set_cons_zero, List.set_cons_succ]
        refine anyH_run (i := 4) (L' := #[true, true, true, true, true, true, true, true, true, true, true, false, false, false, false]) rfl (by kernel_rfl) (by rfl) (fun KK hKK => ?_)
        (have t0 : W2.drew.cell? ⟨g, k * 2, none⟩ = _ := C0.out; go_simp)
        refine hKK.out _ _ (by assumption) (fun hHeld => ?_)
        clear hKK KK
        try simp only [Act.put, List.setIfInBounds_toArray, List.set_cons_zero, List.set_cons_succ]
        refine anyH_run (i := 11) (L' := #[true, true, true, true, true, true, true, true, true, true, true, true, false, false, false]) rfl (by kernel_rfl) (by rfl) (fun KK hKK => ?_)
        go_simp
        (skip)
        refine hKK.out _ _ (by assumption) (fun hHeld => ?_)
        clear hKK KK
        try simp only [Act.put, List.setIfInBounds_toArray, List.set_cons_zero, List.set_cons_succ]
        refine anyH_take (i := 12) (d := 61) (L' := #[true, true, true, true, true, true, true, true, true, true, true, true, true, false, false]) (v := ?v56) rfl rfl (by kernel_rfl) (fun _ _ _ h => h) (by rfl) ?hy56 (by assumption) ?rest56
        case hy56 => (intro wx hSw; (try dsimp only at hSw); (have t1 := hSw.2); go_simp; (try with_reducible rfl))
        simp only [Act.put, List.setIfInBounds_toArray, List.set_cons_zero, List.set_cons_succ]
        refine anyH_take (i := 13) (d := 62) (L' := #[true, true, true, true, true, true, true, true, true, true, true, true, true, true, false]) (v := ?v57) rfl rfl (by kernel_rfl) (fun _ _ _ h => h) (by rfl) ?hy57 (by assumption) ?rest57
        case hy57 => (intro wx hSw; (try dsimp only at hSw); (have t1 := hSw.2); go_simp; (try with_reducible rfl))
        simp only [Act.put, List.setIfInBounds_toArray, List.set_cons_zero, List.set_cons_succ]
        refine anyH_run (i := 14) (L' := #[true, true, true, true, true, true, true, true, true, true, true, true, true, true, true]) rfl (by kernel_rfl) (by rfl) (fun KK hKK => ?_)
        (have t0 : W2.drew.cell? ⟨g, k * 2, none⟩ = _ := C0.out; have f0 : W2.drew.frozen? ⟨g, k * 2, none⟩ = false := F0.out; have hS2 := HS2.out; go_simp)
        refine hKK.out _ _ (by assumption) (fun hHeld => ?_)
        clear hKK KK
        try simp only [Act.put, List.setIfInBounds_toArray, List.set_cons_zero, List.set_cons_succ]
        refine wpAnyH_done (by kernel_rfl) ?_ _
        go_wp2_with fail
        go_roundw
        case rel =>
          have hc3 := HS2.out.1
          exact ⟨k + 1, by omega, by go_num, by rw [hcc.2]; exact Fs.chg (HF.out.k hc2) hc3 (fun _ j hj => by simp only [List.mem_singleton]; rintro rfl; exact hbN' j hj hgfp), by rw [hcc.1, ← HL'.out]; exact HNEW.out, (hc.trans hc2 (by simp)).trans hc3 (by simp only [List.mem_singleton]; rintro x rfl _; exact hgfp), by show (W2.setCell _ _).heap.size = _; rw [size_set]; exact hz2, hbN'⟩
        case measure => simp [intOf]; omega
    · obtain rfl : k = hs.length := by omega
      obtain ⟨wB, hwB⟩ : ∃ wB, wB = wr := ⟨_, rfl⟩
      subst hwB
      rw [H.out.len, filesAt_all] at hD
      rw [← H.out.len] at hD
      have hcut := fun m => H.out.good.cut H.out.sure.nodup kept m
      have hsl := fun m => (foldl_turn d.sure (d.changes.take m) H.out.sure.nodup).2.1
      have hgc := H.out.good.nchanges
      have hcw := H.out.good.clens
      have hci := H.out.good.idx
      have hnf := H.out.good.nfiles
      have q3 := hD.box.cell 3
      simp [boxCells] at q3
      have hm := hD.sure
      have hsb := hD.sure.lt
      have HC := hd hc
      have HD := hd hD
      have hzw : w.heap.size ≤ wB.heap.size := by omega
      clear hz hkr hkf hc hD hk0 h0 q1 hlt
      go_wp2_with fail
      refine (CloneM_any _ sb d.sure hm).mono ?_
      rintro e wC ⟨rfl, hmc, hcc⟩
      have D := HD.out.k hcc
      have hcf : Chg fp w (wC.setCell ⟨b, 2, none⟩ (.map (some wB.heap.size))) := (HC.out.trans hcc (by simp)).setCell _ _ (fun _ => D.fpb)
      have D2 := D.newNames (es := d.sure) hmc (by omega) (by have := hcut 0; simpa using this)
      have q2 := D.box.cell 2
      have f2 := D.box.free 2
      have q4 := D2.box.cell 4
      simp [boxCells] at q2 q4
      have HD2 := hd D2
      have HCF := hd hcf
      clear D D2 hcf hm hmc hcc q3
      go_upto_region 12 with (fail)
      clear q2 f2
      generalize wC.setCell ⟨b, 2, none⟩ (.map (some wB.heap.size)) = wD at *
      obtain ⟨aoc, cc, rfl⟩ : ∃ ao c, cv = .slice ao d.changes.length c := by
        rcases H.out.changes.2 with ⟨rfl, hz⟩ | ⟨g, cap, cur, rfl, _⟩
        · exact ⟨none, 0, by rw [hz]⟩
        · exact ⟨_, cap, rfl⟩
      obtain ⟨m, hm⟩ : ∃ m, m = (min (max names 0) (d.changes.length : Int)).toNat := ⟨_, rfl⟩
      have hE : (if (d.changes.length : Int) < if names < 0 then 0 else names then (d.changes.length : Int) else if names < 0 then 0 else names) = (m : Int) := by split <;> split <;> omega
      have hml : m ≤ d.changes.length := by omega
      have HM := hd hm
      have hrun := crash_cutCh HD2.out.changes hml
      rw [← hE] at hrun
      have HRUN := hd hrun
      have Q4 := hd q4
      clear hE hrun hm q4
      refine anyH_start (n := 15) (L := #[false, false, false, false, false, false, false, false, false, false, false, false, false, false, false]) (by kernel_rfl) (by kernel_rfl) (S := (fun wx => Chg [] wD wx)) ((Chg.refl _ _).drew) (fun hHeld => ?_)
      refine anyH_take (i := 0) (d := 72) (L' := #[true, false, false, false, false, false, false, false, false, false, false, false, false, false, false]) (v := ?v62) rfl rfl (by kernel_rfl) (fun _ _ _ h => h) (by rfl) ?hy62 (by assumption) ?rest62
      case hy62 => (intro wx hSw; (try dsimp only at hSw); (have t0 := Chg.cellS hSw Q4.out); go_simp; (try with_reducible rfl))
      simp only [Act.put, List.setIfInBounds_toArray, List.set_cons_zero, List.set_cons_succ]
      refine anyH_take (i := 1) (d := 73) (L' := #[true, true, false, false, false, false, false, false, false, false, false, false, false, false, false]) (v := ?v63) rfl rfl (by kernel_rfl) (fun _ _ _ h => h) (by rfl) ?hy63 (by assumption) ?rest63
      case hy63 => (intro wx hSw; (try dsimp only at hSw); (have t0 := Chg.cellS hSw Q4.out); go_simp; (try with_reducible rfl))
      simp only [Act.put, List.setIfInBounds_toArray, List.set_cons_zero, List.set_cons_succ]
      refine anyH_take (i := 2) (d := 74) (L' := #[true, true, true, false, false, false, false, false, false, false, false, false, false, false, false]) (v := ?v64) rfl rfl (by kernel_rfl) (fun _ _ _ h => h) (by rfl) ?hy64 (by assumption) ?rest64
      case hy64 => (intro wx hSw; (try dsimp only at hSw); (have t0 := Chg.cellS hSw Q4.out); go_simp; (try with_reducible rfl))
      simp only [Act.put, List.setIfInBounds_toArray, List.set_cons_zero, List.set_cons_succ]
      refine anyH_take (i := 3) (d := 75) (L' := #[true, true, true, true, false, false, false, false, false, false, false, false, false, false, false]) (v := ?v65) rfl rfl (by kernel_rfl) (fun _ _ _ h => h) (by rfl) ?hy65 (by assumption) ?rest65
      case hy65 => (intro wx hSw; (try dsimp only at hSw); (have t0 := Chg.cellS hSw Q4.out); go_simp; (try with_reducible rfl))
      simp only [Act.put, List.setIfInBounds_toArray, List.set_cons_zero, List.set_cons_succ]
      refine anyH_take (i := 4) (d := 76) (L' := #[true, true, true, true, true, false, false, false, false, false, false, false, false, false, false]) (v := ?v66) rfl rfl (by kernel_rfl) (fun _ _ _ h => h) (by rfl) ?hy66 (by assumption) ?rest66
      case hy66 => (intro wx hSw; (try dsimp only at hSw); (have t0 := Chg.cellS hSw Q4.out); go_simp; (try with_reducible rfl))
      simp only [Act.put, List.setIfInBounds_toArray, List.set_cons_zero, List.set_cons_succ]
      refine anyH_take (i := 5) (d := 77) (L' := #[true, true, true, true, true, true, false, false, false, false, false, false, false, false, false]) (v := ?v67) rfl rfl (by kernel_rfl) (fun _ _ _ h => h) (by rfl) ?hy67 (by assumption) ?rest67
      case hy67 => (intro wx hSw; (try dsimp only at hSw); (have t0 := Chg.cellS hSw Q4.out); go_simp; (try with_reducible rfl))
      simp only [Act.put, List.setIfInBounds_toArray, List.set_cons_zero, List.set_cons_succ]
      refine anyH_take (i := 6) (d := 78) (L' := #[true, true, true, true, true, true, true, false, false, false, false, false, false, false, false]) (v := ?v68) rfl rfl (by kernel_rfl) (fun _ _ _ h => h) (by rfl) ?hy68 (by assumption) ?rest68
      case hy68 => (intro wx hSw; (try dsimp only at hSw); (have t0 := Chg.cellS hSw Q4.out); go_simp; (try with_reducible rfl))
      simp only [Act.put, List.setIfInBounds_toArray, List.set_cons_zero, List.set_cons_succ]
      refine anyH_take (i := 7) (d := 79) (L' := #[true, true, true, true, true, true, true, true, false, false, false, false, false, false, false]) (v := ?v69) rfl rfl (by kernel_rfl) (fun _ _ _ h => h) (by rfl) ?hy69 (by assumption) ?rest69
      case hy69 => (intro wx hSw; (try dsimp only at hSw); (have t0 := Chg.cellS hSw Q4.out); go_simp; (try with_reducible rfl))
      simp only [Act.put, List.setIfInBounds_toArray, List.set_cons_zero, List.set_cons_succ]
      refine anyH_take (i := 8) (d := 80) (L' := #[true, true, true, true, true, true, true, true, true, false, false, false, false, false, false]) (v := ?v70) rfl rfl (by kernel_rfl) (fun _ _ _ h => h) (by rfl) ?hy70 (by assumption) ?rest70
      case hy70 => (intro wx hSw; (try dsimp only at hSw); (have t0 := Chg.cellS hSw Q4.out); go_simp; (try with_reducible rfl))
      simp only [Act.put, List.setIfInBounds_toArray, List.set_cons_zero, List.set_cons_succ]
      refine anyH_take (i := 9) (d := 81) (L' := #[true, true, true, true, true, true, true, true, true, true, false, false, false, false, false]) (v := ?v71) rfl rfl (by kernel_rfl) (fun _ _ _ h => h) (by rfl) ?hy71 (by assumption) ?rest71
      case hy71 => (intro wx hSw; (try dsimp only at hSw); (have t0 := Chg.cellS hSw Q4.out); go_simp; (try with_reducible rfl))
      simp only [Act.put, List.setIfInBounds_toArray, List.set_cons_zero, List.set_cons_succ]
      refine anyH_take (i := 10) (d := 82) (L' := #[true, true, true, true, true, true, true, true, true, true, true, false, false, false, false]) (v := ?v72) rfl rfl (by kernel_rfl) (fun _ _ _ h => h) (by rfl) ?hy72 (by assumption) ?rest72
      case hy72 => (intro wx hSw; (try dsimp only at hSw); (have t0 := Chg.cellS hSw Q4.out); go_simp; (try with_reducible rfl))
      simp only [Act.put, List.setIfInBounds_toArray, List.set_cons_zero, List.set_cons_succ]
      refine anyH_take (i := 11) (d := 83) (L' := #[true, true, true, true, true, true, true, true, true, true, true, true, false, false, false]) (v := ?v73) rfl rfl (by kernel_rfl) (fun _ _ _ h => h) (by rfl) ?hy73 (by assumption) ?rest73
      case hy73 => (intro wx hSw; (try dsimp only at hSw); (have t0 := Chg.cellS hSw Q4.out); go_simp; (try with_reducible rfl))
      simp only [Act.put, List.setIfInBounds_toArray, List.set_cons_zero, List.set_cons_succ]
      refine anyH_take (i := 12) (d := 84) (L' := #[true, true, true, true, true, true, true, true, true, true, true, true, true, false, false]) (v := ?v74) rfl rfl (by kernel_rfl) (fun _ _ _ h => h) (by rfl) ?hy74 (by assumption) ?rest74
      case hy74 => (intro wx hSw; (try dsimp only at hSw); (have t1 := HRUN.out); go_simp; (try with_reducible rfl))
      simp only [Act.put, List.setIfInBounds_toArray, List.set_cons_zero, List.set_cons_succ]
      refine anyH_take (i := 13) (d := 85) (L' := #[true, true, true, true, true, true, true, true, true, true, true, true, true, true, false]) (v := ?v75) rfl rfl (by kernel_rfl) (fun _ _ _ h => h) (by rfl) ?hy75 (by assumption) ?rest75
      case hy75 => (intro wx hSw; (try dsimp only at hSw); (have t0 := Chg.cellS hSw Q4.out); go_simp; (try with_reducible rfl))
      simp only [Act.put, List.setIfInBounds_toArray, List.set_cons_zero, List.set_cons_succ]
      refine anyH_take (i := 14) (d := 86) (L' := #[true, true, true, true, true, true, true, true, true, true, true, true, true, true, true]) (v := ?v76) rfl rfl (by kernel_rfl) (fun _ _ _ h => h) (by rfl) ?hy76 (by assumption) ?rest76
      case hy76 => (intro wx hSw; (try dsimp only at hSw); (have t0 := Chg.cellS hSw Q4.out); go_simp; (try with_reducible rfl))
      simp only [Act.put, List.setIfInBounds_toArray, List.set_cons_zero, List.set_cons_succ]
      refine wpAnyH_done (by kernel_rfl) ?_ _
      have hE : (if (d.changes.length : Int) < if names < 0 then 0 else names then (d.changes.length : Int) else if names < 0 then 0 else names) = (m : Int) := by have := HM.out; split <;> split <;> omega
      rw [hE]
      generalize (if names < 0 then (0 : Int) else names) = nz
      have HD3 := hd (HD2.out.k (Chg.refl [] wD).drew)
      have HCF3 := hd (HCF.out.k' (Chg.refl [] wD).drew)
      clear hE HRUN Q4 hHeld HD2 HCF HD HC
      have HCUT := hd hcut
      have HSL := hd hsl
      have HCW := hd hcw
      have HCI := hd hci
      clear hcut hsl hcw hci
      generalize wD.drew = wE at *
      go_wp2_with fail
      go_loopw [11, 86] (fun _ t86 wr => ∃ k : Nat, k ≤ m ∧ t86 = .int .i64 k ∧ Hd (DkP wr (wB.heap.size :: fp) b (.slice aof hs.length cf) (.slice aoc d.changes.length cc) wB.heap.size sb hs' { d with files := cutF d.files kept, names := (d.changes.take k).foldl turnD d.sure }) ∧ Hd (Chg fp w wr))
        (fun _ t86 _ => m - (intOf t86).toNat)
      case atStart => exact ⟨0, by omega, rfl, by simpa using HD3, HCF3⟩
      case round =>
        obtain ⟨k, hkm, rfl, HDk, HCk⟩ := hrel
        by_cases hlt : k < m
        · have hkc : k < d.changes.length := by omega
          obtain ⟨gc, hgc2⟩ : ∃ gc, aoc = some ⟨gc, 0, none⟩ := by
            rcases HDk.out.changes.2 with ⟨e, hz⟩ | ⟨g, cap, cur, e, _⟩
            · simp only at hz; omega
            · simp only [Value.slice.injEq] at e; exact ⟨g, e.1⟩
          subst hgc2
          obtain ⟨e0, e1, e2⟩ := chCells_get d.changes k hkc
          have hrow := HDk.out.changes
          simp only at hrow
          have hcl := chCells_length d.changes
          have c0 := World.ownsRow.cellAt hrow (k * 3) (by omega)
          have c1 := World.ownsRow.cellAt hrow (k * 3 + 1) (by omega)
          have c2 := World.ownsRow.cellAt hrow (k * 3 + 2) (by omega)
          rw [e0] at c0
          rw [e1] at c1
          rw [e2] at c2
          have hfold : (d.changes.take (k + 1)).foldl turnD d.sure = turnD ((d.changes.take k).foldl turnD d.sure) d.changes[k] := by
            rw [List.take_succ_eq_append_getElem hkc, List.foldl_append]; rfl
          have hw1 := HCW.out _ (List.getElem_mem hkc)
          have hi1 := HCI.out _ (List.getElem_mem hkc)
          have hel : ((d.changes.take k).foldl turnD d.sure).length ≤ 10000000000 := by have := HSL.out k; rw [List.length_take] at this; omega
          have hgn := HCUT.out (k + 1)
          rw [hfold] at hgn
          generalize d.changes[k]'hkc = X at *
          obtain ⟨X1, X2, X3⟩ := X
          simp only at c0 c1 c2 hw1 hi1
          generalize (d.changes.take k).foldl turnD d.sure = es at *
          have HFO := hd hfold
          have HGN := hd hgn
          clear e0 e1 e2 hrow hcl hfold hgn
          go_upto_region 15 with (fail)
          clear c0 c1 c2
          have hD := HDk.out
          have hcx := HCk.out
          have hszD : ∀ j ∈ wB.heap.size :: fp, j < wr.heap.size := hD.fpl
          have kx := Blk.new wr #[.string (strB X1), .string (strB X2), .int .i64 (X3 : Int)] 99
          have hcb := (Chg.refl [] wr).alloc (.cells #[.string (strB X1), .string (strB X2), .int .i64 (X3 : Int)] 99)
          replace hD := hD.k hcb
          replace hcx := hcx.k' hcb
          clear hcb
          generalize wr.alloc (.cells #[.string (strB X1), .string (strB X2), .int .i64 (X3 : Int)] 99) = wq at *
          have q0 := kx.cell 0
          have q1 := kx.cell 1
          have q2 := kx.cell 2
          have q3 := hD.box.cell 2
          simp [boxCells] at q0 q1 q2 q3
          have Q0 := hd q0
          have Q1 := hd q1
          have Q2 := hd q2
          have Q3 := hd q3
          have N1 : wr.heap.size ∉ [wB.heap.size] := by simp only [List.mem_singleton]; intro e; have := hszD wB.heap.size (by simp); omega
          have N2 : b ∉ [wB.heap.size] := by simpa using fun e => hD.names.apart hD.box e.symm
          have HM5 := hd hD.names
          have HD5 := hd hD
          have HX5 := hd hcx
          clear q0 q1 q2 q3 kx hD hcx hszD HDk HCk
          refine anyH_start (n := 6) (L := #[false, false, false, false, false, false]) (by kernel_rfl) (by kernel_rfl) (S := (fun wx => Chg [wB.heap.size] wq wx)) ((Chg.refl _ _).drew) (fun hHeld => ?_)
          refine anyH_take (i := 0) (d := 90) (L' := #[true, false, false, false, false, false]) (v := ?v79) rfl rfl (by kernel_rfl) (fun _ _ _ h => h) (by rfl) ?hy79 (by assumption) ?rest79
          case hy79 => (intro wx hSw; (try dsimp only at hSw); (have t0 := hSw.cellT Q0.out N1; have t1 := hSw.cellT Q1.out N1; have t2 := hSw.cellT Q2.out N1; have t3 := hSw.cellT Q3.out N2); go_simp; (try with_reducible rfl))
          simp only [Act.put, List.setIfInBounds_toArray, List.set_cons_zero, List.set_cons_succ]
          refine anyH_take (i := 1) (d := 91) (L' := #[true, true, false, false, false, false]) (v := ?v80) rfl rfl (by kernel_rfl) (fun _ _ _ h => h) (by rfl) ?hy80 (by assumption) ?rest80
          case hy80 => (intro wx hSw; (try dsimp only at hSw); (have t0 := hSw.cellT Q0.out N1; have t1 := hSw.cellT Q1.out N1; have t2 := hSw.cellT Q2.out N1; have t3 := hSw.cellT Q3.out N2); go_simp; (try with_reducible rfl))
          simp only [Act.put, List.setIfInBounds_toArray, List.set_cons_zero, List.set_cons_succ]
          refine anyH_take (i := 2) (d := 92) (L' := #[true, true, true, false, false, false]) (v := ?v81) rfl rfl (by kernel_rfl) (fun _ _ _ h => h) (by rfl) ?hy81 (by assumption) ?rest81
          case hy81 => (intro wx hSw; (try dsimp only at hSw); (have t0 := hSw.cellT Q0.out N1; have t1 := hSw.cellT Q1.out N1; have t2 := hSw.cellT Q2.out N1; have t3 := hSw.cellT Q3.out N2); go_simp; (try with_reducible rfl))
          simp only [Act.put, List.setIfInBounds_toArray, List.set_cons_zero, List.set_cons_succ]
          refine anyH_take (i := 3) (d := 93) (L' := #[true, true, true, true, false, false]) (v := ?v82) rfl rfl (by kernel_rfl) (fun _ _ _ h => h) (by rfl) ?hy82 (by assumption) ?rest82
          case hy82 => (intro wx hSw; (try dsimp only at hSw); (have t0 := hSw.cellT Q0.out N1; have t1 := hSw.cellT Q1.out N1; have t2 := hSw.cellT Q2.out N1; have t3 := hSw.cellT Q3.out N2); go_simp; (try with_reducible rfl))
          simp only [Act.put, List.setIfInBounds_toArray, List.set_cons_zero, List.set_cons_succ]
          refine anyH_take (i := 4) (d := 94) (L' := #[true, true, true, true, true, false]) (v := ?v83) rfl rfl (by kernel_rfl) (fun _ _ _ h => h) (by rfl) ?hy83 (by assumption) ?rest83
          case hy83 => (intro wx hSw; (try dsimp only at hSw); (have t0 := hSw.cellT Q0.out N1; have t1 := hSw.cellT Q1.out N1; have t2 := hSw.cellT Q2.out N1; have t3 := hSw.cellT Q3.out N2); go_simp; (try with_reducible rfl))
          simp only [Act.put, List.setIfInBounds_toArray, List.set_cons_zero, List.set_cons_succ]
          refine anyH_run (i := 5) (L' := #[true, true, true, true, true, true]) rfl (by kernel_rfl) (by rfl) (fun KK hKK => ?_)
          go_simp
          (refine (turn_any _ wB.heap.size es (X1, X2, X3) (HM5.out.k (Chg.refl _ _).drew) hw1.1 hw1.2 (by show X3 ≤ _; omega) hel).mono ?_; rintro e w2 ⟨rfl, hm2, hc2⟩; have hcc := (Chg.refl [wB.heap.size] wq).drew.trans hc2 (by simp); clear hc2; try go_simp)
          refine hKK.out _ _ (by assumption) (fun hHeld => ?_)
          clear hKK KK
          try simp only [Act.put, List.setIfInBounds_toArray, List.set_cons_zero, List.set_cons_succ]
          refine wpAnyH_done (by kernel_rfl) ?_ _
          have HN := hd (HD5.out.named hcc hm2 HGN.out)
          have HZ := hd (HX5.out.trans (S' := [wB.heap.size]) hcc (by simp only [List.mem_singleton]; rintro x rfl hx; omega))
          clear hcc hm2
          go_wp2_with fail
          go_roundw
          case rel => exact ⟨k + 1, by omega, by go_num, by rw [HFO.out]; exact HN, HZ⟩
          case measure => simp [intOf]; omega
        · obtain rfl : k = m := by omega
          have hset := settle_any HDk.out
          go_wp2_with fail
          refine (hset).mono ?_
          rintro e wF ⟨rfl, hF⟩
          have hF2 := hF.chain HCk.out (by intro j hj; rcases List.mem_cons.1 hj with rfl | hj; exact .inr hzw; exact .inl hj)
          have HFIN : Hd (DkOut w fp b (crashD d names kept) wF) := hd (by unfold crashD; rw [← HM.out]; exact hF2)
          clear hF hF2 hset
          go_wp2_with fail
          go_end0
          exact ⟨rfl, HFIN.out⟩
end Go.Proofs.Ytpoohpmcopjklaa
