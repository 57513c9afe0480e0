/- Words and walks that DiskNames rests on, part 3. -/
import Derived.Test.YtpoohpmcopjklaaWDiskNames2
import Derived.Deep.Cut
import Derived.Carry
/- Disk.Crash. -/
namespace Go.Proofs.Ytpoohpmcopjklaa
open Go.RowKit

variable {w : World} {fp : List Nat} {b : Nat} {fv cv : Value} {nb sb : Nat} {hs : List HF} {d : Dsk}

/-- xs[:q] of a row of the call's own. -/
theorem run_cutOwn {P : Program} {t e : TypeId} {size bytes : Nat} (hT : RowT P t e size bytes) {w : World} {base n cap q : Nat} {ao : Option Addr} {xs : List Value} (h : w.ownsRow base e size (.slice ao n cap) n xs) {hi : Option Value} (hhi : Bound hi q n) (hq : q ≤ n) :
    (∀ W, (Instr.sliceAt t (.slice ao n cap) none hi none).run P W = .ok (.slice ao q cap) W) ∧ w.ownsRow base e size (.slice ao q cap) q (xs.take (q * size)) := by
  have hv := Rd.ofOwn h
  obtain ⟨i, z, ht, hi', hz, rfl, rfl, hzs, hsz⟩ := hT
  have hadd : ∀ a : Addr, a.add 0 = a := by intro a; unfold Addr.add; simp
  rcases h.2 with ⟨he, h0⟩ | ⟨g, cap', cur, he, hb, hg, hnc, hcm, hcs, htake⟩
  · simp only [Value.slice.injEq] at he
    obtain ⟨rfl, rfl, rfl⟩ := he
    obtain rfl : q = 0 := by omega
    refine ⟨fun W => ?_, by simp, .inl ⟨rfl, rfl⟩⟩
    have hbd : (Instr.sliceBounds true 0 0 none hi none).run P W = .ok (0, 0, 0) W := by
      have e1 : ∀ (k : IntKind) (code : BoundsCode), (Instr.sliceBound (.int k 0) 0 code).run P W = .ok 0 W := by
        intro k code; simp [Instr.sliceBound, asIntOf, go_sem]
      rcases hhi with ⟨rfl, _⟩ | ⟨k', rfl⟩ <;> simp [Instr.sliceBounds, e1, go_sem]
    simp [Instr.sliceAt, Instr.slice, run_underlying ht, sizeOf, typeInfo, hi', hbd]
  · simp only [Value.slice.injEq] at he
    obtain ⟨rfl, -, rfl⟩ := he
    refine ⟨fun W => ?_, ?_, .inr ⟨g, cap, cur, rfl, hb, hg, by omega, hcm, hcs, ?_⟩⟩
    · have hbd : (Instr.sliceBounds true n cap none hi none).run P W = .ok (0, q, cap) W := by
        have e1 : ∀ (k : IntKind) (code : BoundsCode), (Instr.sliceBound (.int k (q : Int)) cap code).run P W = .ok q W := by
          intro k code; simp [Instr.sliceBound, asIntOf, show (q : Int) ≤ (cap : Int) by omega, go_sem]
        rcases hhi with ⟨rfl, rfl⟩ | ⟨k', rfl⟩ <;> simp [Instr.sliceBounds, e1, go_sem] <;> (intro h; omega)
      simp [Instr.sliceAt, Instr.slice, run_underlying ht, sizeOf, typeInfo, hi', hbd, hadd]
    · rw [List.length_take, h.1]; exact Nat.min_eq_left (Nat.mul_le_mul_right _ hq)
    · rw [← htake, List.take_take, Nat.min_eq_left (Nat.mul_le_mul_right _ hq)]
theorem DkP.shrink {fp' : List Nat} (h : DkP w fp' b fv cv nb sb hs d) (hsub : ∀ k ∈ fp', k ∈ fp) (hl : ∀ k ∈ fp, k < w.heap.size) : DkP w fp b fv cv nb sb hs d :=
  { h with
    fpb := hsub _ h.fpb
    fpn := hsub _ h.fpn
    fps := hsub _ h.fps
    fpf := fun k hk => hsub _ (h.fpf k hk)
    fpc := fun k hk => hsub _ (h.fpc k hk)
    fph := fun f hf k hk => hsub _ (h.fph f hf k hk)
    fpl := hl }
/-- The names lie in a new map. -/
theorem DkP.newNames (h : DkP w fp b fv cv nb sb hs d) {nb' : Nat} {es : Nm} (hm : MapAt w nb' es) (hne : nb' ≠ sb) (hg : GoodD { d with names := es }) :
    DkP (w.setCell ⟨b, 2, none⟩ (.map (some nb'))) (nb' :: fp) b fv cv nb' sb hs { d with names := es } := by
  have hc : Chg [b] w (w.setCell ⟨b, 2, none⟩ (.map (some nb'))) := (Chg.refl _ _).setCell _ _ (by simp)
  exact
  { box := h.box.set 2 _
    names := hm.chg hc (by simpa using hm.apart h.box)
    sure := h.sure.chg hc (by simpa using h.sure.apart h.box)
    files := ownsRow_chg h.files hc fun k hk => by have := ownsRow_apart h.files h.box (by decide); rw [hk] at this; simpa using this
    same := h.same
    changes := ownsRow_chg h.changes hc fun k hk => by have := ownsRow_apart h.changes h.box (by decide); rw [hk] at this; simpa using this
    bytes := fun f hf => OwB.chg (h.bytes f hf) hc fun k hk => by have := ownsRow_apart (h.bytes f hf) h.box (by decide); rw [hk] at this; simpa using this
    apart := h.apart
    ne := hne
    fpb := by simp [h.fpb]
    fpn := by simp
    fps := by simp [h.fps]
    fpf := fun k hk => by simp [h.fpf k hk]
    fpc := fun k hk => by simp [h.fpc k hk]
    fph := fun f hf k hk => by simp [h.fph f hf k hk]
    fpl := fun k hk => by
      rw [size_set]
      rcases List.mem_cons.1 hk with rfl | hk
      · exact hm.lt
      · exact h.fpl k hk
    good := hg }

theorem Chg.k' {S : List Nat} {a b c : World} (h : Chg S a b) (hc : Chg [] b c) : Chg S a c := h.trans hc (by simp)
theorem undInts : Try.prog.underlying 53 = some (.slice 3) := by kernel_rfl
theorem elemInt : Try.prog.elem 53 = 3 := by kernel_rfl
theorem run_cutI {w : World} {v : Value} {l : List Int} (hv : Fs w v l) {lo hi : Option Value} {p q : Nat} (hlo : Bound lo p 0) (hhi : Bound hi q l.length) (hpq : p ≤ q) (hq : q ≤ l.length) :
    ∃ ao c, (∀ W, (Instr.slice 53 v lo hi none).run Try.prog W = .ok (.slice ao (q - p) c) W) ∧ Fs w (.slice ao (q - p) c) ((l.drop p).take (q - p)) ∧
      (∀ k, (Value.slice ao (q - p) c).ownBlock = some k → v.ownBlock = some k) := by
  obtain ⟨ao, c, h1, h2, h3⟩ := run_cut rowInt hv hlo hhi hpq hq
  refine ⟨ao, c, fun W => ?_, ?_, h3⟩
  · rw [← run_sliceAt_slice (P := Try.prog) W 53 v lo hi none (by rw [elemInt]; exact undInts)]
    exact h1 W
  · have e : ((l.drop p).take (q - p)).length = q - p := by rw [List.length_take, List.length_drop]; omega
    unfold Fs; rw [e]; simpa [List.map_take, List.map_drop] using h2
theorem setF_same {d : Dsk} {k : Nat} {f : List UInt8 × Nat} (h : d.files[k]? = some f) : setF d k f = d := by
  unfold setF
  have : d.files.set k f = d.files := by
    apply List.ext_getElem?
    intro i
    rw [List.getElem?_set]
    split
    · rename_i e; subst e
      rw [h]; have := (List.getElem?_eq_some_iff.1 h).1; simp [this]
    · rfl
  rw [this]
theorem crash_cut {g cf k m ck : Nat} {aok : Option Addr} {Xb : List UInt8} {Xs : Nat} (hD : DkP w fp b (.slice (some ⟨g, 0, none⟩) hs.length cf) cv nb sb hs d) (hk : k < hs.length) (hX : hs[k] = (.slice aok Xb.length ck, Xb, Xs)) (h1 : Xs ≤ m) (h2 : m ≤ Xb.length) :
    (∀ W, (Instr.slice 30 (.slice aok Xb.length ck) none (some (.int .i64 (m : Int))) none).run Try.prog W = .ok (.slice aok m ck) W) ∧
    ∃ hs', DkP (w.setCell ⟨g, k * 2, none⟩ (.slice aok m ck)) fp b (.slice (some ⟨g, 0, none⟩) hs.length cf) cv nb sb hs' (setF d k (Xb.take m, Xs)) := by
  have hb := hD.bytes _ (List.getElem_mem hk)
  rw [hX] at hb
  simp only at hb
  obtain ⟨hr, hown⟩ := run_cutOwn rowBytes hb (hi := some (.int .i64 (m : Int))) (.inr ⟨_, rfl⟩) h2
  refine ⟨fun W => ?_, ?_⟩
  · rw [← run_sliceAt_slice (P := Try.prog) W 30 _ _ _ none (by rw [elemBytes]; exact undBytes)]
    exact hr W
  · have hfm : d.files[k]? = some (Xb, Xs) := by rw [← hD.same, List.getElem?_map, List.getElem?_eq_getElem hk, hX]; rfl
    have hgood := hD.good.files _ (List.mem_of_getElem? hfm)
    have hv : OwB w 0 (.slice aok m ck) (Xb.take m) := by
      unfold OwB
      have e : (Xb.take m).length = m := by rw [List.length_take]; omega
      rw [e, List.map_take]; simpa using hown
    have hX2 : hs[k].2.2 = Xs := by rw [hX]
    have hmv : Moved w hs[k].1 (.slice aok m ck) := .inl (by rw [hX]; cases aok <;> rfl)
    have hgd : GoodD (setF d k (Xb.take m, hs[k].2.2)) := by
      rw [hX2]
      have e : (Xb.take m).length = m := by rw [List.length_take]; omega
      refine hD.good.putF k _ ⟨by simp only [e]; exact h1, ?_, ?_⟩
      · simp only [e]; have := hgood.2.1; simp only at this; omega
      · simp only [e]; have := hgood.2.2; simp only at this; omega
    have := hD.byteSet hk (Chg.refl _ _) hv hmv hgd
    rw [hX2] at this
    refine ⟨_, this.shrink (fun j hj => ?_) (fun j hj => by rw [size_set]; exact hD.fpl j hj)⟩
    rcases List.mem_append.1 hj with hj | hj
    · refine hD.fph _ (List.getElem_mem hk) j ?_
      rw [hX]
      cases aok with
      | none => simp [Value.ownBlock] at hj
      | some a => simpa [Value.ownBlock, eq_comm] using hj
    · exact hj

theorem chCells_get : ∀ (l : List (List UInt8 × List UInt8 × Nat)) (i : Nat) (h : i < l.length), (chCells l)[i * 3]? = some (.string (strB l[i].1)) ∧ (chCells l)[i * 3 + 1]? = some (.string (strB l[i].2.1)) ∧ (chCells l)[i * 3 + 2]? = some (.int .i64 (l[i].2.2 : Int))
  | f :: l, 0, _ => by simp [chCells]
  | f :: l, i + 1, h => by
    have := chCells_get l i (by simpa using h)
    rw [show (i + 1) * 3 = i * 3 + 1 + 1 + 1 by omega]
    simpa [chCells] using this
theorem undChs : Try.prog.underlying 83 = some (.slice 99) := by kernel_rfl
theorem elemCh : Try.prog.elem 83 = 99 := by kernel_rfl
theorem crash_cutCh {base n cap q : Nat} {ao : Option Addr} {xs : List Value} (h : w.ownsRow base 99 3 (.slice ao n cap) n xs) (hq : q ≤ n) :
    ∀ W, (Instr.slice 83 (.slice ao n cap) none (some (.int .i64 (q : Int))) none).run Try.prog W = .ok (.slice ao q cap) W := fun W => by
  rw [← run_sliceAt_slice (P := Try.prog) W 83 _ _ _ none (by rw [elemCh]; exact undChs)]
  exact (run_cutOwn rowCh h (.inr ⟨_, rfl⟩) hq).1 W

set_option maxRecDepth 100000 in
set_option maxHeartbeats 2000000 in
theorem Crash_any (h : Dk w fp b d) (names : Int) (vk : Value) (kept : List Int) (hk : Fs w vk kept) (hkf : ∀ j, vk.ownBlock = some j → j ∉ fp) : Calls Try.prog 25 #[.pointer (some ⟨b, 0, none⟩), .int .i64 names, vk] w fun e w' => e = .returned (.tuple #[]) ∧ DkOut w fp b (crashD d names kept) w' := by
  obtain ⟨fv, cv, nb, sb, hs, h⟩ := h
  have H := hd h
  have HK := hd hk
  obtain ⟨aof, cf, rfl⟩ : ∃ ao c, fv = .slice ao hs.length c := by
    rcases h.files.2 with ⟨rfl, hz⟩ | ⟨g, cap, cur, rfl, _⟩
    · exact ⟨none, 0, by rw [hz]⟩
    · exact ⟨_, cap, rfl⟩
  have hfl : (hs.length : Int) ≤ d.ops := by rw [h.len]; exact h.good.nfiles
  have hol : d.ops ≤ 1073741824 := h.good.ops.2
  have q1 := h.box.cell 1
  simp [boxCells] at q1
  have hkl : kept.length ≤ 9223372036854775807 := by obtain ⟨_, _, _, _, _, h1, h2, _⟩ := hk.open; omega
  have HKL := hd hkl
  have h0 : ∃ hs', DkP w fp b (.slice aof hs.length cf) cv nb sb hs' { d with files := filesAt d.files kept 0 } := by rw [filesAt_zero]; exact ⟨hs, h⟩
  have hk0 : Fs w vk (keptAt d.files kept 0) := by rw [keptAt_zero]; exact hk
  clear hkl
  go_enter Try.func25, Try.ntmps25
  clear h hk
  go_wp2_with fail
  go_loopw [2, 6, 7, 8, 9, 17] (fun t2 _ _ _ _ t17 wr => ∃ k : Nat, k ≤ hs.length ∧ t17 = .int .i64 k ∧ Fs wr t2 (keptAt d.files kept k) ∧ (∃ hs', DkP wr fp b (.slice aof hs.length cf) cv nb sb hs' { d with files := filesAt d.files kept k }) ∧ Chg fp w wr ∧ wr.heap.size = w.heap.size ∧ (∀ j, t2.ownBlock = some j → j ∉ fp))
    (fun _ _ _ _ _ t17 _ => hs.length - (intOf t17).toNat)
  case atStart => exact ⟨0, by omega, rfl, hk0, h0, Chg.refl _ _, rfl, hkf⟩
  case round =>
    obtain ⟨k, hkk, rfl, hkr, ⟨hs', hD⟩, hc, hz, hkf⟩ := hrel
    by_cases hlt : k < hs.length
    · have hl' : hs'.length = hs.length := by rw [hD.len, H.out.len]; exact filesAt_length _ _ _
      obtain ⟨g, cg, e⟩ := hD.slice (by omega)
      rw [hl'] at e
      simp only [Value.slice.injEq, true_and] at e
      obtain ⟨rfl, rfl⟩ := e
      have hlt' : k < hs'.length := by omega
      have hlf : k < d.files.length := by rw [← H.out.len]; exact hlt
      have hD' : DkP wr fp b (.slice (some ⟨g, 0, none⟩) hs'.length cf) cv nb sb hs' { d with files := filesAt d.files kept k } := by rw [hl']; exact hD
      obtain ⟨aok, ck, hv, c0, c1, hfk⟩ := hD'.file hlt'
      have hfk2 := filesAt_get d.files kept k hlf
      have hsucc := filesAt_succ d.files kept k hlf
      have hgf := H.out.good.files d.files[k] (List.getElem_mem hlf)
      have q1 := hD.box.cell 1
      simp [boxCells] at q1
      rw [hfk2] at hfk
      simp only [Option.some.injEq] at hfk
      rw [hfk] at hsucc hgf
      have HD := hd hD'
      have HL' := hd hl'
      have hlti : (k : Int) < (hs.length : Int) := by omega
      obtain ⟨Xv, Xb, Xs, hX⟩ : ∃ Xv Xb Xs, hs'[k] = (Xv, Xb, Xs) := ⟨_, _, _, rfl⟩
      have hfk3 : (filesAt d.files kept k)[k]? = some (Xb, Xs) := by rw [hfk2, hfk, hX]
      rw [hX] at c0 c1 hgf hsucc
      simp only at c0 c1 hgf hsucc
      have hsn : ¬ Xs < Xb.length → { d with files := filesAt d.files kept (k + 1) } = { d with files := filesAt d.files kept k } ∧ keptAt d.files kept (k + 1) = keptAt d.files kept k := fun hn => by
        rw [if_neg hn, if_neg hn] at hsucc
        refine ⟨?_, hsucc.2⟩
        rw [hsucc.1]
        exact setF_same (d := { d with files := filesAt d.files kept k }) hfk3
      have hsc : Xs < Xb.length → ∀ m : Nat, (m : Int) = Xs + min (max ((keptAt d.files kept k).headD 0) 0) ((Xb.length : Int) - Xs) → { d with files := filesAt d.files kept (k + 1) } = setF { d with files := filesAt d.files kept k } k (Xb.take m, Xs) ∧ keptAt d.files kept (k + 1) = (keptAt d.files kept k).tail := fun hy m hm => by
        rw [if_pos hy, if_pos hy] at hsucc
        refine ⟨?_, hsucc.2⟩
        rw [hsucc.1]
        unfold setF cutOne
        simp only
        have : m = Xs + (min (max ((keptAt d.files kept k).headD 0) 0) ((Xb.length : Int) - Xs)).toNat := by omega
        rw [this]
      have hX' : hs'[k] = (.slice aok Xb.length ck, Xb, Xs) := by
        rw [hX] at hv ⊢
        simp only at hv
        rw [hv]
      have HSN := hd hsn
      have HSC := hd hsc
      have HXE := hd hX'
      have Q1 := hd q1
      have C0 := hd c0
      have C1 := hd c1
      clear hX hX' hv hD hD' hfk hfk2 hfk3 hsucc hsn hsc q1 c0 c1 h0 hk0 hl'
      have q1 := Q1.out
      go_upto_region 4 with (fail)
      clear q1
      obtain ⟨g1, -, g2⟩ := hgf
      have hsb : IntKind.i64.wrap ((Xb.length : Int) - (Xs : Int)) = (Xb.length : Int) - (Xs : Int) := IntWalk.i64_in _ (by omega)
      refine anyH_start (n := 11) (L := #[false, false, false, false, false, false, false, false, false, false, false]) (by kernel_rfl) (by kernel_rfl) (S := (fun wx => Chg [] wr wx)) ((Chg.refl _ _).drew) (fun hHeld => ?_)
      refine anyH_take (i := 0) (d := 26) (L' := #[true, false, false, false, false, false, false, false, false, false, false]) (v := ?v2) rfl rfl (by kernel_rfl) (fun _ _ _ h => h) (by rfl) ?hy2 (by assumption) ?rest2
      case hy2 => (intro wx hSw; (try dsimp only at hSw); (have t0 := hSw.cellT C0.out (by simp); have t1 := hSw.cellT C1.out (by simp)); go_simp; (try with_reducible rfl))
      simp only [Act.put, List.setIfInBounds_toArray, List.set_cons_zero, List.set_cons_succ]
      refine anyH_take (i := 1) (d := 27) (L' := #[true, true, false, false, false, false, false, false, false, false, false]) (v := ?v3) rfl rfl (by kernel_rfl) (fun _ _ _ h => h) (by rfl) ?hy3 (by assumption) ?rest3
      case hy3 => (intro wx hSw; (try dsimp only at hSw); (have t0 := hSw.cellT C0.out (by simp); have t1 := hSw.cellT C1.out (by simp)); go_simp; (try with_reducible rfl))
      simp only [Act.put, List.setIfInBounds_toArray, List.set_cons_zero, List.set_cons_succ]
      refine anyH_take (i := 2) (d := 28) (L' := #[true, true, true, false, false, false, false, false, false, false, false]) (v := ?v4) rfl rfl (by kernel_rfl) (fun _ _ _ h => h) (by rfl) ?hy4 (by assumption) ?rest4
      case hy4 => (intro wx hSw; (try dsimp only at hSw); (have t0 := hSw.cellT C0.out (by simp); have t1 := hSw.cellT C1.out (by simp)); go_simp; (try with_reducible rfl))
      simp only [Act.put, List.setIfInBounds_toArray, List.set_cons_zero, List.set_cons_succ]
      refine anyH_take (i := 3) (d := 29) (L' := #[true, true, true, true, false, false, false, false, false, false, false]) (v := ?v5) rfl rfl (by kernel_rfl) (fun _ _ _ h => h) (by rfl) ?hy5 (by assumption) ?rest5
      case hy5 => (intro wx hSw; (try dsimp only at hSw); (have t0 := hSw.cellT C0.out (by simp); have t1 := hSw.cellT C1.out (by simp)); go_simp; (try with_reducible rfl))
      simp only [Act.put, List.setIfInBounds_toArray, List.set_cons_zero, List.set_cons_succ]
      refine anyH_take (i := 4) (d := 30) (L' := #[true, true, true, true, true, false, false, false, false, false, false]) (v := ?v6) rfl rfl (by kernel_rfl) (fun _ _ _ h => h) (by rfl) ?hy6 (by assumption) ?rest6
      case hy6 => (intro wx hSw; (try dsimp only at hSw); (have t0 := hSw.cellT C0.out (by simp); have t1 := hSw.cellT C1.out (by simp)); go_simp; (try with_reducible rfl))
      simp only [Act.put, List.setIfInBounds_toArray, List.set_cons_zero, List.set_cons_succ]
      refine anyH_take (i := 5) (d := 31) (L' := #[true, true, true, true, true, true, false, false, false, false, false]) (v := ?v7) rfl rfl (by kernel_rfl) (fun _ _ _ h => h) (by rfl) ?hy7 (by assumption) ?rest7
      case hy7 => (intro wx hSw; (try dsimp only at hSw); (have t0 := hSw.cellT C0.out (by simp); have t1 := hSw.cellT C1.out (by simp)); go_simp; (try with_reducible rfl))
      simp only [Act.put, List.setIfInBounds_toArray, List.set_cons_zero, List.set_cons_succ]
      refine anyH_take (i := 6) (d := 32) (L' := #[true, true, true, true, true, true, true, false, false, false, false]) (v := ?v8) rfl rfl (by kernel_rfl) (fun _ _ _ h => h) (by rfl) ?hy8 (by assumption) ?rest8
      case hy8 => (intro wx hSw; (try dsimp only at hSw); (have t0 := hSw.cellT C0.out (by simp); have t1 := hSw.cellT C1.out (by simp)); go_simp; (try with_reducible rfl))
      simp only [Act.put, List.setIfInBounds_toArray, List.set_cons_zero, List.set_cons_succ]
      refine anyH_take (i := 7) (d := 33) (L' := #[true, true, true, true, true, true, true, true, false, false, false]) (v := ?v9) rfl rfl (by kernel_rfl) (fun _ _ _ h => h) (by rfl) ?hy9 (by assumption) ?rest9
      case hy9 => (intro wx hSw; (try dsimp only at hSw); (have t0 := hSw.cellT C0.out (by simp); have t1 := hSw.cellT C1.out (by simp)); go_simp; (try with_reducible rfl))
      simp only [Act.put, List.setIfInBounds_toArray, List.set_cons_zero, List.set_cons_succ]
      refine anyH_take (i := 8) (d := 34) (L' := #[true, true, true, true, true, true, true, true, true, false, false]) (v := ?v10) rfl rfl (by kernel_rfl) (fun _ _ _ h => h) (by rfl) ?hy10 (by assumption) ?rest10
      case hy10 => (intro wx hSw; (try dsimp only at hSw); (have t0 := hSw.cellT C0.out (by simp); have t1 := hSw.cellT C1.out (by simp)); go_simp; (try with_reducible rfl))
      simp only [Act.put, List.setIfInBounds_toArray, List.set_cons_zero, List.set_cons_succ]
      refine anyH_take (i := 9) (d := 35) (L' := #[true, true, true, true, true, true, true, true, true, true, false]) (v := ?v11) rfl rfl (by kernel_rfl) (fun _ _ _ h => h) (by rfl) ?hy11 (by assumption) ?rest11
      case hy11 => (intro wx hSw; (try dsimp only at hSw); (have t0 := hSw.cellT C0.out (by simp); have t1 := hSw.cellT C1.out (by simp)); go_simp; (try with_reducible rfl))
      simp only [Act.put, List.setIfInBounds_toArray, List.set_cons_zero, List.set_cons_succ]
      refine anyH_take (i := 10) (d := 8) (L' := #[true, true, true, true, true, true, true, true, true, true, true]) (v := ?v12) rfl rfl (by kernel_rfl) (fun _ _ _ h => h) (by rfl) ?hy12 (by assumption) ?rest12
      case hy12 => (intro wx hSw; (try dsimp only at hSw); (have t0 := hSw.cellT C0.out (by simp); have t1 := hSw.cellT C1.out (by simp)); go_simp; (try with_reducible rfl))
      simp only [Act.put, List.setIfInBounds_toArray, List.set_cons_zero, List.set_cons_succ]
      refine wpAnyH_done (by kernel_rfl) ?_ _
      clear hsb
      by_cases hcut : Xs < Xb.length
      case neg =>
        have hn0 : ¬ (0 : Int) < (Xb.length : Int) - (Xs : Int) := by omega
        have HSS := hd (HSN.out hcut)
        clear hcut
        go_wp2_with fail
        go_roundw
        case rel => exact ⟨k + 1, by omega, by go_num, by rw [HSS.out.2]; exact hkr.k (Chg.refl _ _).drew, by rw [HSS.out.1, ← HL'.out]; exact ⟨_, HD.out.k (Chg.refl _ _).drew⟩, hc.drew, hz, hkf⟩
        case measure => simp [intOf]; omega
      have hn0 : (0 : Int) < (Xb.length : Int) - (Xs : Int) := by omega
      have HSS := hd (HSC.out hcut)
      clear HSC HSN
      generalize keptAt d.files kept k = kr at *
      cases kr with
      | nil =>
        have hu2 : ∃ ao2 cap2, u2 = .slice ao2 0 cap2 := by obtain ⟨ao2, cap2, _, _, h, _⟩ := hkr.open; exact ⟨ao2, cap2, h⟩
        obtain ⟨ao2, cap2, rfl⟩ := hu2
        have hcc := HSS.out Xs (by simp; omega)
        have hc2 : Chg [] wr wr.drew := (Chg.refl [] wr).drew
        obtain ⟨hrun, hnew⟩ := crash_cut (m := Xs) (HD.out.k hc2.drew) hlt' HXE.out (Nat.le_refl _) (by omega)
        have hz2 : wr.drew.heap.size = w.heap.size := hz
        have hw : IntKind.i64.wrap (Xs : Int) = (Xs : Int) := IntWalk.i64_in _ (by omega)
        go_upto_region 9 with (fail)
        generalize wr.drew = W2 at *
        have hgfp : g ∈ fp := HD.out.fpf g rfl
        have F0 : Hd (W2.frozen? ⟨g, k * 2, none⟩ = false) := hd (by rw [Chg.frozenS hc2 C0.out]; exact World.ownsRow.frozenAt HD.out.files (k * 2))
        replace C0 := hd (Chg.cellS hc2 C0.out)
        replace C1 := hd (Chg.cellS hc2 C1.out)
        have hne1 : (⟨g, k * 2, none⟩ : Addr) ≠ ⟨g, k * 2 + 1, none⟩ := by simp
        have HNEW := hd hnew
        have hS2 : Chg [g] W2 (W2.drew.setCell ⟨g, k * 2, none⟩ (.slice aok Xs ck)) ∧ (W2.drew.setCell ⟨g, k * 2, none⟩ (.slice aok Xs ck)).cell? ⟨g, k * 2 + 1, none⟩ = some (.int .i64 (Xs : Int)) := ⟨(Chg.refl [g] W2).drew.setCell _ _ (by simp), by rw [World.cell?_setCell_other (h := hne1)]; exact C1.out⟩
        have HS2 := hd hS2
        have HF := hd hkr
        clear hS2 hnew hkr
        refine anyH_start (n := 15) (L := #[false, false, false, false, false, false, false, false, false, false, false, false, false, false, false]) (by kernel_rfl) (by kernel_rfl) (S := (fun wx => Chg [g] W2 wx ∧ wx.cell? ⟨g, k * 2 + 1, none⟩ = some (.int .i64 (Xs : Int)))) ⟨(Chg.refl _ _).drew, C1.out⟩ (fun hHeld => ?_)
        refine anyH_take (i := 0) (d := 49) (L' := #[true, false, false, false, false, false, false, false, false, false, false, false, false, false, false]) (v := ?v15) rfl rfl (by kernel_rfl) (fun _ _ _ h => h) (by rfl) ?hy15 (by assumption) ?rest15
        case hy15 => (intro wx hSw; (try dsimp only at hSw); (have t1 := hSw.2); go_simp; (try with_reducible rfl))
        simp only [Act.put, List.setIfInBounds_toArray, List.set_cons_zero, List.set_cons_succ]
        refine anyH_take (i := 1) (d := 50) (L' := #[true, true, false, false, false, false, false, false, false, false, false, false, false, false, false]) (v := ?v16) rfl rfl (by kernel_rfl) (fun _ _ _ h => h) (by rfl) ?hy16 (by assumption) ?rest16
        case hy16 => (intro wx hSw; (try dsimp only at hSw); (have t1 := hSw.2); go_simp; (try with_reducible rfl))
        simp only [Act.put, List.setIfInBounds_toArray, List.set_cons_zero, List.set_cons_succ]
        refine anyH_take (i := 2) (d := 51) (L' := #[true, true, true, false, false, false, false, false, false, false, false, false, false, false, false]) (v := ?v17) rfl rfl (by kernel_rfl) (fun _ _ _ h => h) (by rfl) ?hy17 (by assumption) ?rest17
        case hy17 => (intro wx hSw; (try dsimp only at hSw); (have t1 := hSw.2); go_simp; (try with_reducible rfl))
        simp only [Act.put, List.setIfInBounds_toArray, List.set_cons_zero, List.set_cons_succ]
        refine anyH_take (i := 3) (d := 52) (L' := #[true, true, true, true, false, false, false, false, false, false, false, false, false, false, false]) (v := ?v18) rfl rfl (by kernel_rfl) (fun _ _ _ h => h) (by rfl) ?hy18 (by assumption) ?rest18
        case hy18 => (intro wx hSw; (try dsimp only at hSw); (have t1 := hSw.2); go_simp; (try with_reducible rfl))
        simp only [Act.put, List.setIfInBounds_toArray, List.set_cons_zero, List.set_cons_succ]
        refine anyH_take (i := 5) (d := 54) (L' := #[true, true, true, true, false, true, false, false, false, false, false, false, false, false, false]) (v := ?v19) rfl rfl (by kernel_rfl) (fun _ _ _ h => h) (by rfl) ?hy19 (by assumption) ?rest19
        case hy19 => (intro wx hSw; (try dsimp only at hSw); (have t1 := hSw.2); go_simp; (try with_reducible rfl))
        simp only [Act.put, List.setIfInBounds_toArray, List.set_cons_zero, List.set_cons_succ]
        refine anyH_take (i := 6) (d := 55) (L' := #[true, true, true, true, false, true, true, false, false, false, false, false, false, false, false]) (v := ?v20) rfl rfl (by kernel_rfl) (fun _ _ _ h => h) (by rfl) ?hy20 (by assumption) ?rest20
        case hy20 => (intro wx hSw; (try dsimp only at hSw); (have t1 := hSw.2); go_simp; (try with_reducible rfl))
        simp only [Act.put, List.setIfInBounds_toArray, List.set_cons_zero, List.set_cons_succ]
        refine anyH_take (i := 7) (d := 56) (L' := #[true, true, true, true, false, true, true, true, false, false, false, false, false, false, false]) (v := ?v21) rfl rfl (by kernel_rfl) (fun _ _ _ h => h) (by rfl) ?hy21 (by assumption) ?rest21
        case hy21 => (intro wx hSw; (try dsimp only at hSw); (have t1 := hSw.2); go_simp; (try with_reducible rfl))
        simp only [Act.put, List.setIfInBounds_toArray, List.set_cons_zero, List.set_cons_succ]
        refine anyH_take (i := 8) (d := 57) (L' := #[true, true, true, true, false, true, true, true, true, false, false, false, false, false, false]) (v := ?v22) rfl rfl (by kernel_rfl) (fun _ _ _ h => h) (by rfl) ?hy22 (by assumption) ?rest22
        case hy22 => (intro wx hSw; (try dsimp only at hSw); (have t1 := hSw.2); go_simp; (try with_reducible rfl))
        simp only [Act.put, List.setIfInBounds_toArray, List.set_cons_zero, List.set_cons_succ]
        refine anyH_take (i := 9) (d := 58) (L' := #[true, true, true, true, false, true, true, true, true, true, false, false, false, false, false]) (v := ?v23) rfl rfl (by kernel_rfl) (fun _ _ _ h => h) (by rfl) ?hy23 (by assumption) ?rest23
        case hy23 => (intro wx hSw; (try dsimp only at hSw); (have t1 := hSw.2); go_simp; (try with_reducible rfl))
        simp only [Act.put, List.setIfInBounds_toArray, List.set_cons_zero, List.set_cons_succ]
        refine anyH_take (i := 10) (d := 59) (L' := #[true, true, true, true, false, true, true, true, true, true, true, false, false, false, false]) (v := ?v24) rfl rfl (by kernel_rfl) (fun _ _ _ h => h) (by rfl) ?hy24 (by assumption) ?rest24
        case hy24 => (intro wx hSw; (try dsimp only at hSw); (have t1 := hSw.2); go_simp; (try with_reducible rfl))
        simp only [Act.put, List.setIfInBounds_toArray, List.set_cons_zero, List.set_cons_succ]
        refine anyH_run (i := 4) (L' := #[true, true, true, true, true, true, true, true, true, true, true, false, false, false, false]) rfl (by kernel_rfl) (by rfl) (fun KK hKK => ?_)
        (have t0 : W2.drew.cell? ⟨g, k * 2, none⟩ = _ := C0.out; go_simp)
        refine hKK.out _ _ (by assumption) (fun hHeld => ?_)
        clear hKK KK
        try simp only [Act.put, List.setIfInBounds_toArray, List.set_cons_zero, List.set_cons_succ]
        refine anyH_run (i := 11) (L' := #[true, true, true, true, true, true, true, true, true, true, true, true, false, false, false]) rfl (by kernel_rfl) (by rfl) (fun KK hKK => ?_)
        go_simp
        (skip)
        refine hKK.out _ _ (by assumption) (fun hHeld => ?_)
        clear hKK KK
        try simp only [Act.put, List.setIfInBounds_toArray, List.set_cons_zero, List.set_cons_succ]
        refine anyH_take (i := 12) (d := 61) (L' := #[true, true, true, true, true, true, true, true, true, true, true, true, true, false, false]) (v := ?v27) rfl rfl (by kernel_rfl) (fun _ _ _ h => h) (by rfl) ?hy27 (by assumption) ?rest27
        case hy27 => (intro wx hSw; (try dsimp only at hSw); (have t1 := hSw.2); go_simp; (try with_reducible rfl))
        simp only [Act.put, List.setIfInBounds_toArray, List.set_cons_zero, List.set_cons_succ]
        refine anyH_take (i := 13) (d := 62) (L' := #[true, true, true, true, true, true, true, true, true, true, true, true, true, true, false]) (v := ?v28) rfl rfl (by kernel_rfl) (fun _ _ _ h => h) (by rfl) ?hy28 (by assumption) ?rest28
        case hy28 => (intro wx hSw; (try dsimp only at hSw); (have t1 := hSw.2); go_simp; (try with_reducible rfl))
        simp only [Act.put, List.setIfInBounds_toArray, List.set_cons_zero, List.set_cons_succ]
        refine anyH_run (i := 14) (L' := #[true, true, true, true, true, true, true, true, true, true, true, true, true, true, true]) rfl (by kernel_rfl) (by rfl) (fun KK hKK => ?_)
        (have t0 : W2.drew.cell? ⟨g, k * 2, none⟩ = _ := C0.out; have f0 : W2.drew.frozen? ⟨g, k * 2, none⟩ = false := F0.out; have hS2 := HS2.out; go_simp)
        refine hKK.out _ _ (by assumption) (fun hHeld => ?_)
        clear hKK KK
        try simp only [Act.put, List.setIfInBounds_toArray, List.set_cons_zero, List.set_cons_succ]
        refine wpAnyH_done (by kernel_rfl) ?_ _
        go_wp2_with fail
        go_roundw
        case rel =>
          have hc3 := HS2.out.1
          exact ⟨k + 1, by omega, by go_num, by rw [hcc.2]; exact Fs.chg (HF.out.k hc2) hc3 (fun _ j hj => by simp only [List.mem_singleton]; rintro rfl; exact hkf j hj hgfp), by rw [hcc.1, ← HL'.out]; exact HNEW.out, (hc.trans hc2 (by simp)).trans hc3 (by simp only [List.mem_singleton]; rintro x rfl _; exact hgfp), by show (W2.setCell _ _).heap.size = _; rw [size_set]; exact hz2, hkf⟩
        case measure => simp [intOf]; omega
      | cons x xs =>
        obtain ⟨ao2, cap2, b2, off2, rfl, hl2, hm2, -, hao2, hel2⟩ := hkr.open
        obtain rfl := hao2 (by simp)
        obtain ⟨aoN, cN, hrun, hFN, hbN⟩ := run_cutI hkr (lo := some (.int .i64 1)) (hi := none) (p := 1) (.inr ⟨.i64, rfl⟩) (.inl ⟨rfl, rfl⟩) (by simp) (Nat.le_refl _)
        have e0 := hel2 0 (by simp)
        simp only [List.getElem_cons_zero, Nat.add_zero] at e0
        have E0 := hd e0
        simp only [List.length_cons, Nat.add_sub_cancel] at hrun hFN hbN ⊢
        have HRUN := hd hrun
        have hpos : 0 < (xs.length : Int) + 1 := by omega
        clear hel2 hao2 e0 hrun
        go_upto_region 8 with (fail)
        refine anyH_start (n := 10) (L := #[false, false, false, false, false, false, false, false, false, false]) (by kernel_rfl) (by kernel_rfl) (S := (fun wx => Chg [] wr wx)) ((Chg.refl _ _).drew.drew) (fun hHeld => ?_)
        refine anyH_take (i := 0) (d := 41) (L' := #[true, false, false, false, false, false, false, false, false, false]) (v := ?v32) rfl rfl (by kernel_rfl) (fun _ _ _ h => h) (by rfl) ?hy32 (by assumption) ?rest32
        case hy32 => (intro wx hSw; (try dsimp only at hSw); (have t0 := hSw.cellT E0.out (by simp)); go_simp; (try with_reducible rfl))
        simp only [Act.put, List.setIfInBounds_toArray, List.set_cons_zero, List.set_cons_succ]
        refine anyH_take (i := 1) (d := 42) (L' := #[true, true, false, false, false, false, false, false, false, false]) (v := ?v33) rfl rfl (by kernel_rfl) (fun _ _ _ h => h) (by rfl) ?hy33 (by assumption) ?rest33
        case hy33 => (intro wx hSw; (try dsimp only at hSw); (have t0 := hSw.cellT E0.out (by simp)); go_simp; (try with_reducible rfl))
        simp only [Act.put, List.setIfInBounds_toArray, List.set_cons_zero, List.set_cons_succ]
        refine anyH_take (i := 2) (d := 43) (L' := #[true, true, true, false, false, false, false, false, false, false]) (v := ?v34) rfl rfl (by kernel_rfl) (fun _ _ _ h => h) (by rfl) ?hy34 (by assumption) ?rest34
        case hy34 => (intro wx hSw; (try dsimp only at hSw); (have t0 := hSw.cellT E0.out (by simp)); go_simp; (try with_reducible rfl))
        simp only [Act.put, List.setIfInBounds_toArray, List.set_cons_zero, List.set_cons_succ]
        refine anyH_take (i := 3) (d := 44) (L' := #[true, true, true, true, false, false, false, false, false, false]) (v := ?v35) rfl rfl (by kernel_rfl) (fun _ _ _ h => h) (by rfl) ?hy35 (by assumption) ?rest35
        case hy35 => (intro wx hSw; (try dsimp only at hSw); (have t0 := hSw.cellT E0.out (by simp)); go_simp; (try with_reducible rfl))
        simp only [Act.put, List.setIfInBounds_toArray, List.set_cons_zero, List.set_cons_succ]
        refine anyH_take (i := 4) (d := 45) (L' := #[true, true, true, true, true, false, false, false, false, false]) (v := ?v36) rfl rfl (by kernel_rfl) (fun _ _ _ h => h) (by rfl) ?hy36 (by assumption) ?rest36
        case hy36 => (intro wx hSw; (try dsimp only at hSw); (have t0 := hSw.cellT E0.out (by simp)); go_simp; (try with_reducible rfl))
        simp only [Act.put, List.setIfInBounds_toArray, List.set_cons_zero, List.set_cons_succ]
        refine anyH_take (i := 5) (d := 46) (L' := #[true, true, true, true, true, true, false, false, false, false]) (v := ?v37) rfl rfl (by kernel_rfl) (fun _ _ _ h => h) (by rfl) ?hy37 (by assumption) ?rest37
        case hy37 => (intro wx hSw; (try dsimp only at hSw); (have t0 := hSw.cellT E0.out (by simp)); go_simp; (try with_reducible rfl))
        simp only [Act.put, List.setIfInBounds_toArray, List.set_cons_zero, List.set_cons_succ]
        refine anyH_take (i := 6) (d := 47) (L' := #[true, true, true, true, true, true, true, false, false, false]) (v := ?v38) rfl rfl (by kernel_rfl) (fun _ _ _ h => h) (by rfl) ?hy38 (by assumption) ?rest38
        case hy38 => (intro wx hSw; (try dsimp only at hSw); (have t0 := hSw.cellT E0.out (by simp)); go_simp; (try with_reducible rfl))
        simp only [Act.put, List.setIfInBounds_toArray, List.set_cons_zero, List.set_cons_succ]
        refine anyH_take (i := 7) (d := 48) (L' := #[true, true, true, true, true, true, true, true, false, false]) (v := ?v39) rfl rfl (by kernel_rfl) (fun _ _ _ h => h) (by rfl) ?hy39 (by assumption) ?rest39
        case hy39 => (intro wx hSw; (try dsimp only at hSw); (have t7 := HRUN.out); go_simp; (try with_reducible rfl))
        simp only [Act.put, List.setIfInBounds_toArray, List.set_cons_zero, List.set_cons_succ]
        refine anyH_take (i := 8) (d := 9) (L' := #[true, true, true, true, true, true, true, true, true, false]) (v := ?v40) rfl rfl (by kernel_rfl) (fun _ _ _ h => h) (by rfl) ?hy40 (by assumption) ?rest40
        case hy40 => (intro wx hSw; (try dsimp only at hSw); (have t0 := hSw.cellT E0.out (by simp)); go_simp; (try with_reducible rfl))
        simp only [Act.put, List.setIfInBounds_toArray, List.set_cons_zero, List.set_cons_succ]
        refine anyH_take (i := 9) (d := 2) (L' := #[true, true, true, true, true, true, true, true, true, true]) (v := ?v41) rfl rfl (by kernel_rfl) (fun _ _ _ h => h) (by rfl) ?hy41 (by assumption) ?rest41
        case hy41 => (intro wx hSw; (try dsimp only at hSw); (have t0 := hSw.cellT E0.out (by simp)); go_simp; (try with_reducible rfl))
        simp only [Act.put, List.setIfInBounds_toArray, List.set_cons_zero, List.set_cons_succ]
        refine wpAnyH_done (by kernel_rfl) ?_ _
        generalize hzz : (if (Xb.length : Int) - (Xs : Int) < if x < 0 then 0 else x then (Xb.length : Int) - (Xs : Int) else if x < 0 then 0 else x) = z
        have hz1 : 0 ≤ z ∧ z ≤ (Xb.length : Int) - (Xs : Int) ∧ z = min (max x 0) ((Xb.length : Int) - (Xs : Int)) := by rw [← hzz]; split <;> split <;> omega
        clear hzz
        obtain ⟨hz1, hz2, hz3⟩ := hz1
        obtain ⟨zn, rfl⟩ := Int.eq_ofNat_of_zero_le hz1
        have hcc := HSS.out (Xs + zn) (by simp only [List.headD_cons]; omega)
        have hc2 : Chg [] wr wr.drew.drew := (Chg.refl [] wr).drew.drew
        obtain ⟨hrun, hnew⟩ := crash_cut (m := Xs + zn) (HD.out.k hc2.drew) hlt' HXE.out (by omega) (by omega)
        rw [Int.natCast_add] at hrun
        have hz2 : wr.drew.drew.heap.size = w.heap.size := hz
        have hbN' : ∀ j, (Value.slice aoN xs.length cN).ownBlock = some j → j ∉ fp := fun j hj => hkf j (hbN j hj)
        have hFN' : Fs wr (.slice aoN xs.length cN) xs := by simpa using hFN
        have hw : IntKind.i64.wrap ((Xs : Int) + (zn : Int)) = (Xs : Int) + (zn : Int) := IntWalk.i64_in _ (by omega)
        clear hbN hFN E0 HRUN hkr HSS hcut hm2 hl2 hpos hz1 hz3
        go_upto_region 9 with (fail)
        generalize wr.drew.drew = W2 at *
        have hgfp : g ∈ fp := HD.out.fpf g rfl
        have F0 : Hd (W2.frozen? ⟨g, k * 2, none⟩ = false) := hd (by rw [Chg.frozenS hc2 C0.out]; exact World.ownsRow.frozenAt HD.out.files (k * 2))
        replace C0 := hd (Chg.cellS hc2 C0.out)
        replace C1 := hd (Chg.cellS hc2 C1.out)
        have hne1 : (⟨g, k * 2, none⟩ : Addr) ≠ ⟨g, k * 2 + 1, none⟩ := by simp
        have HNEW := hd hnew
        have hS2 : Chg [g] W2 (W2.drew.setCell ⟨g, k * 2, none⟩ (.slice aok (Xs + zn) ck)) ∧ (W2.drew.setCell ⟨g, k * 2, none⟩ (.slice aok (Xs + zn) ck)).cell? ⟨g, k * 2 + 1, none⟩ = some (.int .i64 (Xs : Int)) := ⟨(Chg.refl [g] W2).drew.setCell _ _ (by simp), by rw [World.cell?_setCell_other (h := hne1)]; exact C1.out⟩
        have HS2 := hd hS2
        have HF := hd hFN'
        clear hS2 hnew hFN'
        refine anyH_start (n := 15) (L := #[false, false, false, false, false, false, false, false, false, false, false, false, false, false, false]) (by kernel_rfl) (by kernel_rfl) (S := (fun wx => Chg [g] W2 wx ∧ wx.cell? ⟨g, k * 2 + 1, none⟩ = some (.int .i64 (Xs : Int)))) ⟨(Chg.refl _ _).drew, C1.out⟩ (fun hHeld => ?_)
        refine anyH_take (i := 0) (d := 49) (L' := #[true, false, false, false, false, false, false, false, false, false, false, false, false, false, false]) (v := ?v44) rfl rfl (by kernel_rfl) (fun _ _ _ h => h) (by rfl) ?hy44 (by assumption) ?rest44
        case hy44 => (intro wx hSw; (try dsimp only at hSw); (have t1 := hSw.2); go_simp; (try with_reducible rfl))
        simp only [Act.put, List.setIfInBounds_toArray, List.set_cons_zero, List.set_cons_succ]
        refine anyH_take (i := 1) (d := 50) (L' := #[true, true, false, false, false, false, false, false, false, false, false, false, false, false, false]) (v := ?v45) rfl rfl (by kernel_rfl) (fun _ _ _ h => h) (by rfl) ?hy45 (by assumption) ?rest45
        case hy45 => (intro wx hSw; (try dsimp only at hSw); (have t1 := hSw.2); go_simp; (try with_reducible rfl))
        simp only [Act.put, List.setIfInBounds_toArray, List.set_cons_zero, List.set_cons_succ]
        refine anyH_take (i := 2) (d := 51) (L' := #[true, true, true, false, false, false, false, false, false, false, false, false, false, false, false]) (v := ?v46) rfl rfl (by kernel_rfl) (fun _ _ _ h => h) (by rfl) ?hy46 (by assumption) ?rest46
        case hy46 => (intro wx hSw; (try dsimp only at hSw); (have t1 := hSw.2); go_simp; (try with_reducible rfl))
        simp only [Act.put, List.setIfInBounds_toArray, List.set_cons_zero, List.set_cons_succ]
        refine anyH_take (i := 3) (d := 52) (L' := #[true, true, true, true, false, false, false, false, false, false, false, false, false, false, false]) (v := ?v47) rfl rfl (by kernel_rfl) (fun _ _ _ h => h) (by rfl) ?hy47 (by assumption) ?rest47
        case hy47 => (intro wx hSw; (try dsimp only at hSw); (have t1 := hSw.2); go_simp; (try with_reducible rfl))
        simp only [Act.put, List.setIfInBounds_toArray, List.set_cons_zero, List.set_cons_succ]
        refine anyH_take (i := 5) (d := 54) (L' := #[true, true, true, true, false, true, false, false, false, false, false, false, false, false, false]) (v := ?v48) rfl rfl (by kernel_rfl) (fun _ _ _ h => h) (by rfl) ?hy48 (by assumption) ?rest48
        case hy48 => (intro wx hSw; (try dsimp only at hSw); (have t1 := hSw.2); go_simp; (try with_reducible rfl))
        simp only [Act.put, List.setIfInBounds_toArray, List.set_cons_zero, List.set_cons_succ]
        refine anyH_take (i := 6) (d := 55) (L' := #[true, true, true, true, false, true, true, false, false, false, false, false, false, false, false]) (v := ?v49) rfl rfl (by kernel_rfl) (fun _ _ _ h => h) (by rfl) ?hy49 (by assumption) ?rest49
        case hy49 => (intro wx hSw; (try dsimp only at hSw); (have t1 := hSw.2); go_simp; (try with_reducible rfl))
        simp only [Act.put, List.setIfInBounds_toArray, List.set_cons_zero, List.set_cons_succ]
        refine anyH_take (i := 7) (d := 56) (L' := #[true, true, true, true, false, true, true, true, false, false, false, false, false, false, false]) (v := ?v50) rfl rfl (by kernel_rfl) (fun _ _ _ h => h) (by rfl) ?hy50 (by assumption) ?rest50
        case hy50 => (intro wx hSw; (try dsimp only at hSw); (have t1 := hSw.2); go_simp; (try with_reducible rfl))
        simp only [Act.put, List.setIfInBounds_toArray, List.set_cons_zero, List.set_cons_succ]
        refine anyH_take (i := 8) (d := 57) (L' := #[true, true, true, true, false, true, true, true, true, false, false, false, false, false, false]) (v := ?v51) rfl rfl (by kernel_rfl) (fun _ _ _ h => h) (by rfl) ?hy51 (by assumption) ?rest51
        case hy51 => (intro wx hSw; (try dsimp only at hSw); (have t1 := hSw.2); go_simp; (try with_reducible rfl))
        simp only [Act.put, List.setIfInBounds_toArray, List.set_cons_zero, List.set_cons_succ]
        refine anyH_take (i := 9) (d := 58) (L' := #[true, true, true, true, false, true, true, true, true, true, false, false, false, false, false]) (v := ?v52) rfl rfl (by kernel_rfl) (fun _ _ _ h => h) (by rfl) ?hy52 (by assumption) ?rest52
        case hy52 => (intro wx hSw; (try dsimp only at hSw); (have t1 := hSw.2); go_simp; (try with_reducible rfl))
        simp only [Act.put, List.setIfInBounds_toArray, List.set_cons_zero, List.set_cons_succ]
        refine anyH_take (i := 10) (d := 59) (L' := #[true, true, true, true, false, true, true, true, true, true, true, false, false, false, false]) (v := ?v53) rfl rfl (by kernel_rfl) (fun _ _ _ h => h) (by rfl) ?hy53 (by assumption) ?rest53
        case hy53 => (intro wx hSw; (try dsimp only at hSw); (have t1 := hSw.2); go_simp; (try with_reducible rfl))
        simp only [Act.put, List.setIfInBounds_toArray, List.set_cons_zero, List.set_cons_succ]
        refine anyH_run (i := 4) (L' := #[true, true, true, true, true, true, true, true, true, true, true, false, false, false, false]) rfl (by kernel_rfl) (by rfl) (fun KK hKK => ?_)
        (have t0 : W2.drew.cell? ⟨g, k * 2, none⟩ = _ := C0.out; go_simp)
        refine hKK.out _ _ (by assumption) (fun hHeld => ?_)
        clear hKK KK
        try simp only [Act.put, List.setIfInBounds_toArray, List.set_cons_zero, List.set_cons_succ]
        refine anyH_run (i := 11) (L' := #[true, true, true, true, true, true, true, true, true, true, true, true, false, false, false]) rfl (by kernel_rfl) (by rfl) (fun KK hKK => ?_)
        go_simp
        (skip)
        refine hKK.out _ _ (by assumption) (fun hHeld => ?_)
        clear hKK KK
        try simp only [Act.put, List.setIfInBounds_toArray, List.set_cons_zero, List.set_cons_succ]
        refine anyH_take (i := 12) (d := 61) (L' := #[true, true, true, true, true, true, true, true, true, true, true, true, true, false, false]) (v := ?v56) rfl rfl (by kernel_rfl) (fun _ _ _ h => h) (by rfl) ?hy56 (by assumption) ?rest56
        case hy56 => (intro wx hSw; (try dsimp only at hSw); (have t1 := hSw.2); go_simp; (try with_reducible rfl))
        simp only [Act.put, List.setIfInBounds_toArray, List.set_cons_zero, List.set_cons_succ]
        refine anyH_take (i := 13) (d := 62) (L' := #[true, true, true, true, true, true, true, true, true, true, true, true, true, true, false]) (v := ?v57) rfl rfl (by kernel_rfl) (fun _ _ _ h => h) (by rfl) ?hy57 (by assumption) ?rest57
        case hy57 => (intro wx hSw; (try dsimp only at hSw); (have t1 := hSw.2); go_simp; (try with_reducible rfl))
        simp only [Act.put, List.setIfInBounds_toArray, List.set_cons_zero, List.set_cons_succ]
        refine anyH_run (i := 14) (L' := #[true, true, true, true, true, true, true, true, true, true, true, true, true, true, true]) rfl (by kernel_rfl) (by rfl) (fun KK hKK => ?_)
        (have t0 : W2.drew.cell? ⟨g, k * 2, none⟩ = _ := C0.out; have f0 : W2.drew.frozen? ⟨g, k * 2, none⟩ = false := F0.out; have hS2 := HS2.out; go_simp)
        refine hKK.out _ _ (by assumption) (fun hHeld => ?_)
        clear hKK KK
        try simp only [Act.put, List.setIfInBounds_toArray, List.set_cons_zero, List.set_cons_succ]
        refine wpAnyH_done (by kernel_rfl) ?_ _
        go_wp2_with fail
        go_roundw
        case rel =>
          have hc3 := HS2.out.1
          exact ⟨k + 1, by omega, by go_num, by rw [hcc.2]; exact Fs.chg (HF.out.k hc2) hc3 (fun _ j hj => by simp only [List.mem_singleton]; rintro rfl; exact hbN' j hj hgfp), by rw [hcc.1, ← HL'.out]; exact HNEW.out, (hc.trans hc2 (by simp)).trans hc3 (by simp only [List.mem_singleton]; rintro x rfl _; exact hgfp), by show (W2.setCell _ _).heap.size = _; rw [size_set]; exact hz2, hbN'⟩
        case measure => simp [intOf]; omega
    · obtain rfl : k = hs.length := by omega
      obtain ⟨wB, hwB⟩ : ∃ wB, wB = wr := ⟨_, rfl⟩
      subst hwB
      rw [H.out.len, filesAt_all] at hD
      rw [← H.out.len] at hD
      have hcut := fun m => H.out.good.cut H.out.sure.nodup kept m
      have hsl := fun m => (foldl_turn d.sure (d.changes.take m) H.out.sure.nodup).2.1
      have hgc := H.out.good.nchanges
      have hcw := H.out.good.clens
      have hci := H.out.good.idx
      have hnf := H.out.good.nfiles
      have q3 := hD.box.cell 3
      simp [boxCells] at q3
      have hm := hD.sure
      have hsb := hD.sure.lt
      have HC := hd hc
      have HD := hd hD
      have hzw : w.heap.size ≤ wB.heap.size := by omega
      clear hz hkr hkf hc hD hk0 h0 q1 hlt
      go_wp2_with fail
      refine (CloneM_any _ sb d.sure hm).mono ?_
      rintro e wC ⟨rfl, hmc, hcc⟩
      have D := HD.out.k hcc
      have hcf : Chg fp w (wC.setCell ⟨b, 2, none⟩ (.map (some wB.heap.size))) := (HC.out.trans hcc (by simp)).setCell _ _ (fun _ => D.fpb)
      have D2 := D.newNames (es := d.sure) hmc (by omega) (by have := hcut 0; simpa using this)
      have q2 := D.box.cell 2
      have f2 := D.box.free 2
      have q4 := D2.box.cell 4
      simp [boxCells] at q2 q4
      have HD2 := hd D2
      have HCF := hd hcf
      clear D D2 hcf hm hmc hcc q3
      go_upto_region 12 with (fail)
      clear q2 f2
      generalize wC.setCell ⟨b, 2, none⟩ (.map (some wB.heap.size)) = wD at *
      obtain ⟨aoc, cc, rfl⟩ : ∃ ao c, cv = .slice ao d.changes.length c := by
        rcases H.out.changes.2 with ⟨rfl, hz⟩ | ⟨g, cap, cur, rfl, _⟩
        · exact ⟨none, 0, by rw [hz]⟩
        · exact ⟨_, cap, rfl⟩
      obtain ⟨m, hm⟩ : ∃ m, m = (min (max names 0) (d.changes.length : Int)).toNat := ⟨_, rfl⟩
      have hE : (if (d.changes.length : Int) < if names < 0 then 0 else names then (d.changes.length : Int) else if names < 0 then 0 else names) = (m : Int) := by split <;> split <;> omega
      have hml : m ≤ d.changes.length := by omega
      have HM := hd hm
      have hrun := crash_cutCh HD2.out.changes hml
      rw [← hE] at hrun
      have HRUN := hd hrun
      have Q4 := hd q4
      clear hE hrun hm q4
      refine anyH_start (n := 15) (L := #[false, false, false, false, false, false, false, false, false, false, false, false, false, false, false]) (by kernel_rfl) (by kernel_rfl) (S := (fun wx => Chg [] wD wx)) ((Chg.refl _ _).drew) (fun hHeld => ?_)
      refine anyH_take (i := 0) (d := 72) (L' := #[true, false, false, false, false, false, false, false, false, false, false, false, false, false, false]) (v := ?v62) rfl rfl (by kernel_rfl) (fun _ _ _ h => h) (by rfl) ?hy62 (by assumption) ?rest62
      case hy62 => (intro wx hSw; (try dsimp only at hSw); (have t0 := Chg.cellS hSw Q4.out); go_simp; (try with_reducible rfl))
      simp only [Act.put, List.setIfInBounds_toArray, List.set_cons_zero, List.set_cons_succ]
      refine anyH_take (i := 1) (d := 73) (L' := #[true, true, false, false, false, false, false, false, false, false, false, false, false, false, false]) (v := ?v63) rfl rfl (by kernel_rfl) (fun _ _ _ h => h) (by rfl) ?hy63 (by assumption) ?rest63
      case hy63 => (intro wx hSw; (try dsimp only at hSw); (have t0 := Chg.cellS hSw Q4.out); go_simp; (try with_reducible rfl))
      simp only [Act.put, List.setIfInBounds_toArray, List.set_cons_zero, List.set_cons_succ]
      refine anyH_take (i := 2) (d := 74) (L' := #[true, true, true, false, false, false, false, false, false, false, false, false, false, false, false]) (v := ?v64) rfl rfl (by kernel_rfl) (fun _ _ _ h => h) (by rfl) ?hy64 (by assumption) ?rest64
      case hy64 => (intro wx hSw; (try dsimp only at hSw); (have t0 := Chg.cellS hSw Q4.out); go_simp; (try with_reducible rfl))
      simp only [Act.put, List.setIfInBounds_toArray, List.set_cons_zero, List.set_cons_succ]
      refine anyH_take (i := 3) (d := 75) (L' := #[true, true, true, true, false, false, false, false, false, false, false, false, false, false, false]) (v := ?v65) rfl rfl (by kernel_rfl) (fun _ _ _ h => h) (by rfl) ?hy65 (by assumption) ?rest65
      case hy65 => (intro wx hSw; (try dsimp only at hSw); (have t0 := Chg.cellS hSw Q4.out); go_simp; (try with_reducible rfl))
      simp only [Act.put, List.setIfInBounds_toArray, List.set_cons_zero, List.set_cons_succ]
      refine anyH_take (i := 4) (d := 76) (L' := #[true, true, true, true, true, false, false, false, false, false, false, false, false, false, false]) (v := ?v66) rfl rfl (by kernel_rfl) (fun _ _ _ h => h) (by rfl) ?hy66 (by assumption) ?rest66
      case hy66 => (intro wx hSw; (try dsimp only at hSw); (have t0 := Chg.cellS hSw Q4.out); go_simp; (try with_reducible rfl))
      simp only [Act.put, List.setIfInBounds_toArray, List.set_cons_zero, List.set_cons_succ]
      refine anyH_take (i := 5) (d := 77) (L' := #[true, true, true, true, true, true, false, false, false, false, false, false, false, false, false]) (v := ?v67) rfl rfl (by kernel_rfl) (fun _ _ _ h => h) (by rfl) ?hy67 (by assumption) ?rest67
      case hy67 => (intro wx hSw; (try dsimp only at hSw); (have t0 := Chg.cellS hSw Q4.out); go_simp; (try with_reducible rfl))
      simp only [Act.put, List.setIfInBounds_toArray, List.set_cons_zero, List.set_cons_succ]
      refine anyH_take (i := 6) (d := 78) (L' := #[true, true, true, true, true, true, true, false, false, false, false, false, false, false, false]) (v := ?v68) rfl rfl (by kernel_rfl) (fun _ _ _ h => h) (by rfl) ?hy68 (by assumption) ?rest68
      case hy68 => (intro wx hSw; (try dsimp only at hSw); (have t0 := Chg.cellS hSw Q4.out); go_simp; (try with_reducible rfl))
      simp only [Act.put, List.setIfInBounds_toArray, List.set_cons_zero, List.set_cons_succ]
      refine anyH_take (i := 7) (d := 79) (L' := #[true, true, true, true, true, true, true, true, false, false, false, false, false, false, false]) (v := ?v69) rfl rfl (by kernel_rfl) (fun _ _ _ h => h) (by rfl) ?hy69 (by assumption) ?rest69
      case hy69 => (intro wx hSw; (try dsimp only at hSw); (have t0 := Chg.cellS hSw Q4.out); go_simp; (try with_reducible rfl))
      simp only [Act.put, List.setIfInBounds_toArray, List.set_cons_zero, List.set_cons_succ]
      refine anyH_take (i := 8) (d := 80) (L' := #[true, true, true, true, true, true, true, true, true, false, false, false, false, false, false]) (v := ?v70) rfl rfl (by kernel_rfl) (fun _ _ _ h => h) (by rfl) ?hy70 (by assumption) ?rest70
      case hy70 => (intro wx hSw; (try dsimp only at hSw); (have t0 := Chg.cellS hSw Q4.out); go_simp; (try with_reducible rfl))
      simp only [Act.put, List.setIfInBounds_toArray, List.set_cons_zero, List.set_cons_succ]
      refine anyH_take (i := 9) (d := 81) (L' := #[true, true, true, true, true, true, true, true, true, true, false, false, false, false, false]) (v := ?v71) rfl rfl (by kernel_rfl) (fun _ _ _ h => h) (by rfl) ?hy71 (by assumption) ?rest71
      case hy71 => (intro wx hSw; (try dsimp only at hSw); (have t0 := Chg.cellS hSw Q4.out); go_simp; (try with_reducible rfl))
      simp only [Act.put, List.setIfInBounds_toArray, List.set_cons_zero, List.set_cons_succ]
      refine anyH_take (i := 10) (d := 82) (L' := #[true, true, true, true, true, true, true, true, true, true, true, false, false, false, false]) (v := ?v72) rfl rfl (by kernel_rfl) (fun _ _ _ h => h) (by rfl) ?hy72 (by assumption) ?rest72
      case hy72 => (intro wx hSw; (try dsimp only at hSw); (have t0 := Chg.cellS hSw Q4.out); go_simp; (try with_reducible rfl))
      simp only [Act.put, List.setIfInBounds_toArray, List.set_cons_zero, List.set_cons_succ]
      refine anyH_take (i := 11) (d := 83) (L' := #[true, true, true, true, true, true, true, true, true, true, true, true, false, false, false]) (v := ?v73) rfl rfl (by kernel_rfl) (fun _ _ _ h => h) (by rfl) ?hy73 (by assumption) ?rest73
      case hy73 => (intro wx hSw; (try dsimp only at hSw); (have t0 := Chg.cellS hSw Q4.out); go_simp; (try with_reducible rfl))
      simp only [Act.put, List.setIfInBounds_toArray, List.set_cons_zero, List.set_cons_succ]
      refine anyH_take (i := 12) (d := 84) (L' := #[true, true, true, true, true, true, true, true, true, true, true, true, true, false, false]) (v := ?v74) rfl rfl (by kernel_rfl) (fun _ _ _ h => h) (by rfl) ?hy74 (by assumption) ?rest74
      case hy74 => (intro wx hSw; (try dsimp only at hSw); (have t1 := HRUN.out); go_simp; (try with_reducible rfl))
      simp only [Act.put, List.setIfInBounds_toArray, List.set_cons_zero, List.set_cons_succ]
      refine anyH_take (i := 13) (d := 85) (L' := #[true, true, true, true, true, true, true, true, true, true, true, true, true, true, false]) (v := ?v75) rfl rfl (by kernel_rfl) (fun _ _ _ h => h) (by rfl) ?hy75 (by assumption) ?rest75
      case hy75 => (intro wx hSw; (try dsimp only at hSw); (have t0 := Chg.cellS hSw Q4.out); go_simp; (try with_reducible rfl))
      simp only [Act.put, List.setIfInBounds_toArray, List.set_cons_zero, List.set_cons_succ]
      refine anyH_take (i := 14) (d := 86) (L' := #[true, true, true, true, true, true, true, true, true, true, true, true, true, true, true]) (v := ?v76) rfl rfl (by kernel_rfl) (fun _ _ _ h => h) (by rfl) ?hy76 (by assumption) ?rest76
      case hy76 => (intro wx hSw; (try dsimp only at hSw); (have t0 := Chg.cellS hSw Q4.out); go_simp; (try with_reducible rfl))
      simp only [Act.put, List.setIfInBounds_toArray, List.set_cons_zero, List.set_cons_succ]
      refine wpAnyH_done (by kernel_rfl) ?_ _
      have hE : (if (d.changes.length : Int) < if names < 0 then 0 else names then (d.changes.length : Int) else if names < 0 then 0 else names) = (m : Int) := by have := HM.out; split <;> split <;> omega
      rw [hE]
      generalize (if names < 0 then (0 : Int) else names) = nz
      have HD3 := hd (HD2.out.k (Chg.refl [] wD).drew)
      have HCF3 := hd (HCF.out.k' (Chg.refl [] wD).drew)
      clear hE HRUN Q4 hHeld HD2 HCF HD HC
      have HCUT := hd hcut
      have HSL := hd hsl
      have HCW := hd hcw
      have HCI := hd hci
      clear hcut hsl hcw hci
      generalize wD.drew = wE at *
      go_wp2_with fail
      go_loopw [11, 86] (fun _ t86 wr => ∃ k : Nat, k ≤ m ∧ t86 = .int .i64 k ∧ Hd (DkP wr (wB.heap.size :: fp) b (.slice aof hs.length cf) (.slice aoc d.changes.length cc) wB.heap.size sb hs' { d with files := cutF d.files kept, names := (d.changes.take k).foldl turnD d.sure }) ∧ Hd (Chg fp w wr))
        (fun _ t86 _ => m - (intOf t86).toNat)
      case atStart => exact ⟨0, by omega, rfl, by simpa using HD3, HCF3⟩
      case round =>
        obtain ⟨k, hkm, rfl, HDk, HCk⟩ := hrel
        by_cases hlt : k < m
        · have hkc : k < d.changes.length := by omega
          obtain ⟨gc, hgc2⟩ : ∃ gc, aoc = some ⟨gc, 0, none⟩ := by
            rcases HDk.out.changes.2 with ⟨e, hz⟩ | ⟨g, cap, cur, e, _⟩
            · simp only at hz; omega
            · simp only [Value.slice.injEq] at e; exact ⟨g, e.1⟩
          subst hgc2
          obtain ⟨e0, e1, e2⟩ := chCells_get d.changes k hkc
          have hrow := HDk.out.changes
          simp only at hrow
          have hcl := chCells_length d.changes
          have c0 := World.ownsRow.cellAt hrow (k * 3) (by omega)
          have c1 := World.ownsRow.cellAt hrow (k * 3 + 1) (by omega)
          have c2 := World.ownsRow.cellAt hrow (k * 3 + 2) (by omega)
          rw [e0] at c0
          rw [e1] at c1
          rw [e2] at c2
          have hfold : (d.changes.take (k + 1)).foldl turnD d.sure = turnD ((d.changes.take k).foldl turnD d.sure) d.changes[k] := by
            rw [List.take_succ_eq_append_getElem hkc, List.foldl_append]; rfl
          have hw1 := HCW.out _ (List.getElem_mem hkc)
          have hi1 := HCI.out _ (List.getElem_mem hkc)
          have hel : ((d.changes.take k).foldl turnD d.sure).length ≤ 10000000000 := by have := HSL.out k; rw [List.length_take] at this; omega
          have hgn := HCUT.out (k + 1)
          rw [hfold] at hgn
          generalize d.changes[k]'hkc = X at *
          obtain ⟨X1, X2, X3⟩ := X
          simp only at c0 c1 c2 hw1 hi1
          generalize (d.changes.take k).foldl turnD d.sure = es at *
          have HFO := hd hfold
          have HGN := hd hgn
          clear e0 e1 e2 hrow hcl hfold hgn
          go_upto_region 15 with (fail)
          clear c0 c1 c2
          have hD := HDk.out
          have hcx := HCk.out
          have hszD : ∀ j ∈ wB.heap.size :: fp, j < wr.heap.size := hD.fpl
          have kx := Blk.new wr #[.string (strB X1), .string (strB X2), .int .i64 (X3 : Int)] 99
          have hcb := (Chg.refl [] wr).alloc (.cells #[.string (strB X1), .string (strB X2), .int .i64 (X3 : Int)] 99)
          replace hD := hD.k hcb
          replace hcx := hcx.k' hcb
          clear hcb
          generalize wr.alloc (.cells #[.string (strB X1), .string (strB X2), .int .i64 (X3 : Int)] 99) = wq at *
          have q0 := kx.cell 0
          have q1 := kx.cell 1
          have q2 := kx.cell 2
          have q3 := hD.box.cell 2
          simp [boxCells] at q0 q1 q2 q3
          have Q0 := hd q0
          have Q1 := hd q1
          have Q2 := hd q2
          have Q3 := hd q3
          have N1 : wr.heap.size ∉ [wB.heap.size] := by simp only [List.mem_singleton]; intro e; have := hszD wB.heap.size (by simp); omega
          have N2 : b ∉ [wB.heap.size] := by simpa using fun e => hD.names.apart hD.box e.symm
          have HM5 := hd hD.names
          have HD5 := hd hD
          have HX5 := hd hcx
          clear q0 q1 q2 q3 kx hD hcx hszD HDk HCk
          refine anyH_start (n := 6) (L := #[false, false, false, false, false, false]) (by kernel_rfl) (by kernel_rfl) (S := (fun wx => Chg [wB.heap.size] wq wx)) ((Chg.refl _ _).drew) (fun hHeld => ?_)
          refine anyH_take (i := 0) (d := 90) (L' := #[true, false, false, false, false, false]) (v := ?v79) rfl rfl (by kernel_rfl) (fun _ _ _ h => h) (by rfl) ?hy79 (by assumption) ?rest79
          case hy79 => (intro wx hSw; (try dsimp only at hSw); (have t0 := hSw.cellT Q0.out N1; have t1 := hSw.cellT Q1.out N1; have t2 := hSw.cellT Q2.out N1; have t3 := hSw.cellT Q3.out N2); go_simp; (try with_reducible rfl))
          simp only [Act.put, List.setIfInBounds_toArray, List.set_cons_zero, List.set_cons_succ]
          refine anyH_take (i := 1) (d := 91) (L' := #[true, true, false, false, false, false]) (v := ?v80) rfl rfl (by kernel_rfl) (fun _ _ _ h => h) (by rfl) ?hy80 (by assumption) ?rest80
          case hy80 => (intro wx hSw; (try dsimp only at hSw); (have t0 := hSw.cellT Q0.out N1; have t1 := hSw.cellT Q1.out N1; have t2 := hSw.cellT Q2.out N1; have t3 := hSw.cellT Q3.out N2); go_simp; (try with_reducible rfl))
          simp only [Act.put, List.setIfInBounds_toArray, List.set_cons_zero, List.set_cons_succ]
          refine anyH_take (i := 2) (d := 92) (L' := #[true, true, true, false, false, false]) (v := ?v81) rfl rfl (by kernel_rfl) (fun _ _ _ h => h) (by rfl) ?hy81 (by assumption) ?rest81
          case hy81 => (intro wx hSw; (try dsimp only at hSw); (have t0 := hSw.cellT Q0.out N1; have t1 := hSw.cellT Q1.out N1; have t2 := hSw.cellT Q2.out N1; have t3 := hSw.cellT Q3.out N2); go_simp; (try with_reducible rfl))
          simp only [Act.put, List.setIfInBounds_toArray, List.set_cons_zero, List.set_cons_succ]
          refine anyH_take (i := 3) (d := 93) (L' := #[true, true, true, true, false, false]) (v := ?v82) rfl rfl (by kernel_rfl) (fun _ _ _ h => h) (by rfl) ?hy82 (by assumption) ?rest82
          case hy82 => (intro wx hSw; (try dsimp only at hSw); (have t0 := hSw.cellT Q0.out N1; have t1 := hSw.cellT Q1.out N1; have t2 := hSw.cellT Q2.out N1; have t3 := hSw.cellT Q3.out N2); go_simp; (try with_reducible rfl))
          simp only [Act.put, List.setIfInBounds_toArray, List.set_cons_zero, List.set_cons_succ]
          refine anyH_take (i := 4) (d := 94) (L' := #[true, true, true, true, true, false]) (v := ?v83) rfl rfl (by kernel_rfl) (fun _ _ _ h => h) (by rfl) ?hy83 (by assumption) ?rest83
          case hy83 => (intro wx hSw; (try dsimp only at hSw); (have t0 := hSw.cellT Q0.out N1; have t1 := hSw.cellT Q1.out N1; have t2 := hSw.cellT Q2.out N1; have t3 := hSw.cellT Q3.out N2); go_simp; (try with_reducible rfl))
          simp only [Act.put, List.setIfInBounds_toArray, List.set_cons_zero, List.set_cons_succ]
          refine anyH_run (i := 5) (L' := #[true, true, true, true, true, true]) rfl (by kernel_rfl) (by rfl) (fun KK hKK => ?_)
          go_simp
          (refine (turn_any _ wB.heap.size es (X1, X2, X3) (HM5.out.k (Chg.refl _ _).drew) hw1.1 hw1.2 (by show X3 ≤ _; omega) hel).mono ?_; rintro e w2 ⟨rfl, hm2, hc2⟩; have hcc := (Chg.refl [wB.heap.size] wq).drew.trans hc2 (by simp); clear hc2; try go_simp)
          refine hKK.out _ _ (by assumption) (fun hHeld => ?_)
          clear hKK KK
          try simp only [Act.put, List.setIfInBounds_toArray, List.set_cons_zero, List.set_cons_succ]
          refine wpAnyH_done (by kernel_rfl) ?_ _
          have HN := hd (HD5.out.named hcc hm2 HGN.out)
          have HZ := hd (HX5.out.trans (S' := [wB.heap.size]) hcc (by simp only [List.mem_singleton]; rintro x rfl hx; omega))
          clear hcc hm2
          go_wp2_with fail
          go_roundw
          case rel => exact ⟨k + 1, by omega, by go_num, by rw [HFO.out]; exact HN, HZ⟩
          case measure => simp [intOf]; omega
        · obtain rfl : k = m := by omega
          have hset := settle_any HDk.out
          go_wp2_with fail
          refine (hset).mono ?_
          rintro e wF ⟨rfl, hF⟩
          have hF2 := hF.chain HCk.out (by intro j hj; rcases List.mem_cons.1 hj with rfl | hj; exact .inr hzw; exact .inl hj)
          have HFIN : Hd (DkOut w fp b (crashD d names kept) wF) := hd (by unfold crashD; rw [← HM.out]; exact hF2)
          clear hF hF2 hset
          go_wp2_with fail
          go_end0
          exact ⟨rfl, HFIN.out⟩
end Go.Proofs.Ytpoohpmcopjklaa

/- Disk.change. -/
namespace Go.Proofs.Ytpoohpmcopjklaa
open Go.RowKit

variable {w : World} {fp : List Nat} {b : Nat} {fv cv : Value} {nb sb : Nat} {hs : List HF} {d : Dsk}

theorem change_fin {w2 W w7 : World} {es : Nm} {g s : List UInt8} {i : Nat} {cv' : Value} (D : DkP w2 fp b fv cv nb sb hs { d with names := es }) (hcf : Chg fp w w2) (hA : Chg [] w2 W)
    (hr7 : w7.ownsRow 0 99 3 cv' (d.changes.length + 1) (chCells d.changes ++ [.string (strB g), .string (strB s), .int .i64 (i : Int)])) (hg7 : W.grownBy w7 cv.ownBlock) (hm7 : Moved W cv cv')
    (hg : GoodD { d with names := es, changes := d.changes ++ [(g, s, i)] }) (hS8 : Chg (b :: cv.ownBlock.toList) w2 (w7.setCell ⟨b, 4, none⟩ cv')) :
    DkOut w fp b { d with names := es, changes := d.changes ++ [(g, s, i)] } (w7.setCell ⟨b, 4, none⟩ cv') := by
  have hsz := hcf.size
  have hszA := hA.size
  refine DkOut.mk ⟨_, _, _, _, _, DkP.changed (D.k hA) (cs := d.changes ++ [(g, s, i)]) hg7 ?_ hg⟩ ?_ ?_
  · rw [chCells_app, List.length_append]; exact hr7
  · refine hcf.trans hS8 fun x hx _ => ?_
    rcases List.mem_cons.1 hx with rfl | hx
    · exact D.fpb
    · exact D.fpc x (by simpa using hx)
  · exact (Gr.refl fp w).trans (Gr.cons hm7 D.fpc) (by omega)

set_option maxHeartbeats 1000000 in
theorem change_any (h : DkP w fp b fv cv nb sb hs d) (g s : List UInt8) (i : Nat) (h1 : g.length ≤ 140737488355328) (h2 : s.length ≤ 140737488355328) (hi : i ≤ d.files.length) (hi' : s ≠ [] → i < d.files.length)
    (hb1 : (d.names.length : Int) + 1 ≤ d.ops) (hb2 : (d.sure.length + d.changes.length : Int) + 1 ≤ d.ops) :
    Calls Try.prog 62 #[.pointer (some ⟨b, 0, none⟩), .agg #[.string (strB g), .string (strB s), .int .i64 (i : Int)]] w fun e w' =>
      e = .returned (.tuple #[]) ∧ DkOut w fp b (changeD d (g, s, i)) w' := by
  have hg := h.good
  have ho := hg.ops
  have hnf := hg.nfiles
  have hnd : (d.names.map (·.1)).Nodup := let ⟨_, _, hr⟩ := h.names; hr.nodup
  have hg1 : GoodD { d with names := turnD d.names (g, s, i) } := by
    refine { hg with named := fun p hp => ?_, nnames := ?_ }
    · rcases mem_turnD hp with hp | ⟨hne, rfl⟩
      · exact hg.named p hp
      · exact hi' hne
    · have := length_turn hnd (g, s, i)
      show ((turnD d.names (g, s, i)).length : Int) ≤ d.ops
      omega
  have hg2 : GoodD (changeD d (g, s, i)) := by
    refine { hg1 with turned := fun c hc => ?_, idx := fun c hc => ?_, nchanges := ?_, clens := fun c hc => ?_ }
    · rcases List.mem_append.1 hc with hc | hc
      · exact hg.turned c hc
      · obtain rfl : c = (g, s, i) := by simpa using hc
        exact hi'
    · rcases List.mem_append.1 hc with hc | hc
      · exact hg.idx c hc
      · obtain rfl : c = (g, s, i) := by simpa using hc
        exact hi
    · show (d.sure.length : Int) + ((d.changes ++ [(g, s, i)]).length : Int) ≤ d.ops
      simp only [List.length_append, List.length_cons, List.length_nil]
      omega
    · rcases List.mem_append.1 hc with hc | hc
      · exact hg.clens c hc
      · obtain rfl : c = (g, s, i) := by simpa using hc
        exact ⟨h1, h2⟩
  have HG1 := hd hg1
  have HG2 := hd hg2
  clear hg hg1 hg2 hnd
  have hc := Chg.refl [] w
  have hblt := h.box.lt
  have hcvlt := fun k hk => (World.ownsRow.lt h.changes k hk).2
  go_enter Try.func62, Try.ntmps62
  go_upto_region 1 with (fail)
  have hcb1 := (Chg.refl [] w).alloc (.cells #[.string (strB g), .string (strB s), .int .i64 (i : Int)] 99)
  have kx := Blk.new w #[.string (strB g), .string (strB s), .int .i64 (i : Int)] 99
  replace h := h.k hcb1
  replace hc := hc.k hcb1
  generalize w.alloc (.cells #[.string (strB g), .string (strB s), .int .i64 (i : Int)] 99) = w0 at *
  clear hcb1
  have q0 := kx.cell 0
  have q1 := kx.cell 1
  have q2 := kx.cell 2
  have q3 := h.box.cell 2
  simp [boxCells] at q0 q1 q2 q3
  have Q0 := hd q0
  have Q1 := hd q1
  have Q2 := hd q2
  have Q3 := hd q3
  have HM := hd h.names
  clear q0 q1 q2 q3
  have N1 : w.heap.size ∉ [nb] := by simpa using fun e => h.names.apart kx e.symm
  have N2 : b ∉ [nb] := by simpa using fun e => h.names.apart h.box e.symm
  refine anyH_start (n := 6) (L := #[false, false, false, false, false, false]) (by kernel_rfl) (by kernel_rfl) (S := (fun wx => Chg [nb] w0 wx)) ((Chg.refl _ _).drew) (fun hHeld => ?_)
  refine anyH_take (i := 0) (d := 4) (L' := #[true, false, false, false, false, false]) (v := ?v3) rfl rfl (by kernel_rfl) (fun _ _ _ h => h) (by rfl) ?hy3 (by assumption) ?rest3
  case hy3 => (intro wx hSw; (try dsimp only at hSw); (have t0 := hSw.cellT Q0.out N1; have t1 := hSw.cellT Q1.out N1; have t2 := hSw.cellT Q2.out N1; have t3 := hSw.cellT Q3.out N2); go_simp; (try with_reducible rfl))
  simp only [Act.put, List.setIfInBounds_toArray, List.set_cons_zero, List.set_cons_succ]
  refine anyH_take (i := 1) (d := 5) (L' := #[true, true, false, false, false, false]) (v := ?v4) rfl rfl (by kernel_rfl) (fun _ _ _ h => h) (by rfl) ?hy4 (by assumption) ?rest4
  case hy4 => (intro wx hSw; (try dsimp only at hSw); (have t0 := hSw.cellT Q0.out N1; have t1 := hSw.cellT Q1.out N1; have t2 := hSw.cellT Q2.out N1; have t3 := hSw.cellT Q3.out N2); go_simp; (try with_reducible rfl))
  simp only [Act.put, List.setIfInBounds_toArray, List.set_cons_zero, List.set_cons_succ]
  refine anyH_take (i := 2) (d := 6) (L' := #[true, true, true, false, false, false]) (v := ?v5) rfl rfl (by kernel_rfl) (fun _ _ _ h => h) (by rfl) ?hy5 (by assumption) ?rest5
  case hy5 => (intro wx hSw; (try dsimp only at hSw); (have t0 := hSw.cellT Q0.out N1; have t1 := hSw.cellT Q1.out N1; have t2 := hSw.cellT Q2.out N1; have t3 := hSw.cellT Q3.out N2); go_simp; (try with_reducible rfl))
  simp only [Act.put, List.setIfInBounds_toArray, List.set_cons_zero, List.set_cons_succ]
  refine anyH_take (i := 3) (d := 7) (L' := #[true, true, true, true, false, false]) (v := ?v6) rfl rfl (by kernel_rfl) (fun _ _ _ h => h) (by rfl) ?hy6 (by assumption) ?rest6
  case hy6 => (intro wx hSw; (try dsimp only at hSw); (have t0 := hSw.cellT Q0.out N1; have t1 := hSw.cellT Q1.out N1; have t2 := hSw.cellT Q2.out N1; have t3 := hSw.cellT Q3.out N2); go_simp; (try with_reducible rfl))
  simp only [Act.put, List.setIfInBounds_toArray, List.set_cons_zero, List.set_cons_succ]
  refine anyH_take (i := 4) (d := 8) (L' := #[true, true, true, true, true, false]) (v := ?v7) rfl rfl (by kernel_rfl) (fun _ _ _ h => h) (by rfl) ?hy7 (by assumption) ?rest7
  case hy7 => (intro wx hSw; (try dsimp only at hSw); (have t0 := hSw.cellT Q0.out N1; have t1 := hSw.cellT Q1.out N1; have t2 := hSw.cellT Q2.out N1; have t3 := hSw.cellT Q3.out N2); go_simp; (try with_reducible rfl))
  simp only [Act.put, List.setIfInBounds_toArray, List.set_cons_zero, List.set_cons_succ]
  refine anyH_run (i := 5) (L' := #[true, true, true, true, true, true]) rfl (by kernel_rfl) (by rfl) (fun KK hKK => ?_)
  go_simp
  (refine (turn_any _ nb d.names (g, s, i) (HM.out.k (Chg.refl _ _).drew) h1 h2 (by show i ≤ _; omega) (by omega)).mono ?_; rintro e w2 ⟨rfl, hm2, hc2⟩; have hcc := (Chg.refl [nb] w0).drew.trans hc2 (by simp); clear hc2; try go_simp)
  refine hKK.out _ _ (by assumption) (fun hHeld => ?_)
  clear hKK KK
  try simp only [Act.put, List.setIfInBounds_toArray, List.set_cons_zero, List.set_cons_succ]
  refine wpAnyH_done (by kernel_rfl) ?_ _
  have D2 := h.named hcc hm2 HG1.out
  have hcf : Chg fp w w2 := (hc.mono (S' := fp) (by simp)).trans hcc (by simp only [List.mem_singleton]; rintro x rfl _; exact h.fpn)
  have kx2 := kx.chg hcc N1
  have q0 := kx2.cell 0
  have q1 := kx2.cell 1
  have q2 := kx2.cell 2
  have q3 := D2.box.cell 4
  simp [boxCells] at q0 q1 q2 q3
  replace Q0 := hd q0
  replace Q1 := hd q1
  replace Q2 := hd q2
  have hlt := D2.box.lt
  have HC := hd D2.changes
  have HD := hd D2
  have HCF := hd hcf
  have N1 : w.heap.size ∉ b :: cv.ownBlock.toList := by
    intro hx
    rcases List.mem_cons.1 hx with e | e
    · omega
    · rw [Option.mem_toList] at e; have := hcvlt _ e; omega
  clear q0 q1 q2 D2 hcf hm2 hcc kx kx2 h HM N2 Q3
  go_upto_region 2 with (fail)
  refine anyH_start (n := 11) (L := #[false, false, false, false, false, false, false, false, false, false, false]) (by kernel_rfl) (by kernel_rfl) (S := (fun wx => Chg (b :: cv.ownBlock.toList) w2 wx)) ((Chg.refl _ _).drew) (fun hHeld => ?_)
  refine anyH_take (i := 0) (d := 10) (L' := #[true, false, false, false, false, false, false, false, false, false, false]) (v := ?v11) rfl rfl (by kernel_rfl) (fun _ _ _ h => h) (by rfl) ?hy11 (by assumption) ?rest11
  case hy11 => (intro wx hSw; (try dsimp only at hSw); (have t0 := hSw.cellT Q0.out N1; have t1 := hSw.cellT Q1.out N1; have t2 := hSw.cellT Q2.out N1); go_simp; (try with_reducible rfl))
  simp only [Act.put, List.setIfInBounds_toArray, List.set_cons_zero, List.set_cons_succ]
  refine anyH_take (i := 1) (d := 11) (L' := #[true, true, false, false, false, false, false, false, false, false, false]) (v := ?v12) rfl rfl (by kernel_rfl) (fun _ _ _ h => h) (by rfl) ?hy12 (by assumption) ?rest12
  case hy12 => (intro wx hSw; (try dsimp only at hSw); (have t0 := hSw.cellT Q0.out N1; have t1 := hSw.cellT Q1.out N1; have t2 := hSw.cellT Q2.out N1); go_simp; (try with_reducible rfl))
  simp only [Act.put, List.setIfInBounds_toArray, List.set_cons_zero, List.set_cons_succ]
  refine anyH_take (i := 2) (d := 12) (L' := #[true, true, true, false, false, false, false, false, false, false, false]) (v := ?v13) rfl rfl (by kernel_rfl) (fun _ _ _ h => h) (by rfl) ?hy13 (by assumption) ?rest13
  case hy13 => (intro wx hSw; (try dsimp only at hSw); (have t0 := hSw.cellT Q0.out N1; have t1 := hSw.cellT Q1.out N1; have t2 := hSw.cellT Q2.out N1); go_simp; (try with_reducible rfl))
  simp only [Act.put, List.setIfInBounds_toArray, List.set_cons_zero, List.set_cons_succ]
  refine anyH_take (i := 3) (d := 13) (L' := #[true, true, true, true, false, false, false, false, false, false, false]) (v := ?v14) rfl rfl (by kernel_rfl) (fun _ _ _ h => h) (by rfl) ?hy14 (by assumption) ?rest14
  case hy14 => (intro wx hSw; (try dsimp only at hSw); (have t0 := hSw.cellT Q0.out N1; have t1 := hSw.cellT Q1.out N1; have t2 := hSw.cellT Q2.out N1); go_simp; (try with_reducible rfl))
  simp only [Act.put, List.setIfInBounds_toArray, List.set_cons_zero, List.set_cons_succ]
  refine anyH_take (i := 5) (d := 15) (L' := #[true, true, true, true, false, true, false, false, false, false, false]) (v := ?v15) rfl rfl (by kernel_rfl) (fun _ _ _ h => h) (by rfl) ?hy15 (by assumption) ?rest15
  case hy15 => (intro wx hSw; (try dsimp only at hSw); (have t0 := hSw.cellT Q0.out N1; have t1 := hSw.cellT Q1.out N1; have t2 := hSw.cellT Q2.out N1); go_simp; (try with_reducible rfl))
  simp only [Act.put, List.setIfInBounds_toArray, List.set_cons_zero, List.set_cons_succ]
  refine anyH_run2 (i := 4) (j := 6) (L1 := #[true, true, true, true, true, true, false, false, false, false, false]) (L2 := #[true, true, true, true, false, true, true, false, false, false, false]) rfl rfl (by kernel_rfl) (by rfl) (by rfl) (fun KK hKK => ?_) (fun KK hKK => ?_)
  · go_simp
    (skip)
    refine hKK.out _ _ (by assumption) (fun hHeld => ?_)
    clear hKK KK
    try simp only [Act.put, List.setIfInBounds_toArray, List.set_cons_zero, List.set_cons_succ]
    refine anyH_run (i := 6) (L' := #[true, true, true, true, true, true, true, false, false, false, false]) rfl (by kernel_rfl) (by rfl) (fun KK hKK => ?_)
    go_simp
    (have hm6 := hHeld.alloc (.cells #[.string (strB g), .string (strB s), .int .i64 (i : Int)] 99))
    refine hKK.out _ _ (by assumption) (fun hHeld => ?_)
    clear hKK KK
    try simp only [Act.put, List.setIfInBounds_toArray, List.set_cons_zero, List.set_cons_succ]
    refine anyH_run (i := 7) (L' := #[true, true, true, true, true, true, true, true, false, false, false]) rfl (by kernel_rfl) (by rfl) (fun KK hKK => ?_)
    (have hmA := ((Chg.refl [] w2).alloc (.cells #[.string (strB g), .string (strB s), .int .i64 (i : Int)] 99)).drew; refine wp_appT rowCh _ _ rfl 0 cv d.changes.length (chCells d.changes) rfl (ownsRow_k HC.out hmA) _ 1 [.string (strB g), .string (strB s), .int .i64 (i : Int)] rfl (Rd.keep (Rd.lit w2 3 1 _ _ _ rfl rfl (by decide)) ((Chg.refl [] _).drew) (by simp)) (by simp [Value.oneCell']) (by omega) (by omega) (Nat.zero_le _) ?_; intro ao7 c7 w7 hr7 hg7 hm7; have DA := HD.out.k hmA; have bx7 := DA.box.grown hg7 (ownsRow_apart DA.changes DA.box (by decide)); have f7 := bx7.free 4; have q7 := bx7.cell 4; simp [boxCells] at q7; have hS7 : Chg (b :: cv.ownBlock.toList) w2 w7 := (hmA.mono (S' := b :: cv.ownBlock.toList) (by simp)).grown hg7 (by intro k hk _; simp [hk]); have P7 := hd (And.intro hr7 (And.intro hg7 hm7)); have HS7 := hd hS7; clear hr7 hg7 hm7 hmA DA bx7 hS7; (try have hS7 := HS7.out))
    refine hKK.out _ _ (by assumption) (fun hHeld => ?_)
    clear hKK KK
    try simp only [Act.put, List.setIfInBounds_toArray, List.set_cons_zero, List.set_cons_succ]
    refine anyH_take (i := 8) (d := 18) (L' := #[true, true, true, true, true, true, true, true, true, false, false]) (v := ?v18) rfl rfl (by kernel_rfl) (fun _ _ _ h => h) (by rfl) ?hy18 (by assumption) ?rest18
    case hy18 => (intro wx hSw; (try dsimp only at hSw); (have t0 := hSw.cellT Q0.out N1; have t1 := hSw.cellT Q1.out N1; have t2 := hSw.cellT Q2.out N1); go_simp; (try with_reducible rfl))
    simp only [Act.put, List.setIfInBounds_toArray, List.set_cons_zero, List.set_cons_succ]
    refine anyH_take (i := 9) (d := 19) (L' := #[true, true, true, true, true, true, true, true, true, true, false]) (v := ?v19) rfl rfl (by kernel_rfl) (fun _ _ _ h => h) (by rfl) ?hy19 (by assumption) ?rest19
    case hy19 => (intro wx hSw; (try dsimp only at hSw); (have t0 := hSw.cellT Q0.out N1; have t1 := hSw.cellT Q1.out N1; have t2 := hSw.cellT Q2.out N1); go_simp; (try with_reducible rfl))
    simp only [Act.put, List.setIfInBounds_toArray, List.set_cons_zero, List.set_cons_succ]
    refine anyH_run (i := 10) (L' := #[true, true, true, true, true, true, true, true, true, true, true]) rfl (by kernel_rfl) (by rfl) (fun KK hKK => ?_)
    go_simp
    (have hS8 : Chg (b :: cv.ownBlock.toList) w2 (w7.setCell ⟨b, 4, none⟩ (.slice ao7 (d.changes.length + 1) c7)) := HS7.out.setCell _ _ (by simp))
    refine hKK.out _ _ (by assumption) (fun hHeld => ?_)
    clear hKK KK
    try simp only [Act.put, List.setIfInBounds_toArray, List.set_cons_zero, List.set_cons_succ]
    refine wpAnyH_done (by kernel_rfl) ?_ _
    clear hHeld; (try clear hS7); go_wp2_with fail; go_end0; exact ⟨rfl, change_fin HD.out HCF.out (((Chg.refl [] w2).alloc (.cells #[.string (strB g), .string (strB s), .int .i64 (i : Int)] 99)).drew) P7.out.1 P7.out.2.1 P7.out.2.2 HG2.out hS8⟩
  · go_simp
    (have hm6 := hHeld.alloc (.cells #[.string (strB g), .string (strB s), .int .i64 (i : Int)] 99))
    refine hKK.out _ _ (by assumption) (fun hHeld => ?_)
    clear hKK KK
    try simp only [Act.put, List.setIfInBounds_toArray, List.set_cons_zero, List.set_cons_succ]
    refine anyH_run (i := 4) (L' := #[true, true, true, true, true, true, true, false, false, false, false]) rfl (by kernel_rfl) (by rfl) (fun KK hKK => ?_)
    go_simp
    (skip)
    refine hKK.out _ _ (by assumption) (fun hHeld => ?_)
    clear hKK KK
    try simp only [Act.put, List.setIfInBounds_toArray, List.set_cons_zero, List.set_cons_succ]
    refine anyH_run (i := 7) (L' := #[true, true, true, true, true, true, true, true, false, false, false]) rfl (by kernel_rfl) (by rfl) (fun KK hKK => ?_)
    (have hmA := ((Chg.refl [] w2).alloc (.cells #[.string (strB g), .string (strB s), .int .i64 (i : Int)] 99)).drew; refine wp_appT rowCh _ _ rfl 0 cv d.changes.length (chCells d.changes) rfl (ownsRow_k HC.out hmA) _ 1 [.string (strB g), .string (strB s), .int .i64 (i : Int)] rfl (Rd.keep (Rd.lit w2 3 1 _ _ _ rfl rfl (by decide)) ((Chg.refl [] _).drew) (by simp)) (by simp [Value.oneCell']) (by omega) (by omega) (Nat.zero_le _) ?_; intro ao7 c7 w7 hr7 hg7 hm7; have DA := HD.out.k hmA; have bx7 := DA.box.grown hg7 (ownsRow_apart DA.changes DA.box (by decide)); have f7 := bx7.free 4; have q7 := bx7.cell 4; simp [boxCells] at q7; have hS7 : Chg (b :: cv.ownBlock.toList) w2 w7 := (hmA.mono (S' := b :: cv.ownBlock.toList) (by simp)).grown hg7 (by intro k hk _; simp [hk]); have P7 := hd (And.intro hr7 (And.intro hg7 hm7)); have HS7 := hd hS7; clear hr7 hg7 hm7 hmA DA bx7 hS7; (try have hS7 := HS7.out))
    refine hKK.out _ _ (by assumption) (fun hHeld => ?_)
    clear hKK KK
    try simp only [Act.put, List.setIfInBounds_toArray, List.set_cons_zero, List.set_cons_succ]
    refine anyH_take (i := 8) (d := 18) (L' := #[true, true, true, true, true, true, true, true, true, false, false]) (v := ?v24) rfl rfl (by kernel_rfl) (fun _ _ _ h => h) (by rfl) ?hy24 (by assumption) ?rest24
    case hy24 => (intro wx hSw; (try dsimp only at hSw); (have t0 := hSw.cellT Q0.out N1; have t1 := hSw.cellT Q1.out N1; have t2 := hSw.cellT Q2.out N1); go_simp; (try with_reducible rfl))
    simp only [Act.put, List.setIfInBounds_toArray, List.set_cons_zero, List.set_cons_succ]
    refine anyH_take (i := 9) (d := 19) (L' := #[true, true, true, true, true, true, true, true, true, true, false]) (v := ?v25) rfl rfl (by kernel_rfl) (fun _ _ _ h => h) (by rfl) ?hy25 (by assumption) ?rest25
    case hy25 => (intro wx hSw; (try dsimp only at hSw); (have t0 := hSw.cellT Q0.out N1; have t1 := hSw.cellT Q1.out N1; have t2 := hSw.cellT Q2.out N1); go_simp; (try with_reducible rfl))
    simp only [Act.put, List.setIfInBounds_toArray, List.set_cons_zero, List.set_cons_succ]
    refine anyH_run (i := 10) (L' := #[true, true, true, true, true, true, true, true, true, true, true]) rfl (by kernel_rfl) (by rfl) (fun KK hKK => ?_)
    go_simp
    (have hS8 : Chg (b :: cv.ownBlock.toList) w2 (w7.setCell ⟨b, 4, none⟩ (.slice ao7 (d.changes.length + 1) c7)) := HS7.out.setCell _ _ (by simp))
    refine hKK.out _ _ (by assumption) (fun hHeld => ?_)
    clear hKK KK
    try simp only [Act.put, List.setIfInBounds_toArray, List.set_cons_zero, List.set_cons_succ]
    refine wpAnyH_done (by kernel_rfl) ?_ _
    clear hHeld; (try clear hS7); go_wp2_with fail; go_end0; exact ⟨rfl, change_fin HD.out HCF.out (((Chg.refl [] w2).alloc (.cells #[.string (strB g), .string (strB s), .int .i64 (i : Int)] 99)).drew) P7.out.1 P7.out.2.1 P7.out.2.2 HG2.out hS8⟩
end Go.Proofs.Ytpoohpmcopjklaa

/- disk.name. -/
namespace Go.Proofs.Ytpoohpmcopjklaa
open Go.RowKit

theorem Bs.cell {w : World} {b off n c : Nat} {l : List UInt8} (h : Bs w (.slice (some ⟨b, off, none⟩) n c) l) (j : Nat) (hj : j < l.length) : w.cell? ⟨b, off + j, none⟩ = some (.int .u8 (n8 l[j])) := by
  obtain ⟨b', off', cap, e, -, hcell⟩ := Rd.cells h (by omega)
  simp only [Value.slice.injEq, Option.some.injEq, Addr.mk.injEq, and_true] at e
  obtain ⟨⟨rfl, rfl⟩, -, -⟩ := e
  have := hcell j (.int .u8 (n8 l[j])) (by rw [List.getElem?_map, List.getElem?_eq_getElem hj]; rfl)
  by_cases h0 : j = 0
  · subst h0; simpa [Addr.add] using this
  · simpa [Addr.add, h0] using this

set_option maxHeartbeats 1000000 in
theorem name_any (w : World) (s : List UInt8) (hs : s.length ≤ 140737488355328) : Calls Try.prog 61 #[.string (strB s)] w fun e w' => e = .returned (.bool (nameD s)) ∧ Chg [] w w' := by
  have hsz : (strB s).size = s.length := strB_size s
  have hdl : (strB s).data.toList = s := strB_list s
  have hsl : (strB s).size ≤ 140737488355328 := by rw [hsz]; exact hs
  have Hdl := hd hdl
  have Hsz := hd hsz
  clear hdl hsz
  have hE : s ≠ [] → (strB s == ByteArray.empty) = false := strB_empty
  obtain ⟨N, hN⟩ : ∃ N, nameD s = N := ⟨_, rfl⟩
  have HN := hd hN
  rw [hN]
  clear hN
  go_enter Try.func61, Try.ntmps61
  go_upto_region 1 with (fail)
  go_wp2_with (refine wpOfStr rfl _ rfl _ rfl hsl ?_; intro g c w1 hb1 hg1 hc1; rw [Hdl.out, Hsz.out] at hb1; rw [Hsz.out])
  subst hg1
  have hm1 : s.length ≤ 140737488355328 := hs
  go_loopw [4, 8] (fun _ i wr => ∃ k : Nat, k ≤ s.length ∧ i = .int .i64 k ∧ (s.take k).all signD = true ∧ wr = w1) (fun _ i _ => s.length - (intOf i).toNat)
  case atStart => exact ⟨0, by omega, rfl, by simp, rfl⟩
  case round =>
    obtain ⟨k, hk, rfl, hall, rfl⟩ := hrel
    by_cases hlt : k < s.length
    · have hc := hb1.cell k hlt
      have hT : (s.take (k + 1)).all signD = ((s.take k).all signD && signD s[k]) := by
        rw [List.take_succ_eq_append_getElem hlt, List.all_append]; simp
      rw [hall, Bool.true_and] at hT
      have hbad : signD s[k] = false → N = false := by
        intro h
        rw [← HN.out]
        unfold nameD
        have : s.all signD = false := by
          rw [List.all_eq_false]; exact ⟨s[k], List.getElem_mem hlt, by simp [h]⟩
        rw [this]; rfl
      have hsg : signD s[k] = ((decide (97 ≤ n8 s[k]) && decide (n8 s[k] ≤ 122)) || (decide (48 ≤ n8 s[k]) && decide (n8 s[k] ≤ 57)) || n8 s[k] == 45) := by
        unfold signD n8
        rw [Bool.eq_iff_iff]
        simp
        omega
      have HT := hd hT
      have HB := hd hbad
      have HSG := hd hsg
      clear hT hbad hsg hall
      rw [Nat.zero_add] at hc
      generalize n8 s[k] = z at *
      generalize signD s[k] = sg at *
      by_cases h1 : z < 97
      · by_cases h3 : z < 48
        · by_cases h5 : z = 45
          · have h5' : (z == 45) = true := by simpa using h5
            have hs' : sg = true := by rw [HSG.out, h5']; simp
            go_wp2_with fail
            go_roundw
            case rel => exact ⟨k + 1, by omega, by go_num, by rw [HT.out, hs'], by trivial⟩
            case measure => simp [intOf]; omega
          · have h5' : (z == 45) = false := by simpa using h5
            have hs' : sg = false := by rw [HSG.out, h5']; simp <;> omega
            go_wp2_with fail
            go_ret
            have hbN := HB.out hs'
            subst hbN
            exact ⟨rfl, hc1⟩
        · by_cases h4 : 57 < z
          · by_cases h5 : z = 45
            · have h5' : (z == 45) = true := by simpa using h5
              have hs' : sg = true := by rw [HSG.out, h5']; simp
              go_wp2_with fail
              go_roundw
              case rel => exact ⟨k + 1, by omega, by go_num, by rw [HT.out, hs'], by trivial⟩
              case measure => simp [intOf]; omega
            · have h5' : (z == 45) = false := by simpa using h5
              have hs' : sg = false := by rw [HSG.out, h5']; simp <;> omega
              go_wp2_with fail
              go_ret
              have hbN := HB.out hs'
              subst hbN
              exact ⟨rfl, hc1⟩
          · have hs' : sg = true := by rw [HSG.out]; simp <;> omega
            go_wp2_with fail
            go_roundw
            case rel => exact ⟨k + 1, by omega, by go_num, by rw [HT.out, hs'], by trivial⟩
            case measure => simp [intOf]; omega
      · by_cases h2 : 122 < z
        · have h3 : ¬ z < 48 := by omega
          have h4 : 57 < z := by omega
          have h5' : (z == 45) = false := by simp; omega
          have hs' : sg = false := by rw [HSG.out, h5']; simp <;> omega
          go_wp2_with fail
          go_ret
          have hbN := HB.out hs'
          subst hbN
          exact ⟨rfl, hc1⟩
        · have hs' : sg = true := by rw [HSG.out]; simp <;> omega
          go_wp2_with fail
          go_roundw
          case rel => exact ⟨k + 1, by omega, by go_num, by rw [HT.out, hs'], by trivial⟩
          case measure => simp [intOf]; omega
    · obtain rfl : k = s.length := by omega
      rw [List.take_length] at hall
      have hN : N = (decide (s ≠ []) && decide (s.length ≤ 24)) := by rw [← HN.out]; unfold nameD; rw [hall, Bool.true_and]
      have HN' := hd hN
      clear hN hall
      by_cases h0 : s = []
      · have h0N : N = false := by rw [HN'.out]; simp [h0]
        subst h0
        go_wp2_with fail
        go_ret
        subst h0N
        exact ⟨rfl, hc1⟩
      · have h0e := hE h0
        have h0e' : (s == []) = false := by simpa using h0
        by_cases h24 : s.length ≤ 24
        · have h0N : N = true := by rw [HN'.out]; simp [h0, h24]
          have h24' : (s.length : Int) ≤ 24 := by omega
          go_wp2_with fail
          go_ret
          subst h0N
          exact ⟨rfl, hc1⟩
        · have h0N : N = false := by rw [HN'.out]; simp [h24]
          have h24' : ¬ (s.length : Int) ≤ 24 := by omega
          go_wp2_with fail
          go_ret
          subst h0N
          exact ⟨rfl, hc1⟩
end Go.Proofs.Ytpoohpmcopjklaa

/- disk.New. -/
namespace Go.Proofs.Ytpoohpmcopjklaa
open Go.RowKit

theorem GoodD.new {room : Int} (hr : room ≤ 9223372036854775807) : GoodD (newD room) := by
  refine ⟨⟨by simp [newD]; omega, by simp [newD]; omega⟩, ?_, ?_, ?_, ?_, ?_, ⟨by simp [newD], by simp [newD]⟩, by simp [newD], by simp [newD], by simp [newD], ?_⟩ <;> simp [newD]
def newCells (w : World) (r : Int) : Array Value := #[.int .i64 r, .slice none 0 0, .map (some w.heap.size), .map (some (w.heap.size + 1)), .slice none 0 0, .int .i64 0, .int .i64 (-1), .int .i64 (-1), .bool false]
def newW (w : World) (r : Int) : World := ((w.alloc (.map #[] 0)).alloc (.map #[] 0)).alloc (.cells (newCells w r) 85)
theorem newW_dk (w : World) (room : Int) (hr : room ≤ 9223372036854775807) : Dk (newW w (max room 0)) [w.heap.size, w.heap.size + 1, w.heap.size + 2] (w.heap.size + 2) (newD room) := by
  have h1 := MapAt.new w
  have h2 := MapAt.new (w.alloc (.map #[] 0))
  have e1 : (w.alloc (.map #[] 0)).heap.size = w.heap.size + 1 := by simp
  have e2 : ((w.alloc (.map #[] 0)).alloc (.map #[] 0)).heap.size = w.heap.size + 2 := by simp
  have h3 := Blk.new ((w.alloc (.map #[] 0)).alloc (.map #[] 0)) (newCells w (max room 0)) 85
  rw [e1] at h2
  rw [e2] at h3
  refine ⟨.slice none 0 0, .slice none 0 0, w.heap.size, w.heap.size + 1, [], ?_⟩
  exact
  { box := h3
    names := (h1.alloc _).alloc _
    sure := h2.alloc _
    files := World.ownsRow_nil _ _ _ _
    same := rfl
    changes := World.ownsRow_nil _ _ _ _
    bytes := by simp
    apart := List.Pairwise.nil
    ne := by omega
    fpb := by simp
    fpn := by simp
    fps := by simp
    fpf := by simp [Value.ownBlock]
    fpc := by simp [Value.ownBlock]
    fph := by simp
    fpl := by
      intro k hk
      have e : (newW w (max room 0)).heap.size = w.heap.size + 3 := by simp [newW]
      rw [e]
      simp at hk
      omega
    good := GoodD.new hr }
theorem newW_chg (w : World) (r : Int) : Chg [] w (newW w r) := (((Chg.refl [] w).alloc _).alloc _).alloc _

def NewOut (w : World) (d : Dsk) (e : Ending) (w' : World) : Prop := ∃ b fp, e = .returned (.pointer (some ⟨b, 0, none⟩)) ∧ Dk w' fp b d ∧ Chg [] w w' ∧ ∀ k ∈ fp, w.heap.size ≤ k
set_option maxHeartbeats 400000 in
theorem DNew_any (w : World) (room : Int) (hr : room ≤ 9223372036854775807) : Calls Try.prog 14 #[.int .i64 room] w (NewOut w (newD room)) := by
  have hd0 := newW_dk w room hr
  have hc0 := newW_chg w (max room 0)
  have hfp : ∀ k ∈ [w.heap.size, w.heap.size + 1, w.heap.size + 2], w.heap.size ≤ k := by
    intro k hk
    simp at hk
    omega
  have hfin : NewOut w (newD room) (.returned (.pointer (some ⟨w.heap.size + 2, 0, none⟩))) (newW w (max room 0)) := ⟨_, _, rfl, hd0, hc0, hfp⟩
  clear hd0 hc0 hfp
  have hmm := @run_makeMap Try.prog
  by_cases h0 : room < 0
  · have hm : max room 0 = 0 := by omega
    rw [hm] at hfin
    go_enter Try.func14, Try.ntmps14
    go_wp2_with fail
    refine bodyPost_ret (v := .pointer (some ⟨w.heap.size + 2, 0, none⟩)) ?_ rfl hfin
    simp only [results]; go_simp
  · have hm : max room 0 = room := by omega
    rw [hm] at hfin
    go_enter Try.func14, Try.ntmps14
    go_wp2_with fail
    refine bodyPost_ret (v := .pointer (some ⟨w.heap.size + 2, 0, none⟩)) ?_ rfl hfin
    simp only [results]; go_simp
end Go.Proofs.Ytpoohpmcopjklaa

/- Disk.Create. -/
namespace Go.Proofs.Ytpoohpmcopjklaa
open Go.RowKit

variable {w : World} {fp : List Nat} {b : Nat} {fv cv : Value} {nb sb : Nat} {hs : List HF} {d : Dsk}

/-- The row of files has grown by an empty one. -/
theorem DkP.filed {w w' : World} {fp : List Nat} {b : Nat} {fv cv : Value} {nb sb : Nat} {hs : List HF} {d : Dsk} (h : DkP w fp b fv cv nb sb hs d) {fv' : Value}
    (hgw : w.grownBy w' fv.ownBlock) (hrow : w'.ownsRow 0 94 2 fv' (hs.length + 1) (fileCells hs ++ [.slice none 0 0, .int .i64 0])) (hg : GoodD { d with files := d.files ++ [([], 0)] }) :
    DkP (w'.setCell ⟨b, 1, none⟩ fv') (fv'.ownBlock.toList ++ fp) b fv' cv nb sb (hs ++ [(.slice none 0 0, [], 0)]) { d with files := d.files ++ [([], 0)] } := by
  have hc := Chg.ofGrown hgw
  have hbox : Blk w' b (boxCells fv cv nb sb d) 85 := h.box.grown hgw (ownsRow_apart h.files h.box (by decide))
  exact
  { box := hbox.set 1 fv'
    names := (h.names.grown hgw fun e => h.names.apartRow h.files e.symm).set _ _ (h.names.apart h.box)
    sure := (h.sure.grown hgw fun e => h.sure.apartRow h.files e.symm).set _ _ (h.sure.apart h.box)
    files := by
      rw [fileCells_app, List.length_append]
      exact ownsRow_set hrow hbox (by decide) 1 _
    same := by rw [List.map_append, h.same]; rfl
    changes := ownsRow_set (ownsRow_chg h.changes hc fun k hk => by simpa using ownsRow_ne2 h.changes h.files (by decide) k hk) hbox (by decide) 1 _
    bytes := fun f hf => by
      rcases List.mem_append.1 hf with hf | hf
      · exact ownsRow_set (ownsRow_chg (h.bytes f hf) hc fun k hk => by simpa using ownsRow_ne2 (h.bytes f hf) h.files (by decide) k hk) hbox (by decide) 1 _
      · obtain rfl : f = (.slice none 0 0, [], 0) := by simpa using hf
        exact OwB.nil _ _
    apart := by
      rw [List.pairwise_append]
      refine ⟨h.apart, by simp, fun f _ g hg k _ => ?_⟩
      obtain rfl : g = (.slice none 0 0, [], 0) := by simpa using hg
      simp [Value.ownBlock]
    ne := h.ne
    fpb := by simp [h.fpb]
    fpn := by simp [h.fpn]
    fps := by simp [h.fps]
    fpf := fun k hk => by simp [hk]
    fpc := fun k hk => by simp [h.fpc k hk]
    fph := fun f hf k hk => by
      rcases List.mem_append.1 hf with hf | hf
      · simp [h.fph f hf k hk]
      · obtain rfl : f = (.slice none 0 0, [], 0) := by simpa using hf
        simp [Value.ownBlock] at hk
    fpl := fun k hk => by
      rw [size_set]
      rcases List.mem_append.1 hk with hk | hk
      · exact (World.ownsRow.lt hrow k (by simpa using hk)).2
      · exact Nat.lt_of_lt_of_le (h.fpl k hk) hc.size
    good := hg }
theorem GoodD.filed {d : Dsk} (h : GoodD d) (ho : d.ops < 1073741824) : GoodD { opD d with files := d.files ++ [([], 0)] } := by
  have ⟨a0, a1, a2, a3, a4, a5, a6, a7, a8, a9, a10⟩ := h
  refine { h.op ho with named := fun p hp => ?_, sured := fun p hp => ?_, turned := fun c hc hne => ?_, idx := fun c hc => ?_, files := fun f hf => ?_, nfiles := ?_ }
  · have := a1 p hp; simp; omega
  · have := a2 p hp; simp; omega
  · have := a3 c hc hne; simp; omega
  · have := a4 c hc; simp; omega
  · rcases List.mem_append.1 hf with hf | hf
    · exact a5 f hf
    · obtain rfl : f = ([], 0) := by simpa using hf
      exact ⟨Nat.le_refl _, by show (0 : Int) ≤ d.room; exact a0.1, by simp⟩
  · show ((d.files ++ [(([] : List UInt8), 0)]).length : Int) ≤ d.ops + 1
    simp; omega

set_option maxHeartbeats 2000000 in
theorem Create_any (h : Dk w fp b d) (s : List UInt8) (hsl : s.length ≤ 140737488355328) (hops : d.ops < 1073741824) :
    Calls Try.prog 32 #[.pointer (some ⟨b, 0, none⟩), .string (strB s)] w fun e w' => e = .returned (.int .i64 (createE d s)) ∧ DkOut w fp b (createD d s) w' := by
  obtain ⟨fv, cv, nb, sb, hs, h⟩ := h
  have hg := h.good
  obtain ⟨CE, hCE⟩ : ∃ x, createE d s = x := ⟨_, rfl⟩
  obtain ⟨CD, hCD⟩ : ∃ x, createD d s = x := ⟨_, rfl⟩
  rw [hCE, hCD]
  have HG := hd hg
  have hCE2 := hCE
  unfold createE at hCE2
  unfold createD at hCD
  rw [hCE] at hCD
  clear hCE
  go_enter Try.func32, Try.ntmps32
  go_wp2_with fail
  refine (op_any h hops).mono ?_
  rintro e w1 ⟨rfl, h1, hc1, hz1⟩
  have hcf : Chg fp w w1 := hc1.mono (by simp only [List.mem_singleton]; rintro x rfl _; exact h.fpb)
  clear hc1 hz1 h
  by_cases hE : opE d = 0
  case neg =>
    rw [if_pos hE] at hCE2
    rw [if_pos (by rw [← hCE2]; exact hE)] at hCD
    subst hCD
    subst hCE2
    have hE' : (opE d == 0) = false := by simpa using hE
    clear hE
    go_wp2_with fail
    go_ret
    exact ⟨rfl, DkOut.same ⟨_, _, _, _, _, h1⟩ hcf⟩
  rw [if_neg (by simpa using hE)] at hCE2
  have q2 := h1.box.cell 2
  simp [boxCells] at q2
  have hm : MapAt w1 nb d.names := h1.names
  rw [hE]
  clear hE
  generalize hr : nget d.names s = r at hCE2
  go_upto_region 5 with (at_lookup; refine wpLook rfl _ _ rfl nb _ s rfl rfl hm hsl ?_; rw [hr])
  clear q2 hr
  have hnl := hg.nnames
  have hfl := hg.nfiles
  have hol := hg.ops
  clear hg
  have H1 := hd h1
  have HM := hd hm
  have HCF := hd hcf
  clear h1 hm hcf
  go_wp2_with fail
  refine (name_any w1 s hsl).mono ?_
  rintro e w2 ⟨rfl, hc2⟩
  have h2 := H1.out.k hc2
  have hm2 := HM.out.k hc2
  have hcf2 := HCF.out.trans hc2 (by simp)
  clear hc2 H1 HM HCF
  have q2 := h2.box.cell 2
  simp [boxCells] at q2
  have h20 : Dk w2 fp b (opD d) := ⟨_, _, _, _, _, h2⟩
  cases hn : nameD s
  case false =>
    rw [if_pos (by simp [hn])] at hCE2
    subst hCE2
    rw [if_pos (by decide)] at hCD
    subst hCD
    have H2 := hd (DkOut.same h20 hcf2)
    clear h2 h20 hm2 hcf2 q2
    go_wp2_with fail
    go_ret
    exact ⟨rfl, H2.out⟩
  rw [if_neg (by simp [hn])] at hCE2
  cases r with
  | some i =>
    rw [if_pos (by rfl)] at hCE2
    subst hCE2
    rw [if_pos (by decide)] at hCD
    subst hCD
    have H2 := hd (DkOut.same h20 hcf2)
    clear h2 h20 hm2 hcf2 q2
    go_wp2_with fail
    go_ret
    exact ⟨rfl, H2.out⟩
  | none =>
    rw [if_neg (by decide)] at hCE2
    by_cases h64 : 64 ≤ d.names.length
    · rw [if_pos h64] at hCE2
      subst hCE2
      rw [if_pos (by decide)] at hCD
      subst hCD
      have H2 := hd (DkOut.same h20 hcf2)
      have h64' : (64 : Int) ≤ (d.names.length : Int) := by omega
      clear h2 h20 hcf2
      go_wp2_with (at_len; refine wpLenM rfl _ rfl nb _ rfl hm2 ?_)
      go_ret
      exact ⟨rfl, H2.out⟩
    · rw [if_neg h64] at hCE2
      subst hCE2
      rw [if_neg (by decide)] at hCD
      have h64' : ¬ (64 : Int) ≤ (d.names.length : Int) := by omega
      have HGF := hd (HG.out.filed hops)
      have hfl' : hs.length = d.files.length := h2.len
      have hfi : (hs.length : Int) ≤ d.ops := by omega
      have HFL := hd hfl'
      have HCD := hd hCD
      clear hfl' hCD
      go_upto_region 11 with (at_len; refine wpLenM rfl _ rfl nb _ rfl hm2 ?_)
      have q1 := h2.box.cell 1
      simp [boxCells] at q1
      have hA := (Chg.refl [] w2).alloc (.cells #[.slice none 0 0, .int .i64 0] 94)
      have hrow := ownsRow_k h2.files hA
      have hbA := (h2.box.alloc (.cells #[.slice none 0 0, .int .i64 0] 94))
      have hap := ownsRow_apart hrow hbA (by decide)
      have H2 := hd h2
      have HCF2 := hd hcf2
      have HM2 := hd hm2
      clear h2 hcf2 hm2 h20 q2
      go_upto_region 12 with (at_builtin; refine wpApp rowFile rfl _ _ rfl 0 fv hs.length (fileCells hs) rfl hrow _ 1 [.slice none 0 0, .int .i64 0] rfl (Rd.lit w2 2 1 _ _ _ rfl rfl (by decide)) (by simp [Value.oneCell']) (by omega) (by omega) (Nat.zero_le _) ?_; intro ao3 c3 w3 hr3 hg3 hm3 _; have hb3 := hbA.grown hg3 hap; have q3 := hb3.cell 1; have f3 := hb3.free 1; simp [boxCells] at q3)
      have HD4 := hd (DkP.filed (H2.out.k hA) hg3 hr3 HGF.out)
      have hcf4 : Chg fp w (w3.setCell ⟨b, 1, none⟩ (.slice ao3 (hs.length + 1) c3)) := (((HCF2.out.trans hA (by simp))).grown hg3 (fun k hk _ => H2.out.fpf k hk)).setCell _ _ (fun _ => H2.out.fpb)
      have hgr : Gr fp w ((Value.slice ao3 (hs.length + 1) c3).ownBlock.toList ++ fp) := (Gr.refl fp w).trans (Gr.cons hm3 H2.out.fpf) (HCF2.out.trans hA (by simp)).size
      have HCF4 := hd hcf4
      have HGR := hd hgr
      clear hcf4 hgr hr3 hg3 hm3 hb3 f3 q3 hA hrow hbA hap q1 HCF2 HM2 H2
      generalize w3.setCell ⟨b, 1, none⟩ (.slice ao3 (hs.length + 1) c3) = w4 at *
      have q1 := HD4.out.box.cell 1
      simp [boxCells] at q1
      have hx1 : (hs.length : Int) = (d.files.length : Int) := by rw [HFL.out]
      go_wp2_with fail
      refine (change_any HD4.out [] s d.files.length (by simp) hsl (by simp [opD]) (by simp [opD]) (by show (d.names.length : Int) + 1 ≤ d.ops + 1; omega) (by show (d.sure.length + d.changes.length : Int) + 1 ≤ d.ops + 1; have := HG.out.nchanges; omega)).mono ?_
      rintro e w5 ⟨rfl, h5⟩
      have H5 := hd (h5.chain HCF4.out HGR.out)
      clear h5
      go_wp2_with fail
      go_ret
      exact ⟨rfl, by rw [← HCD.out]; exact H5.out⟩
end Go.Proofs.Ytpoohpmcopjklaa
