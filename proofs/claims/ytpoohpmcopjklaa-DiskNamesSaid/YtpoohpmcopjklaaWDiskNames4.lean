/- Words and walks that DiskNames rests on, part 4. -/
import Derived.Test.YtpoohpmcopjklaaWDiskNames2
import Derived.Test.YtpoohpmcopjklaaWDiskNames1
import Derived.Deep.Cut
import Derived.Test.YtpoohpmcopjklaaWDiskNames3
import Derived.ProofKit
import Derived.OpenShut
/- Disk.Sync, DirSync, Read. -/
namespace Go.Proofs.Ytpoohpmcopjklaa
open Go.RowKit

variable {w w' : World} {fp : List Nat} {b : Nat} {fv cv : Value} {nb sb : Nat} {hs : List HF} {d : Dsk}

theorem files_get {w : World} (h : DkP w fp b fv cv nb sb hs d) {i : Nat} (hi : i < hs.length) : d.files.getD i ([], 0) = hs[i].2 := by
  rw [List.getD_eq_getElem?_getD, ← h.same, List.getElem?_map, List.getElem?_eq_getElem hi]; rfl

set_option maxHeartbeats 1000000 in
theorem Sync_any (h : Dk w fp b d) (s : List UInt8) (hsl : s.length ≤ 140737488355328) (hops : d.ops < 1073741824) :
    Calls Try.prog 36 #[.pointer (some ⟨b, 0, none⟩), .string (strB s)] w fun e w' => e = .returned (.int .i64 (syncE d s)) ∧ DkOut w fp b (syncD d s) w' := by
  obtain ⟨fv, cv, nb, sb, hs, h⟩ := h
  obtain ⟨CE, hCE⟩ : ∃ x, syncE d s = x := ⟨_, rfl⟩
  obtain ⟨CD, hCD⟩ : ∃ x, syncD d s = x := ⟨_, rfl⟩
  rw [hCE, hCD]
  have hCE2 := hCE
  unfold syncE at hCE2
  unfold syncD at hCD
  rw [hCE] at hCD
  clear hCE
  go_enter Try.func36, Try.ntmps36
  go_wp2_with fail
  refine (op_any h hops).mono ?_
  rintro e w1 ⟨rfl, h1, hc1, hz1⟩
  have hcf : Chg fp w w1 := hc1.mono (by simp only [List.mem_singleton]; rintro x rfl _; exact h.fpb)
  clear hc1 hz1 h
  by_cases hE : opE d = 0
  case neg =>
    rw [if_pos hE] at hCE2
    rw [if_pos (by rw [← hCE2]; exact hE)] at hCD
    subst hCD
    subst hCE2
    have hE' : (opE d == 0) = false := by simpa using hE
    clear hE
    go_wp2_with fail
    go_ret
    exact ⟨rfl, DkOut.same ⟨_, _, _, _, _, h1⟩ hcf⟩
  rw [if_neg (by simpa using hE)] at hCE2
  rw [hE]
  clear hE
  have hfind := find_any h1 s hsl
  have H1 := hd h1
  have HCF := hd hcf
  clear h1 hcf
  rcases hi : nget d.names s with _ | i
  · rw [show nget (opD d).names s = none from hi] at hfind
    rw [hi, if_pos (by rfl)] at hCE2
    subst hCE2
    rw [if_pos (by decide)] at hCD
    subst hCD
    go_wp2_with fail
    refine (hfind).mono ?_
    rintro e w2 ⟨rfl, rfl⟩
    go_wp2_with fail
    go_ret
    exact ⟨rfl, DkOut.same ⟨_, _, _, _, _, H1.out⟩ HCF.out⟩
  · rw [show nget (opD d).names s = some i from hi] at hfind
    rw [hi, if_neg (by simp)] at hCE2
    subst hCE2
    rw [if_neg (by decide), hi] at hCD
    have HCD := hd hCD
    clear hCD
    go_wp2_with fail
    refine (hfind).mono ?_
    rintro e w2 ⟨rfl, g, c, rfl, hlt, rfl⟩
    obtain ⟨ao, c', hv, q0, q1, -⟩ := H1.out.file hlt
    have f1 := World.ownsRow.frozenAt H1.out.files (i * 2 + 1)
    have hfin := H1.out.sureSet hlt _ (Nat.le_refl _)
    have hcd : setF (opD d) i (hs[i].2.1, hs[i].2.1.length) = CD := by
      rw [← HCD.out]
      show _ = setF (opD d) i ((d.files.getD i ([], 0)).1, (d.files.getD i ([], 0)).1.length)
      rw [show d.files.getD i ([], 0) = hs[i].2 from files_get H1.out hlt]
    rw [hcd] at hfin
    have hch : Chg fp w2 (w2.setCell ⟨g, i * 2 + 1, none⟩ (.int .i64 (hs[i].2.1.length : Int))) := (Chg.refl _ _).setCell _ _ (fun _ => H1.out.fpf g rfl)
    have FIN := hd (DkOut.same ⟨_, _, _, _, _, hfin⟩ (HCF.out.trans hch (fun _ h _ => h)))
    clear hcd hch hfin hv
    generalize hs[i].2.1.length = n at *
    go_wp2_with fail
    go_ret
    exact ⟨rfl, FIN.out⟩

def ReadOut (w : World) (fp : List Nat) (b : Nat) (d : Dsk) (s : List UInt8) (e : Ending) (w' : World) : Prop :=
  ∃ ao n c, e = .returned (.tuple #[.slice ao n c, .int .i64 (syncE d s)]) ∧ OwB w' w.heap.size (.slice ao n c) (if syncE d s = 0 then bytesD d s else []) ∧ Dk w' fp b (opD d) ∧ Chg [b] w w'

set_option maxHeartbeats 1000000 in
theorem Read_any (h : Dk w fp b d) (s : List UInt8) (hsl : s.length ≤ 140737488355328) (hops : d.ops < 1073741824) :
    Calls Try.prog 19 #[.pointer (some ⟨b, 0, none⟩), .string (strB s)] w (ReadOut w fp b d s) := by
  obtain ⟨fv, cv, nb, sb, hs, h⟩ := h
  obtain ⟨CE, hCE⟩ : ∃ x, syncE d s = x := ⟨_, rfl⟩
  have hbad : ∀ (e : Ending) (w' : World), CE ≠ 0 → DkP w' fp b fv cv nb sb hs (opD d) → Chg [b] w w' → e = .returned (.tuple #[.slice none 0 0, .int .i64 CE]) → ReadOut w fp b d s e w' := by
    intro e w' hne h1 h2 he
    unfold ReadOut
    rw [hCE]
    exact ⟨none, 0, 0, he, by rw [if_neg hne]; exact OwB.nil _ _, ⟨_, _, _, _, _, h1⟩, h2⟩
  have hgood : ∀ (e : Ending) (w' : World), CE = 0 → DkP w' fp b fv cv nb sb hs (opD d) → Chg [b] w w' → ∀ ao n c, OwB w' w.heap.size (.slice ao n c) (bytesD d s) → e = .returned (.tuple #[.slice ao n c, .int .i64 CE]) → ReadOut w fp b d s e w' := by
    intro e w' hz h1 h2 ao n c h3 he
    unfold ReadOut
    rw [hCE]
    exact ⟨ao, n, c, he, by rw [if_pos hz]; exact h3, ⟨_, _, _, _, _, h1⟩, h2⟩
  have HBAD := hd hbad
  have HGOOD := hd hgood
  clear hbad hgood
  unfold syncE at hCE
  go_enter Try.func19, Try.ntmps19
  go_wp2_with fail
  refine (op_any h hops).mono ?_
  rintro e w1 ⟨rfl, h1, hc1, hz1⟩
  clear h
  by_cases hE : opE d = 0
  case neg =>
    rw [if_pos hE] at hCE
    subst hCE
    have hE' : (opE d == 0) = false := by simpa using hE
    have HE := hd hE
    clear hE
    have H1 := hd h1
    clear h1
    go_wp2_with fail
    refine bodyPost_ret (v := .tuple #[.slice none 0 0, .int .i64 (opE d)]) ?_ rfl ?_
    · simp only [results]; go_simp
    · exact HBAD.out _ _ HE.out H1.out hc1 rfl
  rw [if_neg (by simpa using hE)] at hCE
  rw [hE]
  clear hE
  have hfind := find_any h1 s hsl
  have H1 := hd h1
  clear h1
  rcases hi : nget d.names s with _ | i
  · rw [show nget (opD d).names s = none from hi] at hfind
    rw [hi, if_pos (by rfl)] at hCE
    subst hCE
    go_wp2_with fail
    refine (hfind).mono ?_
    rintro e w2 ⟨rfl, rfl⟩
    go_wp2_with fail
    refine bodyPost_ret (v := .tuple #[.slice none 0 0, .int .i64 4]) ?_ rfl ?_
    · simp only [results]; go_simp
    · exact HBAD.out _ _ (by decide) H1.out hc1 rfl
  · rw [show nget (opD d).names s = some i from hi] at hfind
    rw [hi, if_neg (by simp)] at hCE
    subst hCE
    go_wp2_with fail
    refine (hfind).mono ?_
    rintro e w2 ⟨rfl, g, c, rfl, hlt, rfl⟩
    obtain ⟨ao, c', hv, q0, q1, -⟩ := H1.out.file hlt
    have hby := H1.out.bytes _ (List.getElem_mem hlt)
    rw [hv] at hby
    have hbd : bytesD d s = hs[i].2.1 := by unfold bytesD; rw [hi]; show (d.files.getD i ([], 0)).1 = _; rw [show d.files.getD i ([], 0) = hs[i].2 from files_get H1.out hlt]
    have hll := (H1.out.good.files _ (List.mem_of_getElem? (H1.out.file hlt).choose_spec.choose_spec.2.2.2)).2.2
    have HBD := hd hbd
    have hbs := hby.bs
    have hz := hc1.size
    clear hby hv hbd q1 hi hfind
    generalize hs[i].2.1 = l at *
    clear hlt
    go_wp2_with fail
    refine (CloneB_any _ _ l hbs (by omega)).mono ?_
    rintro e w3 ⟨ao3, c3, rfl, hb3, hc3⟩
    have H3 := hd (H1.out.k hc3)
    have hcc := hc1.trans hc3 (by simp)
    go_wp2_with fail
    refine bodyPost_ret (v := .tuple #[.slice ao3 l.length c3, .int .i64 0]) ?_ rfl ?_
    · simp only [results]; go_simp
    · exact HGOOD.out _ _ (by trivial) H3.out hcc ao3 l.length c3 (by rw [HBD.out]; exact hb3.mono hz) rfl

set_option maxHeartbeats 1000000 in
theorem DirSync_any (h : Dk w fp b d) (hops : d.ops < 1073741824) :
    Calls Try.prog 37 #[.pointer (some ⟨b, 0, none⟩)] w fun e w' => e = .returned (.int .i64 (opE d)) ∧ DkOut w fp b (dirSyncD d) w' := by
  obtain ⟨fv, cv, nb, sb, hs, h⟩ := h
  obtain ⟨CD, hCD⟩ : ∃ x, dirSyncD d = x := ⟨_, rfl⟩
  rw [hCD]
  unfold dirSyncD at hCD
  go_enter Try.func37, Try.ntmps37
  go_wp2_with fail
  refine (op_any h hops).mono ?_
  rintro e w1 ⟨rfl, h1, hc1, hz1⟩
  have hcf : Chg fp w w1 := hc1.mono (by simp only [List.mem_singleton]; rintro x rfl _; exact h.fpb)
  clear hc1 hz1 h
  by_cases hE : opE d = 0
  case neg =>
    rw [if_pos hE] at hCD
    subst hCD
    have hE' : (opE d == 0) = false := by simpa using hE
    have HD := hd (DkOut.same ⟨_, _, _, _, _, h1⟩ hcf)
    clear hE h1 hcf
    go_wp2_with fail
    go_ret
    exact ⟨rfl, HD.out⟩
  rw [if_neg (by simpa using hE)] at hCD
  rw [hE]
  have HE := hd hE
  clear hE
  have HCD := hd hCD
  clear hCD
  have q2 := h1.box.cell 2
  simp [boxCells] at q2
  have hm : MapAt w1 nb d.names := h1.names
  have H1 := hd h1
  have HCF := hd hcf
  clear h1 hcf
  go_wp2_with fail
  refine (CloneM_any w1 nb d.names hm).mono ?_
  rintro e w2 ⟨rfl, hm2, hc2⟩
  have hz := hc2.size
  have H2 := hd (H1.out.k hc2)
  have HCF2 := hd (HCF.out.trans hc2 (by simp))
  have hbx := H2.out.box
  have q3 := hbx.cell 3
  have f3 := hbx.free 3
  have hb2 := hbx.set 3 (.map (some w1.heap.size))
  have q4 := hb2.cell 4
  have f4 := hb2.free 4
  simp [boxCells] at q3 q4
  have FIN : DkOut w fp b CD ((w2.setCell ⟨b, 3, none⟩ (.map (some w1.heap.size))).setCell ⟨b, 4, none⟩ (.slice none 0 0)) := by
    have hgood : GoodD CD := by
      rw [← HCD.out]
      have hg := H1.out.good
      refine { hg with sured := hg.named, turned := by simp, idx := by simp, nchanges := ?_, clens := by simp }
      simpa [opD] using hg.nnames
    have hch : Chg [b] w2 ((w2.setCell ⟨b, 3, none⟩ (.map (some w1.heap.size))).setCell ⟨b, 4, none⟩ (.slice none 0 0)) := ((Chg.refl _ _).setCell _ _ (by simp)).setCell _ _ (by simp)
    have D := H2.out
    refine DkOut.mk (fp' := w1.heap.size :: fp) ⟨fv, .slice none 0 0, nb, w1.heap.size, hs, ?_⟩ (HCF2.out.trans hch (by simp only [List.mem_singleton]; rintro x rfl _; exact H1.out.fpb)) ?_
    · rw [← HCD.out] at hgood ⊢
      exact
      { box := hb2.set 4 _
        names := (D.names.set _ _ (D.names.apart D.box)).set _ _ (D.names.apart D.box)
        sure := (hm2.set _ _ (hm2.apart D.box)).set _ _ (hm2.apart D.box)
        files := ownsRow_chg D.files hch fun k hk => by have := ownsRow_apart D.files D.box (by decide); rw [hk] at this; simpa using this
        same := D.same
        changes := World.ownsRow_nil _ _ _ _
        bytes := fun f hf => OwB.chg (D.bytes f hf) hch fun k hk => by have := ownsRow_apart (D.bytes f hf) D.box (by decide); rw [hk] at this; simpa using this
        apart := D.apart
        ne := fun e => by have := H1.out.names.lt; omega
        fpb := by simp [D.fpb]
        fpn := by simp [D.fpn]
        fps := by simp
        fpf := fun k hk => by simp [D.fpf k hk]
        fpc := by simp [Value.ownBlock]
        fph := fun f hf k hk => by simp [D.fph f hf k hk]
        fpl := fun k hk => by
          rw [size_set, size_set]
          rcases List.mem_cons.1 hk with rfl | hk
          · exact hm2.lt
          · exact D.fpl k hk
        good := hgood }
    · intro k hk
      rcases List.mem_cons.1 hk with rfl | hk
      · exact .inr HCF.out.size
      · exact .inl hk
  have HFIN := hd FIN
  clear FIN hm2 hc2 hbx hm
  go_wp2_with fail
  go_ret
  exact ⟨by rw [HE.out]; rfl, HFIN.out⟩
end Go.Proofs.Ytpoohpmcopjklaa

/- Disk.Append, Bend. -/
namespace Go.Proofs.Ytpoohpmcopjklaa
open Go.RowKit

variable {w w' : World} {fp : List Nat} {b : Nat} {fv cv : Value} {nb sb : Nat} {hs : List HF} {d : Dsk}

set_option maxHeartbeats 2000000 in
theorem Append_any (h : Dk w fp b d) (s : List UInt8) (hsl : s.length ≤ 140737488355328) (hops : d.ops < 1073741824) (v : Value) (l : List UInt8) (hl : Bs w v l) (hll : l.length ≤ 4294967296)
    (hvf : 0 < l.length → ∀ k, v.ownBlock = some k → k ∉ fp) (hroom : (bytesD d s).length + l.length ≤ 4294967296 ∨ d.room ≤ 4294967296) :
    Calls Try.prog 26 #[.pointer (some ⟨b, 0, none⟩), .string (strB s), v] w fun e w' => e = .returned (.int .i64 (appendE d s l)) ∧ DkOut w fp b (appendD d s l) w' := by
  obtain ⟨fv, cv, nb, sb, hs, h⟩ := h
  obtain ⟨aov, capv, bv, ofv, rfl, -⟩ := hl.open
  obtain ⟨CE, hCE⟩ : ∃ x, appendE d s l = x := ⟨_, rfl⟩
  obtain ⟨CD, hCD⟩ : ∃ x, appendD d s l = x := ⟨_, rfl⟩
  rw [hCE, hCD]
  have hCE2 := hCE
  unfold appendE at hCE2
  unfold appendD at hCD
  rw [hCE] at hCD
  clear hCE
  go_enter Try.func26, Try.ntmps26
  go_wp2_with fail
  refine (op_any h hops).mono ?_
  rintro e w1 ⟨rfl, h1, hc1, hz1⟩
  have hl1 := hl.keep hc1 (fun hp k hk => by simpa using fun e => hvf hp k hk (by rw [e]; exact h.fpb))
  have hcf : Chg fp w w1 := hc1.mono (by simp only [List.mem_singleton]; rintro x rfl _; exact h.fpb)
  clear hc1 hz1 h hl
  by_cases hE : opE d = 0
  case neg =>
    rw [if_pos hE] at hCE2
    rw [if_pos (by rw [← hCE2]; exact hE)] at hCD
    subst hCD
    subst hCE2
    have hE' : (opE d == 0) = false := by simpa using hE
    have HD := hd (DkOut.same ⟨_, _, _, _, _, h1⟩ hcf)
    clear hE h1 hcf hl1
    go_wp2_with fail
    go_ret
    exact ⟨rfl, HD.out⟩
  rw [if_neg (by simpa using hE)] at hCE2
  rw [hE]
  clear hE
  have hfind := find_any h1 s hsl
  have H1 := hd h1
  have HCF := hd hcf
  have HL1 := hd hl1
  clear h1 hcf hl1
  rcases hi : nget d.names s with _ | i
  · rw [show nget (opD d).names s = none from hi] at hfind
    rw [hi, if_pos (by rfl)] at hCE2
    subst hCE2
    rw [if_pos (by decide)] at hCD
    subst hCD
    go_wp2_with fail
    refine (hfind).mono ?_
    rintro e w2 ⟨rfl, rfl⟩
    go_wp2_with fail
    go_ret
    exact ⟨rfl, DkOut.same ⟨_, _, _, _, _, H1.out⟩ HCF.out⟩
  · rw [show nget (opD d).names s = some i from hi] at hfind
    rw [hi, if_neg (by simp)] at hCE2
    rw [hi] at hCD
    have hbd : bytesD d s = (d.files.getD i ([], 0)).1 := by unfold bytesD; rw [hi]
    have hLT : (bytesD d s).length ≤ sizeD d := by
      have hn : (d.names.map (·.1)).Nodup := let ⟨_, _, hr⟩ := H1.out.names; hr.nodup
      have := sumF_ndel d hn (nget_some_mem hi)
      rw [sizeD_eq, this, hbd]
      show _ ≤ _ + (d.files.getD i ([], 0)).1.length
      omega
    have HBD := hd hbd
    have HCD := hd hCD
    have HCE := hd hCE2
    clear hCD hCE2 hbd hi
    go_wp2_with fail
    refine (hfind).mono ?_
    rintro e w2 ⟨rfl, g, c, rfl, hlt, rfl⟩
    clear hfind
    have hsz : sizeD (opD d) ≤ 4611686018427387904 := by
      have hg := H1.out.good
      have h1 := sumF_le hg (opD d).names
      have h2 := hg.nnames
      have h3 := hg.ops
      rw [sizeD_eq]
      omega
    have hrm := H1.out.good.room
    have hrm' : (opD d).room = d.room := rfl
    rw [hrm'] at hrm
    have hszd : sizeD (opD d) = sizeD d := rfl
    rw [hszd] at hsz
    have HS := hd (fun wx (hx : Chg [] w2 wx) => Size_any (H1.out.k hx))
    rw [hszd] at HS
    have q0 := H1.out.box.cell 0
    simp [boxCells] at q0
    rw [hrm'] at q0
    have Q0 := hd q0
    clear q0
    clear hszd hrm'
    generalize sizeD d = T at *
    go_upto_region 7 with (fail)
    have hwr : IntKind.i64.wrap ((T : Int) + (l.length : Int)) = (T : Int) + (l.length : Int) := by rw [IntKind.wrap_i64]; omega
    refine anyH_start (n := 11) (L := #[false, false, false, false, false, false, false, false, false, false, false]) (by kernel_rfl) (by kernel_rfl) (S := (fun wx => Chg [] w2 wx)) ((Chg.refl _ _).drew) (fun hHeld => ?_)
    refine anyH_take (i := 0) (d := 26) (L' := #[true, false, false, false, false, false, false, false, false, false, false]) (v := ?v5) rfl rfl (by kernel_rfl) (fun _ _ _ h => h) (by rfl) ?hy5 (by assumption) ?rest5
    case hy5 => (intro wx hSw; (try dsimp only at hSw); (have t0 := Chg.cellS hSw Q0.out); go_simp; (try with_reducible rfl))
    simp only [Act.put, List.setIfInBounds_toArray, List.set_cons_zero, List.set_cons_succ]
    refine anyH_take (i := 2) (d := 28) (L' := #[true, false, true, false, false, false, false, false, false, false, false]) (v := ?v6) rfl rfl (by kernel_rfl) (fun _ _ _ h => h) (by rfl) ?hy6 (by assumption) ?rest6
    case hy6 => (intro wx hSw; (try dsimp only at hSw); (have t0 := Chg.cellS hSw Q0.out); go_simp; (try with_reducible rfl))
    simp only [Act.put, List.setIfInBounds_toArray, List.set_cons_zero, List.set_cons_succ]
    refine anyH_take (i := 3) (d := 29) (L' := #[true, false, true, true, false, false, false, false, false, false, false]) (v := ?v7) rfl rfl (by kernel_rfl) (fun _ _ _ h => h) (by rfl) ?hy7 (by assumption) ?rest7
    case hy7 => (intro wx hSw; (try dsimp only at hSw); (have t0 := Chg.cellS hSw Q0.out); go_simp; (try with_reducible rfl))
    simp only [Act.put, List.setIfInBounds_toArray, List.set_cons_zero, List.set_cons_succ]
    refine anyH_take (i := 5) (d := 31) (L' := #[true, false, true, true, false, true, false, false, false, false, false]) (v := ?v8) rfl rfl (by kernel_rfl) (fun _ _ _ h => h) (by rfl) ?hy8 (by assumption) ?rest8
    case hy8 => (intro wx hSw; (try dsimp only at hSw); (have t0 := Chg.cellS hSw Q0.out); go_simp; (try with_reducible rfl))
    simp only [Act.put, List.setIfInBounds_toArray, List.set_cons_zero, List.set_cons_succ]
    refine anyH_take (i := 6) (d := 32) (L' := #[true, false, true, true, false, true, true, false, false, false, false]) (v := ?v9) rfl rfl (by kernel_rfl) (fun _ _ _ h => h) (by rfl) ?hy9 (by assumption) ?rest9
    case hy9 => (intro wx hSw; (try dsimp only at hSw); (have t0 := Chg.cellS hSw Q0.out); go_simp; (try with_reducible rfl))
    simp only [Act.put, List.setIfInBounds_toArray, List.set_cons_zero, List.set_cons_succ]
    refine anyH_take (i := 7) (d := 33) (L' := #[true, false, true, true, false, true, true, true, false, false, false]) (v := ?v10) rfl rfl (by kernel_rfl) (fun _ _ _ h => h) (by rfl) ?hy10 (by assumption) ?rest10
    case hy10 => (intro wx hSw; (try dsimp only at hSw); (have t0 := Chg.cellS hSw Q0.out); go_simp; (try with_reducible rfl))
    simp only [Act.put, List.setIfInBounds_toArray, List.set_cons_zero, List.set_cons_succ]
    refine anyH_take (i := 8) (d := 34) (L' := #[true, false, true, true, false, true, true, true, true, false, false]) (v := ?v11) rfl rfl (by kernel_rfl) (fun _ _ _ h => h) (by rfl) ?hy11 (by assumption) ?rest11
    case hy11 => (intro wx hSw; (try dsimp only at hSw); (have t0 := Chg.cellS hSw Q0.out); go_simp; (try with_reducible rfl))
    simp only [Act.put, List.setIfInBounds_toArray, List.set_cons_zero, List.set_cons_succ]
    refine anyH_run (i := 1) (L' := #[true, true, true, true, false, true, true, true, true, false, false]) rfl (by kernel_rfl) (by rfl) (fun KK hKK => ?_)
    go_simp
    (refine (HS.out _ hHeld).mono ?_; rintro e w3 ⟨rfl, hc3⟩; have hm3 := Chg.k hHeld hc3; clear hc3; (try go_simp))
    refine hKK.out _ _ (by assumption) (fun hHeld => ?_)
    clear hKK KK
    try simp only [Act.put, List.setIfInBounds_toArray, List.set_cons_zero, List.set_cons_succ]
    refine anyH_run (i := 4) (L' := #[true, true, true, true, true, true, true, true, true, false, false]) rfl (by kernel_rfl) (by rfl) (fun KK hKK => ?_)
    go_simp
    (skip)
    refine hKK.out _ _ (by assumption) (fun hHeld => ?_)
    clear hKK KK
    try simp only [Act.put, List.setIfInBounds_toArray, List.set_cons_zero, List.set_cons_succ]
    refine anyH_run (i := 9) (L' := #[true, true, true, true, true, true, true, true, true, true, false]) rfl (by kernel_rfl) (by rfl) (fun KK hKK => ?_)
    go_simp
    (skip)
    refine hKK.out _ _ (by assumption) (fun hHeld => ?_)
    clear hKK KK
    try simp only [Act.put, List.setIfInBounds_toArray, List.set_cons_zero, List.set_cons_succ]
    refine anyH_run (i := 10) (L' := #[true, true, true, true, true, true, true, true, true, true, true]) rfl (by kernel_rfl) (by rfl) (fun KK hKK => ?_)
    go_simp
    (skip)
    refine hKK.out _ _ (by assumption) (fun hHeld => ?_)
    clear hKK KK
    try simp only [Act.put, List.setIfInBounds_toArray, List.set_cons_zero, List.set_cons_succ]
    refine wpAnyH_done (by kernel_rfl) ?_ _
    clear HS Q0
    try rw [hwr]
    by_cases hbig : d.room < (T : Int) + (l.length : Int)
    · have hx := HCE.out
      rw [if_pos hbig] at hx
      subst hx
      have hy := HCD.out
      rw [if_pos (by decide)] at hy
      subst hy
      have FIN := hd (DkOut.same ⟨_, _, _, _, _, H1.out.k hm3⟩ (HCF.out.trans hm3 (by simp)))
      clear hm3
      go_wp2_with fail
      go_ret
      exact ⟨rfl, FIN.out⟩
    · have hx := HCE.out
      rw [if_neg hbig] at hx
      subst hx
      have hy := HCD.out
      rw [if_neg (by decide)] at hy
      have HY := hd hy
      clear hy HCE HCD
      go_upto_region 9 with (fail)
      have H3 := hd (H1.out.k hm3)
      have HCF3 := hd (HCF.out.trans hm3 (by simp))
      have hl3 := HL1.out.k hm3
      obtain ⟨ao, c', hv, q0, q1, hfi⟩ := H3.out.file hlt
      have hby := H3.out.bytes _ (List.getElem_mem hlt)
      rw [hv] at hby
      have hgf := H3.out.good.files _ (List.mem_of_getElem? hfi)
      have hbl : bytesD d s = hs[i].2.1 := by rw [HBD.out, show d.files.getD i ([], 0) = hs[i].2 from files_get H3.out hlt]
      have hcd : setF (opD d) i (hs[i].2.1 ++ l, hs[i].2.2) = CD := by
        rw [← HY.out, show d.files.getD i ([], 0) = hs[i].2 from files_get H3.out hlt]
      rw [hbl] at hLT hroom
      have hnew : (hs[i].2.1.length + l.length : Nat) ≤ 4294967296 ∧ ((hs[i].2.1.length + l.length : Nat) : Int) ≤ d.room := by omega
      have hgood : GoodD (setF (opD d) i (hs[i].2.1 ++ l, hs[i].2.2)) := H3.out.good.putF i _ ⟨by rw [List.length_append]; have := hgf.1; omega, by rw [List.length_append]; exact hnew.2, by rw [List.length_append]; exact hnew.1⟩
      have HBS := hd (fun (w4 : World) (v' : Value) (hc : Chg hs[i].1.ownBlock.toList w3 w4) (hv : OwB w4 0 v' (hs[i].2.1 ++ l)) (hm : Moved w3 hs[i].1 v') => H3.out.byteSet hlt hc hv hm hgood)
      rw [hcd, hv] at HBS
      have hgn := ownsRow_ne2 hby H3.out.files (by decide)
      have HRF := hd H3.out.files
      have hne : (Value.slice (some ⟨g, 0, none⟩) hs.length c).ownBlock ≠ (Value.slice ao hs[i].2.1.length c').ownBlock := fun e => hgn g (by rw [← e]; rfl) rfl
      have hcap : hs[i].2.1.length + l.length ≤ 140737488355328 := by omega
      have hjlt : i * 2 < hs.length * 2 := by omega
      have hcx := (fileCells_get hs i hlt).1
      have HCX := hd hcx
      have HFN := hd (H3.out.fpf g rfl)
      have hfy : ∀ k, (Value.slice ao hs[i].2.1.length c').ownBlock = some k → k ∈ fp := fun k hk => H3.out.fph _ (List.getElem_mem hlt) k (by rw [hv]; exact hk)
      have HFY := hd hfy
      clear hfi hgf hbl hcd hLT hroom hnew hgood q1 hgn hcx hfy H1 HCF HL1 hm3
      go_wp2_with (at_builtin; refine wpAppB rfl _ _ rfl 0 _ _ rfl hby _ l rfl hl3 hcap (Nat.zero_le _) ?_; intro ao4 c4 w4 hr4 hg4 hm4; have hrow4 := World.ownsRow.kept HRF.out hg4 (.inr hne); have q4 := World.ownsRow.cellAt hrow4 (i * 2) hjlt; rw [HCX.out] at q4; have f4 := World.ownsRow.frozenAt hrow4 (i * 2))
      have hfin := HBS.out w4 _ (Chg.ofGrown hg4) hr4 hm4
      have hch : Chg fp w3 (w4.setCell ⟨g, i * 2, none⟩ (.slice ao4 (hs[i].2.1.length + l.length) c4)) := ((Chg.refl _ _).grown hg4 (fun k hk _ => HFY.out k hk)).setCell _ _ (fun _ => HFN.out)
      have FIN := hd (DkOut.mk ⟨_, _, _, _, _, hfin⟩ (HCF3.out.trans hch (fun _ h _ => h)) ((Gr.refl fp w).trans (Gr.cons hm4 HFY.out) HCF3.out.size))
      go_ret
      exact ⟨rfl, FIN.out⟩
end Go.Proofs.Ytpoohpmcopjklaa

/- A disk that the call made itself. -/
namespace Go.Proofs.Ytpoohpmcopjklaa
open Go.RowKit

theorem DkOut.chg {w w' : World} {fp : List Nat} {b : Nat} {d : Dsk} (h : DkOut w fp b d w') : Chg fp w w' := let ⟨_, _, h, _⟩ := h; h
theorem Dk.fpl {w : World} {fp : List Nat} {b : Nat} {d : Dsk} (h : Dk w fp b d) : ∀ k ∈ fp, k < w.heap.size := let ⟨_, _, _, _, _, h⟩ := h; h.fpl
/-- In w there is a disk d at b, all of whose blocks came up behind w0; nothing of w0 has turned. -/
def DS (w0 w : World) (b : Nat) (d : Dsk) : Prop := ∃ fp, Dk w fp b d ∧ Chg [] w0 w ∧ ∀ k ∈ fp, w0.heap.size ≤ k
theorem DkOut.ds {w0 w w' : World} {fp : List Nat} {b : Nat} {d' : Dsk} (h : DkOut w fp b d' w') (hc : Chg [] w0 w) (hf : ∀ k ∈ fp, w0.heap.size ≤ k) : DS w0 w' b d' := by
  obtain ⟨fp', h1, h2, h3⟩ := h
  have hz := hc.size
  refine ⟨fp', h1, hc.trans h2 (fun x hx hl => by have := hf x hx; omega), fun k hk => ?_⟩
  rcases h3 k hk with h | h
  · exact hf k h
  · omega
theorem DS.chg {w0 w : World} {b : Nat} {d : Dsk} (h : DS w0 w b d) : Chg [] w0 w := let ⟨_, _, h, _⟩ := h; h
theorem DS.k {w0 w w' : World} {b : Nat} {d : Dsk} (h : DS w0 w b d) (hc : Chg [] w w') : DS w0 w' b d :=
  let ⟨fp, h1, h2, h3⟩ := h; ⟨fp, h1.k hc, h2.k hc, h3⟩
theorem DS.new {w w' : World} {d : Dsk} {b : Nat} {fp : List Nat} (h1 : Dk w' fp b d) (h2 : Chg [] w w') (h3 : ∀ k ∈ fp, w.heap.size ≤ k) : DS w w' b d := ⟨fp, h1, h2, h3⟩
theorem DS.same {w0 w w' : World} {fp : List Nat} {b : Nat} {d d' : Dsk} (h : Dk w' fp b d') (hw : Dk w fp b d) (hc : Chg [] w0 w) (hf : ∀ k ∈ fp, w0.heap.size ≤ k) (hb : Chg [b] w w') : DS w0 w' b d' := by
  have hz := hc.size
  refine ⟨fp, h, hc.trans hb (fun x hx hl => ?_), hf⟩
  obtain rfl : x = b := by simpa using hx
  obtain ⟨_, _, _, _, _, hp⟩ := hw
  have := hf x hp.fpb
  omega

end Go.Proofs.Ytpoohpmcopjklaa

/- Disk.Arm. -/
namespace Go.Proofs.Ytpoohpmcopjklaa
open Go.RowKit

variable {w : World} {fp : List Nat} {b : Nat} {fv cv : Value} {nb sb : Nat} {hs : List HF} {d : Dsk}

def latD (ops n : Int) : Int := if n < 0 ∨ 1099511627776 < n then -1 else ops + n
def armD (d : Dsk) (down fail : Int) : Dsk := { d with down := latD d.ops down, fail := latD d.ops fail }

set_option maxHeartbeats 400000 in
theorem later_any (p : Addr) (n ops : Int) (hp : w.cell? p = some (.pointer (some ⟨b, 0, none⟩))) (h5 : w.cell? ⟨b, 5, none⟩ = some (.int .i64 ops)) (h0 : 0 ≤ ops) (h1 : ops ≤ 1073741824) :
    Calls Try.prog 58 #[.int .i64 n, .pointer (some p)] w fun e w' => e = .returned (.int .i64 (latD ops n)) ∧ w = w' := by
  obtain ⟨R, hR⟩ : ∃ R, latD ops n = R := ⟨_, rfl⟩
  rw [hR]
  unfold latD at hR
  have HR := hd hR
  clear hR
  by_cases hn : n < 0
  · go_enter Try.func58, Try.ntmps58
    go_wp2_with fail
    refine bodyPost_ret (v := .int .i64 (-1)) ?_ rfl ⟨?_, rfl⟩
    · simp only [results]; go_simp
    · rw [← HR.out, if_pos (.inl hn)]
  · by_cases hn2 : 1099511627776 < n
    · go_enter Try.func58, Try.ntmps58
      go_wp2_with fail
      refine bodyPost_ret (v := .int .i64 (-1)) ?_ rfl ⟨?_, rfl⟩
      · simp only [results]; go_simp
      · rw [← HR.out, if_pos (.inr hn2)]
    · have hw : IntKind.i64.wrap (ops + n) = ops + n := IntWalk.i64_in _ (by omega)
      go_enter Try.func58, Try.ntmps58
      go_wp2_with fail
      refine bodyPost_ret (v := .int .i64 (ops + n)) ?_ rfl ⟨?_, rfl⟩
      · simp only [results]; go_simp
      · rw [← HR.out, if_neg (by omega)]

set_option maxHeartbeats 1000000 in
theorem Arm_any (h : Dk w fp b d) (down fail_ : Int) :
    Calls Try.prog 27 #[.pointer (some ⟨b, 0, none⟩), .int .i64 down, .int .i64 fail_] w fun e w' => e = .returned (.tuple #[]) ∧ DkOut w fp b (armD d down fail_) w' := by
  obtain ⟨fv, cv, nb, sb, hs, h⟩ := h
  have hops := h.good.ops
  have hblt := h.box.lt
  have hc := Chg.refl [] w
  go_enter Try.func27, Try.ntmps27
  go_upto_region 2 with (fail)
  have kx := Blk.new w #[.pointer (some ⟨b, 0, none⟩)] 26
  have hcb := (Chg.refl [] w).alloc (.cells #[.pointer (some ⟨b, 0, none⟩)] 26)
  replace h := h.k hcb
  replace hc := hc.k hcb
  clear hcb
  generalize w.alloc (.cells #[.pointer (some ⟨b, 0, none⟩)] 26) = w0 at *
  have q0 := kx.cell 0
  have q5 := h.box.cell 5
  have q6 := h.box.cell 6
  have q7 := h.box.cell 7
  simp [boxCells] at q0 q5 q6 q7
  have Q0 := hd q0
  have Q5 := hd q5
  have Q6 := hd q6
  have Q7 := hd q7
  have F6 := hd (h.box.free 6)
  have F7 := hd (h.box.free 7)
  have N1 : w.heap.size ∉ [b] := by simp; omega
  have H := hd h
  have HC := hd hc
  obtain ⟨A, hA⟩ : ∃ A, A = latD d.ops down := ⟨_, rfl⟩
  obtain ⟨B, hB⟩ : ∃ B, B = latD d.ops fail_ := ⟨_, rfl⟩
  have s1 : Chg [b] w0 (w0.drew.setCell ⟨b, 6, none⟩ (.int .i64 A)) := (Chg.refl _ _).drew.setCell _ _ (by simp)
  have s2 : Chg [b] w0 (w0.drew.setCell ⟨b, 7, none⟩ (.int .i64 B)) := (Chg.refl _ _).drew.setCell _ _ (by simp)
  have s3 : Chg [b] w0 ((w0.drew.setCell ⟨b, 6, none⟩ (.int .i64 A)).setCell ⟨b, 7, none⟩ (.int .i64 B)) := s1.setCell _ _ (by simp)
  have s4 : Chg [b] w0 ((w0.drew.setCell ⟨b, 7, none⟩ (.int .i64 B)).setCell ⟨b, 6, none⟩ (.int .i64 A)) := s2.setCell _ _ (by simp)
  have hbx : Blk w0.drew b (boxCells fv cv nb sb d) 85 := h.box
  have hgd : GoodD (armD d down fail_) := h.good.scal rfl rfl rfl rfl rfl (Int.le_refl _) hops.2
  have b1 : Blk ((w0.drew.setCell ⟨b, 6, none⟩ (.int .i64 A)).setCell ⟨b, 7, none⟩ (.int .i64 B)) b (boxCells fv cv nb sb (armD d down fail_)) 85 := by
    rw [hA, hB]; exact (hbx.set 6 _).set 7 _
  have b2 : Blk ((w0.drew.setCell ⟨b, 7, none⟩ (.int .i64 B)).setCell ⟨b, 6, none⟩ (.int .i64 A)) b (boxCells fv cv nb sb (armD d down fail_)) 85 := by
    rw [hA, hB]; exact (hbx.set 7 _).set 6 _
  have fin : ∀ W, Chg [b] w0 W → Blk W b (boxCells fv cv nb sb (armD d down fail_)) 85 → DkOut w fp b (armD d down fail_) W := fun W hW hb =>
    DkOut.same ⟨_, _, _, _, _, h.scal hW hb rfl rfl rfl rfl hgd⟩ ((hc.mono (S' := fp) (by simp)).trans hW (by simp only [List.mem_singleton]; rintro x rfl _; exact h.fpb))
  have F1 := hd (fin _ s3 b1)
  have F2 := hd (fin _ s4 b2)
  have S1 := hd s1
  have S2 := hd s2
  have S3 := hd s3
  have S4 := hd s4
  have HA := hd hA
  have HB := hd hB
  have hbx1 : Blk (w0.drew.setCell ⟨b, 6, none⟩ (.int .i64 A)) b _ 85 := hbx.set 6 _
  have hbx2 : Blk (w0.drew.setCell ⟨b, 7, none⟩ (.int .i64 B)) b _ 85 := hbx.set 7 _
  have c1 := hbx1.cell 7
  have c2 := hbx2.cell 6
  simp [boxCells] at c1 c2
  have C1 := hd c1
  have C2 := hd c2
  have G1 := hd (hbx1.free 7)
  have G2 := hd (hbx2.free 6)
  have hops1 := hops.1
  have hops2 := hops.2
  clear s1 s2 s3 s4 b1 b2 fin hbx hgd h hc q0 q5 q6 q7 kx hblt hA hB c1 c2 hbx1 hbx2 hops
  refine anyH_start (n := 14) (L := #[false, false, false, false, false, false, false, false, false, false, false, false, false, false]) (by kernel_rfl) (by kernel_rfl) (S := (fun wx => Chg [b] w0 wx)) ((Chg.refl _ _).drew) (fun hHeld => ?_)
  refine anyH_take (i := 0) (d := 8) (L' := #[true, false, false, false, false, false, false, false, false, false, false, false, false, false]) (v := ?v2) rfl rfl (by kernel_rfl) (fun _ _ _ h => h) (by rfl) ?hy2 (by assumption) ?rest2
  case hy2 => (intro wx hSw; (try dsimp only at hSw); (have t0 := hSw.cellT Q0.out N1); go_simp; (try with_reducible rfl))
  simp only [Act.put, List.setIfInBounds_toArray, List.set_cons_zero, List.set_cons_succ]
  refine anyH_take (i := 1) (d := 9) (L' := #[true, true, false, false, false, false, false, false, false, false, false, false, false, false]) (v := ?v3) rfl rfl (by kernel_rfl) (fun _ _ _ h => h) (by rfl) ?hy3 (by assumption) ?rest3
  case hy3 => (intro wx hSw; (try dsimp only at hSw); (have t0 := hSw.cellT Q0.out N1); go_simp; (try with_reducible rfl))
  simp only [Act.put, List.setIfInBounds_toArray, List.set_cons_zero, List.set_cons_succ]
  refine anyH_take (i := 2) (d := 10) (L' := #[true, true, true, false, false, false, false, false, false, false, false, false, false, false]) (v := ?v4) rfl rfl (by kernel_rfl) (fun _ _ _ h => h) (by rfl) ?hy4 (by assumption) ?rest4
  case hy4 => (intro wx hSw; (try dsimp only at hSw); (have t0 := hSw.cellT Q0.out N1); go_simp; (try with_reducible rfl))
  simp only [Act.put, List.setIfInBounds_toArray, List.set_cons_zero, List.set_cons_succ]
  refine anyH_take (i := 3) (d := 11) (L' := #[true, true, true, true, false, false, false, false, false, false, false, false, false, false]) (v := ?v5) rfl rfl (by kernel_rfl) (fun _ _ _ h => h) (by rfl) ?hy5 (by assumption) ?rest5
  case hy5 => (intro wx hSw; (try dsimp only at hSw); (have t0 := hSw.cellT Q0.out N1); go_simp; (try with_reducible rfl))
  simp only [Act.put, List.setIfInBounds_toArray, List.set_cons_zero, List.set_cons_succ]
  refine anyH_take (i := 5) (d := 13) (L' := #[true, true, true, true, false, true, false, false, false, false, false, false, false, false]) (v := ?v6) rfl rfl (by kernel_rfl) (fun _ _ _ h => h) (by rfl) ?hy6 (by assumption) ?rest6
  case hy6 => (intro wx hSw; (try dsimp only at hSw); (have t0 := hSw.cellT Q0.out N1); go_simp; (try with_reducible rfl))
  simp only [Act.put, List.setIfInBounds_toArray, List.set_cons_zero, List.set_cons_succ]
  refine anyH_take (i := 6) (d := 14) (L' := #[true, true, true, true, false, true, true, false, false, false, false, false, false, false]) (v := ?v7) rfl rfl (by kernel_rfl) (fun _ _ _ h => h) (by rfl) ?hy7 (by assumption) ?rest7
  case hy7 => (intro wx hSw; (try dsimp only at hSw); (have t0 := hSw.cellT Q0.out N1); go_simp; (try with_reducible rfl))
  simp only [Act.put, List.setIfInBounds_toArray, List.set_cons_zero, List.set_cons_succ]
  refine anyH_run (i := 4) (L' := #[true, true, true, true, true, true, true, false, false, false, false, false, false, false]) rfl (by kernel_rfl) (by rfl) (fun KK hKK => ?_)
  go_simp
  (refine (later_any (w := w0.drew) ⟨w.heap.size, 0, none⟩ down d.ops Q0.out Q5.out hops1 hops2).mono ?_; rintro e wn ⟨rfl, rfl⟩; rw [← HA.out]; (try go_simp))
  refine hKK.out _ _ (by assumption) (fun hHeld => ?_)
  clear hKK KK
  try simp only [Act.put, List.setIfInBounds_toArray, List.set_cons_zero, List.set_cons_succ]
  refine anyH_run (i := 7) (L' := #[true, true, true, true, true, true, true, true, false, false, false, false, false, false]) rfl (by kernel_rfl) (by rfl) (fun KK hKK => ?_)
  go_simp
  (refine (later_any (w := w0.drew) ⟨w.heap.size, 0, none⟩ fail_ d.ops Q0.out Q5.out hops1 hops2).mono ?_; rintro e wn ⟨rfl, rfl⟩; rw [← HB.out]; (try go_simp))
  refine hKK.out _ _ (by assumption) (fun hHeld => ?_)
  clear hKK KK
  try simp only [Act.put, List.setIfInBounds_toArray, List.set_cons_zero, List.set_cons_succ]
  refine anyH_take (i := 8) (d := 16) (L' := #[true, true, true, true, true, true, true, true, true, false, false, false, false, false]) (v := ?v10) rfl rfl (by kernel_rfl) (fun _ _ _ h => h) (by rfl) ?hy10 (by assumption) ?rest10
  case hy10 => (intro wx hSw; (try dsimp only at hSw); (have t0 := hSw.cellT Q0.out N1); go_simp; (try with_reducible rfl))
  simp only [Act.put, List.setIfInBounds_toArray, List.set_cons_zero, List.set_cons_succ]
  refine anyH_take (i := 9) (d := 17) (L' := #[true, true, true, true, true, true, true, true, true, true, false, false, false, false]) (v := ?v11) rfl rfl (by kernel_rfl) (fun _ _ _ h => h) (by rfl) ?hy11 (by assumption) ?rest11
  case hy11 => (intro wx hSw; (try dsimp only at hSw); (have t0 := hSw.cellT Q0.out N1); go_simp; (try with_reducible rfl))
  simp only [Act.put, List.setIfInBounds_toArray, List.set_cons_zero, List.set_cons_succ]
  refine anyH_run (i := 10) (L' := #[true, true, true, true, true, true, true, true, true, true, true, false, false, false]) rfl (by kernel_rfl) (by rfl) (fun KK hKK => ?_)
  (have q6 := Q6.out; have f6 := F6.out; have c2 := C2.out; have g2 := G2.out; have s1 := S1.out; have s4 := S4.out; go_simp)
  refine hKK.out _ _ (by assumption) (fun hHeld => ?_)
  clear hKK KK
  try simp only [Act.put, List.setIfInBounds_toArray, List.set_cons_zero, List.set_cons_succ]
  refine anyH_take (i := 11) (d := 18) (L' := #[true, true, true, true, true, true, true, true, true, true, true, true, false, false]) (v := ?v13) rfl rfl (by kernel_rfl) (fun _ _ _ h => h) (by rfl) ?hy13 (by assumption) ?rest13
  case hy13 => (intro wx hSw; (try dsimp only at hSw); (have t0 := hSw.cellT Q0.out N1); go_simp; (try with_reducible rfl))
  simp only [Act.put, List.setIfInBounds_toArray, List.set_cons_zero, List.set_cons_succ]
  refine anyH_take (i := 12) (d := 19) (L' := #[true, true, true, true, true, true, true, true, true, true, true, true, true, false]) (v := ?v14) rfl rfl (by kernel_rfl) (fun _ _ _ h => h) (by rfl) ?hy14 (by assumption) ?rest14
  case hy14 => (intro wx hSw; (try dsimp only at hSw); (have t0 := hSw.cellT Q0.out N1); go_simp; (try with_reducible rfl))
  simp only [Act.put, List.setIfInBounds_toArray, List.set_cons_zero, List.set_cons_succ]
  refine anyH_run (i := 13) (L' := #[true, true, true, true, true, true, true, true, true, true, true, true, true, true]) rfl (by kernel_rfl) (by rfl) (fun KK hKK => ?_)
  (have q7 := Q7.out; have f7 := F7.out; have c1 := C1.out; have g1 := G1.out; have s2 := S2.out; have s3 := S3.out; go_simp)
  refine hKK.out _ _ (by assumption) (fun hHeld => ?_)
  clear hKK KK
  try simp only [Act.put, List.setIfInBounds_toArray, List.set_cons_zero, List.set_cons_succ]
  refine wpAnyH_done (by kernel_rfl) ?_ _
  go_wp2_with fail; go_end0; first | exact ⟨rfl, F1.out⟩ | exact ⟨rfl, F2.out⟩
end Go.Proofs.Ytpoohpmcopjklaa

/- Disk.Rename, Remove, Ops, Down. -/
namespace Go.Proofs.Ytpoohpmcopjklaa
open Go.RowKit

variable {w w' : World} {fp : List Nat} {b : Nat} {fv cv : Value} {nb sb : Nat} {hs : List HF} {d : Dsk}

def renameE (d : Dsk) (a b : List UInt8) : Int := if opE d ≠ 0 then opE d else if (nget d.names a).isNone then 4 else if ¬ nameD b then 2 else 0
def renameD (d : Dsk) (a b : List UInt8) : Dsk :=
  if renameE d a b ≠ 0 then opD d else if a = b then opD d else
  match nget d.names a with
  | none => opD d
  | some i => changeD (opD d) (a, b, i)
def removeE (d : Dsk) (s : List UInt8) : Int := if opE d ≠ 0 then opE d else if (nget d.names s).isNone then 4 else 0
def removeD (d : Dsk) (s : List UInt8) : Dsk := if removeE d s ≠ 0 then opD d else changeD (opD d) (s, [], 0)

set_option maxHeartbeats 400000 in
theorem Ops_any (h : Dk w fp b d) : Calls Try.prog 28 #[.pointer (some ⟨b, 0, none⟩)] w fun e w' => e = .returned (.int .i64 d.ops) ∧ w = w' := by
  obtain ⟨fv, cv, nb, sb, hs, h⟩ := h
  have q5 := h.box.cell 5
  simp [boxCells] at q5
  clear h
  go_enter Try.func28, Try.ntmps28
  go_wp2_with fail
  go_ret
  exact ⟨rfl, rfl⟩
set_option maxHeartbeats 400000 in
theorem Down_any (h : Dk w fp b d) : Calls Try.prog 34 #[.pointer (some ⟨b, 0, none⟩)] w fun e w' => e = .returned (.bool d.off) ∧ w = w' := by
  obtain ⟨fv, cv, nb, sb, hs, h⟩ := h
  have q8 := h.box.cell 8
  simp [boxCells] at q8
  clear h
  go_enter Try.func34, Try.ntmps34
  go_wp2_with fail
  go_ret
  exact ⟨rfl, rfl⟩

set_option maxHeartbeats 2000000 in
theorem Remove_any (h : Dk w fp b d) (s : List UInt8) (hsl : s.length ≤ 140737488355328) (hops : d.ops < 1073741824) :
    Calls Try.prog 33 #[.pointer (some ⟨b, 0, none⟩), .string (strB s)] w fun e w' => e = .returned (.int .i64 (removeE d s)) ∧ DkOut w fp b (removeD d s) w' := by
  obtain ⟨fv, cv, nb, sb, hs, h⟩ := h
  obtain ⟨CE, hCE⟩ : ∃ x, removeE d s = x := ⟨_, rfl⟩
  obtain ⟨CD, hCD⟩ : ∃ x, removeD d s = x := ⟨_, rfl⟩
  rw [hCE, hCD]
  have hCE2 := hCE
  unfold removeE at hCE2
  unfold removeD at hCD
  rw [hCE] at hCD
  have hgood := h.good
  clear hCE
  go_enter Try.func33, Try.ntmps33
  go_wp2_with fail
  refine (op_any h hops).mono ?_
  rintro e w1 ⟨rfl, h1, hc1, hz1⟩
  have hcf : Chg fp w w1 := hc1.mono (by simp only [List.mem_singleton]; rintro x rfl _; exact h.fpb)
  clear hc1 hz1 h
  by_cases hE : opE d = 0
  case neg =>
    rw [if_pos hE] at hCE2
    rw [if_pos (by rw [← hCE2]; exact hE)] at hCD
    subst hCD
    subst hCE2
    have hE' : (opE d == 0) = false := by simpa using hE
    have HF := hd (DkOut.same ⟨_, _, _, _, _, h1⟩ hcf)
    clear hE h1 hcf hgood
    go_wp2_with fail
    go_ret
    exact ⟨rfl, HF.out⟩
  rw [if_neg (by simpa using hE)] at hCE2
  rw [hE]
  clear hE
  have hfind := find_any h1 s hsl
  have hchg := change_any h1 s [] 0 hsl (by decide) (Nat.zero_le _) (fun h => absurd rfl h) (by have := hgood.nnames; show (d.names.length : Int) + 1 ≤ d.ops + 1; omega) (by have := hgood.nchanges; show (d.sure.length + d.changes.length : Int) + 1 ≤ d.ops + 1; omega)
  have H1 := hd h1
  have HCF := hd hcf
  have HCH := hd hchg
  clear h1 hcf hgood hchg
  rcases hi : nget d.names s with _ | i
  · rw [show nget (opD d).names s = none from hi] at hfind
    rw [hi, if_pos (by rfl)] at hCE2
    subst hCE2
    rw [if_pos (by decide)] at hCD
    subst hCD
    go_wp2_with fail
    refine (hfind).mono ?_
    rintro e w2 ⟨rfl, rfl⟩
    go_wp2_with fail
    go_ret
    exact ⟨rfl, DkOut.same ⟨_, _, _, _, _, H1.out⟩ HCF.out⟩
  · rw [show nget (opD d).names s = some i from hi] at hfind
    rw [hi, if_neg (by simp)] at hCE2
    subst hCE2
    rw [if_neg (by decide)] at hCD
    subst hCD
    clear hi
    go_wp2_with fail
    refine (hfind).mono ?_
    rintro e w2 ⟨rfl, g, c, rfl, hlt, rfl⟩
    have hch := HCH.out
    clear hfind hlt
    go_wp2_with fail
    refine (hch).mono ?_
    rintro e w3 ⟨rfl, h3⟩
    have HF := hd (h3.after HCF.out)
    clear hch h3
    go_wp2_with fail
    go_ret
    exact ⟨rfl, HF.out⟩

set_option maxHeartbeats 2000000 in
theorem Rename_any (h : Dk w fp b d) (a s : List UInt8) (hal : a.length ≤ 140737488355328) (hsl : s.length ≤ 140737488355328) (hops : d.ops < 1073741824) :
    Calls Try.prog 38 #[.pointer (some ⟨b, 0, none⟩), .string (strB a), .string (strB s)] w fun e w' => e = .returned (.int .i64 (renameE d a s)) ∧ DkOut w fp b (renameD d a s) w' := by
  obtain ⟨fv, cv, nb, sb, hs, h⟩ := h
  obtain ⟨CE, hCE⟩ : ∃ x, renameE d a s = x := ⟨_, rfl⟩
  obtain ⟨CD, hCD⟩ : ∃ x, renameD d a s = x := ⟨_, rfl⟩
  rw [hCE, hCD]
  have hCE2 := hCE
  unfold renameE at hCE2
  unfold renameD at hCD
  rw [hCE] at hCD
  have hgood := h.good
  clear hCE
  go_enter Try.func38, Try.ntmps38
  go_wp2_with fail
  refine (op_any h hops).mono ?_
  rintro e w1 ⟨rfl, h1, hc1, hz1⟩
  have hcf : Chg fp w w1 := hc1.mono (by simp only [List.mem_singleton]; rintro x rfl _; exact h.fpb)
  clear hc1 hz1 h
  by_cases hE : opE d = 0
  case neg =>
    rw [if_pos hE] at hCE2
    rw [if_pos (by rw [← hCE2]; exact hE)] at hCD
    subst hCD
    subst hCE2
    have hE' : (opE d == 0) = false := by simpa using hE
    have HF := hd (DkOut.same ⟨_, _, _, _, _, h1⟩ hcf)
    clear hE h1 hcf hgood
    go_wp2_with fail
    go_ret
    exact ⟨rfl, HF.out⟩
  rw [if_neg (by simpa using hE)] at hCE2
  rw [hE]
  clear hE
  have q2 := h1.box.cell 2
  simp [boxCells] at q2
  have hm : MapAt w1 nb d.names := h1.names
  rcases hi : nget d.names a with _ | i
  · rw [hi, if_pos (by rfl)] at hCE2
    subst hCE2
    rw [if_pos (by decide)] at hCD
    subst hCD
    have HF := hd (DkOut.same ⟨_, _, _, _, _, h1⟩ hcf)
    clear hgood h1 hcf
    go_wp2_with (at_lookup; refine wpLook rfl _ _ rfl nb _ a rfl rfl hm hal ?_; rw [hi]; dsimp only [Option.getD_none, Option.isSome_none])
    go_ret
    exact ⟨rfl, HF.out⟩
  rw [hi, if_neg (by simp)] at hCE2
  rw [hi] at hCD
  have hil : i < (opD d).files.length := hgood.named _ (nget_some_mem hi)
  have hchg := change_any h1 a s i hal hsl (Nat.le_of_lt hil) (fun _ => hil) (by have := hgood.nnames; show (d.names.length : Int) + 1 ≤ d.ops + 1; omega) (by have := hgood.nchanges; show (d.sure.length + d.changes.length : Int) + 1 ≤ d.ops + 1; omega)
  have hchk : ∀ wx, Chg [] w1 wx → Calls Try.prog 62 #[.pointer (some ⟨b, 0, none⟩), .agg #[.string (strB a), .string (strB s), .int .i64 (i : Int)]] wx fun e w' =>
      e = .returned (.tuple #[]) ∧ DkOut wx fp b (changeD (opD d) (a, s, i)) w' := fun wx hx => change_any (h1.k hx) a s i hal hsl (Nat.le_of_lt hil) (fun _ => hil) (by have := hgood.nnames; show (d.names.length : Int) + 1 ≤ d.ops + 1; omega) (by have := hgood.nchanges; show (d.sure.length + d.changes.length : Int) + 1 ≤ d.ops + 1; omega)
  have HCH := hd hchk
  have H1 := hd h1
  have HCF := hd hcf
  have HI := hd hi
  clear hchg hchk h1 hcf hgood hil hi
  go_upto_region 7 with (at_lookup; refine wpLook rfl _ _ rfl nb _ a rfl rfl hm hal ?_; rw [HI.out]; dsimp only [Option.getD_some, Option.isSome_some])
  clear q2 hm HI
  go_wp2_with fail
  refine (name_any w1 s hsl).mono ?_
  rintro e w2 ⟨rfl, hc2⟩
  have H2 := hd (H1.out.k hc2)
  have HC2 := hd (HCF.out.trans hc2 (by simp))
  have HC02 := hd hc2
  clear hc2 HCF
  by_cases hn : nameD s = true
  case neg =>
    rw [if_pos hn] at hCE2
    subst hCE2
    rw [if_pos (by decide)] at hCD
    subst hCD
    have hnf : nameD s = false := by simpa using hn
    rw [hnf]
    clear hn hnf
    go_wp2_with fail
    go_ret
    exact ⟨rfl, DkOut.same ⟨_, _, _, _, _, H2.out⟩ HC2.out⟩
  rw [if_neg (by simpa using hn)] at hCE2
  subst hCE2
  rw [if_neg (by decide)] at hCD
  rw [hn]
  clear hn
  by_cases has : a = s
  · subst has
    rw [if_pos rfl] at hCD
    subst hCD
    go_wp2_with fail
    go_ret
    exact ⟨rfl, DkOut.same ⟨_, _, _, _, _, H2.out⟩ HC2.out⟩
  · rw [if_neg has] at hCD
    subst hCD
    have hne1 : (strB a == strB s) = false := by rw [strB_beq]; simpa using has
    have hne2 : (a == s) = false := by simpa using has
    have hch := HCH.out w2 HC02.out
    clear has HC02
    go_wp2_with fail
    refine (hch).mono ?_
    rintro e w3 ⟨rfl, h3⟩
    have HF := hd (h3.after HC2.out)
    clear hch h3
    go_wp2_with fail
    go_ret
    exact ⟨rfl, HF.out⟩
end Go.Proofs.Ytpoohpmcopjklaa

/- From a row's reading of its arguments to the words of these walks. -/
namespace Go.Proofs.Ytpoohpmcopjklaa
open Go.RowKit

def Row8 (k : IntKind) (w : World) (a : Option Addr) (len cap : Nat) (zs : List Int) : Prop :=
  (a = none ∧ len = 0 ∧ cap = 0 ∧ zs = []) ∨
  ∃ x, a = some x ∧ len ≤ cap ∧ cap ≤ maxLen ∧ zs.length = cap ∧ (∀ i, i < zs.length → w.cell? (x.add i) = some (.int k (zs.getD i 0))) ∧ ∀ n ∈ zs, (Lit.int k n).wf = true

theorem spot_none {w : World} {x : Addr} {v : Value} (h : w.cell? x = some v) : x.spot = none := by
  unfold World.cell? at h
  split at h
  · cases hs : x.spot with
    | none => rfl
    | some s => rw [hs] at h; simp at h
  · simp at h

theorem Row8.rd {k : IntKind} {w : World} {a : Option Addr} {len cap : Nat} {zs : List Int} (h : Row8 k w a len cap zs) : Rd w 1 (.slice a len cap) len ((zs.take len).map (Value.int k)) := by
  rcases h with ⟨rfl, rfl, rfl, rfl⟩ | ⟨x, rfl, hl, hm, hz, hc, -⟩
  · exact ⟨rfl, none, 0, 0, 0, rfl, Nat.le_refl _, by simp [maxLen], fun _ => ⟨rfl, rfl⟩, fun h => absurd h (by omega), fun j u hu => by simp at hu⟩
  · refine ⟨by simp; omega, some x, cap, x.block, x.off, rfl, hl, hm, fun h => by simp at h, fun hp => ?_, fun j u hu => ?_⟩
    · have h0 := hc 0 (by omega)
      have hs := spot_none h0
      have e : x.spot = none := by
        cases x; simpa [Addr.add] using hs
      cases x; simp at e; subst e; rfl
    · have hj : j < len := by
        have := (List.getElem?_eq_some_iff.1 hu).1
        simp at this; omega
      have h1 := hc j (by omega)
      have h0 := hc 0 (by omega)
      have hs : x.spot = none := by
        have := spot_none h0
        cases x; simpa [Addr.add] using this
      have e : x.add j = ⟨x.block, x.off + j, none⟩ := by
        cases x; simp at hs; subst hs; unfold Addr.add; split <;> simp_all
      rw [e] at h1
      rw [h1]
      rw [List.getElem?_map, List.getElem?_take, if_pos hj, List.getElem?_eq_getElem (by omega)] at hu
      simp only [Option.map_some, Option.some.injEq] at hu
      rw [← hu, List.getD_eq_getElem?_getD, List.getElem?_eq_getElem (by omega)]
      rfl

theorem n8_of (z : Int) (h0 : 0 ≤ z) (h1 : z < 256) : n8 (UInt8.ofNat z.toNat) = z := by
  unfold n8
  rw [UInt8.toNat_ofNat', Nat.mod_eq_of_lt (show z.toNat < 2 ^ 8 by omega)]
  omega
theorem wf_u8 {z : Int} (h : (Lit.int .u8 z).wf = true) : 0 ≤ z ∧ z < 256 := by
  simp [Lit.wf, IntKind.min, IntKind.max, IntKind.signed, IntKind.bits] at h
  omega
theorem wf_i64 {z : Int} (h : (Lit.int .i64 z).wf = true) : -9223372036854775808 ≤ z ∧ z ≤ 9223372036854775807 := by
  simp [Lit.wf, IntKind.min, IntKind.max, IntKind.signed, IntKind.bits] at h
  omega
theorem wf_u32 {z : Int} (h : (Lit.int .u32 z).wf = true) : 0 ≤ z ∧ z < 4294967296 := by
  simp [Lit.wf, IntKind.min, IntKind.max, IntKind.signed, IntKind.bits] at h
  omega
theorem wf_u16 {z : Int} (h : (Lit.int .u16 z).wf = true) : 0 ≤ z ∧ z < 65536 := by
  simp [Lit.wf, IntKind.min, IntKind.max, IntKind.signed, IntKind.bits] at h
  omega
theorem Row8.wf {k : IntKind} {w : World} {a : Option Addr} {len cap : Nat} {zs : List Int} (h : Row8 k w a len cap zs) : ∀ n ∈ zs, (Lit.int k n).wf = true := by
  rcases h with ⟨_, _, _, rfl⟩ | ⟨x, _, _, _, _, _, hw⟩
  · simp
  · exact hw
theorem Row8.len {k : IntKind} {w : World} {a : Option Addr} {len cap : Nat} {zs : List Int} (h : Row8 k w a len cap zs) : (zs.take len).length = len := by
  have := h.rd.1; simpa using this

theorem Row8.le {k : IntKind} {w : World} {a : Option Addr} {len cap : Nat} {zs : List Int} (h : Row8 k w a len cap zs) : len ≤ cap := by
  rcases h with ⟨_, rfl, rfl, _⟩ | ⟨x, _, h, _⟩
  · exact Nat.le_refl _
  · exact h
/-- A slice of bytes that came in. -/
theorem Row8.bs {w : World} {a : Option Addr} {len cap : Nat} {zs : List Int} (h : Row8 .u8 w a len cap zs) : ∃ l : List UInt8, l.length = len ∧ Bs w (.slice a len cap) l := by
  refine ⟨(zs.take len).map fun z => UInt8.ofNat z.toNat, by rw [List.length_map]; exact h.len, ?_⟩
  have hr := h.rd
  unfold Bs
  rw [List.length_map, h.len, List.map_map]
  have e : (zs.take len).map (vb ∘ fun z => UInt8.ofNat z.toNat) = (zs.take len).map (Value.int .u8) := by
    apply List.map_congr_left
    intro z hz
    have hb := wf_u8 (h.wf z (List.mem_of_mem_take hz))
    show Value.int .u8 (n8 _) = _
    rw [n8_of z hb.1 hb.2]
  rw [e]
  exact hr
/-- A slice of ints that came in. -/
theorem Row8.fs {w : World} {a : Option Addr} {len cap : Nat} {zs : List Int} (h : Row8 .i64 w a len cap zs) : Fs w (.slice a len cap) (zs.take len) ∧ (zs.take len).length = len ∧ ∀ z ∈ zs.take len, -9223372036854775808 ≤ z ∧ z ≤ 9223372036854775807 := by
  refine ⟨?_, h.len, fun z hz => wf_i64 (h.wf z (List.mem_of_mem_take hz))⟩
  unfold Fs; rw [h.len]; exact h.rd
theorem u32_of {z : Int} (h : (Lit.int .u32 z).wf = true) : ∃ x : UInt32, z = n32 x := by
  have hb := wf_u32 h
  refine ⟨UInt32.ofNat z.toNat, ?_⟩
  unfold n32
  rw [UInt32.toNat_ofNat', Nat.mod_eq_of_lt (show z.toNat < 2 ^ 32 by omega)]
  omega
theorem u8_of {z : Int} (h : (Lit.int .u8 z).wf = true) : ∃ x : UInt8, z = n8 x := by
  have hb := wf_u8 h
  exact ⟨UInt8.ofNat z.toNat, (n8_of z hb.1 hb.2).symm⟩
theorem u16_of {z : Int} (h : (Lit.int .u16 z).wf = true) : ∃ x : UInt16, z = n16 x := by
  have hb := wf_u16 h
  refine ⟨UInt16.ofNat z.toNat, ?_⟩
  unfold n16
  rw [UInt16.toNat_ofNat', Nat.mod_eq_of_lt (show z.toNat < 2 ^ 16 by omega)]
  omega

section
open Go.ChangeShapes Go.WideShapes
variable {H : Type} {enc : TypeId × Value → H} {P : Program} {w : World} {base : Nat} {spare : Nat → Bool} {held : Bool}
theorem okWide_arr {t e : TypeId} {n : Nat} {r : Reach} {b0 : Nat} {v : Value} (ht : P.underlying t = some (.array n e)) (h : Value.okWide P w r b0 t v) : ∃ cs, v = .agg cs ∧ cs.size = P.cellsOf t := by
  simp only [Value.okWide, ht] at h
  obtain ⟨cs, h1, h2, _⟩ := h
  exact ⟨cs, h1, h2⟩
theorem open_arr4 {t e : TypeId} {r : Reach} {b0 : Nat} {v : Value} {d : DataW H} {ps : List MemPlace} (ht : P.underlying t = some (.array 4 e)) (he : P.underlying e = some (.int .u8)) (hC : P.cellsOf e = 1) (hCt : P.cellsOf t = 4)
    (hv : Value.okWide P w r b0 t v) (h : DataW.Trod enc P w base spare held t v d ps) :
    ∃ x0 x1 x2 x3 : UInt8, v = .agg #[.int .u8 (n8 x0), .int .u8 (n8 x1), .int .u8 (n8 x2), .int .u8 (n8 x3)] := by
  obtain ⟨cs, rfl, hsz⟩ := okWide_arr ht hv
  obtain ⟨fuel, hf⟩ := h
  obtain ⟨xs, m, _, hx, hl, hn, hg⟩ := DataW.trod_array ht hf
  simp only [Value.cells] at hl hg
  have one : ∀ i, i < 4 → ∃ x : UInt8, cs.toList[i]? = some (.int .u8 (n8 x)) := by
    intro i hi
    have h1 := hg i hi
    rw [hC, Nat.mul_one] at h1
    have hxi : i < xs.length := by omega
    rw [List.getElem?_eq_getElem hxi] at h1
    obtain ⟨n, hn', _, hw⟩ := DataW.trod_int he h1
    have hb := wf_u8 hw
    refine ⟨UInt8.ofNat n.toNat, ?_⟩
    rw [n8_of n hb.1 hb.2]
    have : (cs.toList.drop i).take 1 = [.int .u8 n] := hn'
    have h2 := congrArg (fun l => l[0]?) this
    simpa using h2
  obtain ⟨x0, e0⟩ := one 0 (by decide)
  obtain ⟨x1, e1⟩ := one 1 (by decide)
  obtain ⟨x2, e2⟩ := one 2 (by decide)
  obtain ⟨x3, e3⟩ := one 3 (by decide)
  refine ⟨x0, x1, x2, x3, ?_⟩
  have hlen : cs.toList.length = 4 := by rw [hl, hCt]
  congr 1
  apply Array.toList_inj.1
  apply List.ext_getElem?
  intro i
  rcases Nat.lt_or_ge i 4 with hi | hi
  · have : i = 0 ∨ i = 1 ∨ i = 2 ∨ i = 3 := by omega
    rcases this with rfl | rfl | rfl | rfl
    · rw [e0]; rfl
    · rw [e1]; rfl
    · rw [e2]; rfl
    · rw [e3]; rfl
  · rw [List.getElem?_eq_none (by omega), List.getElem?_eq_none (by simpa using hi)]
end
end Go.Proofs.Ytpoohpmcopjklaa
