/- Words and walks that DiskBends rests on, part 4. -/
import Derived.Test.YtpoohpmcopjklaaWDiskBends2
import Derived.Test.YtpoohpmcopjklaaWDiskBends1
import Derived.Deep.Cut
import Derived.Test.YtpoohpmcopjklaaWDiskBends3
import Derived.Deep.QuietTactic
import Derived.BigQuiet
import Derived.StillTailTactics
import Derived.ProofKit
import Derived.OpenShut
/- Disk.Sync, DirSync, Read. -/
namespace Go.Proofs.Ytpoohpmcopjklaa
open Go.RowKit

variable {w w' : World} {fp : List Nat} {b : Nat} {fv cv : Value} {nb sb : Nat} {hs : List HF} {d : Dsk}

theorem files_get {w : World} (h : DkP w fp b fv cv nb sb hs d) {i : Nat} (hi : i < hs.length) : d.files.getD i ([], 0) = hs[i].2 := by
  rw [List.getD_eq_getElem?_getD, ← h.same, List.getElem?_map, List.getElem?_eq_getElem hi]; rfl

set_option maxHeartbeats 1000000 in
theorem Sync_any (h : Dk w fp b d) (s : List UInt8) (hsl : s.length ≤ 140737488355328) (hops : d.ops < 1073741824) :
    Calls Try.prog 36 #[.pointer (some ⟨b, 0, none⟩), .string (strB s)] w fun e w' => e = .returned (.int .i64 (syncE d s)) ∧ DkOut w fp b (syncD d s) w' := by
  obtain ⟨fv, cv, nb, sb, hs, h⟩ := h
  obtain ⟨CE, hCE⟩ : ∃ x, syncE d s = x := ⟨_, rfl⟩
  obtain ⟨CD, hCD⟩ : ∃ x, syncD d s = x := ⟨_, rfl⟩
  rw [hCE, hCD]
  have hCE2 := hCE
  unfold syncE at hCE2
  unfold syncD at hCD
  rw [hCE] at hCD
  clear hCE
  go_enter Try.func36, Try.ntmps36
  go_wp2_with fail
  refine (op_any h hops).mono ?_
  rintro e w1 ⟨rfl, h1, hc1, hz1⟩
  have hcf : Chg fp w w1 := hc1.mono (by simp only [List.mem_singleton]; rintro x rfl _; exact h.fpb)
  clear hc1 hz1 h
  by_cases hE : opE d = 0
  case neg =>
    rw [if_pos hE] at hCE2
    rw [if_pos (by rw [← hCE2]; exact hE)] at hCD
    subst hCD
    subst hCE2
    have hE' : (opE d == 0) = false := by simpa using hE
    clear hE
    go_wp2_with fail
    go_ret
    exact ⟨rfl, DkOut.same ⟨_, _, _, _, _, h1⟩ hcf⟩
  rw [if_neg (by simpa using hE)] at hCE2
  rw [hE]
  clear hE
  have hfind := find_any h1 s hsl
  have H1 := hd h1
  have HCF := hd hcf
  clear h1 hcf
  rcases hi : nget d.names s with _ | i
  · rw [show nget (opD d).names s = none from hi] at hfind
    rw [hi, if_pos (by rfl)] at hCE2
    subst hCE2
    rw [if_pos (by decide)] at hCD
    subst hCD
    go_wp2_with fail
    refine (hfind).mono ?_
    rintro e w2 ⟨rfl, rfl⟩
    go_wp2_with fail
    go_ret
    exact ⟨rfl, DkOut.same ⟨_, _, _, _, _, H1.out⟩ HCF.out⟩
  · rw [show nget (opD d).names s = some i from hi] at hfind
    rw [hi, if_neg (by simp)] at hCE2
    subst hCE2
    rw [if_neg (by decide), hi] at hCD
    have HCD := hd hCD
    clear hCD
    go_wp2_with fail
    refine (hfind).mono ?_
    rintro e w2 ⟨rfl, g, c, rfl, hlt, rfl⟩
    obtain ⟨ao, c', hv, q0, q1, -⟩ := H1.out.file hlt
    have f1 := World.ownsRow.frozenAt H1.out.files (i * 2 + 1)
    have hfin := H1.out.sureSet hlt _ (Nat.le_refl _)
    have hcd : setF (opD d) i (hs[i].2.1, hs[i].2.1.length) = CD := by
      rw [← HCD.out]
      show _ = setF (opD d) i ((d.files.getD i ([], 0)).1, (d.files.getD i ([], 0)).1.length)
      rw [show d.files.getD i ([], 0) = hs[i].2 from files_get H1.out hlt]
    rw [hcd] at hfin
    have hch : Chg fp w2 (w2.setCell ⟨g, i * 2 + 1, none⟩ (.int .i64 (hs[i].2.1.length : Int))) := (Chg.refl _ _).setCell _ _ (fun _ => H1.out.fpf g rfl)
    have FIN := hd (DkOut.same ⟨_, _, _, _, _, hfin⟩ (HCF.out.trans hch (fun _ h _ => h)))
    clear hcd hch hfin hv
    generalize hs[i].2.1.length = n at *
    go_wp2_with fail
    go_ret
    exact ⟨rfl, FIN.out⟩

def ReadOut (w : World) (fp : List Nat) (b : Nat) (d : Dsk) (s : List UInt8) (e : Ending) (w' : World) : Prop :=
  ∃ ao n c, e = .returned (.tuple #[.slice ao n c, .int .i64 (syncE d s)]) ∧ OwB w' w.heap.size (.slice ao n c) (if syncE d s = 0 then bytesD d s else []) ∧ Dk w' fp b (opD d) ∧ Chg [b] w w'

set_option maxHeartbeats 1000000 in
theorem Read_any (h : Dk w fp b d) (s : List UInt8) (hsl : s.length ≤ 140737488355328) (hops : d.ops < 1073741824) :
    Calls Try.prog 19 #[.pointer (some ⟨b, 0, none⟩), .string (strB s)] w (ReadOut w fp b d s) := by
  obtain ⟨fv, cv, nb, sb, hs, h⟩ := h
  obtain ⟨CE, hCE⟩ : ∃ x, syncE d s = x := ⟨_, rfl⟩
  have hbad : ∀ (e : Ending) (w' : World), CE ≠ 0 → DkP w' fp b fv cv nb sb hs (opD d) → Chg [b] w w' → e = .returned (.tuple #[.slice none 0 0, .int .i64 CE]) → ReadOut w fp b d s e w' := by
    intro e w' hne h1 h2 he
    unfold ReadOut
    rw [hCE]
    exact ⟨none, 0, 0, he, by rw [if_neg hne]; exact OwB.nil _ _, ⟨_, _, _, _, _, h1⟩, h2⟩
  have hgood : ∀ (e : Ending) (w' : World), CE = 0 → DkP w' fp b fv cv nb sb hs (opD d) → Chg [b] w w' → ∀ ao n c, OwB w' w.heap.size (.slice ao n c) (bytesD d s) → e = .returned (.tuple #[.slice ao n c, .int .i64 CE]) → ReadOut w fp b d s e w' := by
    intro e w' hz h1 h2 ao n c h3 he
    unfold ReadOut
    rw [hCE]
    exact ⟨ao, n, c, he, by rw [if_pos hz]; exact h3, ⟨_, _, _, _, _, h1⟩, h2⟩
  have HBAD := hd hbad
  have HGOOD := hd hgood
  clear hbad hgood
  unfold syncE at hCE
  go_enter Try.func19, Try.ntmps19
  go_wp2_with fail
  refine (op_any h hops).mono ?_
  rintro e w1 ⟨rfl, h1, hc1, hz1⟩
  clear h
  by_cases hE : opE d = 0
  case neg =>
    rw [if_pos hE] at hCE
    subst hCE
    have hE' : (opE d == 0) = false := by simpa using hE
    have HE := hd hE
    clear hE
    have H1 := hd h1
    clear h1
    go_wp2_with fail
    refine bodyPost_ret (v := .tuple #[.slice none 0 0, .int .i64 (opE d)]) ?_ rfl ?_
    · simp only [results]; go_simp
    · exact HBAD.out _ _ HE.out H1.out hc1 rfl
  rw [if_neg (by simpa using hE)] at hCE
  rw [hE]
  clear hE
  have hfind := find_any h1 s hsl
  have H1 := hd h1
  clear h1
  rcases hi : nget d.names s with _ | i
  · rw [show nget (opD d).names s = none from hi] at hfind
    rw [hi, if_pos (by rfl)] at hCE
    subst hCE
    go_wp2_with fail
    refine (hfind).mono ?_
    rintro e w2 ⟨rfl, rfl⟩
    go_wp2_with fail
    refine bodyPost_ret (v := .tuple #[.slice none 0 0, .int .i64 4]) ?_ rfl ?_
    · simp only [results]; go_simp
    · exact HBAD.out _ _ (by decide) H1.out hc1 rfl
  · rw [show nget (opD d).names s = some i from hi] at hfind
    rw [hi, if_neg (by simp)] at hCE
    subst hCE
    go_wp2_with fail
    refine (hfind).mono ?_
    rintro e w2 ⟨rfl, g, c, rfl, hlt, rfl⟩
    obtain ⟨ao, c', hv, q0, q1, -⟩ := H1.out.file hlt
    have hby := H1.out.bytes _ (List.getElem_mem hlt)
    rw [hv] at hby
    have hbd : bytesD d s = hs[i].2.1 := by unfold bytesD; rw [hi]; show (d.files.getD i ([], 0)).1 = _; rw [show d.files.getD i ([], 0) = hs[i].2 from files_get H1.out hlt]
    have hll := (H1.out.good.files _ (List.mem_of_getElem? (H1.out.file hlt).choose_spec.choose_spec.2.2.2)).2.2
    have HBD := hd hbd
    have hbs := hby.bs
    have hz := hc1.size
    clear hby hv hbd q1 hi hfind
    generalize hs[i].2.1 = l at *
    clear hlt
    go_wp2_with fail
    refine (CloneB_any _ _ l hbs (by omega)).mono ?_
    rintro e w3 ⟨ao3, c3, rfl, hb3, hc3⟩
    have H3 := hd (H1.out.k hc3)
    have hcc := hc1.trans hc3 (by simp)
    go_wp2_with fail
    refine bodyPost_ret (v := .tuple #[.slice ao3 l.length c3, .int .i64 0]) ?_ rfl ?_
    · simp only [results]; go_simp
    · exact HGOOD.out _ _ (by trivial) H3.out hcc ao3 l.length c3 (by rw [HBD.out]; exact hb3.mono hz) rfl

set_option maxHeartbeats 1000000 in
theorem DirSync_any (h : Dk w fp b d) (hops : d.ops < 1073741824) :
    Calls Try.prog 37 #[.pointer (some ⟨b, 0, none⟩)] w fun e w' => e = .returned (.int .i64 (opE d)) ∧ DkOut w fp b (dirSyncD d) w' := by
  obtain ⟨fv, cv, nb, sb, hs, h⟩ := h
  obtain ⟨CD, hCD⟩ : ∃ x, dirSyncD d = x := ⟨_, rfl⟩
  rw [hCD]
  unfold dirSyncD at hCD
  go_enter Try.func37, Try.ntmps37
  go_wp2_with fail
  refine (op_any h hops).mono ?_
  rintro e w1 ⟨rfl, h1, hc1, hz1⟩
  have hcf : Chg fp w w1 := hc1.mono (by simp only [List.mem_singleton]; rintro x rfl _; exact h.fpb)
  clear hc1 hz1 h
  by_cases hE : opE d = 0
  case neg =>
    rw [if_pos hE] at hCD
    subst hCD
    have hE' : (opE d == 0) = false := by simpa using hE
    have HD := hd (DkOut.same ⟨_, _, _, _, _, h1⟩ hcf)
    clear hE h1 hcf
    go_wp2_with fail
    go_ret
    exact ⟨rfl, HD.out⟩
  rw [if_neg (by simpa using hE)] at hCD
  rw [hE]
  have HE := hd hE
  clear hE
  have HCD := hd hCD
  clear hCD
  have q2 := h1.box.cell 2
  simp [boxCells] at q2
  have hm : MapAt w1 nb d.names := h1.names
  have H1 := hd h1
  have HCF := hd hcf
  clear h1 hcf
  go_wp2_with fail
  refine (CloneM_any w1 nb d.names hm).mono ?_
  rintro e w2 ⟨rfl, hm2, hc2⟩
  have hz := hc2.size
  have H2 := hd (H1.out.k hc2)
  have HCF2 := hd (HCF.out.trans hc2 (by simp))
  have hbx := H2.out.box
  have q3 := hbx.cell 3
  have f3 := hbx.free 3
  have hb2 := hbx.set 3 (.map (some w1.heap.size))
  have q4 := hb2.cell 4
  have f4 := hb2.free 4
  simp [boxCells] at q3 q4
  have FIN : DkOut w fp b CD ((w2.setCell ⟨b, 3, none⟩ (.map (some w1.heap.size))).setCell ⟨b, 4, none⟩ (.slice none 0 0)) := by
    have hgood : GoodD CD := by
      rw [← HCD.out]
      have hg := H1.out.good
      refine { hg with sured := hg.named, turned := by simp, idx := by simp, nchanges := ?_, clens := by simp }
      simpa [opD] using hg.nnames
    have hch : Chg [b] w2 ((w2.setCell ⟨b, 3, none⟩ (.map (some w1.heap.size))).setCell ⟨b, 4, none⟩ (.slice none 0 0)) := ((Chg.refl _ _).setCell _ _ (by simp)).setCell _ _ (by simp)
    have D := H2.out
    refine DkOut.mk (fp' := w1.heap.size :: fp) ⟨fv, .slice none 0 0, nb, w1.heap.size, hs, ?_⟩ (HCF2.out.trans hch (by simp only [List.mem_singleton]; rintro x rfl _; exact H1.out.fpb)) ?_
    · rw [← HCD.out] at hgood ⊢
      exact
      { box := hb2.set 4 _
        names := (D.names.set _ _ (D.names.apart D.box)).set _ _ (D.names.apart D.box)
        sure := (hm2.set _ _ (hm2.apart D.box)).set _ _ (hm2.apart D.box)
        files := ownsRow_chg D.files hch fun k hk => by have := ownsRow_apart D.files D.box (by decide); rw [hk] at this; simpa using this
        same := D.same
        changes := World.ownsRow_nil _ _ _ _
        bytes := fun f hf => OwB.chg (D.bytes f hf) hch fun k hk => by have := ownsRow_apart (D.bytes f hf) D.box (by decide); rw [hk] at this; simpa using this
        apart := D.apart
        ne := fun e => by have := H1.out.names.lt; omega
        fpb := by simp [D.fpb]
        fpn := by simp [D.fpn]
        fps := by simp
        fpf := fun k hk => by simp [D.fpf k hk]
        fpc := by simp [Value.ownBlock]
        fph := fun f hf k hk => by simp [D.fph f hf k hk]
        fpl := fun k hk => by
          rw [size_set, size_set]
          rcases List.mem_cons.1 hk with rfl | hk
          · exact hm2.lt
          · exact D.fpl k hk
        good := hgood }
    · intro k hk
      rcases List.mem_cons.1 hk with rfl | hk
      · exact .inr HCF.out.size
      · exact .inl hk
  have HFIN := hd FIN
  clear FIN hm2 hc2 hbx hm
  go_wp2_with fail
  go_ret
  exact ⟨by rw [HE.out]; rfl, HFIN.out⟩
end Go.Proofs.Ytpoohpmcopjklaa

/- Disk.Append, Bend. -/
namespace Go.Proofs.Ytpoohpmcopjklaa
open Go.RowKit

variable {w w' : World} {fp : List Nat} {b : Nat} {fv cv : Value} {nb sb : Nat} {hs : List HF} {d : Dsk}

set_option maxHeartbeats 2000000 in
theorem Append_any (h : Dk w fp b d) (s : List UInt8) (hsl : s.length ≤ 140737488355328) (hops : d.ops < 1073741824) (v : Value) (l : List UInt8) (hl : Bs w v l) (hll : l.length ≤ 4294967296)
    (hvf : 0 < l.length → ∀ k, v.ownBlock = some k → k ∉ fp) (hroom : (bytesD d s).length + l.length ≤ 4294967296 ∨ d.room ≤ 4294967296) :
    Calls Try.prog 26 #[.pointer (some ⟨b, 0, none⟩), .string (strB s), v] w fun e w' => e = .returned (.int .i64 (appendE d s l)) ∧ DkOut w fp b (appendD d s l) w' := by
  obtain ⟨fv, cv, nb, sb, hs, h⟩ := h
  obtain ⟨aov, capv, bv, ofv, rfl, -⟩ := hl.open
  obtain ⟨CE, hCE⟩ : ∃ x, appendE d s l = x := ⟨_, rfl⟩
  obtain ⟨CD, hCD⟩ : ∃ x, appendD d s l = x := ⟨_, rfl⟩
  rw [hCE, hCD]
  have hCE2 := hCE
  unfold appendE at hCE2
  unfold appendD at hCD
  rw [hCE] at hCD
  clear hCE
  go_enter Try.func26, Try.ntmps26
  go_wp2_with fail
  refine (op_any h hops).mono ?_
  rintro e w1 ⟨rfl, h1, hc1, hz1⟩
  have hl1 := hl.keep hc1 (fun hp k hk => by simpa using fun e => hvf hp k hk (by rw [e]; exact h.fpb))
  have hcf : Chg fp w w1 := hc1.mono (by simp only [List.mem_singleton]; rintro x rfl _; exact h.fpb)
  clear hc1 hz1 h hl
  by_cases hE : opE d = 0
  case neg =>
    rw [if_pos hE] at hCE2
    rw [if_pos (by rw [← hCE2]; exact hE)] at hCD
    subst hCD
    subst hCE2
    have hE' : (opE d == 0) = false := by simpa using hE
    have HD := hd (DkOut.same ⟨_, _, _, _, _, h1⟩ hcf)
    clear hE h1 hcf hl1
    go_wp2_with fail
    go_ret
    exact ⟨rfl, HD.out⟩
  rw [if_neg (by simpa using hE)] at hCE2
  rw [hE]
  clear hE
  have hfind := find_any h1 s hsl
  have H1 := hd h1
  have HCF := hd hcf
  have HL1 := hd hl1
  clear h1 hcf hl1
  rcases hi : nget d.names s with _ | i
  · rw [show nget (opD d).names s = none from hi] at hfind
    rw [hi, if_pos (by rfl)] at hCE2
    subst hCE2
    rw [if_pos (by decide)] at hCD
    subst hCD
    go_wp2_with fail
    refine (hfind).mono ?_
    rintro e w2 ⟨rfl, rfl⟩
    go_wp2_with fail
    go_ret
    exact ⟨rfl, DkOut.same ⟨_, _, _, _, _, H1.out⟩ HCF.out⟩
  · rw [show nget (opD d).names s = some i from hi] at hfind
    rw [hi, if_neg (by simp)] at hCE2
    rw [hi] at hCD
    have hbd : bytesD d s = (d.files.getD i ([], 0)).1 := by unfold bytesD; rw [hi]
    have hLT : (bytesD d s).length ≤ sizeD d := by
      have hn : (d.names.map (·.1)).Nodup := let ⟨_, _, hr⟩ := H1.out.names; hr.nodup
      have := sumF_ndel d hn (nget_some_mem hi)
      rw [sizeD_eq, this, hbd]
      show _ ≤ _ + (d.files.getD i ([], 0)).1.length
      omega
    have HBD := hd hbd
    have HCD := hd hCD
    have HCE := hd hCE2
    clear hCD hCE2 hbd hi
    go_wp2_with fail
    refine (hfind).mono ?_
    rintro e w2 ⟨rfl, g, c, rfl, hlt, rfl⟩
    clear hfind
    have hsz : sizeD (opD d) ≤ 4611686018427387904 := by
      have hg := H1.out.good
      have h1 := sumF_le hg (opD d).names
      have h2 := hg.nnames
      have h3 := hg.ops
      rw [sizeD_eq]
      omega
    have hrm := H1.out.good.room
    have hrm' : (opD d).room = d.room := rfl
    rw [hrm'] at hrm
    have hszd : sizeD (opD d) = sizeD d := rfl
    rw [hszd] at hsz
    have HS := hd (fun wx (hx : Chg [] w2 wx) => Size_any (H1.out.k hx))
    rw [hszd] at HS
    have q0 := H1.out.box.cell 0
    simp [boxCells] at q0
    rw [hrm'] at q0
    have Q0 := hd q0
    clear q0
    clear hszd hrm'
    generalize sizeD d = T at *
    go_upto_region 7 with (fail)
    have hwr : IntKind.i64.wrap ((T : Int) + (l.length : Int)) = (T : Int) + (l.length : Int) := by rw [IntKind.wrap_i64]; omega
    refine anyH_start (n := 11) (L := #[false, false, false, false, false, false, false, false, false, false, false]) (by kernel_rfl) (by kernel_rfl) (S := (fun wx => Chg [] w2 wx)) ((Chg.refl _ _).drew) (fun hHeld => ?_)
    refine anyH_take (i := 0) (d := 26) (L' := #[true, false, false, false, false, false, false, false, false, false, false]) (v := ?v5) rfl rfl (by kernel_rfl) (fun _ _ _ h => h) (by rfl) ?hy5 (by assumption) ?rest5
    case hy5 => (intro wx hSw; (try dsimp only at hSw); (have t0 := Chg.cellS hSw Q0.out); go_simp; (try with_reducible rfl))
    simp only [Act.put, List.setIfInBounds_toArray, List.set_cons_zero, List.set_cons_succ]
    refine anyH_take (i := 2) (d := 28) (L' := #[true, false, true, false, false, false, false, false, false, false, false]) (v := ?v6) rfl rfl (by kernel_rfl) (fun _ _ _ h => h) (by rfl) ?hy6 (by assumption) ?rest6
    case hy6 => (intro wx hSw; (try dsimp only at hSw); (have t0 := Chg.cellS hSw Q0.out); go_simp; (try with_reducible rfl))
    simp only [Act.put, List.setIfInBounds_toArray, List.set_cons_zero, List.set_cons_succ]
    refine anyH_take (i := 3) (d := 29) (L' := #[true, false, true, true, false, false, false, false, false, false, false]) (v := ?v7) rfl rfl (by kernel_rfl) (fun _ _ _ h => h) (by rfl) ?hy7 (by assumption) ?rest7
    case hy7 => (intro wx hSw; (try dsimp only at hSw); (have t0 := Chg.cellS hSw Q0.out); go_simp; (try with_reducible rfl))
    simp only [Act.put, List.setIfInBounds_toArray, List.set_cons_zero, List.set_cons_succ]
    refine anyH_take (i := 5) (d := 31) (L' := #[true, false, true, true, false, true, false, false, false, false, false]) (v := ?v8) rfl rfl (by kernel_rfl) (fun _ _ _ h => h) (by rfl) ?hy8 (by assumption) ?rest8
    case hy8 => (intro wx hSw; (try dsimp only at hSw); (have t0 := Chg.cellS hSw Q0.out); go_simp; (try with_reducible rfl))
    simp only [Act.put, List.setIfInBounds_toArray, List.set_cons_zero, List.set_cons_succ]
    refine anyH_take (i := 6) (d := 32) (L' := #[true, false, true, true, false, true, true, false, false, false, false]) (v := ?v9) rfl rfl (by kernel_rfl) (fun _ _ _ h => h) (by rfl) ?hy9 (by assumption) ?rest9
    case hy9 => (intro wx hSw; (try dsimp only at hSw); (have t0 := Chg.cellS hSw Q0.out); go_simp; (try with_reducible rfl))
    simp only [Act.put, List.setIfInBounds_toArray, List.set_cons_zero, List.set_cons_succ]
    refine anyH_take (i := 7) (d := 33) (L' := #[true, false, true, true, false, true, true, true, false, false, false]) (v := ?v10) rfl rfl (by kernel_rfl) (fun _ _ _ h => h) (by rfl) ?hy10 (by assumption) ?rest10
    case hy10 => (intro wx hSw; (try dsimp only at hSw); (have t0 := Chg.cellS hSw Q0.out); go_simp; (try with_reducible rfl))
    simp only [Act.put, List.setIfInBounds_toArray, List.set_cons_zero, List.set_cons_succ]
    refine anyH_take (i := 8) (d := 34) (L' := #[true, false, true, true, false, true, true, true, true, false, false]) (v := ?v11) rfl rfl (by kernel_rfl) (fun _ _ _ h => h) (by rfl) ?hy11 (by assumption) ?rest11
    case hy11 => (intro wx hSw; (try dsimp only at hSw); (have t0 := Chg.cellS hSw Q0.out); go_simp; (try with_reducible rfl))
    simp only [Act.put, List.setIfInBounds_toArray, List.set_cons_zero, List.set_cons_succ]
    refine anyH_run (i := 1) (L' := #[true, true, true, true, false, true, true, true, true, false, false]) rfl (by kernel_rfl) (by rfl) (fun KK hKK => ?_)
    go_simp
    (refine (HS.out _ hHeld).mono ?_; rintro e w3 ⟨rfl, hc3⟩; have hm3 := Chg.k hHeld hc3; clear hc3; (try go_simp))
    refine hKK.out _ _ (by assumption) (fun hHeld => ?_)
    clear hKK KK
    try simp only [Act.put, List.setIfInBounds_toArray, List.set_cons_zero, List.set_cons_succ]
    refine anyH_run (i := 4) (L' := #[true, true, true, true, true, true, true, true, true, false, false]) rfl (by kernel_rfl) (by rfl) (fun KK hKK => ?_)
    go_simp
    (skip)
    refine hKK.out _ _ (by assumption) (fun hHeld => ?_)
    clear hKK KK
    try simp only [Act.put, List.setIfInBounds_toArray, List.set_cons_zero, List.set_cons_succ]
    refine anyH_run (i := 9) (L' := #[true, true, true, true, true, true, true, true, true, true, false]) rfl (by kernel_rfl) (by rfl) (fun KK hKK => ?_)
    go_simp
    (skip)
    refine hKK.out _ _ (by assumption) (fun hHeld => ?_)
    clear hKK KK
    try simp only [Act.put, List.setIfInBounds_toArray, List.set_cons_zero, List.set_cons_succ]
    refine anyH_run (i := 10) (L' := #[true, true, true, true, true, true, true, true, true, true, true]) rfl (by kernel_rfl) (by rfl) (fun KK hKK => ?_)
    go_simp
    (skip)
    refine hKK.out _ _ (by assumption) (fun hHeld => ?_)
    clear hKK KK
    try simp only [Act.put, List.setIfInBounds_toArray, List.set_cons_zero, List.set_cons_succ]
    refine wpAnyH_done (by kernel_rfl) ?_ _
    clear HS Q0
    try rw [hwr]
    by_cases hbig : d.room < (T : Int) + (l.length : Int)
    · have hx := HCE.out
      rw [if_pos hbig] at hx
      subst hx
      have hy := HCD.out
      rw [if_pos (by decide)] at hy
      subst hy
      have FIN := hd (DkOut.same ⟨_, _, _, _, _, H1.out.k hm3⟩ (HCF.out.trans hm3 (by simp)))
      clear hm3
      go_wp2_with fail
      go_ret
      exact ⟨rfl, FIN.out⟩
    · have hx := HCE.out
      rw [if_neg hbig] at hx
      subst hx
      have hy := HCD.out
      rw [if_neg (by decide)] at hy
      have HY := hd hy
      clear hy HCE HCD
      go_upto_region 9 with (fail)
      have H3 := hd (H1.out.k hm3)
      have HCF3 := hd (HCF.out.trans hm3 (by simp))
      have hl3 := HL1.out.k hm3
      obtain ⟨ao, c', hv, q0, q1, hfi⟩ := H3.out.file hlt
      have hby := H3.out.bytes _ (List.getElem_mem hlt)
      rw [hv] at hby
      have hgf := H3.out.good.files _ (List.mem_of_getElem? hfi)
      have hbl : bytesD d s = hs[i].2.1 := by rw [HBD.out, show d.files.getD i ([], 0) = hs[i].2 from files_get H3.out hlt]
      have hcd : setF (opD d) i (hs[i].2.1 ++ l, hs[i].2.2) = CD := by
        rw [← HY.out, show d.files.getD i ([], 0) = hs[i].2 from files_get H3.out hlt]
      rw [hbl] at hLT hroom
      have hnew : (hs[i].2.1.length + l.length : Nat) ≤ 4294967296 ∧ ((hs[i].2.1.length + l.length : Nat) : Int) ≤ d.room := by omega
      have hgood : GoodD (setF (opD d) i (hs[i].2.1 ++ l, hs[i].2.2)) := H3.out.good.putF i _ ⟨by rw [List.length_append]; have := hgf.1; omega, by rw [List.length_append]; exact hnew.2, by rw [List.length_append]; exact hnew.1⟩
      have HBS := hd (fun (w4 : World) (v' : Value) (hc : Chg hs[i].1.ownBlock.toList w3 w4) (hv : OwB w4 0 v' (hs[i].2.1 ++ l)) (hm : Moved w3 hs[i].1 v') => H3.out.byteSet hlt hc hv hm hgood)
      rw [hcd, hv] at HBS
      have hgn := ownsRow_ne2 hby H3.out.files (by decide)
      have HRF := hd H3.out.files
      have hne : (Value.slice (some ⟨g, 0, none⟩) hs.length c).ownBlock ≠ (Value.slice ao hs[i].2.1.length c').ownBlock := fun e => hgn g (by rw [← e]; rfl) rfl
      have hcap : hs[i].2.1.length + l.length ≤ 140737488355328 := by omega
      have hjlt : i * 2 < hs.length * 2 := by omega
      have hcx := (fileCells_get hs i hlt).1
      have HCX := hd hcx
      have HFN := hd (H3.out.fpf g rfl)
      have hfy : ∀ k, (Value.slice ao hs[i].2.1.length c').ownBlock = some k → k ∈ fp := fun k hk => H3.out.fph _ (List.getElem_mem hlt) k (by rw [hv]; exact hk)
      have HFY := hd hfy
      clear hfi hgf hbl hcd hLT hroom hnew hgood q1 hgn hcx hfy H1 HCF HL1 hm3
      go_wp2_with (at_builtin; refine wpAppB rfl _ _ rfl 0 _ _ rfl hby _ l rfl hl3 hcap (Nat.zero_le _) ?_; intro ao4 c4 w4 hr4 hg4 hm4; have hrow4 := World.ownsRow.kept HRF.out hg4 (.inr hne); have q4 := World.ownsRow.cellAt hrow4 (i * 2) hjlt; rw [HCX.out] at q4; have f4 := World.ownsRow.frozenAt hrow4 (i * 2))
      have hfin := HBS.out w4 _ (Chg.ofGrown hg4) hr4 hm4
      have hch : Chg fp w3 (w4.setCell ⟨g, i * 2, none⟩ (.slice ao4 (hs[i].2.1.length + l.length) c4)) := ((Chg.refl _ _).grown hg4 (fun k hk _ => HFY.out k hk)).setCell _ _ (fun _ => HFN.out)
      have FIN := hd (DkOut.mk ⟨_, _, _, _, _, hfin⟩ (HCF3.out.trans hch (fun _ h _ => h)) ((Gr.refl fp w).trans (Gr.cons hm4 HFY.out) HCF3.out.size))
      go_ret
      exact ⟨rfl, FIN.out⟩
end Go.Proofs.Ytpoohpmcopjklaa

/- A disk that the call made itself. -/
namespace Go.Proofs.Ytpoohpmcopjklaa
open Go.RowKit

theorem DkOut.chg {w w' : World} {fp : List Nat} {b : Nat} {d : Dsk} (h : DkOut w fp b d w') : Chg fp w w' := let ⟨_, _, h, _⟩ := h; h
theorem Dk.fpl {w : World} {fp : List Nat} {b : Nat} {d : Dsk} (h : Dk w fp b d) : ∀ k ∈ fp, k < w.heap.size := let ⟨_, _, _, _, _, h⟩ := h; h.fpl
/-- In w there is a disk d at b, all of whose blocks came up behind w0; nothing of w0 has turned. -/
def DS (w0 w : World) (b : Nat) (d : Dsk) : Prop := ∃ fp, Dk w fp b d ∧ Chg [] w0 w ∧ ∀ k ∈ fp, w0.heap.size ≤ k
theorem DkOut.ds {w0 w w' : World} {fp : List Nat} {b : Nat} {d' : Dsk} (h : DkOut w fp b d' w') (hc : Chg [] w0 w) (hf : ∀ k ∈ fp, w0.heap.size ≤ k) : DS w0 w' b d' := by
  obtain ⟨fp', h1, h2, h3⟩ := h
  have hz := hc.size
  refine ⟨fp', h1, hc.trans h2 (fun x hx hl => by have := hf x hx; omega), fun k hk => ?_⟩
  rcases h3 k hk with h | h
  · exact hf k h
  · omega
theorem DS.chg {w0 w : World} {b : Nat} {d : Dsk} (h : DS w0 w b d) : Chg [] w0 w := let ⟨_, _, h, _⟩ := h; h
theorem DS.k {w0 w w' : World} {b : Nat} {d : Dsk} (h : DS w0 w b d) (hc : Chg [] w w') : DS w0 w' b d :=
  let ⟨fp, h1, h2, h3⟩ := h; ⟨fp, h1.k hc, h2.k hc, h3⟩
theorem DS.new {w w' : World} {d : Dsk} {b : Nat} {fp : List Nat} (h1 : Dk w' fp b d) (h2 : Chg [] w w') (h3 : ∀ k ∈ fp, w.heap.size ≤ k) : DS w w' b d := ⟨fp, h1, h2, h3⟩
theorem DS.same {w0 w w' : World} {fp : List Nat} {b : Nat} {d d' : Dsk} (h : Dk w' fp b d') (hw : Dk w fp b d) (hc : Chg [] w0 w) (hf : ∀ k ∈ fp, w0.heap.size ≤ k) (hb : Chg [b] w w') : DS w0 w' b d' := by
  have hz := hc.size
  refine ⟨fp, h, hc.trans hb (fun x hx hl => ?_), hf⟩
  obtain rfl : x = b := by simpa using hx
  obtain ⟨_, _, _, _, _, hp⟩ := hw
  have := hf x hp.fpb
  omega

end Go.Proofs.Ytpoohpmcopjklaa

/- Disk.Arm. -/
namespace Go.Proofs.Ytpoohpmcopjklaa
open Go.RowKit

variable {w : World} {fp : List Nat} {b : Nat} {fv cv : Value} {nb sb : Nat} {hs : List HF} {d : Dsk}

def latD (ops n : Int) : Int := if n < 0 ∨ 1099511627776 < n then -1 else ops + n
def armD (d : Dsk) (down fail : Int) : Dsk := { d with down := latD d.ops down, fail := latD d.ops fail }

set_option maxHeartbeats 400000 in
theorem later_any (p : Addr) (n ops : Int) (hp : w.cell? p = some (.pointer (some ⟨b, 0, none⟩))) (h5 : w.cell? ⟨b, 5, none⟩ = some (.int .i64 ops)) (h0 : 0 ≤ ops) (h1 : ops ≤ 1073741824) :
    Calls Try.prog 58 #[.int .i64 n, .pointer (some p)] w fun e w' => e = .returned (.int .i64 (latD ops n)) ∧ w = w' := by
  obtain ⟨R, hR⟩ : ∃ R, latD ops n = R := ⟨_, rfl⟩
  rw [hR]
  unfold latD at hR
  have HR := hd hR
  clear hR
  by_cases hn : n < 0
  · go_enter Try.func58, Try.ntmps58
    go_wp2_with fail
    refine bodyPost_ret (v := .int .i64 (-1)) ?_ rfl ⟨?_, rfl⟩
    · simp only [results]; go_simp
    · rw [← HR.out, if_pos (.inl hn)]
  · by_cases hn2 : 1099511627776 < n
    · go_enter Try.func58, Try.ntmps58
      go_wp2_with fail
      refine bodyPost_ret (v := .int .i64 (-1)) ?_ rfl ⟨?_, rfl⟩
      · simp only [results]; go_simp
      · rw [← HR.out, if_pos (.inr hn2)]
    · have hw : IntKind.i64.wrap (ops + n) = ops + n := IntWalk.i64_in _ (by omega)
      go_enter Try.func58, Try.ntmps58
      go_wp2_with fail
      refine bodyPost_ret (v := .int .i64 (ops + n)) ?_ rfl ⟨?_, rfl⟩
      · simp only [results]; go_simp
      · rw [← HR.out, if_neg (by omega)]

set_option maxHeartbeats 1000000 in
theorem Arm_any (h : Dk w fp b d) (down fail_ : Int) :
    Calls Try.prog 27 #[.pointer (some ⟨b, 0, none⟩), .int .i64 down, .int .i64 fail_] w fun e w' => e = .returned (.tuple #[]) ∧ DkOut w fp b (armD d down fail_) w' := by
  obtain ⟨fv, cv, nb, sb, hs, h⟩ := h
  have hops := h.good.ops
  have hblt := h.box.lt
  have hc := Chg.refl [] w
  go_enter Try.func27, Try.ntmps27
  go_upto_region 2 with (fail)
  have kx := Blk.new w #[.pointer (some ⟨b, 0, none⟩)] 26
  have hcb := (Chg.refl [] w).alloc (.cells #[.pointer (some ⟨b, 0, none⟩)] 26)
  replace h := h.k hcb
  replace hc := hc.k hcb
  clear hcb
  generalize w.alloc (.cells #[.pointer (some ⟨b, 0, none⟩)] 26) = w0 at *
  have q0 := kx.cell 0
  have q5 := h.box.cell 5
  have q6 := h.box.cell 6
  have q7 := h.box.cell 7
  simp [boxCells] at q0 q5 q6 q7
  have Q0 := hd q0
  have Q5 := hd q5
  have Q6 := hd q6
  have Q7 := hd q7
  have F6 := hd (h.box.free 6)
  have F7 := hd (h.box.free 7)
  have N1 : w.heap.size ∉ [b] := by simp; omega
  have H := hd h
  have HC := hd hc
  obtain ⟨A, hA⟩ : ∃ A, A = latD d.ops down := ⟨_, rfl⟩
  obtain ⟨B, hB⟩ : ∃ B, B = latD d.ops fail_ := ⟨_, rfl⟩
  have s1 : Chg [b] w0 (w0.drew.setCell ⟨b, 6, none⟩ (.int .i64 A)) := (Chg.refl _ _).drew.setCell _ _ (by simp)
  have s2 : Chg [b] w0 (w0.drew.setCell ⟨b, 7, none⟩ (.int .i64 B)) := (Chg.refl _ _).drew.setCell _ _ (by simp)
  have s3 : Chg [b] w0 ((w0.drew.setCell ⟨b, 6, none⟩ (.int .i64 A)).setCell ⟨b, 7, none⟩ (.int .i64 B)) := s1.setCell _ _ (by simp)
  have s4 : Chg [b] w0 ((w0.drew.setCell ⟨b, 7, none⟩ (.int .i64 B)).setCell ⟨b, 6, none⟩ (.int .i64 A)) := s2.setCell _ _ (by simp)
  have hbx : Blk w0.drew b (boxCells fv cv nb sb d) 85 := h.box
  have hgd : GoodD (armD d down fail_) := h.good.scal rfl rfl rfl rfl rfl (Int.le_refl _) hops.2
  have b1 : Blk ((w0.drew.setCell ⟨b, 6, none⟩ (.int .i64 A)).setCell ⟨b, 7, none⟩ (.int .i64 B)) b (boxCells fv cv nb sb (armD d down fail_)) 85 := by
    rw [hA, hB]; exact (hbx.set 6 _).set 7 _
  have b2 : Blk ((w0.drew.setCell ⟨b, 7, none⟩ (.int .i64 B)).setCell ⟨b, 6, none⟩ (.int .i64 A)) b (boxCells fv cv nb sb (armD d down fail_)) 85 := by
    rw [hA, hB]; exact (hbx.set 7 _).set 6 _
  have fin : ∀ W, Chg [b] w0 W → Blk W b (boxCells fv cv nb sb (armD d down fail_)) 85 → DkOut w fp b (armD d down fail_) W := fun W hW hb =>
    DkOut.same ⟨_, _, _, _, _, h.scal hW hb rfl rfl rfl rfl hgd⟩ ((hc.mono (S' := fp) (by simp)).trans hW (by simp only [List.mem_singleton]; rintro x rfl _; exact h.fpb))
  have F1 := hd (fin _ s3 b1)
  have F2 := hd (fin _ s4 b2)
  have S1 := hd s1
  have S2 := hd s2
  have S3 := hd s3
  have S4 := hd s4
  have HA := hd hA
  have HB := hd hB
  have hbx1 : Blk (w0.drew.setCell ⟨b, 6, none⟩ (.int .i64 A)) b _ 85 := hbx.set 6 _
  have hbx2 : Blk (w0.drew.setCell ⟨b, 7, none⟩ (.int .i64 B)) b _ 85 := hbx.set 7 _
  have c1 := hbx1.cell 7
  have c2 := hbx2.cell 6
  simp [boxCells] at c1 c2
  have C1 := hd c1
  have C2 := hd c2
  have G1 := hd (hbx1.free 7)
  have G2 := hd (hbx2.free 6)
  have hops1 := hops.1
  have hops2 := hops.2
  clear s1 s2 s3 s4 b1 b2 fin hbx hgd h hc q0 q5 q6 q7 kx hblt hA hB c1 c2 hbx1 hbx2 hops
  refine anyH_start (n := 14) (L := #[false, false, false, false, false, false, false, false, false, false, false, false, false, false]) (by kernel_rfl) (by kernel_rfl) (S := (fun wx => Chg [b] w0 wx)) ((Chg.refl _ _).drew) (fun hHeld => ?_)
  refine anyH_take (i := 0) (d := 8) (L' := #[true, false, false, false, false, false, false, false, false, false, false, false, false, false]) (v := ?v2) rfl rfl (by kernel_rfl) (fun _ _ _ h => h) (by rfl) ?hy2 (by assumption) ?rest2
  case hy2 => (intro wx hSw; (try dsimp only at hSw); (have t0 := hSw.cellT Q0.out N1); go_simp; (try with_reducible rfl))
  simp only [Act.put, List.setIfInBounds_toArray, List.set_cons_zero, List.set_cons_succ]
  refine anyH_take (i := 1) (d := 9) (L' := #[true, true, false, false, false, false, false, false, false, false, false, false, false, false]) (v := ?v3) rfl rfl (by kernel_rfl) (fun _ _ _ h => h) (by rfl) ?hy3 (by assumption) ?rest3
  case hy3 => (intro wx hSw; (try dsimp only at hSw); (have t0 := hSw.cellT Q0.out N1); go_simp; (try with_reducible rfl))
  simp only [Act.put, List.setIfInBounds_toArray, List.set_cons_zero, List.set_cons_succ]
  refine anyH_take (i := 2) (d := 10) (L' := #[true, true, true, false, false, false, false, false, false, false, false, false, false, false]) (v := ?v4) rfl rfl (by kernel_rfl) (fun _ _ _ h => h) (by rfl) ?hy4 (by assumption) ?rest4
  case hy4 => (intro wx hSw; (try dsimp only at hSw); (have t0 := hSw.cellT Q0.out N1); go_simp; (try with_reducible rfl))
  simp only [Act.put, List.setIfInBounds_toArray, List.set_cons_zero, List.set_cons_succ]
  refine anyH_take (i := 3) (d := 11) (L' := #[true, true, true, true, false, false, false, false, false, false, false, false, false, false]) (v := ?v5) rfl rfl (by kernel_rfl) (fun _ _ _ h => h) (by rfl) ?hy5 (by assumption) ?rest5
  case hy5 => (intro wx hSw; (try dsimp only at hSw); (have t0 := hSw.cellT Q0.out N1); go_simp; (try with_reducible rfl))
  simp only [Act.put, List.setIfInBounds_toArray, List.set_cons_zero, List.set_cons_succ]
  refine anyH_take (i := 5) (d := 13) (L' := #[true, true, true, true, false, true, false, false, false, false, false, false, false, false]) (v := ?v6) rfl rfl (by kernel_rfl) (fun _ _ _ h => h) (by rfl) ?hy6 (by assumption) ?rest6
  case hy6 => (intro wx hSw; (try dsimp only at hSw); (have t0 := hSw.cellT Q0.out N1); go_simp; (try with_reducible rfl))
  simp only [Act.put, List.setIfInBounds_toArray, List.set_cons_zero, List.set_cons_succ]
  refine anyH_take (i := 6) (d := 14) (L' := #[true, true, true, true, false, true, true, false, false, false, false, false, false, false]) (v := ?v7) rfl rfl (by kernel_rfl) (fun _ _ _ h => h) (by rfl) ?hy7 (by assumption) ?rest7
  case hy7 => (intro wx hSw; (try dsimp only at hSw); (have t0 := hSw.cellT Q0.out N1); go_simp; (try with_reducible rfl))
  simp only [Act.put, List.setIfInBounds_toArray, List.set_cons_zero, List.set_cons_succ]
  refine anyH_run (i := 4) (L' := #[true, true, true, true, true, true, true, false, false, false, false, false, false, false]) rfl (by kernel_rfl) (by rfl) (fun KK hKK => ?_)
  go_simp
  (refine (later_any (w := w0.drew) ⟨w.heap.size, 0, none⟩ down d.ops Q0.out Q5.out hops1 hops2).mono ?_; rintro e wn ⟨rfl, rfl⟩; rw [← HA.out]; (try go_simp))
  refine hKK.out _ _ (by assumption) (fun hHeld => ?_)
  clear hKK KK
  try simp only [Act.put, List.setIfInBounds_toArray, List.set_cons_zero, List.set_cons_succ]
  refine anyH_run (i := 7) (L' := #[true, true, true, true, true, true, true, true, false, false, false, false, false, false]) rfl (by kernel_rfl) (by rfl) (fun KK hKK => ?_)
  go_simp
  (refine (later_any (w := w0.drew) ⟨w.heap.size, 0, none⟩ fail_ d.ops Q0.out Q5.out hops1 hops2).mono ?_; rintro e wn ⟨rfl, rfl⟩; rw [← HB.out]; (try go_simp))
  refine hKK.out _ _ (by assumption) (fun hHeld => ?_)
  clear hKK KK
  try simp only [Act.put, List.setIfInBounds_toArray, List.set_cons_zero, List.set_cons_succ]
  refine anyH_take (i := 8) (d := 16) (L' := #[true, true, true, true, true, true, true, true, true, false, false, false, false, false]) (v := ?v10) rfl rfl (by kernel_rfl) (fun _ _ _ h => h) (by rfl) ?hy10 (by assumption) ?rest10
  case hy10 => (intro wx hSw; (try dsimp only at hSw); (have t0 := hSw.cellT Q0.out N1); go_simp; (try with_reducible rfl))
  simp only [Act.put, List.setIfInBounds_toArray, List.set_cons_zero, List.set_cons_succ]
  refine anyH_take (i := 9) (d := 17) (L' := #[true, true, true, true, true, true, true, true, true, true, false, false, false, false]) (v := ?v11) rfl rfl (by kernel_rfl) (fun _ _ _ h => h) (by rfl) ?hy11 (by assumption) ?rest11
  case hy11 => (intro wx hSw; (try dsimp only at hSw); (have t0 := hSw.cellT Q0.out N1); go_simp; (try with_reducible rfl))
  simp only [Act.put, List.setIfInBounds_toArray, List.set_cons_zero, List.set_cons_succ]
  refine anyH_run (i := 10) (L' := #[true, true, true, true, true, true, true, true, true, true, true, false, false, false]) rfl (by kernel_rfl) (by rfl) (fun KK hKK => ?_)
  (have q6 := Q6.out; have f6 := F6.out; have c2 := C2.out; have g2 := G2.out; have s1 := S1.out; have s4 := S4.out; go_simp)
  refine hKK.out _ _ (by assumption) (fun hHeld => ?_)
  clear hKK KK
  try simp only [Act.put, List.setIfInBounds_toArray, List.set_cons_zero, List.set_cons_succ]
  refine anyH_take (i := 11) (d := 18) (L' := #[true, true, true, true, true, true, true, true, true, true, true, true, false, false]) (v := ?v13) rfl rfl (by kernel_rfl) (fun _ _ _ h => h) (by rfl) ?hy13 (by assumption) ?rest13
  case hy13 => (intro wx hSw; (try dsimp only at hSw); (have t0 := hSw.cellT Q0.out N1); go_simp; (try with_reducible rfl))
  simp only [Act.put, List.setIfInBounds_toArray, List.set_cons_zero, List.set_cons_succ]
  refine anyH_take (i := 12) (d := 19) (L' := #[true, true, true, true, true, true, true, true, true, true, true, true, true, false]) (v := ?v14) rfl rfl (by kernel_rfl) (fun _ _ _ h => h) (by rfl) ?hy14 (by assumption) ?rest14
  case hy14 => (intro wx hSw; (try dsimp only at hSw); (have t0 := hSw.cellT Q0.out N1); go_simp; (try with_reducible rfl))
  simp only [Act.put, List.setIfInBounds_toArray, List.set_cons_zero, List.set_cons_succ]
  refine anyH_run (i := 13) (L' := #[true, true, true, true, true, true, true, true, true, true, true, true, true, true]) rfl (by kernel_rfl) (by rfl) (fun KK hKK => ?_)
  (have q7 := Q7.out; have f7 := F7.out; have c1 := C1.out; have g1 := G1.out; have s2 := S2.out; have s3 := S3.out; go_simp)
  refine hKK.out _ _ (by assumption) (fun hHeld => ?_)
  clear hKK KK
  try simp only [Act.put, List.setIfInBounds_toArray, List.set_cons_zero, List.set_cons_succ]
  refine wpAnyH_done (by kernel_rfl) ?_ _
  go_wp2_with fail; go_end0; first | exact ⟨rfl, F1.out⟩ | exact ⟨rfl, F2.out⟩
end Go.Proofs.Ytpoohpmcopjklaa

/- Disk.Rename, Remove, Ops, Down. -/
namespace Go.Proofs.Ytpoohpmcopjklaa
open Go.RowKit

variable {w w' : World} {fp : List Nat} {b : Nat} {fv cv : Value} {nb sb : Nat} {hs : List HF} {d : Dsk}

def renameE (d : Dsk) (a b : List UInt8) : Int := if opE d ≠ 0 then opE d else if (nget d.names a).isNone then 4 else if ¬ nameD b then 2 else 0
def renameD (d : Dsk) (a b : List UInt8) : Dsk :=
  if renameE d a b ≠ 0 then opD d else if a = b then opD d else
  match nget d.names a with
  | none => opD d
  | some i => changeD (opD d) (a, b, i)
def removeE (d : Dsk) (s : List UInt8) : Int := if opE d ≠ 0 then opE d else if (nget d.names s).isNone then 4 else 0
def removeD (d : Dsk) (s : List UInt8) : Dsk := if removeE d s ≠ 0 then opD d else changeD (opD d) (s, [], 0)

set_option maxHeartbeats 400000 in
theorem Ops_any (h : Dk w fp b d) : Calls Try.prog 28 #[.pointer (some ⟨b, 0, none⟩)] w fun e w' => e = .returned (.int .i64 d.ops) ∧ w = w' := by
  obtain ⟨fv, cv, nb, sb, hs, h⟩ := h
  have q5 := h.box.cell 5
  simp [boxCells] at q5
  clear h
  go_enter Try.func28, Try.ntmps28
  go_wp2_with fail
  go_ret
  exact ⟨rfl, rfl⟩
set_option maxHeartbeats 400000 in
theorem Down_any (h : Dk w fp b d) : Calls Try.prog 34 #[.pointer (some ⟨b, 0, none⟩)] w fun e w' => e = .returned (.bool d.off) ∧ w = w' := by
  obtain ⟨fv, cv, nb, sb, hs, h⟩ := h
  have q8 := h.box.cell 8
  simp [boxCells] at q8
  clear h
  go_enter Try.func34, Try.ntmps34
  go_wp2_with fail
  go_ret
  exact ⟨rfl, rfl⟩

set_option maxHeartbeats 2000000 in
theorem Remove_any (h : Dk w fp b d) (s : List UInt8) (hsl : s.length ≤ 140737488355328) (hops : d.ops < 1073741824) :
    Calls Try.prog 33 #[.pointer (some ⟨b, 0, none⟩), .string (strB s)] w fun e w' => e = .returned (.int .i64 (removeE d s)) ∧ DkOut w fp b (removeD d s) w' := by
  obtain ⟨fv, cv, nb, sb, hs, h⟩ := h
  obtain ⟨CE, hCE⟩ : ∃ x, removeE d s = x := ⟨_, rfl⟩
  obtain ⟨CD, hCD⟩ : ∃ x, removeD d s = x := ⟨_, rfl⟩
  rw [hCE, hCD]
  have hCE2 := hCE
  unfold removeE at hCE2
  unfold removeD at hCD
  rw [hCE] at hCD
  have hgood := h.good
  clear hCE
  go_enter Try.func33, Try.ntmps33
  go_wp2_with fail
  refine (op_any h hops).mono ?_
  rintro e w1 ⟨rfl, h1, hc1, hz1⟩
  have hcf : Chg fp w w1 := hc1.mono (by simp only [List.mem_singleton]; rintro x rfl _; exact h.fpb)
  clear hc1 hz1 h
  by_cases hE : opE d = 0
  case neg =>
    rw [if_pos hE] at hCE2
    rw [if_pos (by rw [← hCE2]; exact hE)] at hCD
    subst hCD
    subst hCE2
    have hE' : (opE d == 0) = false := by simpa using hE
    have HF := hd (DkOut.same ⟨_, _, _, _, _, h1⟩ hcf)
    clear hE h1 hcf hgood
    go_wp2_with fail
    go_ret
    exact ⟨rfl, HF.out⟩
  rw [if_neg (by simpa using hE)] at hCE2
  rw [hE]
  clear hE
  have hfind := find_any h1 s hsl
  have hchg := change_any h1 s [] 0 hsl (by decide) (Nat.zero_le _) (fun h => absurd rfl h) (by have := hgood.nnames; show (d.names.length : Int) + 1 ≤ d.ops + 1; omega) (by have := hgood.nchanges; show (d.sure.length + d.changes.length : Int) + 1 ≤ d.ops + 1; omega)
  have H1 := hd h1
  have HCF := hd hcf
  have HCH := hd hchg
  clear h1 hcf hgood hchg
  rcases hi : nget d.names s with _ | i
  · rw [show nget (opD d).names s = none from hi] at hfind
    rw [hi, if_pos (by rfl)] at hCE2
    subst hCE2
    rw [if_pos (by decide)] at hCD
    subst hCD
    go_wp2_with fail
    refine (hfind).mono ?_
    rintro e w2 ⟨rfl, rfl⟩
    go_wp2_with fail
    go_ret
    exact ⟨rfl, DkOut.same ⟨_, _, _, _, _, H1.out⟩ HCF.out⟩
  · rw [show nget (opD d).names s = some i from hi] at hfind
    rw [hi, if_neg (by simp)] at hCE2
    subst hCE2
    rw [if_neg (by decide)] at hCD
    subst hCD
    clear hi
    go_wp2_with fail
    refine (hfind).mono ?_
    rintro e w2 ⟨rfl, g, c, rfl, hlt, rfl⟩
    have hch := HCH.out
    clear hfind hlt
    go_wp2_with fail
    refine (hch).mono ?_
    rintro e w3 ⟨rfl, h3⟩
    have HF := hd (h3.after HCF.out)
    clear hch h3
    go_wp2_with fail
    go_ret
    exact ⟨rfl, HF.out⟩

set_option maxHeartbeats 2000000 in
theorem Rename_any (h : Dk w fp b d) (a s : List UInt8) (hal : a.length ≤ 140737488355328) (hsl : s.length ≤ 140737488355328) (hops : d.ops < 1073741824) :
    Calls Try.prog 38 #[.pointer (some ⟨b, 0, none⟩), .string (strB a), .string (strB s)] w fun e w' => e = .returned (.int .i64 (renameE d a s)) ∧ DkOut w fp b (renameD d a s) w' := by
  obtain ⟨fv, cv, nb, sb, hs, h⟩ := h
  obtain ⟨CE, hCE⟩ : ∃ x, renameE d a s = x := ⟨_, rfl⟩
  obtain ⟨CD, hCD⟩ : ∃ x, renameD d a s = x := ⟨_, rfl⟩
  rw [hCE, hCD]
  have hCE2 := hCE
  unfold renameE at hCE2
  unfold renameD at hCD
  rw [hCE] at hCD
  have hgood := h.good
  clear hCE
  go_enter Try.func38, Try.ntmps38
  go_wp2_with fail
  refine (op_any h hops).mono ?_
  rintro e w1 ⟨rfl, h1, hc1, hz1⟩
  have hcf : Chg fp w w1 := hc1.mono (by simp only [List.mem_singleton]; rintro x rfl _; exact h.fpb)
  clear hc1 hz1 h
  by_cases hE : opE d = 0
  case neg =>
    rw [if_pos hE] at hCE2
    rw [if_pos (by rw [← hCE2]; exact hE)] at hCD
    subst hCD
    subst hCE2
    have hE' : (opE d == 0) = false := by simpa using hE
    have HF := hd (DkOut.same ⟨_, _, _, _, _, h1⟩ hcf)
    clear hE h1 hcf hgood
    go_wp2_with fail
    go_ret
    exact ⟨rfl, HF.out⟩
  rw [if_neg (by simpa using hE)] at hCE2
  rw [hE]
  clear hE
  have q2 := h1.box.cell 2
  simp [boxCells] at q2
  have hm : MapAt w1 nb d.names := h1.names
  rcases hi : nget d.names a with _ | i
  · rw [hi, if_pos (by rfl)] at hCE2
    subst hCE2
    rw [if_pos (by decide)] at hCD
    subst hCD
    have HF := hd (DkOut.same ⟨_, _, _, _, _, h1⟩ hcf)
    clear hgood h1 hcf
    go_wp2_with (at_lookup; refine wpLook rfl _ _ rfl nb _ a rfl rfl hm hal ?_; rw [hi]; dsimp only [Option.getD_none, Option.isSome_none])
    go_ret
    exact ⟨rfl, HF.out⟩
  rw [hi, if_neg (by simp)] at hCE2
  rw [hi] at hCD
  have hil : i < (opD d).files.length := hgood.named _ (nget_some_mem hi)
  have hchg := change_any h1 a s i hal hsl (Nat.le_of_lt hil) (fun _ => hil) (by have := hgood.nnames; show (d.names.length : Int) + 1 ≤ d.ops + 1; omega) (by have := hgood.nchanges; show (d.sure.length + d.changes.length : Int) + 1 ≤ d.ops + 1; omega)
  have hchk : ∀ wx, Chg [] w1 wx → Calls Try.prog 62 #[.pointer (some ⟨b, 0, none⟩), .agg #[.string (strB a), .string (strB s), .int .i64 (i : Int)]] wx fun e w' =>
      e = .returned (.tuple #[]) ∧ DkOut wx fp b (changeD (opD d) (a, s, i)) w' := fun wx hx => change_any (h1.k hx) a s i hal hsl (Nat.le_of_lt hil) (fun _ => hil) (by have := hgood.nnames; show (d.names.length : Int) + 1 ≤ d.ops + 1; omega) (by have := hgood.nchanges; show (d.sure.length + d.changes.length : Int) + 1 ≤ d.ops + 1; omega)
  have HCH := hd hchk
  have H1 := hd h1
  have HCF := hd hcf
  have HI := hd hi
  clear hchg hchk h1 hcf hgood hil hi
  go_upto_region 7 with (at_lookup; refine wpLook rfl _ _ rfl nb _ a rfl rfl hm hal ?_; rw [HI.out]; dsimp only [Option.getD_some, Option.isSome_some])
  clear q2 hm HI
  go_wp2_with fail
  refine (name_any w1 s hsl).mono ?_
  rintro e w2 ⟨rfl, hc2⟩
  have H2 := hd (H1.out.k hc2)
  have HC2 := hd (HCF.out.trans hc2 (by simp))
  have HC02 := hd hc2
  clear hc2 HCF
  by_cases hn : nameD s = true
  case neg =>
    rw [if_pos hn] at hCE2
    subst hCE2
    rw [if_pos (by decide)] at hCD
    subst hCD
    have hnf : nameD s = false := by simpa using hn
    rw [hnf]
    clear hn hnf
    go_wp2_with fail
    go_ret
    exact ⟨rfl, DkOut.same ⟨_, _, _, _, _, H2.out⟩ HC2.out⟩
  rw [if_neg (by simpa using hn)] at hCE2
  subst hCE2
  rw [if_neg (by decide)] at hCD
  rw [hn]
  clear hn
  by_cases has : a = s
  · subst has
    rw [if_pos rfl] at hCD
    subst hCD
    go_wp2_with fail
    go_ret
    exact ⟨rfl, DkOut.same ⟨_, _, _, _, _, H2.out⟩ HC2.out⟩
  · rw [if_neg has] at hCD
    subst hCD
    have hne1 : (strB a == strB s) = false := by rw [strB_beq]; simpa using has
    have hne2 : (a == s) = false := by simpa using has
    have hch := HCH.out w2 HC02.out
    clear has HC02
    go_wp2_with fail
    refine (hch).mono ?_
    rintro e w3 ⟨rfl, h3⟩
    have HF := hd (h3.after HC2.out)
    clear hch h3
    go_wp2_with fail
    go_ret
    exact ⟨rfl, HF.out⟩
end Go.Proofs.Ytpoohpmcopjklaa

/- Disk.Copy. -/
namespace Go.Proofs.Ytpoohpmcopjklaa
open Go.RowKit

variable {w : World} {fp : List Nat} {b : Nat} {fv cv : Value} {nb sb : Nat} {hs : List HF} {d : Dsk}

theorem undFiles : Try.prog.underlying 82 = some (.slice 94) := by kernel_rfl
theorem undChs2 : Try.prog.underlying 83 = some (.slice 99) := by kernel_rfl

set_option maxHeartbeats 400000 in
theorem CloneF_any (w : World) (v : Value) (n : Nat) (xs : List Value) (hv : Rd w 2 v n xs) (h1 : ∀ u ∈ xs, u.oneCell' = true) (hl : n ≤ 100000000000) :
    Calls Try.prog 63 #[v] w fun e w' => ∃ ao c, e = .returned (.slice ao n c) ∧ w'.ownsRow w.heap.size 94 2 (.slice ao n c) n xs ∧ Chg [] w w' := by
  obtain ⟨hx, ao, cap, b, off, rfl, -, -, hn, -, -⟩ := id hv
  rcases ao with _ | a
  · obtain ⟨rfl, rfl⟩ := hn rfl
    obtain rfl : xs = [] := List.length_eq_zero_iff.1 (by simpa using hx)
    clear hn hv hl h1 hx
    have hq := fun w => Lib.run_eql_slice_nil (P := Try.prog) w 82 94 none 0 0 0 0 undFiles
    go_enter Try.func63, Try.ntmps63
    go_wp2_with fail
    refine bodyPost_ret (v := .slice none 0 0) ?_ rfl ⟨none, 0, rfl, World.ownsRow_nil _ _ _ _, Chg.refl _ _⟩
    simp only [results]; go_simp
  · have hB : (w.alloc (.cells #[] 94)).ownsRow w.heap.size 94 2 (.slice (some ⟨w.heap.size, 0, none⟩) 0 0) 0 [] := World.ownsRow_lit w #[] 0 (Nat.le_refl _) (by decide) rfl
    have hv1 := Rd.keep hv ((Chg.refl [] w).alloc (.cells #[] 94)) (by simp)
    clear hn hv hx
    have hq := fun w => Lib.run_eql_slice_nil (P := Try.prog) w 82 94 (some a) n cap 0 0 undFiles
    go_enter Try.func63, Try.ntmps63
    go_wp2_with (at_builtin; refine wpApp rowFile rfl _ _ rfl w.heap.size _ 0 [] rfl hB _ n xs rfl hv1 h1 (by omega) (by omega) (by simp) ?_; intro ao1 c1 w1 k1 k2 k3 _)
    have hc : Chg [] w w1 := ((Chg.refl [] w).alloc _).ownGrow hB k2 (Nat.le_refl _)
    simp only [List.nil_append, Nat.zero_add] at k1 ⊢
    refine bodyPost_ret (v := .slice ao1 n c1) ?_ rfl ⟨ao1, c1, rfl, k1, hc⟩
    simp only [results]; go_simp
set_option maxHeartbeats 400000 in
theorem CloneC_any (w : World) (v : Value) (n : Nat) (xs : List Value) (hv : Rd w 3 v n xs) (h1 : ∀ u ∈ xs, u.oneCell' = true) (hl : n ≤ 100000000000) :
    Calls Try.prog 64 #[v] w fun e w' => ∃ ao c, e = .returned (.slice ao n c) ∧ w'.ownsRow w.heap.size 99 3 (.slice ao n c) n xs ∧ Chg [] w w' := by
  obtain ⟨hx, ao, cap, b, off, rfl, -, -, hn, -, -⟩ := id hv
  rcases ao with _ | a
  · obtain ⟨rfl, rfl⟩ := hn rfl
    obtain rfl : xs = [] := List.length_eq_zero_iff.1 (by simpa using hx)
    clear hn hv hl h1 hx
    have hq := fun w => Lib.run_eql_slice_nil (P := Try.prog) w 83 99 none 0 0 0 0 undChs2
    go_enter Try.func64, Try.ntmps64
    go_wp2_with fail
    refine bodyPost_ret (v := .slice none 0 0) ?_ rfl ⟨none, 0, rfl, World.ownsRow_nil _ _ _ _, Chg.refl _ _⟩
    simp only [results]; go_simp
  · have hB : (w.alloc (.cells #[] 99)).ownsRow w.heap.size 99 3 (.slice (some ⟨w.heap.size, 0, none⟩) 0 0) 0 [] := World.ownsRow_lit w #[] 0 (Nat.le_refl _) (by decide) rfl
    have hv1 := Rd.keep hv ((Chg.refl [] w).alloc (.cells #[] 99)) (by simp)
    clear hn hv hx
    have hq := fun w => Lib.run_eql_slice_nil (P := Try.prog) w 83 99 (some a) n cap 0 0 undChs2
    go_enter Try.func64, Try.ntmps64
    go_wp2_with (at_builtin; refine wpApp rowCh rfl _ _ rfl w.heap.size _ 0 [] rfl hB _ n xs rfl hv1 h1 (by omega) (by omega) (by simp) ?_; intro ao1 c1 w1 k1 k2 k3 _)
    have hc : Chg [] w w1 := ((Chg.refl [] w).alloc _).ownGrow hB k2 (Nat.le_refl _)
    simp only [List.nil_append, Nat.zero_add] at k1 ⊢
    refine bodyPost_ret (v := .slice ao1 n c1) ?_ rfl ⟨ao1, c1, rfl, k1, hc⟩
    simp only [results]; go_simp
theorem fileCells_one (h : ∀ f ∈ hs, ∃ ao n c, f.1 = .slice ao n c) : ∀ u ∈ fileCells hs, u.oneCell' = true := by
  induction hs with
  | nil => simp [fileCells]
  | cons f l ih =>
    obtain ⟨ao, n, c, e⟩ := h f (by simp)
    intro u hu
    simp only [fileCells, List.mem_cons] at hu
    rcases hu with rfl | rfl | hu
    · rw [e]; rfl
    · rfl
    · exact ih (fun g hg => h g (by simp [hg])) u hu
theorem chCells_one : ∀ (l : List (List UInt8 × List UInt8 × Nat)), ∀ u ∈ chCells l, u.oneCell' = true
  | [] => by simp [chCells]
  | c :: l => by
    intro u hu
    simp only [chCells, List.mem_cons] at hu
    rcases hu with rfl | rfl | rfl | hu
    · rfl
    · rfl
    · rfl
    · exact chCells_one l u hu

theorem copy_row {hn : List HF} {i : Nat} (hl : hn.length = i) (hi : i < hs.length) (v : Value) :
    (fileCells (hn ++ hs.drop i)).set (i * 2) v = fileCells ((hn ++ [(v, hs[i].2.1, hs[i].2.2)]) ++ hs.drop (i + 1)) := by
  have hd : hs.drop i = hs[i] :: hs.drop (i + 1) := List.drop_eq_getElem_cons hi
  have hlt : i < (hn ++ hs.drop i).length := by rw [List.length_append, List.length_drop]; omega
  have hget : (hn ++ hs.drop i)[i] = hs[i] := by
    rw [List.getElem_append_right (by omega)]
    simp [hl]
  have := fileCells_set_eq hlt v (hs[i].2.1)
  rw [hget] at this
  rw [← this]
  congr 1
  rw [List.set_append_right i _ (by omega), hl, Nat.sub_self, hd, List.set_cons_zero, List.append_assoc]
  rfl
theorem fileCells_at {hn : List HF} {i : Nat} (hl : hn.length = i) (hi : i < hs.length) : (fileCells (hn ++ hs.drop i))[i * 2]? = some hs[i].1 := by
  have hlt : i < (hn ++ hs.drop i).length := by rw [List.length_append, List.length_drop]; omega
  have hget : (hn ++ hs.drop i)[i] = hs[i] := by
    rw [List.getElem_append_right (by omega)]
    simp [hl]
  rw [(fileCells_get _ i hlt).1, hget]

/-- Behind Copy: another disk alike, in new blocks; the elder world is as it was. -/
def CopyOut (w : World) (d : Dsk) (e : Ending) (w' : World) : Prop := ∃ b' fp', e = .returned (.pointer (some ⟨b', 0, none⟩)) ∧ Dk w' fp' b' d ∧ Chg [] w w' ∧ ∀ k ∈ fp', w.heap.size ≤ k

theorem copy_fin {wr w6 : World} {hn : List HF} {ao1 : Option Addr} {c1 : Nat} {ao6 : Option Addr} {c6 nb2 sb2 : Nat} (hgood : GoodD d) (S1 : hn.map (·.2) = d.files) (S2 : ∀ f ∈ hn, OwB wr w.heap.size f.1 f.2.1) (S3 : hn.Pairwise ApartV)
    (S4 : wr.ownsRow w.heap.size 94 2 (.slice ao1 hn.length c1) hn.length (fileCells hn)) (S5 : Blk wr w.heap.size (boxCells (.slice ao1 hn.length c1) cv nb sb d) 85) (S6 : Chg [] w wr)
    (h6 : Chg [] wr w6) (m1 : MapAt w6 nb2 d.names) (m2 : MapAt w6 sb2 d.sure) (hne : nb2 ≠ sb2) (g1 : wr.heap.size ≤ nb2) (g2 : wr.heap.size ≤ sb2) (r6 : w6.ownsRow wr.heap.size 99 3 (.slice ao6 d.changes.length c6) d.changes.length (chCells d.changes)) :
    CopyOut w d (.returned (.pointer (some ⟨w.heap.size, 0, none⟩))) (((w6.setCell ⟨w.heap.size, 2, none⟩ (.map (some nb2))).setCell ⟨w.heap.size, 3, none⟩ (.map (some sb2))).setCell ⟨w.heap.size, 4, none⟩ (.slice ao6 d.changes.length c6)) := by
  have bx := S5.k h6
  have hbox : Blk (((w6.setCell ⟨w.heap.size, 2, none⟩ (.map (some nb2))).setCell ⟨w.heap.size, 3, none⟩ (.map (some sb2))).setCell ⟨w.heap.size, 4, none⟩ (.slice ao6 d.changes.length c6)) w.heap.size (boxCells (.slice ao1 hn.length c1) (.slice ao6 d.changes.length c6) nb2 sb2 d) 85 :=
    ((bx.set 2 _).set 3 _).set 4 _
  have hch : Chg [w.heap.size] w6 (((w6.setCell ⟨w.heap.size, 2, none⟩ (.map (some nb2))).setCell ⟨w.heap.size, 3, none⟩ (.map (some sb2))).setCell ⟨w.heap.size, 4, none⟩ (.slice ao6 d.changes.length c6)) :=
    (((Chg.refl _ _).setCell _ _ (by simp)).setCell _ _ (by simp)).setCell _ _ (by simp)
  generalize ((w6.setCell ⟨w.heap.size, 2, none⟩ (.map (some nb2))).setCell ⟨w.heap.size, 3, none⟩ (.map (some sb2))).setCell ⟨w.heap.size, 4, none⟩ (.slice ao6 d.changes.length c6) = W at *
  have z1 := S6.size
  have z2 := h6.size
  have z3 := hch.size
  have hall : ∀ k ∈ w.heap.size :: nb2 :: sb2 :: ((Value.slice ao1 hn.length c1).ownBlock.toList ++ ((Value.slice ao6 d.changes.length c6).ownBlock.toList ++ hn.flatMap fun f => f.1.ownBlock.toList)), w.heap.size ≤ k ∧ k < W.heap.size := by
    intro k hk
    simp only [List.mem_cons, List.mem_append, List.mem_flatMap, Option.mem_toList] at hk
    rcases hk with rfl | rfl | rfl | hk | hk | ⟨f, hf, hk⟩
    · exact ⟨Nat.le_refl _, Nat.lt_of_lt_of_le bx.lt z3⟩
    · exact ⟨by omega, Nat.lt_of_lt_of_le m1.lt z3⟩
    · exact ⟨by omega, Nat.lt_of_lt_of_le m2.lt z3⟩
    · have := World.ownsRow.lt S4 k hk; exact ⟨this.1, by omega⟩
    · have := World.ownsRow.lt r6 k hk; exact ⟨by omega, by omega⟩
    · have := (S2 f hf).lo k hk; exact ⟨this.1, by omega⟩
  refine ⟨w.heap.size, _, rfl, ⟨.slice ao1 hn.length c1, .slice ao6 d.changes.length c6, nb2, sb2, hn, ?_⟩, (S6.k h6).trans hch (by simp), fun k hk => (hall k hk).1⟩
  exact
  { box := hbox
    names := m1.chg hch (by simpa using m1.apart bx)
    sure := m2.chg hch (by simpa using m2.apart bx)
    files := ownsRow_mono (ownsRow_chg (ownsRow_k S4 h6) hch fun k hk => by have := ownsRow_apart (ownsRow_k S4 h6) bx (by decide); rw [hk] at this; simpa using this) (Nat.zero_le _)
    same := S1
    changes := ownsRow_mono (ownsRow_chg r6 hch fun k hk => by have := ownsRow_apart r6 bx (by decide); rw [hk] at this; simpa using this) (Nat.zero_le _)
    bytes := fun f hf => (OwB.chg ((S2 f hf).k h6) hch fun k hk => by have := ownsRow_apart ((S2 f hf).k h6) bx (by decide); rw [hk] at this; simpa using this).mono (Nat.zero_le _)
    apart := S3
    ne := hne
    fpb := by simp
    fpn := by simp
    fps := by simp
    fpf := fun k hk => by simp [hk]
    fpc := fun k hk => by simp [hk]
    fph := fun f hf k hk => by
      simp only [List.mem_cons, List.mem_append, List.mem_flatMap, Option.mem_toList]
      exact .inr (.inr (.inr (.inr (.inr ⟨f, hf, hk⟩))))
    fpl := fun k hk => (hall k hk).2
    good := hgood }

set_option maxHeartbeats 2000000 in
theorem Copy_any (h : Dk w fp b d) : Calls Try.prog 39 #[.pointer (some ⟨b, 0, none⟩)] w (CopyOut w d) := by
  obtain ⟨fv, cv, nb, sb, hs, h⟩ := h
  have hfl : (hs.length : Int) ≤ d.ops := by rw [h.len]; exact h.good.nfiles
  have hnc : (d.sure.length + d.changes.length : Int) ≤ d.ops := h.good.nchanges
  have hol : d.ops ≤ 1073741824 := h.good.ops.2
  have hone : ∀ u ∈ fileCells hs, u.oneCell' = true := fileCells_one fun f hf => by obtain ⟨ao, c, e⟩ := (h.bytes f hf).form; exact ⟨ao, _, c, e⟩
  obtain ⟨aof, cf, rfl⟩ : ∃ ao c, fv = .slice ao hs.length c := by
    rcases h.files.2 with ⟨rfl, hz⟩ | ⟨g, cap, cur, rfl, _⟩
    · exact ⟨none, 0, by rw [hz]⟩
    · exact ⟨_, cap, rfl⟩
  obtain ⟨aoc, cc, rfl⟩ : ∃ ao c, cv = .slice ao d.changes.length c := by
    rcases h.changes.2 with ⟨rfl, hz⟩ | ⟨g, cap, cur, rfl, _⟩
    · exact ⟨none, 0, by rw [hz]⟩
    · exact ⟨_, cap, rfl⟩
  have H := hd h
  have q0 := h.box.cell 0
  have q1 := h.box.cell 1
  have q2 := h.box.cell 2
  have q3 := h.box.cell 3
  have q4 := h.box.cell 4
  have q5 := h.box.cell 5
  have q6 := h.box.cell 6
  have q7 := h.box.cell 7
  have q8 := h.box.cell 8
  simp [boxCells] at q0 q1 q2 q3 q4 q5 q6 q7 q8
  clear h
  go_enter Try.func39, Try.ntmps39
  go_upto_region 2 with (fail)
  have kx0 := Blk.new w #[.int .i64 d.room, .slice aof hs.length cf, .map (some nb), .map (some sb), .slice aoc d.changes.length cc, .int .i64 d.ops, .int .i64 d.down, .int .i64 d.fail, .bool d.off] 85
  have hc := (Chg.refl [] w).alloc (.cells #[.int .i64 d.room, .slice aof hs.length cf, .map (some nb), .map (some sb), .slice aoc d.changes.length cc, .int .i64 d.ops, .int .i64 d.down, .int .i64 d.fail, .bool d.off] 85)
  generalize w.alloc (.cells #[.int .i64 d.room, .slice aof hs.length cf, .map (some nb), .map (some sb), .slice aoc d.changes.length cc, .int .i64 d.ops, .int .i64 d.down, .int .i64 d.fail, .bool d.off] 85) = w0 at *
  have kx : Blk w0 w.heap.size (boxCells (.slice aof hs.length cf) (.slice aoc d.changes.length cc) nb sb d) 85 := kx0
  have p1 := hc.cellS q1
  have hcl := CloneF_any w0 (.slice aof hs.length cf) hs.length (fileCells hs) (Rd.ofOwn (ownsRow_k H.out.files hc)) hone (by omega)
  clear kx0 q0 q1 q2 q3 q4 q5 q6 q7 q8 hone
  go_wp2_with fail
  refine (hcl).mono ?_
  rintro e w1 ⟨ao1, c1, rfl, hr1, hc1⟩
  have kx1 := kx.k hc1
  have e1 := kx1.cell 1
  have f1 := kx1.free 1
  simp [boxCells] at e1
  have kx2 : Blk (w1.setCell ⟨w.heap.size, 1, none⟩ (.slice ao1 hs.length c1)) w.heap.size (boxCells (.slice ao1 hs.length c1) (.slice aoc d.changes.length cc) nb sb d) 85 := kx1.set 1 _
  have hr2 := ownsRow_set hr1 kx1 (by decide) 1 (.slice ao1 hs.length c1)
  have hc2 : Chg [] w (w1.setCell ⟨w.heap.size, 1, none⟩ (.slice ao1 hs.length c1)) := (hc.k hc1).setCell _ _ (fun h => absurd h (Nat.lt_irrefl _))
  have hz0 := hc.size
  have hr2' := ownsRow_mono hr2 hz0
  clear kx kx1 hcl hc hc1 p1 hr1 hr2
  go_upto_region 3 with (fail)
  clear e1 f1
  generalize w1.setCell ⟨w.heap.size, 1, none⟩ (.slice ao1 hs.length c1) = w2 at *
  have e1 := kx2.cell 1
  simp [boxCells] at e1
  go_wp2_with fail
  clear e1
  go_loopw [4, 17] (fun _ t17 wr => ∃ (i : Nat) (hn : List HF), i ≤ hs.length ∧ t17 = .int .i64 i ∧ hn.length = i ∧ Hd (hn.map (·.2) = (hs.take i).map (·.2)) ∧ Hd (∀ f ∈ hn, OwB wr w.heap.size f.1 f.2.1) ∧ Hd (hn.Pairwise ApartV) ∧
      Hd (wr.ownsRow w.heap.size 94 2 (.slice ao1 hs.length c1) hs.length (fileCells (hn ++ hs.drop i))) ∧ Hd (Blk wr w.heap.size (boxCells (.slice ao1 hs.length c1) (.slice aoc d.changes.length cc) nb sb d) 85) ∧ Hd (Chg [] w wr))
    (fun _ t17 _ => hs.length - (intOf t17).toNat)
  case atStart => exact ⟨0, [], by omega, rfl, rfl, hd (by simp), hd (by simp), hd (by simp), hd (by simpa using hr2'), hd kx2, hd hc2⟩
  case round =>
    obtain ⟨i, hn, hi, rfl, hnl, S1, S2, S3, S4, S5, S6⟩ := hrel
    by_cases hlt : i < hs.length
    · obtain ⟨g, hg⟩ : ∃ g, ao1 = some ⟨g, 0, none⟩ := by
        rcases S4.out.2 with ⟨e, hz⟩ | ⟨g, cap, cur, e, _⟩
        · omega
        · simp only [Value.slice.injEq] at e; exact ⟨g, e.1⟩
      subst hg
      have hlti : (i : Int) < (hs.length : Int) := by omega
      have hby := H.out.bytes _ (List.getElem_mem hlt)
      obtain ⟨aok, ck, hv⟩ := hby.form
      have hat := fileCells_at hnl hlt
      have hrow := copy_row hnl hlt
      have hgf := (H.out.good.files hs[i].2 (by rw [← H.out.same]; exact List.mem_map.2 ⟨_, List.getElem_mem hlt, rfl⟩)).2.2
      have htk : (hs.take (i + 1)).map (·.2) = (hs.take i).map (·.2) ++ [hs[i].2] := by rw [List.take_succ_eq_append_getElem hlt, List.map_append]; rfl
      have hcell := World.ownsRow.cellAt S4.out (i * 2) (by omega)
      rw [hat, hv] at hcell
      rw [hv] at hby
      generalize hs[i]'hlt = X at *
      obtain ⟨Xv, Xb, Xs⟩ := X
      simp only at hv hby hcell hgf htk hrow
      have HTK := hd htk
      have HROW := hd hrow
      have E8 := hd hcell
      have e1 := S5.out.cell 1
      simp [boxCells] at e1
      have E1 := hd e1
      have F8 := hd (World.ownsRow.frozenAt S4.out (i * 2))
      have HBS := hd ((hby.bs).k S6.out)
      have NB : w.heap.size ∉ [g] := by
        have := ownsRow_apart S4.out S5.out (by decide)
        simpa [Value.ownBlock] using fun e => this (by simp [Value.ownBlock, e])
      have hglt := (World.ownsRow.lt S4.out g rfl).2
      clear hby hv hat hrow htk hcell e1
      go_upto_region 6 with (fail)
      refine anyH_start (n := 13) (L := #[false, false, false, false, false, false, false, false, false, false, false, false, false]) (by kernel_rfl) (by kernel_rfl) (S := (fun wx => Chg [g] wr wx)) ((Chg.refl _ _).drew) (fun hHeld => ?_)
      refine anyH_take (i := 0) (d := 20) (L' := #[true, false, false, false, false, false, false, false, false, false, false, false, false]) (v := ?v3) rfl rfl (by kernel_rfl) (fun _ _ _ h => h) (by rfl) ?hy3 (by assumption) ?rest3
      case hy3 => (intro wx hSw; (try dsimp only at hSw); (have t1 := hSw.cellT E1.out NB); go_simp; (try with_reducible rfl))
      simp only [Act.put, List.setIfInBounds_toArray, List.set_cons_zero, List.set_cons_succ]
      refine anyH_take (i := 1) (d := 21) (L' := #[true, true, false, false, false, false, false, false, false, false, false, false, false]) (v := ?v4) rfl rfl (by kernel_rfl) (fun _ _ _ h => h) (by rfl) ?hy4 (by assumption) ?rest4
      case hy4 => (intro wx hSw; (try dsimp only at hSw); (have t1 := hSw.cellT E1.out NB); go_simp; (try with_reducible rfl))
      simp only [Act.put, List.setIfInBounds_toArray, List.set_cons_zero, List.set_cons_succ]
      refine anyH_take (i := 2) (d := 22) (L' := #[true, true, true, false, false, false, false, false, false, false, false, false, false]) (v := ?v5) rfl rfl (by kernel_rfl) (fun _ _ _ h => h) (by rfl) ?hy5 (by assumption) ?rest5
      case hy5 => (intro wx hSw; (try dsimp only at hSw); (have t1 := hSw.cellT E1.out NB); go_simp; (try with_reducible rfl))
      simp only [Act.put, List.setIfInBounds_toArray, List.set_cons_zero, List.set_cons_succ]
      refine anyH_take (i := 3) (d := 23) (L' := #[true, true, true, true, false, false, false, false, false, false, false, false, false]) (v := ?v6) rfl rfl (by kernel_rfl) (fun _ _ _ h => h) (by rfl) ?hy6 (by assumption) ?rest6
      case hy6 => (intro wx hSw; (try dsimp only at hSw); (have t1 := hSw.cellT E1.out NB); go_simp; (try with_reducible rfl))
      simp only [Act.put, List.setIfInBounds_toArray, List.set_cons_zero, List.set_cons_succ]
      refine anyH_take (i := 4) (d := 24) (L' := #[true, true, true, true, true, false, false, false, false, false, false, false, false]) (v := ?v7) rfl rfl (by kernel_rfl) (fun _ _ _ h => h) (by rfl) ?hy7 (by assumption) ?rest7
      case hy7 => (intro wx hSw; (try dsimp only at hSw); (have t1 := hSw.cellT E1.out NB); go_simp; (try with_reducible rfl))
      simp only [Act.put, List.setIfInBounds_toArray, List.set_cons_zero, List.set_cons_succ]
      refine anyH_take (i := 5) (d := 25) (L' := #[true, true, true, true, true, true, false, false, false, false, false, false, false]) (v := ?v8) rfl rfl (by kernel_rfl) (fun _ _ _ h => h) (by rfl) ?hy8 (by assumption) ?rest8
      case hy8 => (intro wx hSw; (try dsimp only at hSw); (have t1 := hSw.cellT E1.out NB); go_simp; (try with_reducible rfl))
      simp only [Act.put, List.setIfInBounds_toArray, List.set_cons_zero, List.set_cons_succ]
      refine anyH_take (i := 6) (d := 26) (L' := #[true, true, true, true, true, true, true, false, false, false, false, false, false]) (v := ?v9) rfl rfl (by kernel_rfl) (fun _ _ _ h => h) (by rfl) ?hy9 (by assumption) ?rest9
      case hy9 => (intro wx hSw; (try dsimp only at hSw); (have t1 := hSw.cellT E1.out NB); go_simp; (try with_reducible rfl))
      simp only [Act.put, List.setIfInBounds_toArray, List.set_cons_zero, List.set_cons_succ]
      refine anyH_take (i := 7) (d := 27) (L' := #[true, true, true, true, true, true, true, true, false, false, false, false, false]) (v := ?v10) rfl rfl (by kernel_rfl) (fun _ _ _ h => h) (by rfl) ?hy10 (by assumption) ?rest10
      case hy10 => (intro wx hSw; (try dsimp only at hSw); (have t1 := hSw.cellT E1.out NB); go_simp; (try with_reducible rfl))
      simp only [Act.put, List.setIfInBounds_toArray, List.set_cons_zero, List.set_cons_succ]
      refine anyH_run (i := 8) (L' := #[true, true, true, true, true, true, true, true, true, false, false, false, false]) rfl (by kernel_rfl) (by rfl) (fun KK hKK => ?_)
      (have t8 : wr.drew.cell? ⟨g, i * 2, none⟩ = _ := E8.out; go_simp)
      refine hKK.out _ _ (by assumption) (fun hHeld => ?_)
      clear hKK KK
      try simp only [Act.put, List.setIfInBounds_toArray, List.set_cons_zero, List.set_cons_succ]
      refine anyH_run (i := 9) (L' := #[true, true, true, true, true, true, true, true, true, true, false, false, false]) rfl (by kernel_rfl) (by rfl) (fun KK hKK => ?_)
      go_simp
      (refine (CloneB_any wr.drew _ Xb (HBS.out.k (Chg.refl [] wr).drew) (by omega)).mono ?_; rintro e w5 ⟨ao5, c5, rfl, hb5, hc5⟩; have hc5' := (Chg.refl [] wr).drew.k hc5; have hS5 : Chg [g] wr w5 := hc5'.mono (by simp); (try go_simp))
      refine hKK.out _ _ (by assumption) (fun hHeld => ?_)
      clear hKK KK
      try simp only [Act.put, List.setIfInBounds_toArray, List.set_cons_zero, List.set_cons_succ]
      refine anyH_take (i := 10) (d := 30) (L' := #[true, true, true, true, true, true, true, true, true, true, true, false, false]) (v := ?v13) rfl rfl (by kernel_rfl) (fun _ _ _ h => h) (by rfl) ?hy13 (by assumption) ?rest13
      case hy13 => (intro wx hSw; (try dsimp only at hSw); (have t1 := hSw.cellT E1.out NB); go_simp; (try with_reducible rfl))
      simp only [Act.put, List.setIfInBounds_toArray, List.set_cons_zero, List.set_cons_succ]
      refine anyH_take (i := 11) (d := 31) (L' := #[true, true, true, true, true, true, true, true, true, true, true, true, false]) (v := ?v14) rfl rfl (by kernel_rfl) (fun _ _ _ h => h) (by rfl) ?hy14 (by assumption) ?rest14
      case hy14 => (intro wx hSw; (try dsimp only at hSw); (have t1 := hSw.cellT E1.out NB); go_simp; (try with_reducible rfl))
      simp only [Act.put, List.setIfInBounds_toArray, List.set_cons_zero, List.set_cons_succ]
      refine anyH_run (i := 12) (L' := #[true, true, true, true, true, true, true, true, true, true, true, true, true]) rfl (by kernel_rfl) (by rfl) (fun KK hKK => ?_)
      (have t8 := hc5'.cellS E8.out; have f8 := (hc5'.frozenS E8.out).trans F8.out; have hS6 := hS5.setCell (S := [g]) ⟨g, i * 2, none⟩ (.slice ao5 Xb.length c5) (by simp); go_simp)
      refine hKK.out _ _ (by assumption) (fun hHeld => ?_)
      clear hKK KK
      try simp only [Act.put, List.setIfInBounds_toArray, List.set_cons_zero, List.set_cons_succ]
      refine wpAnyH_done (by kernel_rfl) ?_ _
      have hrow5 := (World.ownsRow.stored (ownsRow_k S4.out hc5') (i * 2) (.slice ao5 Xb.length c5)).1
      have hg5 : g < w5.heap.size := Nat.lt_of_lt_of_le hglt hc5'.size
      have hz5 := hc5'.size
      have h5n : ∀ k, (Value.slice ao5 Xb.length c5).ownBlock = some k → k ∉ [g] := fun k hk => by have := (hb5.lo k hk).1; have : wr.heap.size ≤ k := this; simp; omega
      have T2 : Hd (∀ f ∈ hn ++ [(Value.slice ao5 Xb.length c5, Xb, Xs)], OwB (w5.setCell ⟨g, i * 2, none⟩ (.slice ao5 Xb.length c5)) w.heap.size f.1 f.2.1) := hd fun f hf => by
        rcases List.mem_append.1 hf with hf | hf
        · have h1 := (S2.out f hf).k hc5'
          exact ownsRow_setCell_other h1 (a := ⟨g, i * 2, none⟩) (fun e => ownsRow_ne2 h1 (ownsRow_k S4.out hc5') (by decide) g e rfl) _
        · obtain rfl : f = (Value.slice ao5 Xb.length c5, Xb, Xs) := by simpa using hf
          have h1 : OwB w5 w.heap.size (.slice ao5 Xb.length c5) Xb := hb5.mono (by have := S6.out.size; exact this)
          exact ownsRow_setCell_other h1 (a := ⟨g, i * 2, none⟩) (fun e => ownsRow_ne2 h1 (ownsRow_k S4.out hc5') (by decide) g e rfl) _
      have T3 : Hd ((hn ++ [(Value.slice ao5 Xb.length c5, Xb, Xs)]).Pairwise ApartV) := hd (by
        rw [List.pairwise_append]
        refine ⟨S3.out, by simp, fun f hf f2 hf2 k hk hk2 => ?_⟩
        obtain rfl : f2 = (Value.slice ao5 Xb.length c5, Xb, Xs) := by simpa using hf2
        have a1 := ((S2.out f hf).lo k hk).2
        have a2 : wr.heap.size ≤ k := (hb5.lo k hk2).1
        omega)
      have T5 : Hd (Blk (w5.setCell ⟨g, i * 2, none⟩ (.slice ao5 Xb.length c5)) w.heap.size (boxCells (.slice (some ⟨g, 0, none⟩) hs.length c1) (.slice aoc d.changes.length cc) nb sb d) 85) := hd ((S5.out.k hc5').other (by simpa using NB) _)
      have T6 : Hd (Chg [] w (w5.setCell ⟨g, i * 2, none⟩ (.slice ao5 Xb.length c5))) := hd ((S6.out.k hc5').setCell _ _ (fun hh => by have := (World.ownsRow.lt S4.out g rfl).1; simp only at hh; omega))
      rw [HROW.out] at hrow5
      have T4 := hd hrow5
      clear hrow5 hg5 h5n hb5 hc5 hc5' hS5 hHeld
      go_wp2_with fail
      go_roundw
      case rel => exact ⟨i + 1, hn ++ [(Value.slice ao5 Xb.length c5, Xb, Xs)], by omega, by go_num, by simp [hnl], hd (by rw [HTK.out, ← S1.out, List.map_append]; rfl), T2, T3, T4, T5, T6⟩
      case measure => simp [intOf]; omega
    · obtain rfl : i = hs.length := by omega
      have hbl : b < w.heap.size := H.out.box.lt
      have q2 := (H.out.k S6.out).box.cell 2
      have q3 := (H.out.k S6.out).box.cell 3
      have q4 := (H.out.k S6.out).box.cell 4
      simp [boxCells] at q2 q3 q4
      have Q2 := hd q2
      have Q3 := hd q3
      have Q4 := hd q4
      have s1 := S1.out
      rw [List.take_length, H.out.same] at s1
      have s4 := S4.out
      have s5 := S5.out
      rw [List.drop_length, List.append_nil, ← hnl] at s4
      rw [← hnl] at s5
      have NB : b ∉ [w.heap.size] := by simp; omega
      have HM := hd (H.out.k S6.out).names
      have HS := hd (H.out.k S6.out).sure
      have HC := hd (Rd.ofOwn (H.out.k S6.out).changes)
      have S1' := hd s1
      have S4' := hd s4
      have S5' := hd s5
      have HNL := hd hnl
      clear q2 q3 q4 s1 s4 s5 S1 S4 kx2 hr2' hnl
      go_upto_region 8 with (fail)
      refine anyH_start (n := 21) (L := #[false, false, false, false, false, false, false, false, false, false, false, false, false, false, false, false, false, false, false, false, false]) (by kernel_rfl) (by kernel_rfl) (S := (fun wx => Chg [w.heap.size] wr wx)) ((Chg.refl _ _).drew) (fun hHeld => ?_)
      refine anyH_take (i := 0) (d := 33) (L' := #[true, false, false, false, false, false, false, false, false, false, false, false, false, false, false, false, false, false, false, false, false]) (v := ?v18) rfl rfl (by kernel_rfl) (fun _ _ _ h => h) (by rfl) ?hy18 (by assumption) ?rest18
      case hy18 => (intro wx hSw; (try dsimp only at hSw); (have t2 := hSw.cellT Q2.out NB; have t3 := hSw.cellT Q3.out NB; have t4 := hSw.cellT Q4.out NB); go_simp; (try with_reducible rfl))
      simp only [Act.put, List.setIfInBounds_toArray, List.set_cons_zero, List.set_cons_succ]
      refine anyH_take (i := 1) (d := 34) (L' := #[true, true, false, false, false, false, false, false, false, false, false, false, false, false, false, false, false, false, false, false, false]) (v := ?v19) rfl rfl (by kernel_rfl) (fun _ _ _ h => h) (by rfl) ?hy19 (by assumption) ?rest19
      case hy19 => (intro wx hSw; (try dsimp only at hSw); (have t2 := hSw.cellT Q2.out NB; have t3 := hSw.cellT Q3.out NB; have t4 := hSw.cellT Q4.out NB); go_simp; (try with_reducible rfl))
      simp only [Act.put, List.setIfInBounds_toArray, List.set_cons_zero, List.set_cons_succ]
      refine anyH_take (i := 2) (d := 35) (L' := #[true, true, true, false, false, false, false, false, false, false, false, false, false, false, false, false, false, false, false, false, false]) (v := ?v20) rfl rfl (by kernel_rfl) (fun _ _ _ h => h) (by rfl) ?hy20 (by assumption) ?rest20
      case hy20 => (intro wx hSw; (try dsimp only at hSw); (have t2 := hSw.cellT Q2.out NB; have t3 := hSw.cellT Q3.out NB; have t4 := hSw.cellT Q4.out NB); go_simp; (try with_reducible rfl))
      simp only [Act.put, List.setIfInBounds_toArray, List.set_cons_zero, List.set_cons_succ]
      refine anyH_take (i := 3) (d := 36) (L' := #[true, true, true, true, false, false, false, false, false, false, false, false, false, false, false, false, false, false, false, false, false]) (v := ?v21) rfl rfl (by kernel_rfl) (fun _ _ _ h => h) (by rfl) ?hy21 (by assumption) ?rest21
      case hy21 => (intro wx hSw; (try dsimp only at hSw); (have t2 := hSw.cellT Q2.out NB; have t3 := hSw.cellT Q3.out NB; have t4 := hSw.cellT Q4.out NB); go_simp; (try with_reducible rfl))
      simp only [Act.put, List.setIfInBounds_toArray, List.set_cons_zero, List.set_cons_succ]
      refine anyH_take (i := 5) (d := 38) (L' := #[true, true, true, true, false, true, false, false, false, false, false, false, false, false, false, false, false, false, false, false, false]) (v := ?v22) rfl rfl (by kernel_rfl) (fun _ _ _ h => h) (by rfl) ?hy22 (by assumption) ?rest22
      case hy22 => (intro wx hSw; (try dsimp only at hSw); (have t2 := hSw.cellT Q2.out NB; have t3 := hSw.cellT Q3.out NB; have t4 := hSw.cellT Q4.out NB); go_simp; (try with_reducible rfl))
      simp only [Act.put, List.setIfInBounds_toArray, List.set_cons_zero, List.set_cons_succ]
      refine anyH_take (i := 6) (d := 39) (L' := #[true, true, true, true, false, true, true, false, false, false, false, false, false, false, false, false, false, false, false, false, false]) (v := ?v23) rfl rfl (by kernel_rfl) (fun _ _ _ h => h) (by rfl) ?hy23 (by assumption) ?rest23
      case hy23 => (intro wx hSw; (try dsimp only at hSw); (have t2 := hSw.cellT Q2.out NB; have t3 := hSw.cellT Q3.out NB; have t4 := hSw.cellT Q4.out NB); go_simp; (try with_reducible rfl))
      simp only [Act.put, List.setIfInBounds_toArray, List.set_cons_zero, List.set_cons_succ]
      refine anyH_take (i := 7) (d := 40) (L' := #[true, true, true, true, false, true, true, true, false, false, false, false, false, false, false, false, false, false, false, false, false]) (v := ?v24) rfl rfl (by kernel_rfl) (fun _ _ _ h => h) (by rfl) ?hy24 (by assumption) ?rest24
      case hy24 => (intro wx hSw; (try dsimp only at hSw); (have t2 := hSw.cellT Q2.out NB; have t3 := hSw.cellT Q3.out NB; have t4 := hSw.cellT Q4.out NB); go_simp; (try with_reducible rfl))
      simp only [Act.put, List.setIfInBounds_toArray, List.set_cons_zero, List.set_cons_succ]
      refine anyH_take (i := 8) (d := 41) (L' := #[true, true, true, true, false, true, true, true, true, false, false, false, false, false, false, false, false, false, false, false, false]) (v := ?v25) rfl rfl (by kernel_rfl) (fun _ _ _ h => h) (by rfl) ?hy25 (by assumption) ?rest25
      case hy25 => (intro wx hSw; (try dsimp only at hSw); (have t2 := hSw.cellT Q2.out NB; have t3 := hSw.cellT Q3.out NB; have t4 := hSw.cellT Q4.out NB); go_simp; (try with_reducible rfl))
      simp only [Act.put, List.setIfInBounds_toArray, List.set_cons_zero, List.set_cons_succ]
      refine anyH_take (i := 10) (d := 43) (L' := #[true, true, true, true, false, true, true, true, true, false, true, false, false, false, false, false, false, false, false, false, false]) (v := ?v26) rfl rfl (by kernel_rfl) (fun _ _ _ h => h) (by rfl) ?hy26 (by assumption) ?rest26
      case hy26 => (intro wx hSw; (try dsimp only at hSw); (have t2 := hSw.cellT Q2.out NB; have t3 := hSw.cellT Q3.out NB; have t4 := hSw.cellT Q4.out NB); go_simp; (try with_reducible rfl))
      simp only [Act.put, List.setIfInBounds_toArray, List.set_cons_zero, List.set_cons_succ]
      refine anyH_take (i := 11) (d := 44) (L' := #[true, true, true, true, false, true, true, true, true, false, true, true, false, false, false, false, false, false, false, false, false]) (v := ?v27) rfl rfl (by kernel_rfl) (fun _ _ _ h => h) (by rfl) ?hy27 (by assumption) ?rest27
      case hy27 => (intro wx hSw; (try dsimp only at hSw); (have t2 := hSw.cellT Q2.out NB; have t3 := hSw.cellT Q3.out NB; have t4 := hSw.cellT Q4.out NB); go_simp; (try with_reducible rfl))
      simp only [Act.put, List.setIfInBounds_toArray, List.set_cons_zero, List.set_cons_succ]
      refine anyH_take (i := 12) (d := 45) (L' := #[true, true, true, true, false, true, true, true, true, false, true, true, true, false, false, false, false, false, false, false, false]) (v := ?v28) rfl rfl (by kernel_rfl) (fun _ _ _ h => h) (by rfl) ?hy28 (by assumption) ?rest28
      case hy28 => (intro wx hSw; (try dsimp only at hSw); (have t2 := hSw.cellT Q2.out NB; have t3 := hSw.cellT Q3.out NB; have t4 := hSw.cellT Q4.out NB); go_simp; (try with_reducible rfl))
      simp only [Act.put, List.setIfInBounds_toArray, List.set_cons_zero, List.set_cons_succ]
      refine anyH_take (i := 13) (d := 46) (L' := #[true, true, true, true, false, true, true, true, true, false, true, true, true, true, false, false, false, false, false, false, false]) (v := ?v29) rfl rfl (by kernel_rfl) (fun _ _ _ h => h) (by rfl) ?hy29 (by assumption) ?rest29
      case hy29 => (intro wx hSw; (try dsimp only at hSw); (have t2 := hSw.cellT Q2.out NB; have t3 := hSw.cellT Q3.out NB; have t4 := hSw.cellT Q4.out NB); go_simp; (try with_reducible rfl))
      simp only [Act.put, List.setIfInBounds_toArray, List.set_cons_zero, List.set_cons_succ]
      refine anyH_run (i := 4) (L' := #[true, true, true, true, true, true, true, true, true, false, true, true, true, true, false, false, false, false, false, false, false]) rfl (by kernel_rfl) (by rfl) (fun KK hKK => ?_)
      go_simp
      (refine (CloneM_any wr.drew nb d.names (HM.out.k (Chg.refl [] wr).drew)).mono ?_; rintro e w4 ⟨rfl, hm4, hc4⟩; have k4 := (Chg.refl [] wr).drew.k hc4; have hS4 : Chg [w.heap.size] wr w4 := k4.mono (by simp); (try go_simp))
      refine hKK.out _ _ (by assumption) (fun hHeld => ?_)
      clear hKK KK
      try simp only [Act.put, List.setIfInBounds_toArray, List.set_cons_zero, List.set_cons_succ]
      refine anyH_run (i := 9) (L' := #[true, true, true, true, true, true, true, true, true, true, true, true, true, true, false, false, false, false, false, false, false]) rfl (by kernel_rfl) (by rfl) (fun KK hKK => ?_)
      go_simp
      (refine (CloneM_any w4 sb d.sure (HS.out.k k4)).mono ?_; rintro e w5 ⟨rfl, hm5, hc5⟩; have k5 := k4.k hc5; have hS5 : Chg [w.heap.size] wr w5 := k5.mono (by simp); (try go_simp))
      refine hKK.out _ _ (by assumption) (fun hHeld => ?_)
      clear hKK KK
      try simp only [Act.put, List.setIfInBounds_toArray, List.set_cons_zero, List.set_cons_succ]
      refine anyH_run (i := 14) (L' := #[true, true, true, true, true, true, true, true, true, true, true, true, true, true, true, false, false, false, false, false, false]) rfl (by kernel_rfl) (by rfl) (fun KK hKK => ?_)
      go_simp
      (refine (CloneC_any w5 _ d.changes.length (chCells d.changes) (Rd.keep HC.out k5 (by simp)) (chCells_one _) (by omega)).mono ?_; rintro e w6 ⟨ao6, c6, rfl, hr6, hc6⟩; have k6 := k5.k hc6; have hS6 : Chg [w.heap.size] wr w6 := k6.mono (by simp); (try go_simp))
      refine hKK.out _ _ (by assumption) (fun hHeld => ?_)
      clear hKK KK
      try simp only [Act.put, List.setIfInBounds_toArray, List.set_cons_zero, List.set_cons_succ]
      refine anyH_take (i := 15) (d := 48) (L' := #[true, true, true, true, true, true, true, true, true, true, true, true, true, true, true, true, false, false, false, false, false]) (v := ?v33) rfl rfl (by kernel_rfl) (fun _ _ _ h => h) (by rfl) ?hy33 (by assumption) ?rest33
      case hy33 => (intro wx hSw; (try dsimp only at hSw); (have t2 := hSw.cellT Q2.out NB; have t3 := hSw.cellT Q3.out NB; have t4 := hSw.cellT Q4.out NB); go_simp; (try with_reducible rfl))
      simp only [Act.put, List.setIfInBounds_toArray, List.set_cons_zero, List.set_cons_succ]
      refine anyH_run (i := 16) (L' := #[true, true, true, true, true, true, true, true, true, true, true, true, true, true, true, true, true, false, false, false, false]) rfl (by kernel_rfl) (by rfl) (fun KK hKK => ?_)
      (have bx := S5.out.k k6; have e2 := bx.cell 2; have f2 := bx.free 2; simp [boxCells] at e2; have hS7 := hS6.setCell (S := [w.heap.size]) ⟨w.heap.size, 2, none⟩ (.map (some wr.drew.heap.size)) (by simp); have bx2 := bx.set 2 (.map (some wr.drew.heap.size)); go_simp)
      refine hKK.out _ _ (by assumption) (fun hHeld => ?_)
      clear hKK KK
      try simp only [Act.put, List.setIfInBounds_toArray, List.set_cons_zero, List.set_cons_succ]
      refine anyH_take (i := 17) (d := 49) (L' := #[true, true, true, true, true, true, true, true, true, true, true, true, true, true, true, true, true, true, false, false, false]) (v := ?v35) rfl rfl (by kernel_rfl) (fun _ _ _ h => h) (by rfl) ?hy35 (by assumption) ?rest35
      case hy35 => (intro wx hSw; (try dsimp only at hSw); (have t2 := hSw.cellT Q2.out NB; have t3 := hSw.cellT Q3.out NB; have t4 := hSw.cellT Q4.out NB); go_simp; (try with_reducible rfl))
      simp only [Act.put, List.setIfInBounds_toArray, List.set_cons_zero, List.set_cons_succ]
      refine anyH_run (i := 18) (L' := #[true, true, true, true, true, true, true, true, true, true, true, true, true, true, true, true, true, true, true, false, false]) rfl (by kernel_rfl) (by rfl) (fun KK hKK => ?_)
      (have e3 := bx2.cell 3; have f3 := bx2.free 3; have g3 := bx.free 3; simp [boxCells] at e3; have hS8 := hS7.setCell (S := [w.heap.size]) ⟨w.heap.size, 3, none⟩ (.map (some w4.heap.size)) (by simp); have bx3 := bx2.set 3 (.map (some w4.heap.size)); go_simp)
      refine hKK.out _ _ (by assumption) (fun hHeld => ?_)
      clear hKK KK
      try simp only [Act.put, List.setIfInBounds_toArray, List.set_cons_zero, List.set_cons_succ]
      refine anyH_take (i := 19) (d := 50) (L' := #[true, true, true, true, true, true, true, true, true, true, true, true, true, true, true, true, true, true, true, true, false]) (v := ?v37) rfl rfl (by kernel_rfl) (fun _ _ _ h => h) (by rfl) ?hy37 (by assumption) ?rest37
      case hy37 => (intro wx hSw; (try dsimp only at hSw); (have t2 := hSw.cellT Q2.out NB; have t3 := hSw.cellT Q3.out NB; have t4 := hSw.cellT Q4.out NB); go_simp; (try with_reducible rfl))
      simp only [Act.put, List.setIfInBounds_toArray, List.set_cons_zero, List.set_cons_succ]
      refine anyH_run (i := 20) (L' := #[true, true, true, true, true, true, true, true, true, true, true, true, true, true, true, true, true, true, true, true, true]) rfl (by kernel_rfl) (by rfl) (fun KK hKK => ?_)
      (have e4 := bx3.cell 4; have f4 := bx3.free 4; have g4 := bx.free 4; simp [boxCells] at e4; have hS9 := hS8.setCell (S := [w.heap.size]) ⟨w.heap.size, 4, none⟩ (.slice ao6 d.changes.length c6) (by simp); go_simp)
      refine hKK.out _ _ (by assumption) (fun hHeld => ?_)
      clear hKK KK
      try simp only [Act.put, List.setIfInBounds_toArray, List.set_cons_zero, List.set_cons_succ]
      refine wpAnyH_done (by kernel_rfl) ?_ _
      have FIN := hd (copy_fin H.out.good S1'.out S2.out S3.out S4'.out S5'.out S6.out k6 (hm4.k (hc5.k hc6)) (hm5.k hc6) (Nat.ne_of_lt hm4.lt) (Nat.le_refl wr.heap.size) k4.size (ownsRow_mono hr6 k5.size))
      clear hS9 hHeld e4 f4 g4 bx3 hS8 e3 f3 g3 bx2 hS7 e2 f2 bx hS6 k6 hr6 hc6 hS5 k5 hm5 hc5 hS4 k4 hm4 hc4
      go_wp2_with fail
      go_ret
      exact FIN.out
end Go.Proofs.Ytpoohpmcopjklaa

/- crc.Bend: bits turned round. -/
namespace Go.Proofs.Ytpoohpmcopjklaa
open Go.RowKit

def bendStep (at_ : Int) (mask : UInt32) (l : List UInt8) (k : Nat) : List UInt8 :=
  if mask >>> UInt32.ofNat k &&& 1 = 1 ∧ 0 ≤ at_ + k ∧ (at_ + k) / 8 < l.length then l.set ((at_ + k) / 8).toNat (l.getD ((at_ + k) / 8).toNat 0 ^^^ ((1 : UInt8) <<< UInt8.ofNat ((at_ + k) % 8).toNat)) else l
def bendB (l : List UInt8) (at_ : Int) (mask : UInt32) : List UInt8 := (List.range 32).foldl (bendStep at_ mask) l
@[simp] theorem bendStep_length (at_ : Int) (mask : UInt32) (l : List UInt8) (k : Nat) : (bendStep at_ mask l k).length = l.length := by
  unfold bendStep; split <;> simp
theorem bendFold_length (at_ : Int) (mask : UInt32) (ks : List Nat) (l : List UInt8) : (ks.foldl (bendStep at_ mask) l).length = l.length := by
  induction ks generalizing l with
  | nil => rfl
  | cons k ks ih => rw [List.foldl_cons, ih, bendStep_length]
theorem bendB_length (l : List UInt8) (at_ : Int) (mask : UInt32) : (bendB l at_ mask).length = l.length := bendFold_length _ _ _ _
theorem range_snoc (n : Nat) : List.range (n + 1) = List.range n ++ [n] := List.range_succ

theorem u32_div_k (a : UInt32) (j : Nat) (hj : j < 32) : n32 a / 2 ^ j = n32 (a >>> UInt32.ofNat j) := by
  unfold n32; rw [UInt32.toNat_shiftRight]
  simp [Nat.mod_eq_of_lt (show j < 2 ^ 32 by omega), Nat.mod_eq_of_lt hj, Nat.shiftRight_eq_div_pow]

section
attribute [local go_sem] u32_and_1 and7 u8_xor'
set_option maxHeartbeats 800000 in
theorem Bend_any (v : Value) (l : List UInt8) (at_ : Int) (mask : UInt32) (w : World) (hl : Bs w v l) (h1 : -4611686018427387904 ≤ at_) (h2 : at_ ≤ 4611686018427387904) (hlen : l.length ≤ 140737488355000) :
    Calls Try.prog 22 #[v, .int .i64 at_, .int .u32 (n32 mask)] w fun e w' => ∃ ao c, e = .returned (.slice ao l.length c) ∧ OwB w' w.heap.size (.slice ao l.length c) (bendB l at_ mask) ∧ Chg [] w w' := by
  go_enter Try.func22, Try.ntmps22
  go_wp2_with (refine wpAppB rfl _ _ rfl w.heap.size (.slice none 0 0) _ rfl (OwB.nil _ _) _ _ rfl hl (by simp; omega) (Nat.le_refl _) ?_; intro ao c w1 k1 k2 k3)
  simp only [List.length_nil, Nat.zero_add, List.nil_append] at k1
  go_loopw [8, 9, 12] (fun _ _ i wr => ∃ k : Nat, k ≤ 32 ∧ i = .int .i64 k ∧ OwB wr w.heap.size (.slice ao l.length c) ((List.range k).foldl (bendStep at_ mask) l) ∧ Chg [] w wr)
    (fun _ _ i _ => 32 - (intOf i).toNat)
  case atStart => exact ⟨0, by omega, rfl, by simpa using k1, (Chg.refl _ _).grown k2 (by simp [Value.ownBlock])⟩
  case round =>
    obtain ⟨k, hk, rfl, how, hch⟩ := hrel
    by_cases hlt : k < 32
    · have hsh : bits .and .u32 (n32 mask / 2 ^ k) 1 = n32 (mask >>> UInt32.ofNat k &&& 1) := by
        rw [u32_div_k mask k hlt]; exact u32_and_1 _
      have hS : (List.range (k + 1)).foldl (bendStep at_ mask) l = bendStep at_ mask ((List.range k).foldl (bendStep at_ mask) l) k := by rw [range_snoc, List.foldl_append]; rfl
      have hL : ((List.range k).foldl (bendStep at_ mask) l).length = l.length := bendFold_length _ _ _ _
      have HS := hd hS
      have HL := hd hL
      clear hS hL
      generalize (List.range k).foldl (bendStep at_ mask) l = cur at *
      by_cases hd : mask >>> UInt32.ofNat k &&& 1 = 1 ∧ 0 ≤ at_ + k ∧ (at_ + k) / 8 < l.length
      · obtain ⟨d1, d2, d3⟩ := hd
        obtain ⟨i, hi⟩ := Int.eq_ofNat_of_zero_le d2
        have d1' : (n32 (mask >>> UInt32.ofNat k &&& 1) == 1) = true := by rw [n32_eq1, d1]; rfl
        have hI := hd hi
        have hi8 : i / 8 < l.length := by omega
        have hx := List.getElem?_eq_getElem (show i / 8 < cur.length by rw [HL.out]; exact hi8)
        have hcl : i / 8 < cur.length := by rw [HL.out]; exact hi8
        obtain ⟨g, rfl, -, hg1, hg2⟩ := how.addr (by omega)
        have hcell := how.cell (i / 8) hcl
        have hfree := how.free (i / 8)
        have hii : (i : Int) / 8 < l.length := by omega
        have hset := fun y => how.set (i / 8) (cur[i / 8] ^^^ y)
        generalize hX : cur[i / 8] = x at *
        have HX := hd hX
        clear hX hi8 d3
        have hbit := u8_bit (i % 8) (by omega) .i64
        have hcast : ((i % 8 : Nat) : Int) = (i : Int) % 8 := by omega
        rw [hcast] at hbit
        clear hcast
        go_wp2_with fail
        go_region
        go_wp2
        go_roundw
        case rel =>
          refine ⟨k + 1, by omega, by go_num, ?_, ?_⟩
          · have hb : bendStep at_ mask cur k = cur.set (i / 8) (x ^^^ 1 <<< UInt8.ofNat (i % 8)) := by
              unfold bendStep
              rw [if_pos ⟨d1, d2, by rw [HL.out]; omega⟩, hI.out]
              rw [show ((i : Int) / 8).toNat = i / 8 by omega, show ((i : Int) % 8).toNat = i % 8 by omega, List.getD, hx]
              rfl
            rw [HS.out, hb]
            have hv := hset (1 <<< UInt8.ofNat (i % 8))
            rw [← u8_xor', ← u8_bitv (i % 8) (by omega)] at hv
            exact hv
          · exact hch.drew.setCell _ _ (fun h => by simp at h; omega)
        case measure => simp [intOf]; omega
      · have hno : bendStep at_ mask cur k = cur := by unfold bendStep; rw [if_neg (by rw [HL.out]; exact hd)]
        rw [hno] at HS
        clear hno
        by_cases d1 : mask >>> UInt32.ofNat k &&& 1 = 1
        · have d1' : (n32 (mask >>> UInt32.ofNat k &&& 1) == 1) = true := by rw [n32_eq1, d1]; rfl
          by_cases d2 : 0 ≤ at_ + k
          · have d3 : ¬ (at_ + k) / 8 < l.length := fun h => hd ⟨d1, d2, h⟩
            clear hd
            go_wp2
            all_goals
              go_roundw
              case rel => exact ⟨k + 1, by omega, by go_num, by rw [HS.out]; exact how, hch⟩
              case measure => simp [intOf]; omega
          · clear hd
            go_wp2
            all_goals
              go_roundw
              case rel => exact ⟨k + 1, by omega, by go_num, by rw [HS.out]; exact how, hch⟩
              case measure => simp [intOf]; omega
        · have d1' : (n32 (mask >>> UInt32.ofNat k &&& 1) == 1) = false := by rw [n32_eq1]; simpa using d1
          clear hd d1
          go_wp2
          all_goals
            go_roundw
            case rel => exact ⟨k + 1, by omega, by go_num, by rw [HS.out]; exact how, hch⟩
            case measure => simp [intOf]; omega
    · have hkn : k = 32 := by omega
      subst hkn
      go_wp2
      go_ret
      exact ⟨ao, c, rfl, how, hch⟩
end
end Go.Proofs.Ytpoohpmcopjklaa

/- Disk.Bend. -/
namespace Go.Proofs.Ytpoohpmcopjklaa
open Go.RowKit

variable {w w' : World} {fp : List Nat} {b : Nat} {fv cv : Value} {nb sb : Nat} {hs : List HF} {d : Dsk}

def bendDsk (d : Dsk) (s : List UInt8) (at_ : Int) (mask : UInt32) : Dsk :=
  match nget d.names s with
  | none => d
  | some i => setF d i (bendB (d.files.getD i ([], 0)).1 at_ mask, (d.files.getD i ([], 0)).2)

set_option maxHeartbeats 1000000 in
theorem DBend_any (h : Dk w fp b d) (s : List UInt8) (hsl : s.length ≤ 140737488355328) (at_ : Int) (mask : UInt32) (ha1 : -4611686018427387904 ≤ at_) (ha2 : at_ ≤ 4611686018427387904) :
    Calls Try.prog 21 #[.pointer (some ⟨b, 0, none⟩), .string (strB s), .int .i64 at_, .int .u32 (n32 mask)] w fun e w' => e = .returned (.bool (nget d.names s).isSome) ∧ DkOut w fp b (bendDsk d s at_ mask) w' := by
  obtain ⟨fv, cv, nb, sb, hs, h1⟩ := h
  obtain ⟨CD, hCD⟩ : ∃ x, bendDsk d s at_ mask = x := ⟨_, rfl⟩
  rw [hCD]
  unfold bendDsk at hCD
  have hfind := find_any h1 s hsl
  have H1 := hd h1
  clear h1
  go_enter Try.func21, Try.ntmps21
  rcases hi : nget d.names s with _ | i
  · rw [hi] at hfind hCD
    subst hCD
    go_wp2_with fail
    refine (hfind).mono ?_
    rintro e w2 ⟨rfl, rfl⟩
    go_wp2_with fail
    go_ret
    exact ⟨rfl, DkOut.same ⟨_, _, _, _, _, H1.out⟩ (Chg.refl _ _)⟩
  · rw [hi] at hfind hCD
    have HI := hd hi
    have HCD := hd hCD
    clear hCD hi
    go_wp2_with fail
    refine (hfind).mono ?_
    rintro e w2 ⟨rfl, g, c, rfl, hlt, rfl⟩
    clear hfind
    obtain ⟨ao, c', hv, q0, q1, hfi⟩ := H1.out.file hlt
    have hby := H1.out.bytes _ (List.getElem_mem hlt)
    rw [hv] at hby
    have hgf := H1.out.good.files _ (List.mem_of_getElem? hfi)
    have hcd : setF d i (bendB hs[i].2.1 at_ mask, hs[i].2.2) = CD := by
      rw [← HCD.out]
      show _ = setF d i (bendB (d.files.getD i ([], 0)).1 at_ mask, (d.files.getD i ([], 0)).2)
      rw [show d.files.getD i ([], 0) = hs[i].2 from files_get H1.out hlt]
    have hgood : GoodD (setF d i (bendB hs[i].2.1 at_ mask, hs[i].2.2)) := H1.out.good.putF i _ (by simp only [bendB_length]; exact hgf)
    have HBS := hd (fun (w4 : World) (v' : Value) (hc : Chg [] w2 w4) (hv : OwB w4 0 v' (bendB hs[i].2.1 at_ mask)) (hm : ∀ k, v'.ownBlock = some k → w2.heap.size ≤ k) => H1.out.byteSet hlt (hc.mono (by simp)) hv (.inr hm) hgood)
    rw [hcd] at HBS
    have hbs := hby.bs
    have hjlt : i * 2 < hs.length * 2 := by omega
    have HCX := hd (fileCells_get hs i hlt).1
    have HFN := hd (H1.out.fpf g rfl)
    have HRF := hd H1.out.files
    have hll := hgf.2.2
    have HLEN := hd (bendB_length hs[i].2.1 at_ mask)
    clear hfi hgf hcd hgood q1 hby
    go_wp2_with fail
    refine (Bend_any _ _ at_ mask _ hbs ha1 ha2 (by omega)).mono ?_
    rintro e w3 ⟨ao3, c3, rfl, hb3, hc3⟩
    have hrow4 := ownsRow_k HRF.out hc3
    have q4 := World.ownsRow.cellAt hrow4 (i * 2) hjlt
    rw [HCX.out] at q4
    have f4 := World.ownsRow.frozenAt hrow4 (i * 2)
    have hfin := HBS.out w3 _ hc3 (hb3.mono (Nat.zero_le _)) (fun k hk => (hb3.lo k hk).1)
    have hch : Chg fp w2 (w3.setCell ⟨g, i * 2, none⟩ (.slice ao3 hs[i].2.1.length c3)) := (hc3.mono (by simp)).setCell _ _ (fun _ => HFN.out)
    have hgr : Gr fp w2 ((Value.slice ao3 hs[i].2.1.length c3).ownBlock.toList ++ fp) := fun k hk => by
      rcases List.mem_append.1 hk with hk | hk
      · exact .inr (hb3.lo k (by simpa using hk)).1
      · exact .inl hk
    have FIN := hd (DkOut.mk ⟨_, _, _, _, _, hfin⟩ hch hgr)
    clear hfin hch hgr hb3 hrow4 hc3 hbs
    go_wp2_with fail
    go_ret
    exact ⟨rfl, FIN.out⟩
end Go.Proofs.Ytpoohpmcopjklaa

/- From a row's reading of its arguments to the words of these walks. -/
namespace Go.Proofs.Ytpoohpmcopjklaa
open Go.RowKit

def Row8 (k : IntKind) (w : World) (a : Option Addr) (len cap : Nat) (zs : List Int) : Prop :=
  (a = none ∧ len = 0 ∧ cap = 0 ∧ zs = []) ∨
  ∃ x, a = some x ∧ len ≤ cap ∧ cap ≤ maxLen ∧ zs.length = cap ∧ (∀ i, i < zs.length → w.cell? (x.add i) = some (.int k (zs.getD i 0))) ∧ ∀ n ∈ zs, (Lit.int k n).wf = true

theorem spot_none {w : World} {x : Addr} {v : Value} (h : w.cell? x = some v) : x.spot = none := by
  unfold World.cell? at h
  split at h
  · cases hs : x.spot with
    | none => rfl
    | some s => rw [hs] at h; simp at h
  · simp at h

theorem Row8.rd {k : IntKind} {w : World} {a : Option Addr} {len cap : Nat} {zs : List Int} (h : Row8 k w a len cap zs) : Rd w 1 (.slice a len cap) len ((zs.take len).map (Value.int k)) := by
  rcases h with ⟨rfl, rfl, rfl, rfl⟩ | ⟨x, rfl, hl, hm, hz, hc, -⟩
  · exact ⟨rfl, none, 0, 0, 0, rfl, Nat.le_refl _, by simp [maxLen], fun _ => ⟨rfl, rfl⟩, fun h => absurd h (by omega), fun j u hu => by simp at hu⟩
  · refine ⟨by simp; omega, some x, cap, x.block, x.off, rfl, hl, hm, fun h => by simp at h, fun hp => ?_, fun j u hu => ?_⟩
    · have h0 := hc 0 (by omega)
      have hs := spot_none h0
      have e : x.spot = none := by
        cases x; simpa [Addr.add] using hs
      cases x; simp at e; subst e; rfl
    · have hj : j < len := by
        have := (List.getElem?_eq_some_iff.1 hu).1
        simp at this; omega
      have h1 := hc j (by omega)
      have h0 := hc 0 (by omega)
      have hs : x.spot = none := by
        have := spot_none h0
        cases x; simpa [Addr.add] using this
      have e : x.add j = ⟨x.block, x.off + j, none⟩ := by
        cases x; simp at hs; subst hs; unfold Addr.add; split <;> simp_all
      rw [e] at h1
      rw [h1]
      rw [List.getElem?_map, List.getElem?_take, if_pos hj, List.getElem?_eq_getElem (by omega)] at hu
      simp only [Option.map_some, Option.some.injEq] at hu
      rw [← hu, List.getD_eq_getElem?_getD, List.getElem?_eq_getElem (by omega)]
      rfl

theorem n8_of (z : Int) (h0 : 0 ≤ z) (h1 : z < 256) : n8 (UInt8.ofNat z.toNat) = z := by
  unfold n8
  rw [UInt8.toNat_ofNat', Nat.mod_eq_of_lt (show z.toNat < 2 ^ 8 by omega)]
  omega
theorem wf_u8 {z : Int} (h : (Lit.int .u8 z).wf = true) : 0 ≤ z ∧ z < 256 := by
  simp [Lit.wf, IntKind.min, IntKind.max, IntKind.signed, IntKind.bits] at h
  omega
theorem wf_i64 {z : Int} (h : (Lit.int .i64 z).wf = true) : -9223372036854775808 ≤ z ∧ z ≤ 9223372036854775807 := by
  simp [Lit.wf, IntKind.min, IntKind.max, IntKind.signed, IntKind.bits] at h
  omega
theorem wf_u32 {z : Int} (h : (Lit.int .u32 z).wf = true) : 0 ≤ z ∧ z < 4294967296 := by
  simp [Lit.wf, IntKind.min, IntKind.max, IntKind.signed, IntKind.bits] at h
  omega
theorem wf_u16 {z : Int} (h : (Lit.int .u16 z).wf = true) : 0 ≤ z ∧ z < 65536 := by
  simp [Lit.wf, IntKind.min, IntKind.max, IntKind.signed, IntKind.bits] at h
  omega
theorem Row8.wf {k : IntKind} {w : World} {a : Option Addr} {len cap : Nat} {zs : List Int} (h : Row8 k w a len cap zs) : ∀ n ∈ zs, (Lit.int k n).wf = true := by
  rcases h with ⟨_, _, _, rfl⟩ | ⟨x, _, _, _, _, _, hw⟩
  · simp
  · exact hw
theorem Row8.len {k : IntKind} {w : World} {a : Option Addr} {len cap : Nat} {zs : List Int} (h : Row8 k w a len cap zs) : (zs.take len).length = len := by
  have := h.rd.1; simpa using this

theorem Row8.le {k : IntKind} {w : World} {a : Option Addr} {len cap : Nat} {zs : List Int} (h : Row8 k w a len cap zs) : len ≤ cap := by
  rcases h with ⟨_, rfl, rfl, _⟩ | ⟨x, _, h, _⟩
  · exact Nat.le_refl _
  · exact h
/-- A slice of bytes that came in. -/
theorem Row8.bs {w : World} {a : Option Addr} {len cap : Nat} {zs : List Int} (h : Row8 .u8 w a len cap zs) : ∃ l : List UInt8, l.length = len ∧ Bs w (.slice a len cap) l := by
  refine ⟨(zs.take len).map fun z => UInt8.ofNat z.toNat, by rw [List.length_map]; exact h.len, ?_⟩
  have hr := h.rd
  unfold Bs
  rw [List.length_map, h.len, List.map_map]
  have e : (zs.take len).map (vb ∘ fun z => UInt8.ofNat z.toNat) = (zs.take len).map (Value.int .u8) := by
    apply List.map_congr_left
    intro z hz
    have hb := wf_u8 (h.wf z (List.mem_of_mem_take hz))
    show Value.int .u8 (n8 _) = _
    rw [n8_of z hb.1 hb.2]
  rw [e]
  exact hr
/-- A slice of ints that came in. -/
theorem Row8.fs {w : World} {a : Option Addr} {len cap : Nat} {zs : List Int} (h : Row8 .i64 w a len cap zs) : Fs w (.slice a len cap) (zs.take len) ∧ (zs.take len).length = len ∧ ∀ z ∈ zs.take len, -9223372036854775808 ≤ z ∧ z ≤ 9223372036854775807 := by
  refine ⟨?_, h.len, fun z hz => wf_i64 (h.wf z (List.mem_of_mem_take hz))⟩
  unfold Fs; rw [h.len]; exact h.rd
theorem u32_of {z : Int} (h : (Lit.int .u32 z).wf = true) : ∃ x : UInt32, z = n32 x := by
  have hb := wf_u32 h
  refine ⟨UInt32.ofNat z.toNat, ?_⟩
  unfold n32
  rw [UInt32.toNat_ofNat', Nat.mod_eq_of_lt (show z.toNat < 2 ^ 32 by omega)]
  omega
theorem u8_of {z : Int} (h : (Lit.int .u8 z).wf = true) : ∃ x : UInt8, z = n8 x := by
  have hb := wf_u8 h
  exact ⟨UInt8.ofNat z.toNat, (n8_of z hb.1 hb.2).symm⟩
theorem u16_of {z : Int} (h : (Lit.int .u16 z).wf = true) : ∃ x : UInt16, z = n16 x := by
  have hb := wf_u16 h
  refine ⟨UInt16.ofNat z.toNat, ?_⟩
  unfold n16
  rw [UInt16.toNat_ofNat', Nat.mod_eq_of_lt (show z.toNat < 2 ^ 16 by omega)]
  omega

section
open Go.ChangeShapes Go.WideShapes
variable {H : Type} {enc : TypeId × Value → H} {P : Program} {w : World} {base : Nat} {spare : Nat → Bool} {held : Bool}
theorem okWide_arr {t e : TypeId} {n : Nat} {r : Reach} {b0 : Nat} {v : Value} (ht : P.underlying t = some (.array n e)) (h : Value.okWide P w r b0 t v) : ∃ cs, v = .agg cs ∧ cs.size = P.cellsOf t := by
  simp only [Value.okWide, ht] at h
  obtain ⟨cs, h1, h2, _⟩ := h
  exact ⟨cs, h1, h2⟩
theorem open_arr4 {t e : TypeId} {r : Reach} {b0 : Nat} {v : Value} {d : DataW H} {ps : List MemPlace} (ht : P.underlying t = some (.array 4 e)) (he : P.underlying e = some (.int .u8)) (hC : P.cellsOf e = 1) (hCt : P.cellsOf t = 4)
    (hv : Value.okWide P w r b0 t v) (h : DataW.Trod enc P w base spare held t v d ps) :
    ∃ x0 x1 x2 x3 : UInt8, v = .agg #[.int .u8 (n8 x0), .int .u8 (n8 x1), .int .u8 (n8 x2), .int .u8 (n8 x3)] := by
  obtain ⟨cs, rfl, hsz⟩ := okWide_arr ht hv
  obtain ⟨fuel, hf⟩ := h
  obtain ⟨xs, m, _, hx, hl, hn, hg⟩ := DataW.trod_array ht hf
  simp only [Value.cells] at hl hg
  have one : ∀ i, i < 4 → ∃ x : UInt8, cs.toList[i]? = some (.int .u8 (n8 x)) := by
    intro i hi
    have h1 := hg i hi
    rw [hC, Nat.mul_one] at h1
    have hxi : i < xs.length := by omega
    rw [List.getElem?_eq_getElem hxi] at h1
    obtain ⟨n, hn', _, hw⟩ := DataW.trod_int he h1
    have hb := wf_u8 hw
    refine ⟨UInt8.ofNat n.toNat, ?_⟩
    rw [n8_of n hb.1 hb.2]
    have : (cs.toList.drop i).take 1 = [.int .u8 n] := hn'
    have h2 := congrArg (fun l => l[0]?) this
    simpa using h2
  obtain ⟨x0, e0⟩ := one 0 (by decide)
  obtain ⟨x1, e1⟩ := one 1 (by decide)
  obtain ⟨x2, e2⟩ := one 2 (by decide)
  obtain ⟨x3, e3⟩ := one 3 (by decide)
  refine ⟨x0, x1, x2, x3, ?_⟩
  have hlen : cs.toList.length = 4 := by rw [hl, hCt]
  congr 1
  apply Array.toList_inj.1
  apply List.ext_getElem?
  intro i
  rcases Nat.lt_or_ge i 4 with hi | hi
  · have : i = 0 ∨ i = 1 ∨ i = 2 ∨ i = 3 := by omega
    rcases this with rfl | rfl | rfl | rfl
    · rw [e0]; rfl
    · rw [e1]; rfl
    · rw [e2]; rfl
    · rw [e3]; rfl
  · rw [List.getElem?_eq_none (by omega), List.getElem?_eq_none (by simpa using hi)]
end
end Go.Proofs.Ytpoohpmcopjklaa
