/- Disk.Sync, DirSync, Read. -/
import Derived.Test.YtdmokfplkhmijaaDiskFile
import Derived.Test.YtdmokfplkhmijaaDiskClone
namespace Go.Proofs.Ytdmokfplkhmijaa
open Go.RowKit

variable {w w' : World} {fp : List Nat} {b : Nat} {fv cv : Value} {nb sb : Nat} {hs : List HF} {d : Dsk}

theorem files_get {w : World} (h : DkP w fp b fv cv nb sb hs d) {i : Nat} (hi : i < hs.length) : d.files.getD i ([], 0) = hs[i].2 := by
  rw [List.getD_eq_getElem?_getD, ← h.same, List.getElem?_map, List.getElem?_eq_getElem hi]; rfl

set_option maxHeartbeats 1000000 in
theorem Sync_any (h : Dk w fp b d) (s : List UInt8) (hsl : s.length ≤ 140737488355328) (hops : d.ops < 1073741824) :
    Calls Try.prog 35 #[.pointer (some ⟨b, 0, none⟩), .string (strB s)] w fun e w' => e = .returned (.int .i64 (syncE d s)) ∧ DkOut w fp b (syncD d s) w' := by
  obtain ⟨fv, cv, nb, sb, hs, h⟩ := h
  obtain ⟨CE, hCE⟩ : ∃ x, syncE d s = x := ⟨_, rfl⟩
  obtain ⟨CD, hCD⟩ : ∃ x, syncD d s = x := ⟨_, rfl⟩
  rw [hCE, hCD]
  have hCE2 := hCE
  unfold syncE at hCE2
  unfold syncD at hCD
  rw [hCE] at hCD
  clear hCE
  go_enter Try.func35, Try.ntmps35
  go_wp2_with fail
  refine (op_any h hops).mono ?_
  rintro e w1 ⟨rfl, h1, hc1, hz1⟩
  have hcf : Chg fp w w1 := hc1.mono (by simp only [List.mem_singleton]; rintro x rfl _; exact h.fpb)
  clear hc1 hz1 h
  by_cases hE : opE d = 0
  case neg =>
    rw [if_pos hE] at hCE2
    rw [if_pos (by rw [← hCE2]; exact hE)] at hCD
    subst hCD
    subst hCE2
    have hE' : (opE d == 0) = false := by simpa using hE
    clear hE
    go_wp2_with fail
    go_ret
    exact ⟨rfl, DkOut.same ⟨_, _, _, _, _, h1⟩ hcf⟩
  rw [if_neg (by simpa using hE)] at hCE2
  rw [hE]
  clear hE
  have hfind := find_any h1 s hsl
  have H1 := hd h1
  have HCF := hd hcf
  clear h1 hcf
  rcases hi : nget d.names s with _ | i
  · rw [show nget (opD d).names s = none from hi] at hfind
    rw [hi, if_pos (by rfl)] at hCE2
    subst hCE2
    rw [if_pos (by decide)] at hCD
    subst hCD
    go_wp2_with fail
    refine (hfind).mono ?_
    rintro e w2 ⟨rfl, rfl⟩
    go_wp2_with fail
    go_ret
    exact ⟨rfl, DkOut.same ⟨_, _, _, _, _, H1.out⟩ HCF.out⟩
  · rw [show nget (opD d).names s = some i from hi] at hfind
    rw [hi, if_neg (by simp)] at hCE2
    subst hCE2
    rw [if_neg (by decide), hi] at hCD
    have HCD := hd hCD
    clear hCD
    go_wp2_with fail
    refine (hfind).mono ?_
    rintro e w2 ⟨rfl, g, c, rfl, hlt, rfl⟩
    obtain ⟨ao, c', hv, q0, q1, -⟩ := H1.out.file hlt
    have f1 := World.ownsRow.frozenAt H1.out.files (i * 2 + 1)
    have hfin := H1.out.sureSet hlt _ (Nat.le_refl _)
    have hcd : setF (opD d) i (hs[i].2.1, hs[i].2.1.length) = CD := by
      rw [← HCD.out]
      show _ = setF (opD d) i ((d.files.getD i ([], 0)).1, (d.files.getD i ([], 0)).1.length)
      rw [show d.files.getD i ([], 0) = hs[i].2 from files_get H1.out hlt]
    rw [hcd] at hfin
    have hch : Chg fp w2 (w2.setCell ⟨g, i * 2 + 1, none⟩ (.int .i64 (hs[i].2.1.length : Int))) := (Chg.refl _ _).setCell _ _ (fun _ => H1.out.fpf g rfl)
    have FIN := hd (DkOut.same ⟨_, _, _, _, _, hfin⟩ (HCF.out.trans hch (fun _ h _ => h)))
    clear hcd hch hfin hv
    generalize hs[i].2.1.length = n at *
    go_wp2_with fail
    go_ret
    exact ⟨rfl, FIN.out⟩

def ReadOut (w : World) (fp : List Nat) (b : Nat) (d : Dsk) (s : List UInt8) (e : Ending) (w' : World) : Prop :=
  ∃ ao n c, e = .returned (.tuple #[.slice ao n c, .int .i64 (syncE d s)]) ∧ OwB w' w.heap.size (.slice ao n c) (if syncE d s = 0 then bytesD d s else []) ∧ Dk w' fp b (opD d) ∧ Chg [b] w w'

set_option maxHeartbeats 1000000 in
theorem Read_any (h : Dk w fp b d) (s : List UInt8) (hsl : s.length ≤ 140737488355328) (hops : d.ops < 1073741824) :
    Calls Try.prog 19 #[.pointer (some ⟨b, 0, none⟩), .string (strB s)] w (ReadOut w fp b d s) := by
  obtain ⟨fv, cv, nb, sb, hs, h⟩ := h
  obtain ⟨CE, hCE⟩ : ∃ x, syncE d s = x := ⟨_, rfl⟩
  have hbad : ∀ (e : Ending) (w' : World), CE ≠ 0 → DkP w' fp b fv cv nb sb hs (opD d) → Chg [b] w w' → e = .returned (.tuple #[.slice none 0 0, .int .i64 CE]) → ReadOut w fp b d s e w' := by
    intro e w' hne h1 h2 he
    unfold ReadOut
    rw [hCE]
    exact ⟨none, 0, 0, he, by rw [if_neg hne]; exact OwB.nil _ _, ⟨_, _, _, _, _, h1⟩, h2⟩
  have hgood : ∀ (e : Ending) (w' : World), CE = 0 → DkP w' fp b fv cv nb sb hs (opD d) → Chg [b] w w' → ∀ ao n c, OwB w' w.heap.size (.slice ao n c) (bytesD d s) → e = .returned (.tuple #[.slice ao n c, .int .i64 CE]) → ReadOut w fp b d s e w' := by
    intro e w' hz h1 h2 ao n c h3 he
    unfold ReadOut
    rw [hCE]
    exact ⟨ao, n, c, he, by rw [if_pos hz]; exact h3, ⟨_, _, _, _, _, h1⟩, h2⟩
  have HBAD := hd hbad
  have HGOOD := hd hgood
  clear hbad hgood
  unfold syncE at hCE
  go_enter Try.func19, Try.ntmps19
  go_wp2_with fail
  refine (op_any h hops).mono ?_
  rintro e w1 ⟨rfl, h1, hc1, hz1⟩
  clear h
  by_cases hE : opE d = 0
  case neg =>
    rw [if_pos hE] at hCE
    subst hCE
    have hE' : (opE d == 0) = false := by simpa using hE
    have HE := hd hE
    clear hE
    have H1 := hd h1
    clear h1
    go_wp2_with fail
    refine bodyPost_ret (v := .tuple #[.slice none 0 0, .int .i64 (opE d)]) ?_ rfl ?_
    · simp only [results]; go_simp
    · exact HBAD.out _ _ HE.out H1.out hc1 rfl
  rw [if_neg (by simpa using hE)] at hCE
  rw [hE]
  clear hE
  have hfind := find_any h1 s hsl
  have H1 := hd h1
  clear h1
  rcases hi : nget d.names s with _ | i
  · rw [show nget (opD d).names s = none from hi] at hfind
    rw [hi, if_pos (by rfl)] at hCE
    subst hCE
    go_wp2_with fail
    refine (hfind).mono ?_
    rintro e w2 ⟨rfl, rfl⟩
    go_wp2_with fail
    refine bodyPost_ret (v := .tuple #[.slice none 0 0, .int .i64 4]) ?_ rfl ?_
    · simp only [results]; go_simp
    · exact HBAD.out _ _ (by decide) H1.out hc1 rfl
  · rw [show nget (opD d).names s = some i from hi] at hfind
    rw [hi, if_neg (by simp)] at hCE
    subst hCE
    go_wp2_with fail
    refine (hfind).mono ?_
    rintro e w2 ⟨rfl, g, c, rfl, hlt, rfl⟩
    obtain ⟨ao, c', hv, q0, q1, -⟩ := H1.out.file hlt
    have hby := H1.out.bytes _ (List.getElem_mem hlt)
    rw [hv] at hby
    have hbd : bytesD d s = hs[i].2.1 := by unfold bytesD; rw [hi]; show (d.files.getD i ([], 0)).1 = _; rw [show d.files.getD i ([], 0) = hs[i].2 from files_get H1.out hlt]
    have hll := (H1.out.good.files _ (List.mem_of_getElem? (H1.out.file hlt).choose_spec.choose_spec.2.2.2)).2.2
    have HBD := hd hbd
    have hbs := hby.bs
    have hz := hc1.size
    clear hby hv hbd q1 hi hfind
    generalize hs[i].2.1 = l at *
    clear hlt
    go_wp2_with fail
    refine (CloneB_any _ _ l hbs (by omega)).mono ?_
    rintro e w3 ⟨ao3, c3, rfl, hb3, hc3⟩
    have H3 := hd (H1.out.k hc3)
    have hcc := hc1.trans hc3 (by simp)
    go_wp2_with fail
    refine bodyPost_ret (v := .tuple #[.slice ao3 l.length c3, .int .i64 0]) ?_ rfl ?_
    · simp only [results]; go_simp
    · exact HGOOD.out _ _ (by trivial) H3.out hcc ao3 l.length c3 (by rw [HBD.out]; exact hb3.mono hz) rfl

set_option maxHeartbeats 1000000 in
theorem DirSync_any (h : Dk w fp b d) (hops : d.ops < 1073741824) :
    Calls Try.prog 36 #[.pointer (some ⟨b, 0, none⟩)] w fun e w' => e = .returned (.int .i64 (opE d)) ∧ DkOut w fp b (dirSyncD d) w' := by
  obtain ⟨fv, cv, nb, sb, hs, h⟩ := h
  obtain ⟨CD, hCD⟩ : ∃ x, dirSyncD d = x := ⟨_, rfl⟩
  rw [hCD]
  unfold dirSyncD at hCD
  go_enter Try.func36, Try.ntmps36
  go_wp2_with fail
  refine (op_any h hops).mono ?_
  rintro e w1 ⟨rfl, h1, hc1, hz1⟩
  have hcf : Chg fp w w1 := hc1.mono (by simp only [List.mem_singleton]; rintro x rfl _; exact h.fpb)
  clear hc1 hz1 h
  by_cases hE : opE d = 0
  case neg =>
    rw [if_pos hE] at hCD
    subst hCD
    have hE' : (opE d == 0) = false := by simpa using hE
    have HD := hd (DkOut.same ⟨_, _, _, _, _, h1⟩ hcf)
    clear hE h1 hcf
    go_wp2_with fail
    go_ret
    exact ⟨rfl, HD.out⟩
  rw [if_neg (by simpa using hE)] at hCD
  rw [hE]
  have HE := hd hE
  clear hE
  have HCD := hd hCD
  clear hCD
  have q2 := h1.box.cell 2
  simp [boxCells] at q2
  have hm : MapAt w1 nb d.names := h1.names
  have H1 := hd h1
  have HCF := hd hcf
  clear h1 hcf
  go_wp2_with fail
  refine (CloneM_any w1 nb d.names hm).mono ?_
  rintro e w2 ⟨rfl, hm2, hc2⟩
  have hz := hc2.size
  have H2 := hd (H1.out.k hc2)
  have HCF2 := hd (HCF.out.trans hc2 (by simp))
  have hbx := H2.out.box
  have q3 := hbx.cell 3
  have f3 := hbx.free 3
  have hb2 := hbx.set 3 (.map (some w1.heap.size))
  have q4 := hb2.cell 4
  have f4 := hb2.free 4
  simp [boxCells] at q3 q4
  have FIN : DkOut w fp b CD ((w2.setCell ⟨b, 3, none⟩ (.map (some w1.heap.size))).setCell ⟨b, 4, none⟩ (.slice none 0 0)) := by
    have hgood : GoodD CD := by
      rw [← HCD.out]
      have hg := H1.out.good
      refine { hg with sured := hg.named, turned := by simp, idx := by simp, nchanges := ?_, clens := by simp }
      simpa [opD] using hg.nnames
    have hch : Chg [b] w2 ((w2.setCell ⟨b, 3, none⟩ (.map (some w1.heap.size))).setCell ⟨b, 4, none⟩ (.slice none 0 0)) := ((Chg.refl _ _).setCell _ _ (by simp)).setCell _ _ (by simp)
    have D := H2.out
    refine DkOut.mk (fp' := w1.heap.size :: fp) ⟨fv, .slice none 0 0, nb, w1.heap.size, hs, ?_⟩ (HCF2.out.trans hch (by simp only [List.mem_singleton]; rintro x rfl _; exact H1.out.fpb)) ?_
    · rw [← HCD.out] at hgood ⊢
      exact
      { box := hb2.set 4 _
        names := (D.names.set _ _ (D.names.apart D.box)).set _ _ (D.names.apart D.box)
        sure := (hm2.set _ _ (hm2.apart D.box)).set _ _ (hm2.apart D.box)
        files := ownsRow_chg D.files hch fun k hk => by have := ownsRow_apart D.files D.box (by decide); rw [hk] at this; simpa using this
        same := D.same
        changes := World.ownsRow_nil _ _ _ _
        bytes := fun f hf => OwB.chg (D.bytes f hf) hch fun k hk => by have := ownsRow_apart (D.bytes f hf) D.box (by decide); rw [hk] at this; simpa using this
        apart := D.apart
        ne := fun e => by have := H1.out.names.lt; omega
        fpb := by simp [D.fpb]
        fpn := by simp [D.fpn]
        fps := by simp
        fpf := fun k hk => by simp [D.fpf k hk]
        fpc := by simp [Value.ownBlock]
        fph := fun f hf k hk => by simp [D.fph f hf k hk]
        fpl := fun k hk => by
          rw [size_set, size_set]
          rcases List.mem_cons.1 hk with rfl | hk
          · exact hm2.lt
          · exact D.fpl k hk
        good := hgood }
    · intro k hk
      rcases List.mem_cons.1 hk with rfl | hk
      · exact .inr HCF.out.size
      · exact .inl hk
  have HFIN := hd FIN
  clear FIN hm2 hc2 hbx hm
  go_wp2_with fail
  go_ret
  exact ⟨by rw [HE.out]; rfl, HFIN.out⟩
end Go.Proofs.Ytdmokfplkhmijaa
