/- Disk.Append, Bend. -/
import Derived.Test.YtdmokfplkhmijaaDiskSync
namespace Go.Proofs.Ytdmokfplkhmijaa
open Go.RowKit

variable {w w' : World} {fp : List Nat} {b : Nat} {fv cv : Value} {nb sb : Nat} {hs : List HF} {d : Dsk}

set_option maxHeartbeats 2000000 in
theorem Append_any (h : Dk w fp b d) (s : List UInt8) (hsl : s.length ≤ 140737488355328) (hops : d.ops < 1073741824) (v : Value) (l : List UInt8) (hl : Bs w v l) (hll : l.length ≤ 4294967296)
    (hvf : ∀ k, v.ownBlock = some k → k ∉ fp) (hroom : (bytesD d s).length + l.length ≤ 4294967296 ∨ d.room ≤ 4294967296) :
    Calls Try.prog 26 #[.pointer (some ⟨b, 0, none⟩), .string (strB s), v] w fun e w' => e = .returned (.int .i64 (appendE d s l)) ∧ DkOut w fp b (appendD d s l) w' := by
  obtain ⟨fv, cv, nb, sb, hs, h⟩ := h
  obtain ⟨aov, capv, bv, ofv, rfl, -⟩ := hl.open
  obtain ⟨CE, hCE⟩ : ∃ x, appendE d s l = x := ⟨_, rfl⟩
  obtain ⟨CD, hCD⟩ : ∃ x, appendD d s l = x := ⟨_, rfl⟩
  rw [hCE, hCD]
  have hCE2 := hCE
  unfold appendE at hCE2
  unfold appendD at hCD
  rw [hCE] at hCD
  clear hCE
  go_enter Try.func26, Try.ntmps26
  go_wp2_with fail
  refine (op_any h hops).mono ?_
  rintro e w1 ⟨rfl, h1, hc1, hz1⟩
  have hl1 := hl.keep hc1 (fun _ k hk => by simpa using fun e => hvf k hk (by rw [e]; exact h.fpb))
  have hcf : Chg fp w w1 := hc1.mono (by simp only [List.mem_singleton]; rintro x rfl _; exact h.fpb)
  clear hc1 hz1 h hl
  by_cases hE : opE d = 0
  case neg =>
    rw [if_pos hE] at hCE2
    rw [if_pos (by rw [← hCE2]; exact hE)] at hCD
    subst hCD
    subst hCE2
    have hE' : (opE d == 0) = false := by simpa using hE
    have HD := hd (DkOut.same ⟨_, _, _, _, _, h1⟩ hcf)
    clear hE h1 hcf hl1
    go_wp2_with fail
    go_ret
    exact ⟨rfl, HD.out⟩
  rw [if_neg (by simpa using hE)] at hCE2
  rw [hE]
  clear hE
  have hfind := find_any h1 s hsl
  have H1 := hd h1
  have HCF := hd hcf
  have HL1 := hd hl1
  clear h1 hcf hl1
  rcases hi : nget d.names s with _ | i
  · rw [show nget (opD d).names s = none from hi] at hfind
    rw [hi, if_pos (by rfl)] at hCE2
    subst hCE2
    rw [if_pos (by decide)] at hCD
    subst hCD
    go_wp2_with fail
    refine (hfind).mono ?_
    rintro e w2 ⟨rfl, rfl⟩
    go_wp2_with fail
    go_ret
    exact ⟨rfl, DkOut.same ⟨_, _, _, _, _, H1.out⟩ HCF.out⟩
  · rw [show nget (opD d).names s = some i from hi] at hfind
    rw [hi, if_neg (by simp)] at hCE2
    rw [hi] at hCD
    have hbd : bytesD d s = (d.files.getD i ([], 0)).1 := by unfold bytesD; rw [hi]
    have hLT : (bytesD d s).length ≤ sizeD d := by
      have hn : (d.names.map (·.1)).Nodup := let ⟨_, _, hr⟩ := H1.out.names; hr.nodup
      have := sumF_ndel d hn (nget_some_mem hi)
      rw [sizeD_eq, this, hbd]
      show _ ≤ _ + (d.files.getD i ([], 0)).1.length
      omega
    have HBD := hd hbd
    have HCD := hd hCD
    have HCE := hd hCE2
    clear hCD hCE2 hbd hi
    go_wp2_with fail
    refine (hfind).mono ?_
    rintro e w2 ⟨rfl, g, c, rfl, hlt, rfl⟩
    clear hfind
    have hsz : sizeD (opD d) ≤ 4611686018427387904 := by
      have hg := H1.out.good
      have h1 := sumF_le hg (opD d).names
      have h2 := hg.nnames
      have h3 := hg.ops
      rw [sizeD_eq]
      omega
    have hrm := H1.out.good.room
    have hrm' : (opD d).room = d.room := rfl
    rw [hrm'] at hrm
    have hszd : sizeD (opD d) = sizeD d := rfl
    rw [hszd] at hsz
    have HS := hd (fun wx (hx : Chg [] w2 wx) => Size_any (H1.out.k hx))
    rw [hszd] at HS
    have q0 := H1.out.box.cell 0
    simp [boxCells] at q0
    rw [hrm'] at q0
    have Q0 := hd q0
    clear q0
    clear hszd hrm'
    generalize sizeD d = T at *
    go_upto_region 7 with (fail)
    have hwr : IntKind.i64.wrap ((T : Int) + (l.length : Int)) = (T : Int) + (l.length : Int) := by rw [IntKind.wrap_i64]; omega
    refine anyH_start (n := 11) (L := #[false, false, false, false, false, false, false, false, false, false, false]) (by kernel_rfl) (by kernel_rfl) (S := (fun wx => Chg [] w2 wx)) ((Chg.refl _ _).drew) (fun hHeld => ?_)
    refine anyH_take (i := 0) (d := 26) (L' := #[true, false, false, false, false, false, false, false, false, false, false]) (v := ?v5) rfl rfl (by kernel_rfl) (fun _ _ _ h => h) (by rfl) ?hy5 (by assumption) ?rest5
    case hy5 => (intro wx hSw; (try dsimp only at hSw); (have t0 := Chg.cellS hSw Q0.out); go_simp; (try with_reducible rfl))
    simp only [Act.put, List.setIfInBounds_toArray, List.set_cons_zero, List.set_cons_succ]
    refine anyH_take (i := 2) (d := 28) (L' := #[true, false, true, false, false, false, false, false, false, false, false]) (v := ?v6) rfl rfl (by kernel_rfl) (fun _ _ _ h => h) (by rfl) ?hy6 (by assumption) ?rest6
    case hy6 => (intro wx hSw; (try dsimp only at hSw); (have t0 := Chg.cellS hSw Q0.out); go_simp; (try with_reducible rfl))
    simp only [Act.put, List.setIfInBounds_toArray, List.set_cons_zero, List.set_cons_succ]
    refine anyH_take (i := 3) (d := 29) (L' := #[true, false, true, true, false, false, false, false, false, false, false]) (v := ?v7) rfl rfl (by kernel_rfl) (fun _ _ _ h => h) (by rfl) ?hy7 (by assumption) ?rest7
    case hy7 => (intro wx hSw; (try dsimp only at hSw); (have t0 := Chg.cellS hSw Q0.out); go_simp; (try with_reducible rfl))
    simp only [Act.put, List.setIfInBounds_toArray, List.set_cons_zero, List.set_cons_succ]
    refine anyH_take (i := 5) (d := 31) (L' := #[true, false, true, true, false, true, false, false, false, false, false]) (v := ?v8) rfl rfl (by kernel_rfl) (fun _ _ _ h => h) (by rfl) ?hy8 (by assumption) ?rest8
    case hy8 => (intro wx hSw; (try dsimp only at hSw); (have t0 := Chg.cellS hSw Q0.out); go_simp; (try with_reducible rfl))
    simp only [Act.put, List.setIfInBounds_toArray, List.set_cons_zero, List.set_cons_succ]
    refine anyH_take (i := 6) (d := 32) (L' := #[true, false, true, true, false, true, true, false, false, false, false]) (v := ?v9) rfl rfl (by kernel_rfl) (fun _ _ _ h => h) (by rfl) ?hy9 (by assumption) ?rest9
    case hy9 => (intro wx hSw; (try dsimp only at hSw); (have t0 := Chg.cellS hSw Q0.out); go_simp; (try with_reducible rfl))
    simp only [Act.put, List.setIfInBounds_toArray, List.set_cons_zero, List.set_cons_succ]
    refine anyH_take (i := 7) (d := 33) (L' := #[true, false, true, true, false, true, true, true, false, false, false]) (v := ?v10) rfl rfl (by kernel_rfl) (fun _ _ _ h => h) (by rfl) ?hy10 (by assumption) ?rest10
    case hy10 => (intro wx hSw; (try dsimp only at hSw); (have t0 := Chg.cellS hSw Q0.out); go_simp; (try with_reducible rfl))
    simp only [Act.put, List.setIfInBounds_toArray, List.set_cons_zero, List.set_cons_succ]
    refine anyH_take (i := 8) (d := 34) (L' := #[true, false, true, true, false, true, true, true, true, false, false]) (v := ?v11) rfl rfl (by kernel_rfl) (fun _ _ _ h => h) (by rfl) ?hy11 (by assumption) ?rest11
    case hy11 => (intro wx hSw; (try dsimp only at hSw); (have t0 := Chg.cellS hSw Q0.out); go_simp; (try with_reducible rfl))
    simp only [Act.put, List.setIfInBounds_toArray, List.set_cons_zero, List.set_cons_succ]
    refine anyH_run (i := 1) (L' := #[true, true, true, true, false, true, true, true, true, false, false]) rfl (by kernel_rfl) (by rfl) (fun KK hKK => ?_)
    go_simp
    (refine (HS.out _ hHeld).mono ?_; rintro e w3 ⟨rfl, hc3⟩; have hm3 := Chg.k hHeld hc3; clear hc3; (try go_simp))
    refine hKK.out _ _ (by assumption) (fun hHeld => ?_)
    clear hKK KK
    try simp only [Act.put, List.setIfInBounds_toArray, List.set_cons_zero, List.set_cons_succ]
    refine anyH_run (i := 4) (L' := #[true, true, true, true, true, true, true, true, true, false, false]) rfl (by kernel_rfl) (by rfl) (fun KK hKK => ?_)
    go_simp
    (skip)
    refine hKK.out _ _ (by assumption) (fun hHeld => ?_)
    clear hKK KK
    try simp only [Act.put, List.setIfInBounds_toArray, List.set_cons_zero, List.set_cons_succ]
    refine anyH_run (i := 9) (L' := #[true, true, true, true, true, true, true, true, true, true, false]) rfl (by kernel_rfl) (by rfl) (fun KK hKK => ?_)
    go_simp
    (skip)
    refine hKK.out _ _ (by assumption) (fun hHeld => ?_)
    clear hKK KK
    try simp only [Act.put, List.setIfInBounds_toArray, List.set_cons_zero, List.set_cons_succ]
    refine anyH_run (i := 10) (L' := #[true, true, true, true, true, true, true, true, true, true, true]) rfl (by kernel_rfl) (by rfl) (fun KK hKK => ?_)
    go_simp
    (skip)
    refine hKK.out _ _ (by assumption) (fun hHeld => ?_)
    clear hKK KK
    try simp only [Act.put, List.setIfInBounds_toArray, List.set_cons_zero, List.set_cons_succ]
    refine wpAnyH_done (by kernel_rfl) ?_ _
    clear HS Q0
    try rw [hwr]
    by_cases hbig : d.room < (T : Int) + (l.length : Int)
    · have hx := HCE.out
      rw [if_pos hbig] at hx
      subst hx
      have hy := HCD.out
      rw [if_pos (by decide)] at hy
      subst hy
      have FIN := hd (DkOut.same ⟨_, _, _, _, _, H1.out.k hm3⟩ (HCF.out.trans hm3 (by simp)))
      clear hm3
      go_wp2_with fail
      go_ret
      exact ⟨rfl, FIN.out⟩
    · have hx := HCE.out
      rw [if_neg hbig] at hx
      subst hx
      have hy := HCD.out
      rw [if_neg (by decide)] at hy
      have HY := hd hy
      clear hy HCE HCD
      go_upto_region 9 with (fail)
      have H3 := hd (H1.out.k hm3)
      have HCF3 := hd (HCF.out.trans hm3 (by simp))
      have hl3 := HL1.out.k hm3
      obtain ⟨ao, c', hv, q0, q1, hfi⟩ := H3.out.file hlt
      have hby := H3.out.bytes _ (List.getElem_mem hlt)
      rw [hv] at hby
      have hgf := H3.out.good.files _ (List.mem_of_getElem? hfi)
      have hbl : bytesD d s = hs[i].2.1 := by rw [HBD.out, show d.files.getD i ([], 0) = hs[i].2 from files_get H3.out hlt]
      have hcd : setF (opD d) i (hs[i].2.1 ++ l, hs[i].2.2) = CD := by
        rw [← HY.out, show d.files.getD i ([], 0) = hs[i].2 from files_get H3.out hlt]
      rw [hbl] at hLT hroom
      have hnew : (hs[i].2.1.length + l.length : Nat) ≤ 4294967296 ∧ ((hs[i].2.1.length + l.length : Nat) : Int) ≤ d.room := by omega
      have hgood : GoodD (setF (opD d) i (hs[i].2.1 ++ l, hs[i].2.2)) := H3.out.good.putF i _ ⟨by rw [List.length_append]; have := hgf.1; omega, by rw [List.length_append]; exact hnew.2, by rw [List.length_append]; exact hnew.1⟩
      have HBS := hd (fun (w4 : World) (v' : Value) (hc : Chg hs[i].1.ownBlock.toList w3 w4) (hv : OwB w4 0 v' (hs[i].2.1 ++ l)) (hm : Moved w3 hs[i].1 v') => H3.out.byteSet hlt hc hv hm hgood)
      rw [hcd, hv] at HBS
      have hgn := ownsRow_ne2 hby H3.out.files (by decide)
      have HRF := hd H3.out.files
      have hne : (Value.slice (some ⟨g, 0, none⟩) hs.length c).ownBlock ≠ (Value.slice ao hs[i].2.1.length c').ownBlock := fun e => hgn g (by rw [← e]; rfl) rfl
      have hcap : hs[i].2.1.length + l.length ≤ 140737488355328 := by omega
      have hjlt : i * 2 < hs.length * 2 := by omega
      have hcx := (fileCells_get hs i hlt).1
      have HCX := hd hcx
      have HFN := hd (H3.out.fpf g rfl)
      have hfy : ∀ k, (Value.slice ao hs[i].2.1.length c').ownBlock = some k → k ∈ fp := fun k hk => H3.out.fph _ (List.getElem_mem hlt) k (by rw [hv]; exact hk)
      have HFY := hd hfy
      clear hfi hgf hbl hcd hLT hroom hnew hgood q1 hgn hcx hfy H1 HCF HL1 hm3
      go_wp2_with (at_builtin; refine wpAppB rfl _ _ rfl 0 _ _ rfl hby _ l rfl hl3 hcap (Nat.zero_le _) ?_; intro ao4 c4 w4 hr4 hg4 hm4; have hrow4 := World.ownsRow.kept HRF.out hg4 (.inr hne); have q4 := World.ownsRow.cellAt hrow4 (i * 2) hjlt; rw [HCX.out] at q4; have f4 := World.ownsRow.frozenAt hrow4 (i * 2))
      have hfin := HBS.out w4 _ (Chg.ofGrown hg4) hr4 hm4
      have hch : Chg fp w3 (w4.setCell ⟨g, i * 2, none⟩ (.slice ao4 (hs[i].2.1.length + l.length) c4)) := ((Chg.refl _ _).grown hg4 (fun k hk _ => HFY.out k hk)).setCell _ _ (fun _ => HFN.out)
      have FIN := hd (DkOut.mk ⟨_, _, _, _, _, hfin⟩ (HCF3.out.trans hch (fun _ h _ => h)) ((Gr.refl fp w).trans (Gr.cons hm4 HFY.out) HCF3.out.size))
      go_ret
      exact ⟨rfl, FIN.out⟩
end Go.Proofs.Ytdmokfplkhmijaa
