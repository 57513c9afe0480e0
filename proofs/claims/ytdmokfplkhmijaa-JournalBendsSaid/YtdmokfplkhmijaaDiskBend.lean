/- Disk.Bend. -/
import Derived.Test.YtdmokfplkhmijaaDiskSync
import Derived.Test.YtdmokfplkhmijaaCrcBend
namespace Go.Proofs.Ytdmokfplkhmijaa
open Go.RowKit

variable {w w' : World} {fp : List Nat} {b : Nat} {fv cv : Value} {nb sb : Nat} {hs : List HF} {d : Dsk}

def bendDsk (d : Dsk) (s : List UInt8) (at_ : Int) (mask : UInt32) : Dsk :=
  match nget d.names s with
  | none => d
  | some i => setF d i (bendB (d.files.getD i ([], 0)).1 at_ mask, (d.files.getD i ([], 0)).2)

set_option maxHeartbeats 1000000 in
theorem DBend_any (h : Dk w fp b d) (s : List UInt8) (hsl : s.length ≤ 140737488355328) (at_ : Int) (mask : UInt32) (ha1 : -4611686018427387904 ≤ at_) (ha2 : at_ ≤ 4611686018427387904) :
    Calls Try.prog 21 #[.pointer (some ⟨b, 0, none⟩), .string (strB s), .int .i64 at_, .int .u32 (n32 mask)] w fun e w' => e = .returned (.bool (nget d.names s).isSome) ∧ DkOut w fp b (bendDsk d s at_ mask) w' := by
  obtain ⟨fv, cv, nb, sb, hs, h1⟩ := h
  obtain ⟨CD, hCD⟩ : ∃ x, bendDsk d s at_ mask = x := ⟨_, rfl⟩
  rw [hCD]
  unfold bendDsk at hCD
  have hfind := find_any h1 s hsl
  have H1 := hd h1
  clear h1
  go_enter Try.func21, Try.ntmps21
  rcases hi : nget d.names s with _ | i
  · rw [hi] at hfind hCD
    subst hCD
    go_wp2_with fail
    refine (hfind).mono ?_
    rintro e w2 ⟨rfl, rfl⟩
    go_wp2_with fail
    go_ret
    exact ⟨rfl, DkOut.same ⟨_, _, _, _, _, H1.out⟩ (Chg.refl _ _)⟩
  · rw [hi] at hfind hCD
    have HI := hd hi
    have HCD := hd hCD
    clear hCD hi
    go_wp2_with fail
    refine (hfind).mono ?_
    rintro e w2 ⟨rfl, g, c, rfl, hlt, rfl⟩
    clear hfind
    obtain ⟨ao, c', hv, q0, q1, hfi⟩ := H1.out.file hlt
    have hby := H1.out.bytes _ (List.getElem_mem hlt)
    rw [hv] at hby
    have hgf := H1.out.good.files _ (List.mem_of_getElem? hfi)
    have hcd : setF d i (bendB hs[i].2.1 at_ mask, hs[i].2.2) = CD := by
      rw [← HCD.out]
      show _ = setF d i (bendB (d.files.getD i ([], 0)).1 at_ mask, (d.files.getD i ([], 0)).2)
      rw [show d.files.getD i ([], 0) = hs[i].2 from files_get H1.out hlt]
    have hgood : GoodD (setF d i (bendB hs[i].2.1 at_ mask, hs[i].2.2)) := H1.out.good.putF i _ (by simp only [bendB_length]; exact hgf)
    have HBS := hd (fun (w4 : World) (v' : Value) (hc : Chg [] w2 w4) (hv : OwB w4 0 v' (bendB hs[i].2.1 at_ mask)) (hm : ∀ k, v'.ownBlock = some k → w2.heap.size ≤ k) => H1.out.byteSet hlt (hc.mono (by simp)) hv (.inr hm) hgood)
    rw [hcd] at HBS
    have hbs := hby.bs
    have hjlt : i * 2 < hs.length * 2 := by omega
    have HCX := hd (fileCells_get hs i hlt).1
    have HFN := hd (H1.out.fpf g rfl)
    have HRF := hd H1.out.files
    have hll := hgf.2.2
    have HLEN := hd (bendB_length hs[i].2.1 at_ mask)
    clear hfi hgf hcd hgood q1 hby
    go_wp2_with fail
    refine (Bend_any _ _ at_ mask _ hbs ha1 ha2 (by omega)).mono ?_
    rintro e w3 ⟨ao3, c3, rfl, hb3, hc3⟩
    have hrow4 := ownsRow_k HRF.out hc3
    have q4 := World.ownsRow.cellAt hrow4 (i * 2) hjlt
    rw [HCX.out] at q4
    have f4 := World.ownsRow.frozenAt hrow4 (i * 2)
    have hfin := HBS.out w3 _ hc3 (hb3.mono (Nat.zero_le _)) (fun k hk => (hb3.lo k hk).1)
    have hch : Chg fp w2 (w3.setCell ⟨g, i * 2, none⟩ (.slice ao3 hs[i].2.1.length c3)) := (hc3.mono (by simp)).setCell _ _ (fun _ => HFN.out)
    have hgr : Gr fp w2 ((Value.slice ao3 hs[i].2.1.length c3).ownBlock.toList ++ fp) := fun k hk => by
      rcases List.mem_append.1 hk with hk | hk
      · exact .inr (hb3.lo k (by simpa using hk)).1
      · exact .inl hk
    have FIN := hd (DkOut.mk ⟨_, _, _, _, _, hfin⟩ hch hgr)
    clear hfin hch hgr hb3 hrow4 hc3 hbs
    go_wp2_with fail
    go_ret
    exact ⟨rfl, FIN.out⟩
end Go.Proofs.Ytdmokfplkhmijaa
