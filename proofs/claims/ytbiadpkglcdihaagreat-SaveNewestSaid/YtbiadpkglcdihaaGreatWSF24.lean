/- Words and walks that SF rests on: CrcBend, DiskBend. -/
import Derived.Test.YtbiadpkglcdihaaGreatWSF1
import Derived.Deep.QuietTactic
import Derived.BigQuiet
import Derived.StillTailTactics
import Derived.Test.YtbiadpkglcdihaaGreatWSF12
/- crc.Bend: bits turned round. -/
namespace Go.Proofs.YtbiadpkglcdihaaGreat
open Go.RowKit

def bendStep (at_ : Int) (mask : UInt32) (l : List UInt8) (k : Nat) : List UInt8 :=
  if mask >>> UInt32.ofNat k &&& 1 = 1 ∧ 0 ≤ at_ + k ∧ (at_ + k) / 8 < l.length then l.set ((at_ + k) / 8).toNat (l.getD ((at_ + k) / 8).toNat 0 ^^^ ((1 : UInt8) <<< UInt8.ofNat ((at_ + k) % 8).toNat)) else l
def bendB (l : List UInt8) (at_ : Int) (mask : UInt32) : List UInt8 := (List.range 32).foldl (bendStep at_ mask) l
@[simp] theorem bendStep_length (at_ : Int) (mask : UInt32) (l : List UInt8) (k : Nat) : (bendStep at_ mask l k).length = l.length := by
  unfold bendStep; split <;> simp
theorem bendFold_length (at_ : Int) (mask : UInt32) (ks : List Nat) (l : List UInt8) : (ks.foldl (bendStep at_ mask) l).length = l.length := by
  induction ks generalizing l with
  | nil => rfl
  | cons k ks ih => rw [List.foldl_cons, ih, bendStep_length]
theorem bendB_length (l : List UInt8) (at_ : Int) (mask : UInt32) : (bendB l at_ mask).length = l.length := bendFold_length _ _ _ _
theorem range_snoc (n : Nat) : List.range (n + 1) = List.range n ++ [n] := List.range_succ

theorem u32_div_k (a : UInt32) (j : Nat) (hj : j < 32) : n32 a / 2 ^ j = n32 (a >>> UInt32.ofNat j) := by
  unfold n32; rw [UInt32.toNat_shiftRight]
  simp [Nat.mod_eq_of_lt (show j < 2 ^ 32 by omega), Nat.mod_eq_of_lt hj, Nat.shiftRight_eq_div_pow]

section
attribute [local go_sem] u32_and_1 and7 u8_xor'
set_option maxHeartbeats 800000 in
theorem Bend_any (v : Value) (l : List UInt8) (at_ : Int) (mask : UInt32) (w : World) (hl : Bs w v l) (h1 : -4611686018427387904 ≤ at_) (h2 : at_ ≤ 4611686018427387904) (hlen : l.length ≤ 140737488355000) :
    Calls Tryz.prog 16 #[v, .int .i64 at_, .int .u32 (n32 mask)] w fun e w' => ∃ ao c, e = .returned (.slice ao l.length c) ∧ OwB w' w.heap.size (.slice ao l.length c) (bendB l at_ mask) ∧ Chg [] w w' := by
  go_enter Tryz.func16, Tryz.ntmps16
  go_wp2_with (refine wpAppB rfl _ _ rfl w.heap.size (.slice none 0 0) _ rfl (OwB.nil _ _) _ _ rfl hl (by simp; omega) (Nat.le_refl _) ?_; intro ao c w1 k1 k2 k3)
  simp only [List.length_nil, Nat.zero_add, List.nil_append] at k1
  go_loopw [8, 9, 12] (fun _ _ i wr => ∃ k : Nat, k ≤ 32 ∧ i = .int .i64 k ∧ OwB wr w.heap.size (.slice ao l.length c) ((List.range k).foldl (bendStep at_ mask) l) ∧ Chg [] w wr)
    (fun _ _ i _ => 32 - (intOf i).toNat)
  case atStart => exact ⟨0, by omega, rfl, by simpa using k1, (Chg.refl _ _).grown k2 (by simp [Value.ownBlock])⟩
  case round =>
    obtain ⟨k, hk, rfl, how, hch⟩ := hrel
    by_cases hlt : k < 32
    · have hsh : bits .and .u32 (n32 mask / 2 ^ k) 1 = n32 (mask >>> UInt32.ofNat k &&& 1) := by
        rw [u32_div_k mask k hlt]; exact u32_and_1 _
      have hS : (List.range (k + 1)).foldl (bendStep at_ mask) l = bendStep at_ mask ((List.range k).foldl (bendStep at_ mask) l) k := by rw [range_snoc, List.foldl_append]; rfl
      have hL : ((List.range k).foldl (bendStep at_ mask) l).length = l.length := bendFold_length _ _ _ _
      have HS := hd hS
      have HL := hd hL
      clear hS hL
      generalize (List.range k).foldl (bendStep at_ mask) l = cur at *
      by_cases hd : mask >>> UInt32.ofNat k &&& 1 = 1 ∧ 0 ≤ at_ + k ∧ (at_ + k) / 8 < l.length
      · obtain ⟨d1, d2, d3⟩ := hd
        obtain ⟨i, hi⟩ := Int.eq_ofNat_of_zero_le d2
        have d1' : (n32 (mask >>> UInt32.ofNat k &&& 1) == 1) = true := by rw [n32_eq1, d1]; rfl
        have hI := hd hi
        have hi8 : i / 8 < l.length := by omega
        have hx := List.getElem?_eq_getElem (show i / 8 < cur.length by rw [HL.out]; exact hi8)
        have hcl : i / 8 < cur.length := by rw [HL.out]; exact hi8
        obtain ⟨g, rfl, -, hg1, hg2⟩ := how.addr (by omega)
        have hcell := how.cell (i / 8) hcl
        have hfree := how.free (i / 8)
        have hii : (i : Int) / 8 < l.length := by omega
        have hset := fun y => how.set (i / 8) (cur[i / 8] ^^^ y)
        generalize hX : cur[i / 8] = x at *
        have HX := hd hX
        clear hX hi8 d3
        have hbit := u8_bit (i % 8) (by omega) .i64
        have hcast : ((i % 8 : Nat) : Int) = (i : Int) % 8 := by omega
        rw [hcast] at hbit
        clear hcast
        go_wp2_with fail
        go_region
        go_wp2
        go_roundw
        case rel =>
          refine ⟨k + 1, by omega, by go_num, ?_, ?_⟩
          · have hb : bendStep at_ mask cur k = cur.set (i / 8) (x ^^^ 1 <<< UInt8.ofNat (i % 8)) := by
              unfold bendStep
              rw [if_pos ⟨d1, d2, by rw [HL.out]; omega⟩, hI.out]
              rw [show ((i : Int) / 8).toNat = i / 8 by omega, show ((i : Int) % 8).toNat = i % 8 by omega, List.getD, hx]
              rfl
            rw [HS.out, hb]
            have hv := hset (1 <<< UInt8.ofNat (i % 8))
            rw [← u8_xor', ← u8_bitv (i % 8) (by omega)] at hv
            exact hv
          · exact hch.drew.setCell _ _ (fun h => by simp at h; omega)
        case measure => simp [intOf]; omega
      · have hno : bendStep at_ mask cur k = cur := by unfold bendStep; rw [if_neg (by rw [HL.out]; exact hd)]
        rw [hno] at HS
        clear hno
        by_cases d1 : mask >>> UInt32.ofNat k &&& 1 = 1
        · have d1' : (n32 (mask >>> UInt32.ofNat k &&& 1) == 1) = true := by rw [n32_eq1, d1]; rfl
          by_cases d2 : 0 ≤ at_ + k
          · have d3 : ¬ (at_ + k) / 8 < l.length := fun h => hd ⟨d1, d2, h⟩
            clear hd
            go_wp2
            all_goals
              go_roundw
              case rel => exact ⟨k + 1, by omega, by go_num, by rw [HS.out]; exact how, hch⟩
              case measure => simp [intOf]; omega
          · clear hd
            go_wp2
            all_goals
              go_roundw
              case rel => exact ⟨k + 1, by omega, by go_num, by rw [HS.out]; exact how, hch⟩
              case measure => simp [intOf]; omega
        · have d1' : (n32 (mask >>> UInt32.ofNat k &&& 1) == 1) = false := by rw [n32_eq1]; simpa using d1
          clear hd d1
          go_wp2
          all_goals
            go_roundw
            case rel => exact ⟨k + 1, by omega, by go_num, by rw [HS.out]; exact how, hch⟩
            case measure => simp [intOf]; omega
    · have hkn : k = 32 := by omega
      subst hkn
      go_wp2
      go_ret
      exact ⟨ao, c, rfl, how, hch⟩
end
end Go.Proofs.YtbiadpkglcdihaaGreat

/- Disk.Bend. -/
namespace Go.Proofs.YtbiadpkglcdihaaGreat
open Go.RowKit

variable {w w' : World} {fp : List Nat} {b : Nat} {fv cv : Value} {nb sb : Nat} {hs : List HF} {d : Dsk}

def bendDsk (d : Dsk) (s : List UInt8) (at_ : Int) (mask : UInt32) : Dsk :=
  match nget d.names s with
  | none => d
  | some i => setF d i (bendB (d.files.getD i ([], 0)).1 at_ mask, (d.files.getD i ([], 0)).2)

set_option maxHeartbeats 1000000 in
theorem DBend_any (h : Dk w fp b d) (s : List UInt8) (hsl : s.length ≤ 140737488355328) (at_ : Int) (mask : UInt32) (ha1 : -4611686018427387904 ≤ at_) (ha2 : at_ ≤ 4611686018427387904) :
    Calls Tryz.prog 15 #[.pointer (some ⟨b, 0, none⟩), .string (strB s), .int .i64 at_, .int .u32 (n32 mask)] w fun e w' => e = .returned (.bool (nget d.names s).isSome) ∧ DkOut w fp b (bendDsk d s at_ mask) w' := by
  obtain ⟨fv, cv, nb, sb, hs, h1⟩ := h
  obtain ⟨CD, hCD⟩ : ∃ x, bendDsk d s at_ mask = x := ⟨_, rfl⟩
  rw [hCD]
  unfold bendDsk at hCD
  have hfind := find_any h1 s hsl
  have H1 := hd h1
  clear h1
  go_enter Tryz.func15, Tryz.ntmps15
  rcases hi : nget d.names s with _ | i
  · rw [hi] at hfind hCD
    subst hCD
    go_wp2_with fail
    refine (hfind).mono ?_
    rintro e w2 ⟨rfl, rfl⟩
    go_wp2_with fail
    go_ret
    exact ⟨rfl, DkOut.same ⟨_, _, _, _, _, H1.out⟩ (Chg.refl _ _)⟩
  · rw [hi] at hfind hCD
    have HI := hd hi
    have HCD := hd hCD
    clear hCD hi
    go_wp2_with fail
    refine (hfind).mono ?_
    rintro e w2 ⟨rfl, g, c, rfl, hlt, rfl⟩
    clear hfind
    obtain ⟨ao, c', hv, q0, q1, hfi⟩ := H1.out.file hlt
    have hby := H1.out.bytes _ (List.getElem_mem hlt)
    rw [hv] at hby
    have hgf := H1.out.good.files _ (List.mem_of_getElem? hfi)
    have hcd : setF d i (bendB hs[i].2.1 at_ mask, hs[i].2.2) = CD := by
      rw [← HCD.out]
      show _ = setF d i (bendB (d.files.getD i ([], 0)).1 at_ mask, (d.files.getD i ([], 0)).2)
      rw [show d.files.getD i ([], 0) = hs[i].2 from files_get H1.out hlt]
    have hgood : GoodD (setF d i (bendB hs[i].2.1 at_ mask, hs[i].2.2)) := H1.out.good.putF i _ (by simp only [bendB_length]; exact hgf)
    have HBS := hd (fun (w4 : World) (v' : Value) (hc : Chg [] w2 w4) (hv : OwB w4 0 v' (bendB hs[i].2.1 at_ mask)) (hm : ∀ k, v'.ownBlock = some k → w2.heap.size ≤ k) => H1.out.byteSet hlt (hc.mono (by simp)) hv (.inr hm) hgood)
    rw [hcd] at HBS
    have hbs := hby.bs
    have hjlt : i * 2 < hs.length * 2 := by omega
    have HCX := hd (fileCells_get hs i hlt).1
    have HFN := hd (H1.out.fpf g rfl)
    have HRF := hd H1.out.files
    have hll := hgf.2.2
    have HLEN := hd (bendB_length hs[i].2.1 at_ mask)
    clear hfi hgf hcd hgood q1 hby
    go_wp2_with fail
    refine (Bend_any _ _ at_ mask _ hbs ha1 ha2 (by omega)).mono ?_
    rintro e w3 ⟨ao3, c3, rfl, hb3, hc3⟩
    have hrow4 := ownsRow_k HRF.out hc3
    have q4 := World.ownsRow.cellAt hrow4 (i * 2) hjlt
    rw [HCX.out] at q4
    have f4 := World.ownsRow.frozenAt hrow4 (i * 2)
    have hfin := HBS.out w3 _ hc3 (hb3.mono (Nat.zero_le _)) (fun k hk => (hb3.lo k hk).1)
    have hch : Chg fp w2 (w3.setCell ⟨g, i * 2, none⟩ (.slice ao3 hs[i].2.1.length c3)) := (hc3.mono (by simp)).setCell _ _ (fun _ => HFN.out)
    have hgr : Gr fp w2 ((Value.slice ao3 hs[i].2.1.length c3).ownBlock.toList ++ fp) := fun k hk => by
      rcases List.mem_append.1 hk with hk | hk
      · exact .inr (hb3.lo k (by simpa using hk)).1
      · exact .inl hk
    have FIN := hd (DkOut.mk ⟨_, _, _, _, _, hfin⟩ hch hgr)
    clear hfin hch hgr hb3 hrow4 hc3 hbs
    go_wp2_with fail
    go_ret
    exact ⟨rfl, FIN.out⟩
end Go.Proofs.YtbiadpkglcdihaaGreat
