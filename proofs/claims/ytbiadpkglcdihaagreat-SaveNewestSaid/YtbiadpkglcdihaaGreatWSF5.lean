/- Words and walks that SF rests on: PackP, ShapeR, Bodies, BodyR, Order, CodecW, CodecO0, CodecOK0, CodecOK1, CodecOK2, CodecOK3, CodecOK4, CodecOK5, CodecOK6, CodecO, CodecB, WorldM, OrderU1, OrderU2, OrderU0, OrderU3, OrderU4, OrderU5, OrderU6, OrderU7, OrderU, OrderS, WorldS, PackR, PackS, CodecR, CodecRS. -/
import Derived.Test.YtbiadpkglcdihaaGreatWSF4
import Derived.Laws.Rows
import Derived.Laws.Tables
import Derived.Test.YtbiadpkglcdihaaGreatWSF1
/- Writer.V: places. -/
namespace Go.Proofs.YtbiadpkglcdihaaGreat
open Go.RowKit

def fV (l : List V2) : List Int := l.flatMap fun p => [p.1, p.2]
theorem fV_length (l : List V2) : (fV l).length = 2 * l.length := by
  induction l with
  | nil => rfl
  | cons x l ih => unfold fV at *; rw [List.flatMap_cons, List.length_append, ih]; simp; omega
theorem fV_snoc (l : List V2) (k : Nat) (h : k < l.length) : leF (fV (l.take (k + 1))) = leF (fV (l.take k)) ++ leF [l[k].1, l[k].2] := by
  unfold leF fV; rw [List.take_succ_eq_append_getElem h, List.flatMap_append, List.flatMap_append]; simp
/-- Numbers that stand in a block that no writer turns. -/
theorem Fs.fr {base b : Nat} {w : World} {l : List Int} {cs : Array Value} {e : TypeId} {g n : Nat} (hb : Blk w g cs e) (he : e ≠ 5) (hg : g ≠ b) (hcs : cs = (l.map (Value.int .i64)).toArray) (hn : n = l.length) (hl : l.length ≤ 140737488355328) :
    ∀ w', Fr base b w w' → Fs w' (.slice (some ⟨g, 0, none⟩) n n) l := by
  intro w' hf
  have h1 := hf.kp g cs e hb he hg
  subst hcs; subst hn
  refine ⟨by simp, _, _, g, 0, rfl, Nat.le_refl _, by unfold maxLen; omega, by simp, by simp, fun j u hu => ?_⟩
  rw [Nat.zero_add, h1.cell]
  simpa using hu
theorem VsS.fr {base b : Nat} {w : World} {l : List V2} {cs : Array Value} {e : TypeId} {g n : Nat} (hb : Blk w g cs e) (he : e ≠ 5) (hg : g ≠ b) (hcs : cs = (l.flatMap cV).toArray) (hn : n = l.length) (hl : l.length ≤ 140737488355328) :
    ∀ w', Fr base b w w' → VsS w' (.slice (some ⟨g, 0, none⟩) n n) l := by
  intro w' hf
  have h1 := hf.kp g cs e hb he hg
  subst hcs; subst hn
  have hlen : (l.flatMap cV).length = l.length * 2 := flat_len cV 2 cV_len l
  refine ⟨hlen, _, _, g, 0, rfl, Nat.le_refl _, by unfold maxLen; omega, by simp, by simp, fun j u hu => ?_⟩
  rw [Nat.zero_add, h1.cell]
  simpa using hu
theorem VsS.ofBelow {base b : Nat} {w : World} {v : Value} {l : List V2} (h : VsS w v l) (hv : 0 < l.length → ∀ k, v.ownBlock = some k → k < base) : ∀ w', Fr base b w w' → VsS w' v l := by
  intro w' hf
  obtain ⟨h0, ao, cap, b', off', rfl, h2, h3, h4, h5, h6⟩ := h
  refine ⟨h0, ao, cap, b', off', rfl, h2, h3, h4, h5, fun j u hu => ?_⟩
  by_cases hp : 0 < l.length
  · obtain rfl := h5 hp
    exact (hf.below.cell (p := ⟨b', off' + j, none⟩) (hv hp b' rfl)).trans (h6 j u hu)
  · have : l = [] := List.length_eq_zero_iff.mp (by omega)
    subst this
    simp at hu

set_option maxHeartbeats 800000 in
theorem WTV_any (t : TypeId) (ht : t ≠ 5) (base b : Nat) (l : List UInt8) (v : Value) (zs : List V2) (w : World) (hw : WrT t w base b l) (hb : base ≤ b) (hz : ∀ w', Fr base b w w' → VsS w' v zs) (hl : l.length + 16 * zs.length ≤ 140737488355000) :
    Calls Tryz.prog 61 #[.pointer (some ⟨b, 0, none⟩), v] w fun e w' =>
      e = .returned (.pointer (some ⟨b, 0, none⟩)) ∧ WrT t w' base b (l ++ leF (fV zs)) ∧ Fr base b w w' := by
  obtain ⟨ao, cap, rfl, hao⟩ := (hz w (Fr.refl _ _ _)).form
  by_cases h0 : zs = []
  · subst h0
    clear hz hao
    go_enter Tryz.func61, Tryz.ntmps61
    go_wp2
    refine wp_loop_once ?_
    go_wp2
    go_ret
    exact ⟨rfl, by simpa [leF, fV] using hw, Fr.refl _ _ _⟩
  have hpos : 0 < zs.length := List.length_pos_iff.2 h0
  obtain ⟨b', off, rfl⟩ := hao hpos
  clear h0 hao
  go_enter Tryz.func61, Tryz.ntmps61
  go_wp2
  go_loopw [6, 9] (fun _ i wr => ∃ k : Nat, k ≤ zs.length ∧ i = .int .i64 k ∧ WrT t wr base b (l ++ leF (fV (zs.take k))) ∧ Fr base b w wr)
    (fun _ i _ => zs.length - (intOf i).toNat)
  case atStart => exact ⟨0, by omega, rfl, by simpa [leF, fV] using hw, Fr.refl _ _ _⟩
  case round =>
    obtain ⟨k, hk, rfl, hwr, hbel⟩ := hrel
    by_cases hlt : k < zs.length
    · obtain ⟨q0, q1⟩ := (hz wr hbel).at k hlt
      have hS := hd (fV_snoc zs k hlt)
      have hlen : (l ++ leF (fV (zs.take k))).length + 16 ≤ 140737488355000 := by rw [List.length_append, leF_length, fV_length, List.length_take]; omega
      have hblt := hwr.lt
      generalize zs[k].1 = x at *
      generalize zs[k].2 = y at *
      clear hz
      go_wp2_with fail
      have hcc := ((Chg.refl [] wr).alloc (.cells #[.int .i64 x, .int .i64 y] 27)).alloc (.cells #[.int .i64 x, .int .i64 y] 25)
      have hnb := Blk.new (wr.alloc (.cells #[.int .i64 x, .int .i64 y] 27)) #[.int .i64 x, .int .i64 y] 25
      rw [show (wr.alloc (.cells #[.int .i64 x, .int .i64 y] 27)).heap.size = wr.heap.size + 1 by simp] at hnb
      refine (WTF_any t ht base b _ _ [x, y] _ (hwr.k hcc) hb (Fs.fr hnb (by decide) (by omega) rfl rfl (by simp)) (by simpa using hlen)).mono ?_
      rintro e w1 ⟨rfl, h1, h2⟩
      go_wp2_with fail
      go_roundw
      case rel => exact ⟨k + 1, by omega, by go_num, by rw [hS.out, ← List.append_assoc]; exact h1, (hbel.trans (Fr.chg hcc (by omega))).trans h2⟩
      case measure => simp [intOf]; omega
    · have hkn : k = zs.length := by omega
      subst hkn
      go_wp2
      go_ret
      exact ⟨rfl, by simpa using hwr, hbel⟩
end Go.Proofs.YtbiadpkglcdihaaGreat

/- shape.Same, shape.Right. -/
namespace Go.Proofs.YtbiadpkglcdihaaGreat
open Go.RowKit

def vS (s : Shp) (pv : Value) : Value := .agg #[.int .i64 s.kind, .int .i64 s.r, pv]
def sameS (a b : Shp) : Bool := decide (a.kind = b.kind) && decide (a.r = b.r) && decide (a.p = b.p)
set_option maxHeartbeats 1000000 in
theorem SSame_any (w : World) (a b : Shp) (va vb : Value) (ha : VsS w va a.p) (hb : VsS w vb b.p) :
    Calls Tryz.prog 84 #[vS a va, vS b vb] w fun e w' => e = .returned (.bool (sameS a b)) ∧ Chg [] w w' := by
  obtain ⟨ak, ar, ap⟩ := a
  obtain ⟨bk, br, bp⟩ := b
  have hc := fun W (hW : Chg [] w W) => EqualV_any W va vb ap bp (ha.k hW) (hb.k hW)
  unfold sameS vS
  simp only
  generalize decide (ap = bp) = z at *
  have hcb := ((Chg.refl [] w).alloc (.cells #[.int .i64 ak, .int .i64 ar, va] 95)).alloc (.cells #[.int .i64 bk, .int .i64 br, vb] 95)
  have hcon := hc _ hcb
  obtain ⟨aoa, ca, rfl, -⟩ := ha.form
  obtain ⟨aob, cb, rfl, -⟩ := hb.form
  have HCB := hd hcb
  clear ha hb hc hcb
  by_cases k1 : ak = bk
  · subst k1
    by_cases k2 : ar = br
    · subst k2
      go_enter Tryz.func84, Tryz.ntmps84
      go_wp2_with (go_at_call 115; refine hcon.mono ?_; rintro e w1 ⟨rfl, hc1⟩)
      go_ret
      exact ⟨by simp, HCB.out.k hc1⟩
    · have q2 : (ar == br) = false := by simpa using k2
      have K2 := hd k2
      clear k2
      go_enter Tryz.func84, Tryz.ntmps84
      go_wp2_with fail
      go_ret
      exact ⟨by have := K2.out; simp [this], HCB.out⟩
  · have q1 : (ak == bk) = false := by simpa using k1
    have K1 := hd k1
    clear k1
    go_enter Tryz.func84, Tryz.ntmps84
    go_wp2_with fail
    go_ret
    exact ⟨by have := K1.out; simp [this], HCB.out⟩

theorem getD_i {p : List V2} (h : ∀ a ∈ p, IV a) (i : Nat) : IV (p.getD i (0, 0)) := by
  rw [List.getD_eq_getElem?_getD]
  by_cases hi : i < p.length
  · rw [List.getElem?_eq_getElem hi]; exact h _ (List.getElem_mem hi)
  · rw [List.getElem?_eq_none (by omega)]; exact ⟨⟨by decide, by decide⟩, ⟨by decide, by decide⟩⟩
theorem row_next {p : List V2} {i j : Nat} (h : ∀ q < j, cornerB p i q = true) (hj : cornerB p i j = true) : ∀ q < j + 1, cornerB p i q = true := by
  intro q hq
  by_cases e : q = j
  · rw [e]; exact hj
  · exact h q (by omega)
theorem rows_next {p : List V2} {i : Nat} (h : ∀ m < i, ∀ q < p.length, cornerB p m q = true) (hi : ∀ q < p.length, cornerB p i q = true) : ∀ m < i + 1, ∀ q < p.length, cornerB p m q = true := by
  intro m hm
  by_cases e : m = i
  · rw [e]; exact hi
  · exact h m (by omega)
set_option maxRecDepth 100000 in
set_option maxHeartbeats 8000000 in
theorem SRight_any (w : World) (s : Shp) (pv : Value) (hp : VsS w pv s.p) (hi : ∀ a ∈ s.p, IV a) :
    Calls Tryz.prog 139 #[vS s pv] w fun e w' => e = .returned (.bool (rightS s)) ∧ Chg [] w w' := by
  obtain ⟨k, r, p⟩ := s
  have hlen := hp.len
  have HP := hd hp
  have HI := hd hi
  obtain ⟨ao, c, rfl, hao⟩ := hp.form
  have HAO := hd hao
  have hcb := (Chg.refl [] w).alloc (.cells #[.int .i64 k, .int .i64 r, .slice ao p.length c] 95)
  have hkb := Blk.new w #[.int .i64 k, .int .i64 r, .slice ao p.length c] 95
  clear hp hi hao
  unfold rightS vS
  simp only at hlen HP HI HAO hcb hkb ⊢
  by_cases hk : k = 1
  · subst hk
    rw [if_pos rfl]
    have HCB := hd hcb
    clear hkb hcb HP HI HAO
    generalize p.length = n at *
    by_cases h1 : n = 0
    · subst h1
      by_cases h2 : 16777216 ≤ r <;> by_cases h3 : r ≤ 274877906944 <;> first
      | (exfalso; omega)
      | (go_enter Tryz.func139, Tryz.ntmps139
         go_wp2
         go_step3
         go_wp2
         first | (rw [Exit.noGoto_ret]; go_ret) | go_ret
         exact ⟨ret_of (congrArg Value.bool (by simp [h2, h3])), HCB.out⟩)
      | (go_enter Tryz.func139, Tryz.ntmps139
         go_wp2
         go_step3
         go_wp2
         first | (rw [Exit.noGoto_ret]; go_ret) | go_ret
         exact ⟨by simp [h2, h3], HCB.out⟩)
    · have q1 : ((n : Int) == 0) = false := by rw [beq_eq_false_iff_ne]; omega
      have H1 := hd h1
      clear h1
      go_enter Tryz.func139, Tryz.ntmps139
      go_wp2
      go_step3
      go_wp2
      rw [Exit.noGoto_ret]
      go_ret
      exact ⟨by have := H1.out; simp [this], HCB.out⟩
  · rw [if_neg hk]
    have hkq : (k == 1) = false := by rw [beq_eq_false_iff_ne]; exact hk
    by_cases hbad : k ≠ 2 ∨ r ≠ 0 ∨ p.length < 3 ∨ 8 < p.length
    · rw [if_pos hbad]
      have HCB := hd hcb
      clear hkb hcb HP HI HAO hk
      generalize p.length = n at *
      by_cases h1 : k = 2
      · subst h1
        by_cases h2 : r = 0
        · subst h2
          by_cases h3 : n < 3
          · have h3' : (n : Int) < 3 := by omega
            clear hbad
            go_enter Tryz.func139, Tryz.ntmps139
            go_wp2
            go_step3
            go_wp2
            (try rw [Exit.noGoto_ret])
            go_ret
            exact ⟨rfl, HCB.out⟩
          · have h4 : (8 : Int) < (n : Int) := by omega
            have h3' : ¬ (n : Int) < 3 := by omega
            clear hbad h3
            go_enter Tryz.func139, Tryz.ntmps139
            go_wp2
            go_step3
            go_wp2
            (try rw [Exit.noGoto_ret])
            go_ret
            exact ⟨rfl, HCB.out⟩
        · have h2' : (r == 0) = false := by rw [beq_eq_false_iff_ne]; exact h2
          have h2'' : (r != 0) = true := by rw [bne_iff_ne]; exact h2
          clear hbad h2
          go_enter Tryz.func139, Tryz.ntmps139
          go_wp2
          go_step3
          go_wp2
          (try rw [Exit.noGoto_ret])
          go_ret
          exact ⟨rfl, HCB.out⟩
      · have h1' : (k == 2) = false := by rw [beq_eq_false_iff_ne]; exact h1
        have h1'' : (k != 2) = true := by rw [bne_iff_ne]; exact h1
        clear hbad h1
        go_enter Tryz.func139, Tryz.ntmps139
        go_wp2
        go_step3
        go_wp2
        (try rw [Exit.noGoto_ret])
        go_ret
        exact ⟨rfl, HCB.out⟩
    · rw [if_neg hbad]
      have h1 : k = 2 := by omega
      have h2 : r = 0 := by omega
      have h3 : 3 ≤ p.length := by omega
      have h4 : p.length ≤ 8 := by omega
      subst h1
      subst h2
      have hd3 : decide (p.length < 3) = false := by rw [decide_eq_false_iff_not]; omega
      have hd8 : decide (8 < p.length) = false := by rw [decide_eq_false_iff_not]; omega
      have hd3' : decide ((p.length : Int) < 3) = false := by rw [decide_eq_false_iff_not]; omega
      have hd8' : decide ((8 : Int) < (p.length : Int)) = false := by rw [decide_eq_false_iff_not]; omega
      clear hbad hk hkq
      go_enter Tryz.func139, Tryz.ntmps139
      go_wp2
      go_step3
      go_wp2
      have HCB := hd hcb
      have HKB := hd hkb
      clear hcb hkb
      generalize w.alloc (.cells #[.int .i64 2, .int .i64 0, .slice ao p.length c] 95) = w1 at *
      generalize w.heap.size = sb at *
      obtain ⟨b, off, rfl⟩ := HAO.out (by omega)
      go_loopw [50] (fun i wr => ∃ j : Nat, i = .int .i64 (j : Int) ∧ j ≤ p.length ∧ Hd (∀ a ∈ p.take j, nearV a 274877906944 = true) ∧ Hd (Chg [] w1 wr)) (fun i _ => p.length - (intOf i).toNat)
      case atStart => exact ⟨0, rfl, Nat.zero_le _, hd (by simp), hd (Chg.refl _ _)⟩
      case round =>
        obtain ⟨j, rfl, hj, hall, hc⟩ := hrel
        by_cases hjl : j < p.length
        · obtain ⟨q0, q1⟩ := (HP.out.k (HCB.out.k hc.out)).at j hjl
          have hcon := fun W => SWithin_any p[j] (HI.out _ (List.getElem_mem hjl)) W
          have hsn := List.take_succ_eq_append_getElem hjl
          have hmem := List.getElem_mem hjl
          generalize p[j] = a at *
          have HSN := hd hsn
          have HMEM := hd hmem
          clear hsn hmem
          unfold vV at hcon
          obtain ⟨d, hdd⟩ : ∃ d, nearV a 274877906944 = d := ⟨_, rfl⟩
          simp only [hdd] at hcon
          have HD := hd hdd
          clear hdd
          have hcx := (Chg.refl [] wr).alloc (.cells #[.int .i64 a.1, .int .i64 a.2] 27)
          cases d
          · go_wp2_with (go_at_call 175; refine (hcon _).mono ?_; rintro e w3 ⟨rfl, hc3⟩)
            (first | (rw [Exit.noGoto_ret]; go_ret) | go_ret)
            refine ⟨ret_of (congrArg Value.bool ?_), (HCB.out.k hc.out).k (hcx.k hc3)⟩
            have : (p.all fun a => nearV a 274877906944) = false := by
              rw [List.all_eq_false]
              exact ⟨a, HMEM.out, by rw [HD.out]; decide⟩
            rw [this]; rfl
          · go_wp2_with (go_at_call 175; refine (hcon _).mono ?_; rintro e w3 ⟨rfl, hc3⟩)
            have HALL : Hd (∀ a ∈ p.take (j + 1), nearV a 274877906944 = true) := hd (by rw [HSN.out]; intro x hx; rcases List.mem_append.1 hx with h | h; exact hall.out x h; obtain rfl := List.mem_singleton.1 h; exact HD.out)
            have HC := hd (hc.out.k (hcx.k hc3))
            go_roundw
            case rel => exact ⟨j + 1, by go_num, by omega, HALL, HC⟩
            case measure => simp [intOf]; omega
        · obtain rfl : j = p.length := by omega
          have HALL : Hd ((p.all fun a => nearV a 274877906944) = true) := hd (by
            have := hall.out
            rw [List.take_length] at this
            rw [List.all_eq_true]; exact this)
          clear hall hj hjl
          have x2 := (HKB.out.k hc.out).cell 2
          simp at x2
          go_wp2_with fail
          go_step3
          apply_assumption -exfalso -symm
          go_wp2_with fail
          have HC0 := hd (HCB.out.k hc.out)
          have HP0 := hd (HP.out.k HC0.out)
          have HKB0 := hd (HKB.out.k hc.out)
          clear HCB HKB HP
          have hok : ∀ x y z : Nat, IV (p.getD x (0, 0)) ∧ IV (p.getD y (0, 0)) ∧ IV (p.getD z (0, 0)) := fun x y z => ⟨getD_i HI.out x, getD_i HI.out y, getD_i HI.out z⟩
          have HOK := hd hok
          clear hok
          generalize hw0 : wr = w2 at *
          clear hw0 x2
          go_loopw [61] (fun i wr => ∃ ii : Nat, i = .int .i64 (ii : Int) ∧ ii ≤ p.length ∧ Hd (∀ m < ii, ∀ q < p.length, cornerB p m q = true) ∧ Hd (Chg [] w2 wr)) (fun i _ => p.length - (intOf i).toNat)
          case atStart => exact ⟨0, rfl, Nat.zero_le _, hd (by omega), hd (Chg.refl _ _)⟩
          case round =>
            obtain ⟨i, rfl, hi, hdone, hc⟩ := hrel
            by_cases hil : i < p.length
            · obtain ⟨q0, q1⟩ := (HP0.out.k hc.out).at i hil
              obtain ⟨kk, hkk⟩ : ∃ kk, (i + 1) % p.length = kk := ⟨_, rfl⟩
              have hkl : kk < p.length := by rw [← hkk]; exact Nat.mod_lt _ (by omega)
              have hkI : ((i : Int) + 1) % (p.length : Int) = (kk : Int) := by rw [← hkk]; simp
              obtain ⟨r0, r1⟩ := (HP0.out.k hc.out).at kk hkl
              have HKK := hd hkk
              clear hkk
              have hga : p.getD i (0, 0) = p[i] := by rw [List.getD_eq_getElem?_getD, List.getElem?_eq_getElem hil]; rfl
              have hgk : p.getD kk (0, 0) = p[kk] := by rw [List.getD_eq_getElem?_getD, List.getElem?_eq_getElem hkl]; rfl
              have HGK2' : ∃ x, x = p[kk] := ⟨_, rfl⟩
              generalize hgk2 : p[kk] = ak at *
              have HGK2 := hd hgk2
              clear hgk2 HGK2'
              generalize p[i] = a at *
              have HGA := hd hga
              have HGK := hd hgk
              clear hga hgk
              have x2 := (HKB0.out.k hc.out).cell 2
              simp at x2
              have hcx := (Chg.refl [] wr).alloc (.cells #[.int .i64 a.1, .int .i64 a.2] 27)
              have hka := Blk.new wr #[.int .i64 a.1, .int .i64 a.2] 27
              go_upto_region 16 with (fail)
              have hCA := hd (hc.out.k hcx)
              replace x2 := hcx.cellS x2
              generalize wr.alloc (.cells #[.int .i64 a.1, .int .i64 a.2] 27) = w3 at *
              generalize wr.heap.size = ab at *
              have HKA := hd hka
              clear hka hcx hc q0 q1 r0 r1 wr
              go_wp2_with fail
              rw [hkI]
              clear hkI
              go_loopw [73] (fun j wr => ∃ jj : Nat, j = .int .i64 (jj : Int) ∧ jj ≤ p.length ∧ Hd (∀ q < jj, cornerB p i q = true) ∧ Hd (Chg [] w3 wr)) (fun j _ => p.length - (intOf j).toNat)
              case atStart => exact ⟨0, rfl, Nat.zero_le _, hd (by omega), hd (Chg.refl _ _)⟩
              case round =>
                obtain ⟨j, rfl, hj, hrow, hc⟩ := hrel
                by_cases hjl : j < p.length
                · obtain ⟨q0, q1⟩ := (HP0.out.k (hCA.out.k hc.out)).at j hjl
                  have hgo : p.getD j (0, 0) = p[j] := by rw [List.getD_eq_getElem?_getD, List.getElem?_eq_getElem hjl]; rfl
                  generalize p[j] = o at *
                  have HGO := hd hgo
                  clear hgo
                  have hcy := (Chg.refl [] wr).alloc (.cells #[.int .i64 o.1, .int .i64 o.2] 27)
                  have hko := Blk.new wr #[.int .i64 o.1, .int .i64 o.2] 27
                  go_upto_region 19 with (fail)
                  have hCO := hd (hc.out.k hcy)
                  generalize wr.alloc (.cells #[.int .i64 o.1, .int .i64 o.2] 27) = w4 at *
                  generalize wr.heap.size = ob at *
                  have HKO := hd hko
                  clear hko hcy hc q0 q1 wr
                  by_cases hji : j = i
                  · have hq1 : ((j : Int) == (i : Int)) = true := by rw [beq_iff_eq]; omega
                    have HR : Hd (∀ q < j + 1, cornerB p i q = true) := hd (row_next hrow.out (by unfold cornerB; simp [hji]))
                    clear hji
                    go_wp2_with fail
                    go_roundw
                    case rel => exact ⟨j + 1, by go_num, by omega, HR, hCO⟩
                    case measure => simp [intOf]; omega
                  · have hq1 : ((j : Int) == (i : Int)) = false := by rw [beq_eq_false_iff_ne]; omega
                    by_cases hjk : j = kk
                    · have hq2 : ((j : Int) == (kk : Int)) = true := by rw [beq_iff_eq]; omega
                      have HR : Hd (∀ q < j + 1, cornerB p i q = true) := hd (row_next hrow.out (by unfold cornerB; rw [HKK.out]; simp [hjk]))
                      clear hji hjk
                      go_wp2_with fail
                      go_roundw
                      case rel => exact ⟨j + 1, by go_num, by omega, HR, hCO⟩
                      case measure => simp [intOf]; omega
                    · have hq2 : ((j : Int) == (kk : Int)) = false := by rw [beq_eq_false_iff_ne]; omega
                      have HJI := hd hji
                      have HJK := hd hjk
                      obtain ⟨hia, hik, hio⟩ := HOK.out i kk j
                      rw [HGA.out] at hia
                      rw [HGK.out] at hik
                      rw [HGO.out] at hio
                      have hs1 := fun W => VSub_any ak a hik hia W
                      have hs2 := fun W => VSub_any o a hio hia W
                      have hs3 := fun W => Cross_any (subV ak a) (subV o a) (subV_i _ _) (subV_i _ _) W
                      have hcor : cornerB p i j = decide (0 < crossV (subV ak a) (subV o a)) := by
                        unfold cornerB
                        rw [HKK.out, HGA.out, HGK.out, HGO.out, decide_eq_false hji, decide_eq_false hjk]; rfl
                      have hbd := crossV_s (subV ak a) (subV o a)
                      have HCOR := hd hcor
                      obtain ⟨z, hz⟩ : ∃ z, crossV (subV ak a) (subV o a) = z := ⟨_, rfl⟩
                      rw [hz] at HCOR hbd
                      simp only [hz] at hs3
                      clear hz hji hjk hcor hia hik hio
                      unfold vV at hs1 hs2 hs3
                      generalize subV ak a = d1 at *
                      generalize subV o a = d2 at *
                      obtain ⟨hb1, hb2⟩ := hbd
                      have hpk := (HP0.out.k (hCA.out.k hCO.out)).at kk hkl
                      have x2' := hCO.out.cellS x2
                      have HQ : Hd (∀ wx, Chg [] w4 wx → wx.cell? ⟨sb, 2, none⟩ = some (.slice (some ⟨b, off, none⟩) p.length c) ∧ wx.cell? ⟨b, off + kk * 2, none⟩ = some (.int .i64 ak.1) ∧ wx.cell? ⟨b, off + kk * 2 + 1, none⟩ = some (.int .i64 ak.2) ∧ wx.cell? ⟨ab, 0, none⟩ = some (.int .i64 a.1) ∧ wx.cell? ⟨ab, 1, none⟩ = some (.int .i64 a.2) ∧ wx.cell? ⟨ob, 0, none⟩ = some (.int .i64 o.1) ∧ wx.cell? ⟨ob, 1, none⟩ = some (.int .i64 o.2)) :=
                        hd fun wx hx => ⟨hx.cellS x2', hx.cellS (by rw [hpk.1, HGK2.out]), hx.cellS (by rw [hpk.2, HGK2.out]), hx.cellS ((HKA.out.k hCO.out).cell 0), hx.cellS ((HKA.out.k hCO.out).cell 1), hx.cellS (HKO.out.cell 0), hx.cellS (HKO.out.cell 1)⟩
                      clear hpk x2' x2
                      by_cases hz : 0 < z
                      · have HR : Hd (∀ q < j + 1, cornerB p i q = true) := hd (row_next hrow.out (by rw [HCOR.out]; exact decide_eq_true hz))
                        have hzq : decide (z ≤ 0) = false := by rw [decide_eq_false_iff_not]; omega
                        clear hz
                        go_upto_region 20 with (fail)
                        refine rg (N := 12) (by kernel_rfl) (by kernel_rfl) (S := (fun wx => Chg [] w4 wx)) ((Chg.refl _ _).drew) (fun hHeld => ?_)
                        refine tks [0, 1, 2, 3, 4, 5, 7, 8] (by kernel_rfl) (fun _ _ _ _ _ h => h) (by assumption) ?_
                        iterate 8 (refine tkc rfl rfl (by rfl) (fun wx hSw => by (try dsimp only at hSw); (obtain ⟨t0, t1, t2, t3, t4, t5, t6⟩ := HQ.out _ hSw); go_simp; (try with_reducible rfl)) ?_; simp only [List.set])
                        refine tk0 ?_
                        refine rn 6 rfl (by kernel_rfl) (by rfl) fun KK hKK => ?_
                        go_simp; (refine (hs1 _).mono ?_; rintro e w5 ⟨rfl, hc5⟩; have hS5 := (Chg.refl [] w4).drew.k hc5; (try go_simp)); refine hKK.out _ _ (by assumption) fun hHeld => ?_; clear hKK KK; try simp only [Act.put, List.setIfInBounds_toArray, List.set]
                        refine rn 9 rfl (by kernel_rfl) (by rfl) fun KK hKK => ?_
                        go_simp; (refine (hs2 _).mono ?_; rintro e w6 ⟨rfl, hc6⟩; have hS6 := hS5.k hc6; (try go_simp)); refine hKK.out _ _ (by assumption) fun hHeld => ?_; clear hKK KK; try simp only [Act.put, List.setIfInBounds_toArray, List.set]
                        refine rn 10 rfl (by kernel_rfl) (by rfl) fun KK hKK => ?_
                        go_simp; (refine (hs3 _).mono ?_; rintro e w7 ⟨rfl, hc7⟩; have hS7 := hS6.k hc7; (try go_simp)); refine hKK.out _ _ (by assumption) fun hHeld => ?_; clear hKK KK; try simp only [Act.put, List.setIfInBounds_toArray, List.set]
                        refine rn 11 rfl (by kernel_rfl) (by rfl) fun KK hKK => ?_
                        go_simp; refine hKK.out _ _ (by assumption) fun hHeld => ?_; clear hKK KK; try simp only [Act.put, List.setIfInBounds_toArray, List.set]
                        refine wpAnyH_done (by kernel_rfl) ?_ _
                        skip
                        have HCF := hd (hCO.out.k hS7)
                        clear hS5 hS6 hS7 hHeld hc5 hc6 hc7
                        by_cases hp3 : p.length = 3
                        · have HROW : Hd (∀ q < p.length, cornerB p i q = true) := hd (by
                            rw [hp3]
                            exact corner_three hp3 (by omega) (by omega) HJI.out (by have := HJK.out; have := HKK.out; rw [hp3] at this; omega) HR.out)
                          have HDN : Hd (∀ m < i + 1, ∀ q < p.length, cornerB p m q = true) := hd (rows_next hdone.out HROW.out)
                          have hp3' : ((p.length : Int) == 3) = true := by rw [beq_iff_eq]; omega
                          clear hp3
                          go_wp2_with fail
                          go_roundw
                          case rel => exact ⟨i + 1, by go_num, by omega, HDN, hd (hCA.out.k HCF.out)⟩
                          case measure => simp [intOf]; omega
                        · have hp3' : ((p.length : Int) == 3) = false := by rw [beq_eq_false_iff_ne]; omega
                          clear hp3
                          go_wp2_with fail
                          go_roundw
                          case rel => exact ⟨j + 1, by go_num, by omega, HR, HCF⟩
                          case measure => simp [intOf]; omega
                      · have HNO : Hd (convexB p = false) := hd (convex_no hil hjl (by rw [HCOR.out]; exact decide_eq_false hz))
                        have hzq : decide (z ≤ 0) = true := by rw [decide_eq_true_iff]; omega
                        clear hz
                        go_upto_region 20 with (fail)
                        refine rg (N := 12) (by kernel_rfl) (by kernel_rfl) (S := (fun wx => Chg [] w4 wx)) ((Chg.refl _ _).drew) (fun hHeld => ?_)
                        refine tks [0, 1, 2, 3, 4, 5, 7, 8] (by kernel_rfl) (fun _ _ _ _ _ h => h) (by assumption) ?_
                        iterate 8 (refine tkc rfl rfl (by rfl) (fun wx hSw => by (try dsimp only at hSw); (obtain ⟨t0, t1, t2, t3, t4, t5, t6⟩ := HQ.out _ hSw); go_simp; (try with_reducible rfl)) ?_; simp only [List.set])
                        refine tk0 ?_
                        refine rn 6 rfl (by kernel_rfl) (by rfl) fun KK hKK => ?_
                        go_simp; (refine (hs1 _).mono ?_; rintro e w5 ⟨rfl, hc5⟩; have hS5 := (Chg.refl [] w4).drew.k hc5; (try go_simp)); refine hKK.out _ _ (by assumption) fun hHeld => ?_; clear hKK KK; try simp only [Act.put, List.setIfInBounds_toArray, List.set]
                        refine rn 9 rfl (by kernel_rfl) (by rfl) fun KK hKK => ?_
                        go_simp; (refine (hs2 _).mono ?_; rintro e w6 ⟨rfl, hc6⟩; have hS6 := hS5.k hc6; (try go_simp)); refine hKK.out _ _ (by assumption) fun hHeld => ?_; clear hKK KK; try simp only [Act.put, List.setIfInBounds_toArray, List.set]
                        refine rn 10 rfl (by kernel_rfl) (by rfl) fun KK hKK => ?_
                        go_simp; (refine (hs3 _).mono ?_; rintro e w7 ⟨rfl, hc7⟩; have hS7 := hS6.k hc7; (try go_simp)); refine hKK.out _ _ (by assumption) fun hHeld => ?_; clear hKK KK; try simp only [Act.put, List.setIfInBounds_toArray, List.set]
                        refine rn 11 rfl (by kernel_rfl) (by rfl) fun KK hKK => ?_
                        go_simp; refine hKK.out _ _ (by assumption) fun hHeld => ?_; clear hKK KK; try simp only [Act.put, List.setIfInBounds_toArray, List.set]
                        refine wpAnyH_done (by kernel_rfl) ?_ _
                        skip
                        go_wp2_with fail
                        (first | (rw [Exit.noGoto_ret]; go_ret) | go_ret)
                        exact ⟨ret_of (congrArg Value.bool (by rw [HNO.out, Bool.and_false])), HC0.out.k (hCA.out.k (hCO.out.k hS7))⟩
                · obtain rfl : j = p.length := by omega
                  have HDN : Hd (∀ m < i + 1, ∀ q < p.length, cornerB p m q = true) := hd (rows_next hdone.out hrow.out)
                  have HCE := hd (hCA.out.k hc.out)
                  clear hrow
                  go_wp2_with fail
                  go_roundw
                  case rel => exact ⟨i + 1, by go_num, by omega, HDN, HCE⟩
                  case measure => simp [intOf]; omega
            · obtain rfl : i = p.length := by omega
              have HYES : Hd (convexB p = true) := hd (convex_yes hdone.out)
              go_wp2_with fail
              (first | (rw [Exit.noGoto_ret]; go_ret) | go_ret)
              exact ⟨ret_of (congrArg Value.bool (by rw [HYES.out, HALL.out]; rfl)), HC0.out.k hc.out⟩
end Go.Proofs.YtbiadpkglcdihaaGreat

/- world.RightBody, world.RightJoint: which bodies and joints may be. -/
namespace Go.Proofs.YtbiadpkglcdihaaGreat
open Go.RowKit

structure Bdy where
  id : Int
  pos : V2
  vel : V2
  angle : Int
  spin : Int
  density : Int
  shape : Shp
structure Jnt where
  id : Int
  a : Int
  b : Int
  at_ : V2
  to_ : V2
  len : Int
def vB (b : Bdy) (pv : Value) : Value := .agg #[.int .i64 b.id, .int .i64 b.pos.1, .int .i64 b.pos.2, .int .i64 b.vel.1, .int .i64 b.vel.2, .int .i64 b.angle, .int .i64 b.spin, .int .i64 b.density, .int .i64 b.shape.kind, .int .i64 b.shape.r, pv]
def vJ (j : Jnt) : Value := .agg #[.int .i64 j.id, .int .i64 j.a, .int .i64 j.b, .int .i64 j.at_.1, .int .i64 j.at_.2, .int .i64 j.to_.1, .int .i64 j.to_.2, .int .i64 j.len]
def rightB (b : Bdy) : Bool :=
  rightS b.shape && nearV b.pos 4503599627370496 && nearV b.vel 17592186044416 && !decide (1099511627776 < absF b.spin) && !decide (b.angle < 0) && !decide (4294967296 ≤ b.angle) && !decide (b.density < 0) && !decide (4398046511104 < b.density) &&
    (decide (0 < b.density) || (decide (b.vel.1 = 0) && decide (b.vel.2 = 0) && decide (b.spin = 0)))
def rightJ (j : Jnt) : Bool :=
  nearV j.at_ 274877906944 && nearV j.to_ 274877906944 && decide (0 ≤ j.len) && decide (j.len ≤ 4503599627370496) && decide (1 ≤ j.a) && decide (1 ≤ j.b) && !decide (j.a = j.b)
set_option maxHeartbeats 1000000 in
theorem WWithin_any (a : V2) (most : Int) (ha : IV a) (w : World) : Calls Tryz.prog 105 #[vV a, .int .i64 most] w fun e w' => e = .returned (.bool (nearV a most)) ∧ Chg [] w w' := by
  obtain ⟨x, y⟩ := a
  obtain ⟨h1, h2⟩ := ha
  have hc1 := fun W => Abs_any x h1 W
  have hc2 := fun W => Abs_any y h2 W
  have hb1 := absF_s h1
  have hb2 := absF_s h2
  unfold nearV vV
  simp only at h1 h2 ⊢
  generalize absF x = p at *
  generalize absF y = q at *
  have hcb := (Chg.refl [] w).alloc (.cells #[.int .i64 x, .int .i64 y] 27)
  by_cases k1 : p ≤ most <;> by_cases k2 : q ≤ most <;> (
    go_enter Tryz.func105, Tryz.ntmps105
    go_wp2_with (first
      | (go_at_call 136; ((with_reducible refine (hc1 _).mono ?_); rintro e w' ⟨rfl, rfl⟩))
      | (go_at_call 136; ((with_reducible refine (hc2 _).mono ?_); rintro e w' ⟨rfl, rfl⟩)))
    go_ret
    exact ⟨by simp [k1, k2], hcb⟩)
end Go.Proofs.YtbiadpkglcdihaaGreat

/- world.RightBody, world.RightJoint. -/
namespace Go.Proofs.YtbiadpkglcdihaaGreat
open Go.RowKit

set_option maxRecDepth 100000 in
set_option maxHeartbeats 8000000 in
theorem RightB_any (w : World) (x : Bdy) (pv : Value) (hp : VsS w pv x.shape.p) (hi : ∀ a ∈ x.shape.p, IV a) (h1 : IV x.pos) (h2 : IV x.vel) (h3 : I64 x.spin) :
    Calls Tryz.prog 112 #[vB x pv] w fun e w' => e = .returned (.bool (rightB x)) ∧ Chg [] w w' := by
  obtain ⟨i, ⟨px, py⟩, ⟨vx, vy⟩, an, sp, de, ⟨k, r, p⟩⟩ := x
  simp only at hp hi h1 h2 h3
  have hcb := (Chg.refl [] w).alloc (.cells #[.int .i64 i, .int .i64 px, .int .i64 py, .int .i64 vx, .int .i64 vy, .int .i64 an, .int .i64 sp, .int .i64 de, .int .i64 k, .int .i64 r, pv] 97)
  have hkb := Blk.new w #[.int .i64 i, .int .i64 px, .int .i64 py, .int .i64 vx, .int .i64 vy, .int .i64 an, .int .i64 sp, .int .i64 de, .int .i64 k, .int .i64 r, pv] 97
  have hc1 := fun W (hW : Chg [] w W) => SRight_any W ⟨k, r, p⟩ pv (hp.k hW) hi
  have hc2 := fun W => WWithin_any (px, py) 4503599627370496 h1 W
  have hc3 := fun W => WWithin_any (vx, vy) 17592186044416 h2 W
  have hc4 := fun W => Abs_any sp h3 W
  have hb4 := absF_s h3
  unfold vV at hc2 hc3
  unfold vS at hc1
  unfold rightB vB
  simp only at hc1 hc2 hc3 ⊢
  generalize rightS ⟨k, r, p⟩ = s at *
  generalize nearV (px, py) 4503599627370496 = n1 at *
  generalize nearV (vx, vy) 17592186044416 = n2 at *
  generalize absF sp = a at *
  obtain ⟨ao, c, rfl, -⟩ := hp.form
  have hc1 := hc1 _ hcb
  clear hp hi h1 h2
  go_enter Tryz.func112, Tryz.ntmps112
  go_upto_region 1 with (fail)
  generalize w.alloc (.cells #[.int .i64 i, .int .i64 px, .int .i64 py, .int .i64 vx, .int .i64 vy, .int .i64 an, .int .i64 sp, .int .i64 de, .int .i64 k, .int .i64 r, .slice ao p.length c] 97) = w0 at *
  generalize w.heap.size = b at *
  have HQ : Hd (∀ wx, Chg [] w0 wx → (wx.cell? ⟨b, 1, none⟩ = some (.int .i64 px) ∧ wx.cell? ⟨b, 2, none⟩ = some (.int .i64 py) ∧ wx.cell? ⟨b, 3, none⟩ = some (.int .i64 vx) ∧ wx.cell? ⟨b, 4, none⟩ = some (.int .i64 vy) ∧ wx.cell? ⟨b, 5, none⟩ = some (.int .i64 an) ∧ wx.cell? ⟨b, 6, none⟩ = some (.int .i64 sp) ∧ wx.cell? ⟨b, 7, none⟩ = some (.int .i64 de) ∧ wx.cell? ⟨b, 8, none⟩ = some (.int .i64 k) ∧ wx.cell? ⟨b, 9, none⟩ = some (.int .i64 r) ∧ wx.cell? ⟨b, 10, none⟩ = some (.slice ao p.length c))) :=
    hd fun wx hx => ⟨hx.cellS (hkb.cell 1), hx.cellS (hkb.cell 2), hx.cellS (hkb.cell 3), hx.cellS (hkb.cell 4), hx.cellS (hkb.cell 5), hx.cellS (hkb.cell 6), hx.cellS (hkb.cell 7), hx.cellS (hkb.cell 8), hx.cellS (hkb.cell 9), hx.cellS (hkb.cell 10)⟩
  have HCB := hd hcb
  clear hcb hkb
  obtain ⟨q1, q2, q3, q4, q5, q6, q7, q8, q9, q10⟩ := HQ.out w0 (Chg.refl _ _)
  cases s
  · go_wp2_with (first
      | (go_at_call 139; refine hc1.mono ?_; rintro e w1 ⟨rfl, hk1⟩))
    go_ret
    exact ⟨rfl, HCB.out.k hk1⟩
  go_wp2_with (first
    | (go_at_call 139; refine hc1.mono ?_; rintro e w1 ⟨rfl, hk1⟩; obtain ⟨q1, q2, q3, q4, q5, q6, q7, q8, q9, q10⟩ := HQ.out w1 hk1)
    | (go_at_call 105; ((with_reducible refine (hc2 _).mono ?_); rintro e w2 ⟨rfl, hk2⟩; replace hk2 := hk1.k hk2; obtain ⟨q1, q2, q3, q4, q5, q6, q7, q8, q9, q10⟩ := HQ.out w2 hk2))
    | (go_at_call 105; ((with_reducible refine (hc3 _).mono ?_); rintro e w3 ⟨rfl, hk3⟩; replace hk3 := hk2.k hk3; obtain ⟨q1, q2, q3, q4, q5, q6, q7, q8, q9, q10⟩ := HQ.out w3 hk3))
    | (go_at_call 136; refine (hc4 _).mono ?_; rintro e w4 ⟨rfl, rfl⟩))
  all_goals (first | go_ret | skip)
  all_goals (try refine ⟨ret_of (congrArg Value.bool ?_), (by first | exact HCB.out.k hk3 | exact HCB.out.k hk2 | exact HCB.out.k hk1)⟩)
  all_goals clear HQ hc1 hc2 hc3 hc4 q1 q2 q3 q4 q5 q6 q7 q8 q9 q10
  all_goals (try (simp_all; done))
  all_goals (try (simp_all; omega))
  all_goals simp_all
  rw [show (sp == 0) = decide (sp = 0) from rfl, Bool.eq_iff_iff]
  simp only [Bool.or_eq_true, Bool.and_eq_true, decide_eq_true_eq, Bool.not_eq_true', decide_eq_false_iff_not]
  omega
set_option maxRecDepth 100000 in
set_option maxHeartbeats 8000000 in
theorem RightJ_any (w : World) (x : Jnt) (h1 : IV x.at_) (h2 : IV x.to_) :
    Calls Tryz.prog 113 #[vJ x] w fun e w' => e = .returned (.bool (rightJ x)) ∧ Chg [] w w' := by
  obtain ⟨i, a, b, ⟨px, py⟩, ⟨vx, vy⟩, ln⟩ := x
  simp only at h1 h2
  have hcb := (Chg.refl [] w).alloc (.cells #[.int .i64 i, .int .i64 a, .int .i64 b, .int .i64 px, .int .i64 py, .int .i64 vx, .int .i64 vy, .int .i64 ln] 101)
  have hkb := Blk.new w #[.int .i64 i, .int .i64 a, .int .i64 b, .int .i64 px, .int .i64 py, .int .i64 vx, .int .i64 vy, .int .i64 ln] 101
  have hc2 := fun W => WWithin_any (px, py) 274877906944 h1 W
  have hc3 := fun W => WWithin_any (vx, vy) 274877906944 h2 W
  unfold vV at hc2 hc3
  unfold rightJ vJ
  simp only at hc2 hc3 ⊢
  generalize nearV (px, py) 274877906944 = n1 at *
  generalize nearV (vx, vy) 274877906944 = n2 at *
  clear h1 h2
  go_enter Tryz.func113, Tryz.ntmps113
  go_upto_region 1 with (fail)
  generalize w.alloc (.cells #[.int .i64 i, .int .i64 a, .int .i64 b, .int .i64 px, .int .i64 py, .int .i64 vx, .int .i64 vy, .int .i64 ln] 101) = w0 at *
  generalize w.heap.size = bb at *
  have HQ : Hd (∀ wx, Chg [] w0 wx → (wx.cell? ⟨bb, 1, none⟩ = some (.int .i64 a) ∧ wx.cell? ⟨bb, 2, none⟩ = some (.int .i64 b) ∧ wx.cell? ⟨bb, 3, none⟩ = some (.int .i64 px) ∧ wx.cell? ⟨bb, 4, none⟩ = some (.int .i64 py) ∧ wx.cell? ⟨bb, 5, none⟩ = some (.int .i64 vx) ∧ wx.cell? ⟨bb, 6, none⟩ = some (.int .i64 vy) ∧ wx.cell? ⟨bb, 7, none⟩ = some (.int .i64 ln))) :=
    hd fun wx hx => ⟨hx.cellS (hkb.cell 1), hx.cellS (hkb.cell 2), hx.cellS (hkb.cell 3), hx.cellS (hkb.cell 4), hx.cellS (hkb.cell 5), hx.cellS (hkb.cell 6), hx.cellS (hkb.cell 7)⟩
  have HCB := hd hcb
  clear hcb hkb
  obtain ⟨q1, q2, q3, q4, q5, q6, q7⟩ := HQ.out w0 (Chg.refl _ _)
  go_wp2_with (first
    | (go_at_call 105; ((with_reducible refine (hc2 _).mono ?_); rintro e w2 ⟨rfl, hk2⟩; obtain ⟨q1, q2, q3, q4, q5, q6, q7⟩ := HQ.out w2 hk2))
    | (go_at_call 105; ((with_reducible refine (hc3 _).mono ?_); rintro e w3 ⟨rfl, hk3⟩; replace hk3 := hk2.k hk3; obtain ⟨q1, q2, q3, q4, q5, q6, q7⟩ := HQ.out w3 hk3)))
  all_goals (first | go_ret | skip)
  all_goals (try refine ⟨ret_of (congrArg Value.bool ?_), (by first | exact HCB.out.k hk3 | exact HCB.out.k hk2)⟩)
  all_goals clear HQ hc2 hc3 q1 q2 q3 q4 q5 q6 q7
  all_goals (try (simp_all; done))
  all_goals (try (simp_all; omega))
  all_goals simp_all
  rfl
end Go.Proofs.YtbiadpkglcdihaaGreat

/- Package order: which orders may be. -/
namespace Go.Proofs.YtbiadpkglcdihaaGreat
open Go.RowKit

structure Ord where
  kind : Int
  id : Int
  a : Int
  b : Int
  pos : V2
  vel : V2
  angle : Int
  spin : Int
  density : Int
  len : Int
  shape : Shp
def cO (o : Ord) (pv : Value) : List Value := [.int .i64 o.kind, .int .i64 o.id, .int .i64 o.a, .int .i64 o.b, .int .i64 o.pos.1, .int .i64 o.pos.2, .int .i64 o.vel.1, .int .i64 o.vel.2, .int .i64 o.angle, .int .i64 o.spin, .int .i64 o.density, .int .i64 o.len, .int .i64 o.shape.kind, .int .i64 o.shape.r, pv]
end Go.Proofs.YtbiadpkglcdihaaGreat

/- codec.writer: shapes. -/
namespace Go.Proofs.YtbiadpkglcdihaaGreat
open Go.RowKit

def leS (s : Shp) : List UInt8 := leB 1 s.kind ++ (if s.kind = 1 then leF [s.r] else leB 1 s.p.length ++ leF (fV s.p))

set_option maxRecDepth 100000 in
set_option maxHeartbeats 4000000 in
theorem WShape_any (base b : Nat) (l : List UInt8) (s : Shp) (pv : Value) (w : World) (hw : WrT 123 w base b l) (hb : base ≤ b) (hz : ∀ w', Fr base b w w' → VsS w' pv s.p) (hl : l.length + 16 * s.p.length + 64 ≤ 140737488355000) :
    Calls Tryz.prog 63 #[.pointer (some ⟨b, 0, none⟩), vS s pv] w fun e w' =>
      e = .returned (.tuple #[]) ∧ WrT 123 w' base b (l ++ leS s) ∧ Fr base b w w' := by
  obtain ⟨k, r, p⟩ := s
  simp only at hz hl
  have hblt := hw.lt
  obtain ⟨ao, c, rfl, -⟩ := (hz w (Fr.refl _ _ _)).form
  have hcb := (Chg.refl [] w).alloc (.cells #[.int .i64 k, .int .i64 r, .slice ao p.length c] 95)
  have hkb := Blk.new w #[.int .i64 k, .int .i64 r, .slice ao p.length c] 95
  have hf0 : Fr base b w (w.alloc (.cells #[.int .i64 k, .int .i64 r, .slice ao p.length c] 95)) := Fr.chg hcb (by omega)
  have hw0 := hw.k hcb
  have hz0 : ∀ w', Fr base b (w.alloc (.cells #[.int .i64 k, .int .i64 r, .slice ao p.length c] 95)) w' → VsS w' (.slice ao p.length c) p := fun w' h => hz w' (hf0.trans h)
  have hsz : (w.alloc (.cells #[.int .i64 k, .int .i64 r, .slice ao p.length c] 95)).heap.size = w.heap.size + 1 := by simp
  unfold vS
  obtain ⟨L, hL⟩ : ∃ L, L = leS ⟨k, r, p⟩ := ⟨_, rfl⟩
  rw [← hL]
  unfold leS at hL
  simp only at hL ⊢
  have HLL := hd hL
  clear hL
  clear hw hz hcb
  go_enter Tryz.func63, Tryz.ntmps63
  go_upto_region 1 with (fail)
  generalize w.alloc (.cells #[.int .i64 k, .int .i64 r, .slice ao p.length c] 95) = w0 at *
  have hbn : b ≠ w.heap.size := by omega
  generalize w.heap.size = bk at *
  have HQ : Hd (∀ wx, Fr base b w0 wx → wx.cell? ⟨bk, 0, none⟩ = some (.int .i64 k) ∧ wx.cell? ⟨bk, 1, none⟩ = some (.int .i64 r) ∧ wx.cell? ⟨bk, 2, none⟩ = some (.slice ao p.length c)) := hd fun wx hx => by
    have := hx.kp _ _ _ hkb (by decide) (fun e => hbn e.symm)
    exact ⟨this.cell 0, this.cell 1, this.cell 2⟩
  have HW0 := hd hw0
  have HF0 := hd hf0
  have HZ0 := hd hz0
  have HL := hd hl
  have HB : Hd (base ≤ w0.heap.size) := hd (by omega)
  clear hw0 hf0 hz0 hkb hbn hsz hl hblt
  refine rg (N := 6) (by kernel_rfl) (by kernel_rfl) (S := (fun wx => Fr base b w0 wx)) (Fr.chg (Chg.refl _ _).drew HB.out) (fun hHeld => ?_)
  refine tks [0, 1, 2, 3, 4] (by kernel_rfl) (fun _ _ _ _ _ h => h) (by assumption) ?_
  iterate 5 (refine tkc rfl rfl (by rfl) (fun wx hSw => by (try dsimp only at hSw); (obtain ⟨q0, q1, q2⟩ := HQ.out _ hSw); go_simp; (try with_reducible rfl)) ?_; simp only [List.set])
  refine tk0 ?_
  refine rn 5 rfl (by kernel_rfl) (by rfl) fun KK hKK => ?_
  go_simp; (refine (WTNum_any _ (by decide) 1 k base b _ _ (HW0.out.k (Chg.refl [] w0).drew) hb (by omega) (by omega) (by have := HL.out; omega)).mono ?_; rintro e w1 ⟨rfl, hw1, hf1⟩; have hfr1 := Fr.trans hHeld hf1; (try go_simp)); refine hKK.out _ _ (by assumption) fun hHeld => ?_; clear hKK KK; try simp only [Act.put, List.setIfInBounds_toArray, List.set]
  refine wpAnyH_done (by kernel_rfl) ?_ _
  skip
  have HR1 := hd hfr1
  have HW1 := hd hw1
  have HB1 : Hd (base ≤ w1.heap.size) := hd (by have := hw1.lt; omega)
  have HN1 : Hd (b ≠ w1.heap.size) := hd (by have := hw1.lt; omega)
  clear hf1 hHeld hfr1 hw1
  obtain ⟨q0, q1, q2⟩ := HQ.out w1 HR1.out
  by_cases h1 : k = 1
  · subst h1
    go_upto_region 3 with (fail)
    clear q0 q1 q2
    refine rg (N := 7) (by kernel_rfl) (by kernel_rfl) (S := (fun wx => Fr base b w1 wx)) (Fr.chg (Chg.refl _ _).drew HB1.out) (fun hHeld => ?_)
    refine tks [0, 1, 2, 3, 4] (by kernel_rfl) (fun _ _ _ _ _ h => h) (by assumption) ?_
    iterate 5 (refine tkc rfl rfl (by rfl) (fun wx hSw => by (try dsimp only at hSw); (obtain ⟨q0, q1, q2⟩ := HQ.out _ (HR1.out.trans hSw)); go_simp; (try with_reducible rfl)) ?_; simp only [List.set])
    refine tk0 ?_
    refine rn 5 rfl (by kernel_rfl) (by rfl) fun KK hKK => ?_
    go_simp; (have hcc := (Chg.refl [] w1.drew).alloc (.cells #[.int .i64 r] 25); have hnb := Blk.new w1.drew #[.int .i64 r] 25; have hm5 := Fr.trans hHeld (Fr.chg hcc HB1.out)); refine hKK.out _ _ (by assumption) fun hHeld => ?_; clear hKK KK; try simp only [Act.put, List.setIfInBounds_toArray, List.set]
    refine rn 6 rfl (by kernel_rfl) (by rfl) fun KK hKK => ?_
    go_simp; (refine (WTF_any _ (by decide) base b _ _ [r] _ ((HW1.out.k (Chg.refl [] w1).drew).k hcc) hb (Fs.fr hnb (by decide) (fun e => HN1.out e.symm) rfl rfl (by simp)) (by have := HL.out; simp; omega)).mono ?_; rintro e w2 ⟨rfl, hw2, hf2⟩; have hfr2 := Fr.trans hm5 hf2; (try go_simp)); refine hKK.out _ _ (by assumption) fun hHeld => ?_; clear hKK KK; try simp only [Act.put, List.setIfInBounds_toArray, List.set]
    refine wpAnyH_done (by kernel_rfl) ?_ _
    skip
    go_wp2_with (fail)
    refine bodyPost_ret (v := .tuple #[]) (by simp only [results]; go_simp) rfl ⟨rfl, by rw [HLL.out]; simpa using hw2, (HF0.out.trans HR1.out).trans hfr2⟩
  · have g1 : (k == 1) = false := by rw [beq_eq_false_iff_ne]; exact h1
    have H1 := hd h1
    clear h1
    go_upto_region 4 with (fail)
    clear q0 q1 q2
    refine rg (N := 10) (by kernel_rfl) (by kernel_rfl) (S := (fun wx => Fr base b w1 wx)) (Fr.chg (Chg.refl _ _).drew HB1.out) (fun hHeld => ?_)
    refine tks [0, 1, 2, 3, 4, 5, 7, 8] (by kernel_rfl) (fun _ _ _ _ _ h => h) (by assumption) ?_
    iterate 8 (refine tkc rfl rfl (by rfl) (fun wx hSw => by (try dsimp only at hSw); (obtain ⟨q0, q1, q2⟩ := HQ.out _ (HR1.out.trans hSw)); go_simp; (try with_reducible rfl)) ?_; simp only [List.set])
    refine tk0 ?_
    refine rn 6 rfl (by kernel_rfl) (by rfl) fun KK hKK => ?_
    go_simp; (refine (WTNum_any _ (by decide) 1 p.length base b _ _ (HW1.out.k (Chg.refl [] w1).drew) hb (by omega) (by omega) (by have := HL.out; simp; omega)).mono ?_; rintro e w2 ⟨rfl, hw2, hf2⟩; have hm6 := Fr.trans hHeld hf2; (try go_simp)); refine hKK.out _ _ (by assumption) fun hHeld => ?_; clear hKK KK; try simp only [Act.put, List.setIfInBounds_toArray, List.set]
    refine rn 9 rfl (by kernel_rfl) (by rfl) fun KK hKK => ?_
    go_simp; (refine (WTV_any _ (by decide) base b _ _ p _ hw2 hb (fun w' h => HZ0.out w' ((HR1.out.trans hm6).trans h)) (by have := HL.out; simp; omega)).mono ?_; rintro e w3 ⟨rfl, hw3, hf3⟩; have hm9 := Fr.trans hm6 hf3; (try go_simp)); refine hKK.out _ _ (by assumption) fun hHeld => ?_; clear hKK KK; try simp only [Act.put, List.setIfInBounds_toArray, List.set]
    refine wpAnyH_done (by kernel_rfl) ?_ _
    skip
    go_wp2_with (fail)
    go_end0
    exact ⟨rfl, by have := hw3; rw [HLL.out, if_neg H1.out]; simpa using this, (HF0.out.trans HR1.out).trans hm9⟩
end Go.Proofs.YtbiadpkglcdihaaGreat

/- codec.writer: orders. -/
namespace Go.Proofs.YtbiadpkglcdihaaGreat
open Go.RowKit

/-- A literal that is laid on the way. -/
theorem Fr.lit0 {t : TypeId} {base b : Nat} {w0 w : World} {L : List UInt8} (_h : Fr base b w0 w) (hW : WrT t w base b L) (hb : base ≤ b) (o : Obj) : Fr base b w (w.alloc o) :=
  Fr.chg ((Chg.refl [] w).alloc o) (by have := hW.lt; omega)
theorem Fr.litF {t : TypeId} {base b : Nat} {w0 w : World} {L : List UInt8} (h : Fr base b w0 w) (hW : WrT t w base b L) (hb : base ≤ b) (l : List Int) (cs : Array Value) (e : TypeId) (n : Nat) (he : e ≠ 5) (hcs : cs = (l.map (Value.int .i64)).toArray) (hn : n = l.length) (hl : l.length ≤ 140737488355328) :
    WrT t (w.alloc (.cells cs e)) base b L ∧ Fr base b w0 (w.alloc (.cells cs e)) ∧ ∀ w', Fr base b (w.alloc (.cells cs e)) w' → Fs w' (.slice (some ⟨w.heap.size, 0, none⟩) n n) l :=
  ⟨hW.k ((Chg.refl [] w).alloc _), h.trans (Fr.lit0 h hW hb _), Fs.fr (Blk.new w cs e) he (by have := hW.lt; omega) hcs hn hl⟩
theorem Fr.litV {t : TypeId} {base b : Nat} {w0 w : World} {L : List UInt8} (h : Fr base b w0 w) (hW : WrT t w base b L) (hb : base ≤ b) (l : List V2) (cs : Array Value) (e : TypeId) (n : Nat) (he : e ≠ 5) (hcs : cs = (l.flatMap cV).toArray) (hn : n = l.length) (hl : l.length ≤ 140737488355328) :
    WrT t (w.alloc (.cells cs e)) base b L ∧ Fr base b w0 (w.alloc (.cells cs e)) ∧ ∀ w', Fr base b (w.alloc (.cells cs e)) w' → VsS w' (.slice (some ⟨w.heap.size, 0, none⟩) n n) l :=
  ⟨hW.k ((Chg.refl [] w).alloc _), h.trans (Fr.lit0 h hW hb _), VsS.fr (Blk.new w cs e) he (by have := hW.lt; omega) hcs hn hl⟩

end Go.Proofs.YtbiadpkglcdihaaGreat

/- codec.writer.order, kind None. -/
namespace Go.Proofs.YtbiadpkglcdihaaGreat
open Go.RowKit

end Go.Proofs.YtbiadpkglcdihaaGreat

/- codec.writer.order, kind 1. -/
namespace Go.Proofs.YtbiadpkglcdihaaGreat
open Go.RowKit

end Go.Proofs.YtbiadpkglcdihaaGreat

/- codec.writer.order, kind 2. -/
namespace Go.Proofs.YtbiadpkglcdihaaGreat
open Go.RowKit

end Go.Proofs.YtbiadpkglcdihaaGreat

/- codec.writer.order, kind 3. -/
namespace Go.Proofs.YtbiadpkglcdihaaGreat
open Go.RowKit

end Go.Proofs.YtbiadpkglcdihaaGreat

/- codec.writer.order, kind 4. -/
namespace Go.Proofs.YtbiadpkglcdihaaGreat
open Go.RowKit

end Go.Proofs.YtbiadpkglcdihaaGreat

/- codec.writer.order, kind 5. -/
namespace Go.Proofs.YtbiadpkglcdihaaGreat
open Go.RowKit

end Go.Proofs.YtbiadpkglcdihaaGreat

/- codec.writer.order, kind 6. -/
namespace Go.Proofs.YtbiadpkglcdihaaGreat
open Go.RowKit

end Go.Proofs.YtbiadpkglcdihaaGreat

/- codec.writer.order. -/
namespace Go.Proofs.YtbiadpkglcdihaaGreat
open Go.RowKit

end Go.Proofs.YtbiadpkglcdihaaGreat

/- codec.Batch. -/
namespace Go.Proofs.YtbiadpkglcdihaaGreat
open Go.RowKit

/-- Orders with the values of their places. -/
abbrev OV := Ord × Value
def cOV (x : OV) : List Value := cO x.1 x.2
theorem cOV_len (x : OV) : (cOV x).length = 15 := rfl
structure OsS (w : World) (v : Value) (l : List OV) : Prop where
  rd : Rd w 15 v l.length (l.flatMap cOV)
  ps : ∀ x ∈ l, VsS w x.2 x.1.shape.p
theorem OsS.k {w w' : World} {v : Value} {l : List OV} (h : OsS w v l) (hc : Chg [] w w') : OsS w' v l := ⟨Rd.keep h.rd hc (by simp), fun x hx => (h.ps x hx).k hc⟩
theorem OsS.form {w : World} {v : Value} {l : List OV} (h : OsS w v l) : ∃ ao c, v = .slice ao l.length c ∧ (0 < l.length → ∃ b off, ao = some ⟨b, off, none⟩ ∧ b < w.heap.size) := by
  have hlt := fun hn => Rd.lt h.rd hn (by decide)
  obtain ⟨_, ao, cap, b, off, rfl, -, -, -, h5, -⟩ := h.rd
  refine ⟨ao, cap, rfl, fun hp => ⟨b, off, h5 hp, ?_⟩⟩
  have := hlt hp
  rw [h5 hp] at this
  exact this b rfl
theorem OsS.at {w : World} {b off n c : Nat} {l : List OV} (h : OsS w (.slice (some ⟨b, off, none⟩) n c) l) (i : Nat) (hi : i < l.length) (j : Nat) (hj : j < 15) :
    w.cell? ⟨b, off + i * 15 + j, none⟩ = some ((cOV l[i])[j]'(by rw [cOV_len]; exact hj)) := by
  obtain ⟨h0, ao, cap, b', off', he, h2, h3, h4, h5, h6⟩ := h.rd
  have h5 := h5 (by omega)
  simp only [Value.slice.injEq] at he
  obtain ⟨rfl, -, -⟩ := he
  simp only [Option.some.injEq, Addr.mk.injEq, and_true] at h5
  obtain ⟨rfl, rfl⟩ := h5
  have g := flat_get cOV 15 cOV_len l i j hi hj
  rw [List.getElem?_eq_getElem (l := cOV l[i]) (by rw [cOV_len]; exact hj)] at g
  have := h6 (i * 15 + j) _ g
  rwa [← Nat.add_assoc] at this
theorem VsS.bel {base : Nat} {w w' : World} {v : Value} {l : List V2} (h : VsS w v l) (hf : Below base w w') (hv : 0 < l.length → ∀ k, v.ownBlock = some k → k < base) : VsS w' v l := by
  obtain ⟨h0, ao, cap, b', off', rfl, h2, h3, h4, h5, h6⟩ := h
  refine ⟨h0, ao, cap, b', off', rfl, h2, h3, h4, h5, fun j u hu => ?_⟩
  by_cases hp : 0 < l.length
  · obtain rfl := h5 hp
    exact (hf.cell (p := ⟨b', off' + j, none⟩) (hv hp b' rfl)).trans (h6 j u hu)
  · have : l = [] := List.length_eq_zero_iff.mp (by omega)
    subst this
    simp at hu
theorem VsS.own {w : World} {v : Value} {l : List V2} (h : VsS w v l) : 0 < l.length → ∀ k, v.ownBlock = some k → k < w.heap.size := fun hn => Rd.lt h hn (by decide)

end Go.Proofs.YtbiadpkglcdihaaGreat

/- Worlds as plain data, and what a value reads as. -/
namespace Go.Proofs.YtbiadpkglcdihaaGreat
open Go.RowKit

structure Cnt where
  a : Int
  b : Int
  key : Int
  n : Int
  t : Int
structure Wld where
  tick : Int
  nb : Int
  nj : Int
  grav : V2
  bodies : List Bdy
  joints : List Jnt
  contacts : List Cnt
abbrev BV := Bdy × Value
def cBV (x : BV) : List Value := [.int .i64 x.1.id, .int .i64 x.1.pos.1, .int .i64 x.1.pos.2, .int .i64 x.1.vel.1, .int .i64 x.1.vel.2, .int .i64 x.1.angle, .int .i64 x.1.spin, .int .i64 x.1.density, .int .i64 x.1.shape.kind, .int .i64 x.1.shape.r, x.2]
def cJt (j : Jnt) : List Value := [.int .i64 j.id, .int .i64 j.a, .int .i64 j.b, .int .i64 j.at_.1, .int .i64 j.at_.2, .int .i64 j.to_.1, .int .i64 j.to_.2, .int .i64 j.len]
def cCt (c : Cnt) : List Value := [.int .i64 c.a, .int .i64 c.b, .int .i64 c.key, .int .i64 c.n, .int .i64 c.t]
def vC (c : Cnt) : Value := .agg #[.int .i64 c.a, .int .i64 c.b, .int .i64 c.key, .int .i64 c.n, .int .i64 c.t]
theorem cBV_len (x : BV) : (cBV x).length = 11 := rfl
theorem cJt_len (x : Jnt) : (cJt x).length = 8 := rfl
theorem cCt_len (x : Cnt) : (cCt x).length = 5 := rfl
theorem cJt_one (x : Jnt) : ∀ v ∈ cJt x, v.oneCell' = true := by
  intro v hv
  simp only [cJt, List.mem_cons, List.not_mem_nil, or_false] at hv
  rcases hv with rfl | rfl | rfl | rfl | rfl | rfl | rfl | rfl <;> rfl
theorem cCt_one (x : Cnt) : ∀ v ∈ cCt x, v.oneCell' = true := by
  intro v hv
  simp only [cCt, List.mem_cons, List.not_mem_nil, or_false] at hv
  rcases hv with rfl | rfl | rfl | rfl | rfl <;> rfl
theorem cBV_one (x : BV) (h : x.2.oneCell' = true) : ∀ v ∈ cBV x, v.oneCell' = true := by
  intro v hv
  simp only [cBV, List.mem_cons, List.not_mem_nil, or_false] at hv
  rcases hv with rfl | rfl | rfl | rfl | rfl | rfl | rfl | rfl | rfl | rfl | rfl <;> first | rfl | exact h
/-- A row of records: its value, and a cell of it. -/
theorem Rd.form {α : Type} {enc : α → List Value} {size : Nat} (hs : 0 < size) {w : World} {v : Value} {l : List α} (h : Rd w size v l.length (l.flatMap enc)) :
    ∃ ao c, v = .slice ao l.length c ∧ l.length ≤ 9223372036854775807 ∧ (0 < l.length → ∃ b off, ao = some ⟨b, off, none⟩ ∧ b < w.heap.size) := by
  have hlt := fun hn => Rd.lt h hn hs
  obtain ⟨_, ao, cap, b, off, rfl, h2, h3, -, h5, -⟩ := h
  refine ⟨ao, cap, rfl, by have : maxLen = 9223372036854775807 := rfl; omega, fun hp => ⟨b, off, h5 hp, ?_⟩⟩
  have := hlt hp
  rw [h5 hp] at this
  exact this b rfl
theorem Rd.cellAt {α : Type} {enc : α → List Value} {size : Nat} (henc : ∀ x, (enc x).length = size) {w : World} {b off n c : Nat} {l : List α} (h : Rd w size (.slice (some ⟨b, off, none⟩) n c) l.length (l.flatMap enc)) (i : Nat) (hi : i < l.length) (j : Nat) (hj : j < size) :
    w.cell? ⟨b, off + i * size + j, none⟩ = some ((enc l[i])[j]'(by rw [henc]; exact hj)) := by
  obtain ⟨h0, ao, cap, b', off', he, h2, h3, h4, h5, h6⟩ := h
  have h5 := h5 (by omega)
  simp only [Value.slice.injEq] at he
  obtain ⟨rfl, -, -⟩ := he
  simp only [Option.some.injEq, Addr.mk.injEq, and_true] at h5
  obtain ⟨rfl, rfl⟩ := h5
  have g := flat_get enc size henc l i j hi hj
  rw [List.getElem?_eq_getElem (l := enc l[i]) (by rw [henc]; exact hj)] at g
  have := h6 (i * size + j) _ g
  rwa [← Nat.add_assoc] at this
structure BsS (w : World) (v : Value) (l : List BV) : Prop where
  rd : Rd w 11 v l.length (l.flatMap cBV)
  ps : ∀ x ∈ l, VsS w x.2 x.1.shape.p
theorem BsS.k {w w' : World} {v : Value} {l : List BV} (h : BsS w v l) (hc : Chg [] w w') : BsS w' v l := ⟨Rd.keep h.rd hc (by simp), fun x hx => (h.ps x hx).k hc⟩
def JsS (w : World) (v : Value) (l : List Jnt) : Prop := Rd w 8 v l.length (l.flatMap cJt)
def CsS (w : World) (v : Value) (l : List Cnt) : Prop := Rd w 5 v l.length (l.flatMap cCt)
theorem JsS.k {w w' : World} {v : Value} {l : List Jnt} (h : JsS w v l) (hc : Chg [] w w') : JsS w' v l := Rd.keep h hc (by simp)
theorem CsS.k {w w' : World} {v : Value} {l : List Cnt} (h : CsS w v l) (hc : Chg [] w w') : CsS w' v l := Rd.keep h hc (by simp)
def vW (W : Wld) (bv jv kv : Value) : Value := .agg #[.int .i64 W.tick, .int .i64 W.nb, .int .i64 W.nj, .int .i64 W.grav.1, .int .i64 W.grav.2, bv, jv, kv]
/-- The parts of a world's value. -/
structure WlP (w : World) (bv jv kv : Value) (L : List BV) (W : Wld) : Prop where
  b : BsS w bv L
  l : L.map (·.1) = W.bodies
  j : JsS w jv W.joints
  c : CsS w kv W.contacts
theorem WlP.k {w w' : World} {bv jv kv : Value} {L : List BV} {W : Wld} (h : WlP w bv jv kv L W) (hc : Chg [] w w') : WlP w' bv jv kv L W := ⟨h.b.k hc, h.l, h.j.k hc, h.c.k hc⟩
/-- A value reads as a world. -/
def WlS (w : World) (x : Value) (W : Wld) : Prop := ∃ bv jv kv L, x = vW W bv jv kv ∧ WlP w bv jv kv L W
theorem WlS.k {w w' : World} {x : Value} {W : Wld} (h : WlS w x W) (hc : Chg [] w w') : WlS w' x W := let ⟨bv, jv, kv, L, e, hp⟩ := h; ⟨bv, jv, kv, L, e, hp.k hc⟩
def leBd (b : Bdy) : List UInt8 := leB 8 b.id ++ leF (fV [b.pos, b.vel]) ++ leF [b.angle, b.spin, b.density] ++ leS b.shape
def leJt (j : Jnt) : List UInt8 := leB 8 j.id ++ leB 8 j.a ++ leB 8 j.b ++ leF (fV [j.at_, j.to_]) ++ leF [j.len]
def leCt (c : Cnt) : List UInt8 := leB 8 c.a ++ leB 8 c.b ++ leB 8 c.key ++ leF [c.n, c.t]
def leW0 (W : Wld) : List UInt8 := leB 8 W.tick ++ leB 8 W.nb ++ leB 8 W.nj ++ leF (fV [W.grav])
def leW1 (W : Wld) : List UInt8 := leW0 W ++ leB 2 W.bodies.length
def leW2 (W : Wld) : List UInt8 := leW1 W ++ W.bodies.flatMap leBd ++ leB 2 W.joints.length
def leW3 (W : Wld) : List UInt8 := leW2 W ++ W.joints.flatMap leJt ++ leB 4 W.contacts.length
def leW (W : Wld) : List UInt8 := leW3 W ++ W.contacts.flatMap leCt
theorem fm_snoc {α : Type} (f : α → List UInt8) (l : List α) (k : Nat) (h : k < l.length) : (l.take (k + 1)).flatMap f = (l.take k).flatMap f ++ f l[k] := by
  rw [List.take_succ_eq_append_getElem h, List.flatMap_append]; simp
theorem fm_le {α : Type} (f : α → List UInt8) (l : List α) (k : Nat) : ((l.take k).flatMap f).length ≤ (l.flatMap f).length := by
  conv => rhs; rw [← List.take_append_drop k l, List.flatMap_append, List.length_append]
  omega
end Go.Proofs.YtbiadpkglcdihaaGreat

/- order.used, case 1. -/
namespace Go.Proofs.YtbiadpkglcdihaaGreat
open Go.RowKit

end Go.Proofs.YtbiadpkglcdihaaGreat

/- order.used, case 2. -/
namespace Go.Proofs.YtbiadpkglcdihaaGreat
open Go.RowKit

end Go.Proofs.YtbiadpkglcdihaaGreat

/- order.used. -/
namespace Go.Proofs.YtbiadpkglcdihaaGreat
open Go.RowKit

/-- The record behind a store of the whole of it. -/
theorem Blk.row {w : World} {b : Nat} {cs cs' : Array Value} {t : TypeId} (h : Blk w b cs t) : Blk (w.setRow b cs') b cs' t := setRow_heap w b cs cs' t (0, 0) h
theorem Chg.row {S : List Nat} {a b : World} (h : Chg S a b) (g : Nat) (cs : Array Value) (hg : g < a.heap.size → g ∈ S) : Chg S a (b.setRow g cs) :=
  ⟨h.os, h.tape, h.output, by rw [show (b.setRow g cs).heap.size = b.heap.size by simp [World.setRow]]; exact h.size, fun k hk hn => (setRow_other b g k cs (fun e => hn (e ▸ hg (e ▸ hk)))).trans (h.block k hk hn)⟩
end Go.Proofs.YtbiadpkglcdihaaGreat

/- order.used, case 3. -/
namespace Go.Proofs.YtbiadpkglcdihaaGreat
open Go.RowKit

end Go.Proofs.YtbiadpkglcdihaaGreat

/- order.used, case 4. -/
namespace Go.Proofs.YtbiadpkglcdihaaGreat
open Go.RowKit

end Go.Proofs.YtbiadpkglcdihaaGreat

/- order.used, case 5. -/
namespace Go.Proofs.YtbiadpkglcdihaaGreat
open Go.RowKit

end Go.Proofs.YtbiadpkglcdihaaGreat

/- order.used, case 6. -/
namespace Go.Proofs.YtbiadpkglcdihaaGreat
open Go.RowKit

end Go.Proofs.YtbiadpkglcdihaaGreat

/- order.used, case 7. -/
namespace Go.Proofs.YtbiadpkglcdihaaGreat
open Go.RowKit

end Go.Proofs.YtbiadpkglcdihaaGreat

/- order.used. -/
namespace Go.Proofs.YtbiadpkglcdihaaGreat
open Go.RowKit

end Go.Proofs.YtbiadpkglcdihaaGreat

/- order.Same. -/
namespace Go.Proofs.YtbiadpkglcdihaaGreat
open Go.RowKit

end Go.Proofs.YtbiadpkglcdihaaGreat

/- world.sameBody. -/
namespace Go.Proofs.YtbiadpkglcdihaaGreat
open Go.RowKit

def sameB (x y : Bdy) : Bool := decide (x.id = y.id) && (decide (x.pos.1 = y.pos.1) && decide (x.pos.2 = y.pos.2)) && (decide (x.vel.1 = y.vel.1) && decide (x.vel.2 = y.vel.2)) && decide (x.angle = y.angle) && decide (x.spin = y.spin) && decide (x.density = y.density) && sameS x.shape y.shape
set_option maxRecDepth 100000 in
set_option maxHeartbeats 8000000 in
theorem BSame_any (w : World) (x y : Bdy) (pv qv : Value) (hx : VsS w pv x.shape.p) (hy : VsS w qv y.shape.p) : Calls Tryz.prog 47 #[vB x pv, vB y qv] w fun e w' => e = .returned (.bool (sameB x y)) ∧ Chg [] w w' := by
  obtain ⟨i, ⟨px, py⟩, ⟨vx, vy⟩, an, sp, de, ⟨sk, sr, p⟩⟩ := x
  obtain ⟨i2, ⟨px2, py2⟩, ⟨vx2, vy2⟩, an2, sp2, de2, ⟨sk2, sr2, p2⟩⟩ := y
  simp only at hx hy
  have hc1 := fun W (hW : Chg [] w W) => SSame_any W ⟨sk, sr, p⟩ ⟨sk2, sr2, p2⟩ pv qv (hx.k hW) (hy.k hW)
  unfold sameB vB
  unfold vS at hc1
  simp only at hc1 ⊢
  generalize sameS ⟨sk, sr, p⟩ ⟨sk2, sr2, p2⟩ = s at *
  obtain ⟨ao, c, rfl, -⟩ := hx.form
  obtain ⟨ao2, c2, rfl, -⟩ := hy.form
  clear hx hy
  generalize p.length = x1 at *
  generalize p2.length = x2 at *
  have hcb := ((Chg.refl [] w).alloc (.cells #[.int .i64 i, .int .i64 px, .int .i64 py, .int .i64 vx, .int .i64 vy, .int .i64 an, .int .i64 sp, .int .i64 de, .int .i64 sk, .int .i64 sr, .slice ao x1 c] 97)).alloc (.cells #[.int .i64 i2, .int .i64 px2, .int .i64 py2, .int .i64 vx2, .int .i64 vy2, .int .i64 an2, .int .i64 sp2, .int .i64 de2, .int .i64 sk2, .int .i64 sr2, .slice ao2 x2 c2] 97)
  have hk1 := (Blk.new w #[.int .i64 i, .int .i64 px, .int .i64 py, .int .i64 vx, .int .i64 vy, .int .i64 an, .int .i64 sp, .int .i64 de, .int .i64 sk, .int .i64 sr, .slice ao x1 c] 97).alloc (.cells #[.int .i64 i2, .int .i64 px2, .int .i64 py2, .int .i64 vx2, .int .i64 vy2, .int .i64 an2, .int .i64 sp2, .int .i64 de2, .int .i64 sk2, .int .i64 sr2, .slice ao2 x2 c2] 97)
  have hk2 := Blk.new (w.alloc (.cells #[.int .i64 i, .int .i64 px, .int .i64 py, .int .i64 vx, .int .i64 vy, .int .i64 an, .int .i64 sp, .int .i64 de, .int .i64 sk, .int .i64 sr, .slice ao x1 c] 97)) #[.int .i64 i2, .int .i64 px2, .int .i64 py2, .int .i64 vx2, .int .i64 vy2, .int .i64 an2, .int .i64 sp2, .int .i64 de2, .int .i64 sk2, .int .i64 sr2, .slice ao2 x2 c2] 97
  rw [World.size_alloc] at hk2
  have hc1 := hc1 _ hcb
  go_enter Tryz.func47, Tryz.ntmps47
  go_upto_region 1 with (fail)
  generalize (w.alloc (.cells #[.int .i64 i, .int .i64 px, .int .i64 py, .int .i64 vx, .int .i64 vy, .int .i64 an, .int .i64 sp, .int .i64 de, .int .i64 sk, .int .i64 sr, .slice ao x1 c] 97)).alloc (.cells #[.int .i64 i2, .int .i64 px2, .int .i64 py2, .int .i64 vx2, .int .i64 vy2, .int .i64 an2, .int .i64 sp2, .int .i64 de2, .int .i64 sk2, .int .i64 sr2, .slice ao2 x2 c2] 97) = w0 at *
  generalize w.heap.size + 1 = bk2 at *
  generalize w.heap.size = bk1 at *
  have HQ : Hd (∀ wx, Chg [] w0 wx → (wx.cell? ⟨bk1, 0, none⟩ = some (.int .i64 i) ∧ wx.cell? ⟨bk1, 1, none⟩ = some (.int .i64 px) ∧ wx.cell? ⟨bk1, 2, none⟩ = some (.int .i64 py) ∧ wx.cell? ⟨bk1, 3, none⟩ = some (.int .i64 vx) ∧ wx.cell? ⟨bk1, 4, none⟩ = some (.int .i64 vy) ∧ wx.cell? ⟨bk1, 5, none⟩ = some (.int .i64 an) ∧ wx.cell? ⟨bk1, 6, none⟩ = some (.int .i64 sp) ∧ wx.cell? ⟨bk1, 7, none⟩ = some (.int .i64 de) ∧ wx.cell? ⟨bk1, 8, none⟩ = some (.int .i64 sk) ∧ wx.cell? ⟨bk1, 9, none⟩ = some (.int .i64 sr) ∧ wx.cell? ⟨bk1, 10, none⟩ = some (.slice ao x1 c) ∧ wx.cell? ⟨bk2, 0, none⟩ = some (.int .i64 i2) ∧ wx.cell? ⟨bk2, 1, none⟩ = some (.int .i64 px2) ∧ wx.cell? ⟨bk2, 2, none⟩ = some (.int .i64 py2) ∧ wx.cell? ⟨bk2, 3, none⟩ = some (.int .i64 vx2) ∧ wx.cell? ⟨bk2, 4, none⟩ = some (.int .i64 vy2) ∧ wx.cell? ⟨bk2, 5, none⟩ = some (.int .i64 an2) ∧ wx.cell? ⟨bk2, 6, none⟩ = some (.int .i64 sp2) ∧ wx.cell? ⟨bk2, 7, none⟩ = some (.int .i64 de2) ∧ wx.cell? ⟨bk2, 8, none⟩ = some (.int .i64 sk2) ∧ wx.cell? ⟨bk2, 9, none⟩ = some (.int .i64 sr2) ∧ wx.cell? ⟨bk2, 10, none⟩ = some (.slice ao2 x2 c2))) := hd fun wx hx => ⟨(hk1.k hx).cell 0, (hk1.k hx).cell 1, (hk1.k hx).cell 2, (hk1.k hx).cell 3, (hk1.k hx).cell 4, (hk1.k hx).cell 5, (hk1.k hx).cell 6, (hk1.k hx).cell 7, (hk1.k hx).cell 8, (hk1.k hx).cell 9, (hk1.k hx).cell 10, (hk2.k hx).cell 0, (hk2.k hx).cell 1, (hk2.k hx).cell 2, (hk2.k hx).cell 3, (hk2.k hx).cell 4, (hk2.k hx).cell 5, (hk2.k hx).cell 6, (hk2.k hx).cell 7, (hk2.k hx).cell 8, (hk2.k hx).cell 9, (hk2.k hx).cell 10⟩
  have HCB := hd hcb
  clear hcb hk1 hk2
  obtain ⟨q0, q1, q2, q3, q4, q5, q6, q7, q8, q9, q10, u0, u1, u2, u3, u4, u5, u6, u7, u8, u9, u10⟩ := HQ.out w0 (Chg.refl _ _)
  go_wp2_with (first
      | (go_at_call 84; refine hc1.mono ?_; rintro e w1 ⟨rfl, hk1⟩))
  all_goals (first | go_ret | skip)
  all_goals (try refine ⟨ret_of (congrArg Value.bool ?_), (by first | exact HCB.out.k hk1 | exact HCB.out)⟩)
  all_goals clear HQ hc1 HCB q0 q1 q2 q3 q4 q5 q6 q7 q8 q9 q10 u0 u1 u2 u3 u4 u5 u6 u7 u8 u9 u10
  all_goals (first | (simp_all; done) | (simp_all; rfl))
end Go.Proofs.YtbiadpkglcdihaaGreat

/- The methods of pack.Reader. -/
namespace Go.Proofs.YtbiadpkglcdihaaGreat
open Go.RowKit

/-- The reader at block b has l before it; has it failed? -/
def Rdr (w : World) (b : Nat) (l : List UInt8) (bad : Bool) : Prop := ∃ v, Blk w b #[v, .bool bad] 181 ∧ Bs w v l ∧ (0 < l.length → v.ownBlock ≠ some b)

theorem New_any (v : Value) (l : List UInt8) (w : World) (hl : Bs w v l) :
    Calls Tryz.prog 72 #[v] w fun e w' => ∃ b, e = .returned (.pointer (some ⟨b, 0, none⟩)) ∧ w.heap.size ≤ b ∧ Rdr w' b l false ∧ Chg [] w w' := by
  obtain ⟨ao, cap, b, off, rfl, -⟩ := hl.open
  go_enter Tryz.func72, Tryz.ntmps72
  go_wp2
  go_ret
  refine ⟨_, rfl, Nat.le_refl _, ⟨_, Blk.new _ _ _, hl.alloc _, fun hp he => ?_⟩, (Chg.refl _ _).alloc _⟩
  have := hl.lt hp _ he
  omega

theorem Bad_any (b : Nat) (l : List UInt8) (bad : Bool) (w : World) (hr : Rdr w b l bad) :
    Calls Tryz.prog 103 #[.pointer (some ⟨b, 0, none⟩)] w fun e w' => e = .returned (.bool bad) ∧ w = w' := by
  obtain ⟨v, hb, hv, hne⟩ := hr
  have c1 := hb.cell 1
  simp at c1
  go_enter Tryz.func103, Tryz.ntmps103
  go_wp2
  go_ret
  exact ⟨rfl, rfl⟩

theorem Done_any (b : Nat) (l : List UInt8) (bad : Bool) (w : World) (hr : Rdr w b l bad) :
    Calls Tryz.prog 82 #[.pointer (some ⟨b, 0, none⟩)] w fun e w' => e = .returned (.bool (!bad && l.isEmpty)) ∧ w = w' := by
  obtain ⟨v, hb, hv, hne⟩ := hr
  obtain ⟨ao, cap, b', off, rfl, -⟩ := hv.open
  have c0 := hb.cell 0
  have c1 := hb.cell 1
  simp at c0 c1
  cases bad
  · go_enter Tryz.func82, Tryz.ntmps82
    go_wp2
    go_ret
    exact ⟨ret_of (by cases l <;> simp; omega), rfl⟩
  · go_enter Tryz.func82, Tryz.ntmps82
    go_wp2
    go_ret
    exact ⟨rfl, rfl⟩

set_option maxHeartbeats 800000 in
theorem RNum_long (n : Int) (b : Nat) (l : List UInt8) (bad : Bool) (w : World) (hr : Rdr w b l bad) (h0 : 0 ≤ n) (h8 : n ≤ 8) (hn : n ≤ (l.length : Int)) :
    Calls Tryz.prog 73 #[.pointer (some ⟨b, 0, none⟩), .int .i64 n] w fun e w' => e = .returned (.int .i64 (rdNum (l.take n.toNat))) ∧ Rdr w' b (l.drop n.toNat) bad ∧ Chg [b] w w' := by
  obtain ⟨n, rfl⟩ := Int.eq_ofNat_of_zero_le h0
  simp only [Int.toNat_natCast]
  obtain ⟨v, hb, hv, hne⟩ := hr
  obtain ⟨ao, cap, b', off, rfl, hcap, hbig, -, hao, hc⟩ := hv.open
  have c0 := hb.cell 0
  have f0 := hb.free 0
  simp at c0
  go_enter Tryz.func73, Tryz.ntmps73
  go_wp2_with fail
  go_loop [5, 6, 17] (fun t _ i => ∃ k : Nat, k ≤ n ∧ i = .int .i64 k ∧ t = .int .i64 (wrap64 (rdB (l.take k)))) (fun _ _ i => n - (intOf i).toNat)
  case atStart => exact ⟨0, by omega, rfl, by simp [rdB, wrap64]⟩
  case round =>
    obtain ⟨k, hk, rfl, rfl⟩ := hrel
    by_cases hlt : k < n
    · obtain rfl := hao (by omega)
      have hcell := hc k (by omega)
      have hS := hd (rdStep l k (by omega) (by omega))
      generalize rdB (l.take k) = s1 at *
      generalize l[k] = x at *
      clear hc
      go_wp2
      go_round
      case rel => exact ⟨k + 1, by omega, by go_num, by rw [hS.out]⟩
      case measure => simp [intOf]; omega
    · have hkn : k = n := by omega
      subst hkn
      go_wp2_with (refine wpCutB rfl _ _ _ rfl _ _ rfl hv k l.length (.inr ⟨.i64, rfl⟩) (.inl ⟨rfl, rfl⟩) (by omega) (by omega) ?_; intro ao1 c1 hcut hblk1)
      go_ret
      rw [List.take_of_length_le (by simp)] at hcut
      refine ⟨rfl, ⟨_, hb.set 0 _, ?_, ?_⟩, (Chg.refl _ _).setCell _ _ (by simp)⟩
      · exact hcut.setCell _ _ (fun hp he => hne (by simp at hp; omega) (hblk1 _ he))
      · exact fun hp he => hne (by simp at hp; omega) (hblk1 _ he)

end Go.Proofs.YtbiadpkglcdihaaGreat

/- pack.Reader as a function on what stands before it and whether it has failed. -/
namespace Go.Proofs.YtbiadpkglcdihaaGreat
open Go.RowKit

abbrev St := List UInt8 × Bool
def failS : St := ([], true)
def numR (n : Nat) (s : St) : Int × St := if s.1.length < n then (0, failS) else (rdNum (s.1.take n), (s.1.drop n, s.2))
def countR (m : Int) (s : St) : Int × St := if (numR 2 s).1 > m then (0, failS) else numR 2 s
/-- The reader at block b; it and its bytes lie below base. -/
def RdB (base : Nat) (w : World) (b : Nat) (s : St) : Prop := ∃ v, Blk w b #[v, .bool s.2] 181 ∧ Bs w v s.1 ∧ b < base ∧ (0 < s.1.length → ∀ k, v.ownBlock = some k → k < base ∧ k ≠ b)
theorem RdB.keep {base : Nat} {S : List Nat} {w w' : World} {b : Nat} {s : St} (h : RdB base w b s) (hc : Chg S w w') (hS : ∀ x ∈ S, base ≤ x) : RdB base w' b s := by
  obtain ⟨v, h1, h2, h3, h4⟩ := h
  refine ⟨v, h1.chg hc (fun hx => ?_), h2.keep hc (fun hp k hk hx => ?_), h3, h4⟩
  · have := hS _ hx; omega
  · have := hS _ hx; have := (h4 hp k hk).1; omega
theorem RdB.k {base : Nat} {w w' : World} {b : Nat} {s : St} (h : RdB base w b s) (hc : Chg [] w w') : RdB base w' b s := h.keep hc (by simp)
theorem RdB.up {base base' : Nat} {w : World} {b : Nat} {s : St} (h : RdB base w b s) (hb : base ≤ base') : RdB base' w b s := by
  obtain ⟨v, h1, h2, h3, h4⟩ := h
  exact ⟨v, h1, h2, by omega, fun hp k hk => ⟨by have := (h4 hp k hk).1; omega, (h4 hp k hk).2⟩⟩
theorem RdB.down {base : Nat} {w : World} {b : Nat} {s : St} (h : RdB base w b s) : RdB w.heap.size w b s := by
  obtain ⟨v, h1, h2, h3, h4⟩ := h
  exact ⟨v, h1, h2, h1.lt, fun hp k hk => ⟨h2.lt hp k hk, (h4 hp k hk).2⟩⟩
theorem RdB.lt {base : Nat} {w : World} {b : Nat} {s : St} (h : RdB base w b s) : b < base := let ⟨_, _, _, h, _⟩ := h; h
theorem RdB.rdr {base : Nat} {w : World} {b : Nat} {s : St} (h : RdB base w b s) : Rdr w b s.1 s.2 := by
  obtain ⟨v, h1, h2, h3, h4⟩ := h
  exact ⟨v, h1, h2, fun hp he => (h4 hp b he).2 rfl⟩

theorem NewB_any (v : Value) (l : List UInt8) (w : World) (hl : Bs w v l) :
    Calls Tryz.prog 72 #[v] w fun e w' => e = .returned (.pointer (some ⟨w.heap.size, 0, none⟩)) ∧ RdB (w.heap.size + 1) w' w.heap.size (l, false) ∧ Chg [] w w' := by
  obtain ⟨ao, cap, b, off, rfl, -⟩ := hl.open
  go_enter Tryz.func72, Tryz.ntmps72
  go_wp2
  go_ret
  refine ⟨rfl, ⟨_, Blk.new _ _ _, hl.alloc _, by omega, fun hp k hk => ?_⟩, (Chg.refl _ _).alloc _⟩
  have := hl.lt hp _ hk
  omega
theorem FailB_any (base b : Nat) (s : St) (w : World) (hr : RdB base w b s) :
    Calls Tryz.prog 101 #[.pointer (some ⟨b, 0, none⟩)] w fun e w' => e = .returned (.tuple #[]) ∧ RdB base w' b failS ∧ Chg [b] w w' := by
  obtain ⟨v, hb, hv, hlt, hne⟩ := hr
  have c0 := hb.cell 0
  have c1 := hb.cell 1
  have f0 := hb.free 0
  have f1 := hb.free 1
  simp at c0 c1
  go_enter Tryz.func101, Tryz.ntmps101
  go_wp2
  go_end0
  refine ⟨rfl, ⟨.slice none 0 0, ?_, OwB.bs (OwB.nil _ 0), hlt, by simp [failS]⟩, ?_⟩
  · exact (hb.set 0 _).set 1 _
  · exact ((Chg.refl _ _).setCell _ _ (by simp)).setCell _ _ (by simp)
theorem BadB_any (base b : Nat) (s : St) (w : World) (hr : RdB base w b s) :
    Calls Tryz.prog 103 #[.pointer (some ⟨b, 0, none⟩)] w fun e w' => e = .returned (.bool s.2) ∧ w = w' := Bad_any b s.1 s.2 w hr.rdr
theorem DoneB_any (base b : Nat) (s : St) (w : World) (hr : RdB base w b s) :
    Calls Tryz.prog 82 #[.pointer (some ⟨b, 0, none⟩)] w fun e w' => e = .returned (.bool (!s.2 && s.1.isEmpty)) ∧ w = w' := Done_any b s.1 s.2 w hr.rdr

set_option maxHeartbeats 800000 in
theorem NumB_long (n : Nat) (base b : Nat) (s : St) (w : World) (hr : RdB base w b s) (h8 : n ≤ 8) (hn : n ≤ s.1.length) :
    Calls Tryz.prog 73 #[.pointer (some ⟨b, 0, none⟩), .int .i64 n] w fun e w' => e = .returned (.int .i64 (rdNum (s.1.take n))) ∧ RdB base w' b (s.1.drop n, s.2) ∧ Chg [b] w w' := by
  obtain ⟨l, bad⟩ := s
  simp only at hn ⊢
  obtain ⟨v, hb, hv, hlt0, hne⟩ := hr
  simp only at hb hv hne
  obtain ⟨ao, cap, b', off, rfl, hcap, hbig, -, hao, hc⟩ := hv.open
  have c0 := hb.cell 0
  have f0 := hb.free 0
  simp at c0
  go_enter Tryz.func73, Tryz.ntmps73
  go_wp2_with fail
  go_loop [5, 6, 17] (fun t _ i => ∃ k : Nat, k ≤ n ∧ i = .int .i64 k ∧ t = .int .i64 (wrap64 (rdB (l.take k)))) (fun _ _ i => n - (intOf i).toNat)
  case atStart => exact ⟨0, by omega, rfl, by simp [rdB, wrap64]⟩
  case round =>
    obtain ⟨k, hk, rfl, rfl⟩ := hrel
    by_cases hlt : k < n
    · obtain rfl := hao (by omega)
      have hcell := hc k (by omega)
      have hS := hd (rdStep l k (by omega) (by omega))
      generalize rdB (l.take k) = s1 at *
      generalize l[k] = x at *
      clear hc
      go_wp2
      go_round
      case rel => exact ⟨k + 1, by omega, by go_num, by rw [hS.out]⟩
      case measure => simp [intOf]; omega
    · have hkn : k = n := by omega
      subst hkn
      go_wp2_with (refine wpCutB rfl _ _ _ rfl _ _ rfl hv k l.length (.inr ⟨.i64, rfl⟩) (.inl ⟨rfl, rfl⟩) (by omega) (by omega) ?_; intro ao1 c1 hcut hblk1)
      go_ret
      rw [List.take_of_length_le (by simp)] at hcut
      refine ⟨rfl, ⟨_, hb.set 0 _, ?_, hlt0, ?_⟩, (Chg.refl _ _).setCell _ _ (by simp)⟩
      · exact hcut.setCell _ _ (fun hp he => (hne (by simp at hp; omega) _ (hblk1 _ he)).2 rfl)
      · exact fun hp k' he => hne (by simp at hp; omega) _ (hblk1 _ he)
theorem NumB_any (n : Nat) (base b : Nat) (s : St) (w : World) (hr : RdB base w b s) (h8 : n ≤ 8) :
    Calls Tryz.prog 73 #[.pointer (some ⟨b, 0, none⟩), .int .i64 n] w fun e w' => e = .returned (.int .i64 (numR n s).1) ∧ RdB base w' b (numR n s).2 ∧ Chg [b] w w' := by
  by_cases h : s.1.length < n
  · have e1 : numR n s = (0, failS) := if_pos h
    rw [e1]
    have hr' := hr
    obtain ⟨v, hb, hv, hlt, hne⟩ := hr
    obtain ⟨ao, cap, b', off, rfl, -⟩ := hv.open
    have c0 := hb.cell 0
    simp at c0
    clear e1
    go_enter Tryz.func73, Tryz.ntmps73
    go_wp2_with fail
    refine (FailB_any base b s _ hr').mono ?_
    rintro e w1 ⟨rfl, h1, h2⟩
    go_wp2_with fail
    go_ret
    exact ⟨rfl, h1, h2⟩
  · have e1 : numR n s = (rdNum (s.1.take n), (s.1.drop n, s.2)) := if_neg h
    rw [e1]
    exact NumB_long n base b s w hr h8 (by omega)
theorem FB_any (base b : Nat) (s : St) (w : World) (hr : RdB base w b s) :
    Calls Tryz.prog 102 #[.pointer (some ⟨b, 0, none⟩)] w fun e w' => e = .returned (.int .i64 (numR 8 s).1) ∧ RdB base w' b (numR 8 s).2 ∧ Chg [b] w w' := by
  go_enter Tryz.func102, Tryz.ntmps102
  go_wp2_with fail
  refine (NumB_any 8 base b s _ hr (by omega)).mono ?_
  rintro e w1 ⟨rfl, h1, h2⟩
  go_wp2_with fail
  go_ret
  exact ⟨rfl, h1, h2⟩
theorem CountB_any (m : Int) (base b : Nat) (s : St) (w : World) (hr : RdB base w b s) :
    Calls Tryz.prog 76 #[.pointer (some ⟨b, 0, none⟩), .int .i64 m] w fun e w' => e = .returned (.int .i64 (countR m s).1) ∧ RdB base w' b (countR m s).2 ∧ Chg [b] w w' := by
  have hc := NumB_any 2 base b s w hr (by omega)
  by_cases h : (numR 2 s).1 > m
  · rw [show countR m s = (0, failS) from if_pos h]
    generalize numR 2 s = z at *
    go_enter Tryz.func76, Tryz.ntmps76
    go_wp2_with fail
    refine hc.mono ?_
    rintro e w1 ⟨rfl, h1, h2⟩
    go_wp2_with (go_at_call 101; refine (FailB_any base b _ _ h1).mono ?_; rintro e w2 ⟨rfl, h3, h4⟩)
    go_ret
    exact ⟨rfl, h3, h2.trans h4 (fun x hx _ => hx)⟩
  · rw [show countR m s = numR 2 s from if_neg h]
    generalize numR 2 s = z at *
    go_enter Tryz.func76, Tryz.ntmps76
    go_wp2_with fail
    refine hc.mono ?_
    rintro e w1 ⟨rfl, h1, h2⟩
    go_wp2_with fail
    go_ret
    exact ⟨rfl, h1, h2⟩
end Go.Proofs.YtbiadpkglcdihaaGreat

/- Reader.V; codec.reader: shapes. -/
namespace Go.Proofs.YtbiadpkglcdihaaGreat
open Go.RowKit

def plR (s : St) : V2 × St := (((numR 8 s).1, (numR 8 (numR 8 s).2).1), (numR 8 (numR 8 s).2).2)
set_option maxHeartbeats 800000 in
theorem VB_any (base b : Nat) (s : St) (w : World) (hr : RdB base w b s) (hbase : base ≤ w.heap.size) :
    Calls Tryz.prog 74 #[.pointer (some ⟨b, 0, none⟩)] w fun e w' => e = .returned (vV (plR s).1) ∧ RdB base w' b (plR s).2 ∧ Chg [b] w w' := by
  unfold vV plR
  simp only
  have hc1 := fun W (h : RdB base W b s) => FB_any base b s W h
  have hc2 := fun W (h : RdB base W b (numR 8 s).2) => FB_any base b (numR 8 s).2 W h
  generalize numR 8 (numR 8 s).2 = z at *
  generalize numR 8 s = y at *
  have hlt := hr.lt
  have hk := Blk.new w #[.int .i64 0, .int .i64 0] 27
  have hr0 := hr.k ((Chg.refl [] w).alloc (.cells #[.int .i64 0, .int .i64 0] 27))
  have hc0 : Chg [b] w (w.alloc (.cells #[.int .i64 0, .int .i64 0] 27)) := (Chg.refl [b] w).alloc _
  go_enter Tryz.func74, Tryz.ntmps74
  go_wp2_with fail
  refine (hc1 _ hr0).mono ?_
  rintro e w1 ⟨rfl, hr1, hm1⟩
  have hk1 := hk.chg hm1 (by simp; omega)
  have hm1' := hc0.trans hm1 (fun x hx _ => hx)
  go_wp2_with fail
  refine (hc2 _ hr1).mono ?_
  rintro e w2 ⟨rfl, hr2, hm2⟩
  have hk2 := hk1.chg hm2 (by simp; omega)
  have hm2' := hm1'.trans hm2 (fun x hx _ => hx)
  have q0 := hk2.cell 0
  have q1 := hk2.cell 1
  have f0 := hk2.free 0
  have f1 := hk2.free 1
  simp at q0 q1
  clear hk hr0 hc0 hk1 hm1' hr1 hm1 hm2 hc1 hc2
  go_wp2_with fail
  have hk3 := (hk2.set 0 (.int .i64 y.1)).set 1 (.int .i64 z.1)
  have p0 := hk3.cell 0
  have p1 := hk3.cell 1
  simp at p0 p1
  refine bodyPost_ret (v := .agg #[.int .i64 y.1, .int .i64 z.1]) ?_ rfl ?_
  · simp only [results]
    go_simp
  · have hX : Chg [w.heap.size] w2 ((w2.setCell ⟨w.heap.size, 0, none⟩ (.int .i64 y.1)).setCell ⟨w.heap.size, 1, none⟩ (.int .i64 z.1)) := ((Chg.refl _ _).setCell _ _ (by simp)).setCell _ _ (by simp)
    exact ⟨rfl, hr2.keep hX (by simp; omega), (hm2'.setCell _ _ (by simp)).setCell _ _ (by simp)⟩
end Go.Proofs.YtbiadpkglcdihaaGreat

/- codec.reader: shapes. -/
namespace Go.Proofs.YtbiadpkglcdihaaGreat
open Go.RowKit

def psR : Nat → St → List V2 × St
  | 0, s => ([], s)
  | n + 1, s => if s.2 = true then ([], s) else ((plR s).1 :: (psR n (plR s).2).1, (psR n (plR s).2).2)
def shapeR (s : St) : Shp × St :=
  if (numR 1 s).1 = 1 then (⟨1, (numR 8 (numR 1 s).2).1, []⟩, (numR 8 (numR 1 s).2).2)
  else (⟨(numR 1 s).1, 0, (psR (numR 1 (numR 1 s).2).1.toNat (numR 1 (numR 1 s).2).2).1⟩, (psR (numR 1 (numR 1 s).2).1.toNat (numR 1 (numR 1 s).2).2).2)
theorem rowV : RowT Tryz.prog 93 27 2 16 := RowT.mk (z := .agg #[.int .i64 0, .int .i64 0]) (by kernel_rfl) (by kernel_rfl) rfl (by decide)

set_option maxRecDepth 100000 in
set_option maxHeartbeats 8000000 in
/-- A circle. -/
theorem RShape_circle (base b : Nat) (s : St) (w : World) (hr : RdB base w b s) (hbase : base ≤ w.heap.size) (h1 : (numR 1 s).1 = 1) :
    Calls Tryz.prog 104 #[.agg #[.pointer (some ⟨b, 0, none⟩)]] w fun e w' => e = .returned (.agg #[.int .i64 1, .int .i64 (numR 8 (numR 1 s).2).1, .slice none 0 0]) ∧ RdB base w' b (numR 8 (numR 1 s).2).2 ∧ Chg [b] w w' := by
  have hc1 := fun W (h : RdB base W b s) => NumB_any 1 base b s W h (by omega)
  have hc2 := fun W (h : RdB base W b (numR 1 s).2) => FB_any base b (numR 1 s).2 W h
  rw [h1] at hc1
  clear h1
  generalize numR 8 (numR 1 s).2 = z at *
  generalize (numR 1 s).2 = y at *
  have hlt := hr.lt
  have hcA := (Chg.refl [] w).alloc (.cells #[.pointer (some ⟨b, 0, none⟩)] 152)
  have hcB := hcA.alloc (.cells #[.int .i64 0, .int .i64 0, .slice none 0 0] 95)
  have kA := (Blk.new w #[.pointer (some ⟨b, 0, none⟩)] 152).alloc (.cells #[.int .i64 0, .int .i64 0, .slice none 0 0] 95)
  have kB := Blk.new (w.alloc (.cells #[.pointer (some ⟨b, 0, none⟩)] 152)) #[.int .i64 0, .int .i64 0, .slice none 0 0] 95
  rw [World.size_alloc] at kB
  have hr0 := hr.k hcB
  have hc1 := hc1 _ hr0
  go_enter Tryz.func104, Tryz.ntmps104
  go_upto_region 1 with (fail)
  have hsz : ((w.alloc (.cells #[.pointer (some ⟨b, 0, none⟩)] 152)).alloc (.cells #[.int .i64 0, .int .i64 0, .slice none 0 0] 95)).heap.size = w.heap.size + 1 + 1 := by simp
  generalize (w.alloc (.cells #[.pointer (some ⟨b, 0, none⟩)] 152)).alloc (.cells #[.int .i64 0, .int .i64 0, .slice none 0 0] 95) = w0 at *
  have a0 := kA.cell 0
  simp at a0
  go_upto_region 3 with (first
    | (go_at_call 73; refine hc1.mono ?_; rintro e w1 ⟨rfl, hr1, hm1⟩; have kA1 := kA.chg hm1 (by simp; omega); have kB1 := kB.chg hm1 (by simp; omega); have a1 := kA1.cell 0; simp at a1))
  have hcC := (Chg.refl [] w1).alloc (.cells #[.int .i64 1, .int .i64 0, .slice none 0 0] 95)
  have kC := Blk.new w1 #[.int .i64 1, .int .i64 0, .slice none 0 0] 95
  have kA2 := kA1.k hcC
  have kB2 := kB1.k hcC
  have hr2 := hr1.k hcC
  have hc2 := hc2 _ hr2
  have hM2 : Chg [b] w (w1.alloc (.cells #[.int .i64 1, .int .i64 0, .slice none 0 0] 95)) := ((hcB.mono (S' := [b]) (by simp)).trans hm1 (fun x hx _ => hx)).k' hcC
  have hT : w.heap.size + 1 < w1.heap.size := kB1.lt
  generalize w1.alloc (.cells #[.int .i64 1, .int .i64 0, .slice none 0 0] 95) = w2 at *
  have a2 := kA2.cell 0
  simp at a2
  clear a0 a1 kA kB kA1 kB1 hr0 hr1 hcA hcB hcC hr
  obtain ⟨tb, htb⟩ : ∃ tb, w1.heap.size = tb := ⟨_, rfl⟩
  obtain ⟨rb, hrb⟩ : ∃ rb, w.heap.size + 1 = rb := ⟨_, rfl⟩
  rw [htb] at kC hT ⊢
  rw [hrb] at kB2 hT ⊢
  have HT : Hd (rb < tb ∧ rb = w.heap.size + 1) := hd ⟨hT, hrb.symm⟩
  clear htb hrb hT hm1
  have HM2 := hd hM2
  clear hM2
  go_upto_region 4 with (first
    | (go_at_call 102; refine hc2.mono ?_; rintro e w3 ⟨rfl, hr3, hm3⟩; have kA3 := kA2.chg hm3 (by simp; omega); have kB3 := kB2.chg hm3 (by have := HT.out; simp; omega); have kC3 := kC.chg hm3 (by have := HT.out; simp; omega); have c1 := kC3.cell 1; have f1 := kC3.free 1; simp at c1))
  have hs := (Chg.refl [tb] w3).setCell ⟨tb, 1, none⟩ (.int .i64 z.1) (by simp)
  have k4 := kC3.set 1 (.int .i64 z.1)
  simp at k4
  have kB4 := kB3.chg hs (by have := HT.out; simp; omega)
  have hr4 := hr3.keep hs (by have := HT.out; simp; omega)
  have HM4 := hd ((HM2.out.trans hm3 (fun x hx _ => hx)).trans hs (fun x hx hl => by have := HT.out; simp at hx; omega))
  clear kA2 kB2 kC kA3 kB3 kC3 c1 f1 hs hr2 hr3 hm3 a2 HM2
  generalize w3.setCell ⟨tb, 1, none⟩ (.int .i64 z.1) = w4 at *
  go_wp2_with (first | (refine wpList_load_row rfl _ _ rfl tb rfl 95 _ (0, 0) _ k4 Tryz.underlying95 rfl (by kernel_rfl) ?_) | (refine wpList_store_row rfl _ _ _ rfl rb #[.int .i64 1, .int .i64 z.1, .slice none 0 0] rfl rfl 95 _ kB4 (by kernel_rfl) (by simp) (by simp [Value.oneCell']) ?_))
  have k5 : Blk (w4.setRow rb #[.int .i64 1, .int .i64 z.1, .slice none 0 0]) rb #[.int .i64 1, .int .i64 z.1, .slice none 0 0] 95 := kB4.row
  have hs5 := Chg.row (Chg.refl [rb] w4) rb #[.int .i64 1, .int .i64 z.1, .slice none 0 0] (by simp)
  refine bodyPost_ret (results_cell_row rfl _ _ rb 95 _ (0, 0) _ rfl k5 Tryz.underlying95 rfl (by kernel_rfl)) rfl ⟨rfl, ?_, ?_⟩
  · exact hr4.keep hs5 (by have := HT.out; simp; omega)
  · exact HM4.out.trans hs5 (fun x hx hl => by have := HT.out; simp at hx; omega)
end Go.Proofs.YtbiadpkglcdihaaGreat
