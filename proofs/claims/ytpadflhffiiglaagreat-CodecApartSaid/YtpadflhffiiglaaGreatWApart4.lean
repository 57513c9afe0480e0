/- Words and walks that Apart rests on: ShapeR. -/
import Derived.Test.YtpadflhffiiglaaGreatWApart3
/- shape.Same, shape.Right. -/
namespace Go.Proofs.YtpadflhffiiglaaGreat
open Go.RowKit

def vS (s : Shp) (pv : Value) : Value := .agg #[.int .i64 s.kind, .int .i64 s.r, pv]
def sameS (a b : Shp) : Bool := decide (a.kind = b.kind) && decide (a.r = b.r) && decide (a.p = b.p)
set_option maxHeartbeats 1000000 in
theorem SSame_any (w : World) (a b : Shp) (va vb : Value) (ha : VsS w va a.p) (hb : VsS w vb b.p) :
    Calls Tryz.prog 67 #[vS a va, vS b vb] w fun e w' => e = .returned (.bool (sameS a b)) ∧ Chg [] w w' := by
  obtain ⟨ak, ar, ap⟩ := a
  obtain ⟨bk, br, bp⟩ := b
  have hc := fun W (hW : Chg [] w W) => EqualV_any W va vb ap bp (ha.k hW) (hb.k hW)
  unfold sameS vS
  simp only
  generalize decide (ap = bp) = z at *
  have hcb := ((Chg.refl [] w).alloc (.cells #[.int .i64 ak, .int .i64 ar, va] 32)).alloc (.cells #[.int .i64 bk, .int .i64 br, vb] 32)
  have hcon := hc _ hcb
  obtain ⟨aoa, ca, rfl, -⟩ := ha.form
  obtain ⟨aob, cb, rfl, -⟩ := hb.form
  have HCB := hd hcb
  clear ha hb hc hcb
  by_cases k1 : ak = bk
  · subst k1
    by_cases k2 : ar = br
    · subst k2
      go_enter Tryz.func67, Tryz.ntmps67
      go_wp2_with (go_at_call 96; refine hcon.mono ?_; rintro e w1 ⟨rfl, hc1⟩)
      go_ret
      exact ⟨by simp, HCB.out.k hc1⟩
    · have q2 : (ar == br) = false := by simpa using k2
      have K2 := hd k2
      clear k2
      go_enter Tryz.func67, Tryz.ntmps67
      go_wp2_with fail
      go_ret
      exact ⟨by have := K2.out; simp [this], HCB.out⟩
  · have q1 : (ak == bk) = false := by simpa using k1
    have K1 := hd k1
    clear k1
    go_enter Tryz.func67, Tryz.ntmps67
    go_wp2_with fail
    go_ret
    exact ⟨by have := K1.out; simp [this], HCB.out⟩

theorem getD_i {p : List V2} (h : ∀ a ∈ p, IV a) (i : Nat) : IV (p.getD i (0, 0)) := by
  rw [List.getD_eq_getElem?_getD]
  by_cases hi : i < p.length
  · rw [List.getElem?_eq_getElem hi]; exact h _ (List.getElem_mem hi)
  · rw [List.getElem?_eq_none (by omega)]; exact ⟨⟨by decide, by decide⟩, ⟨by decide, by decide⟩⟩
theorem row_next {p : List V2} {i j : Nat} (h : ∀ q < j, cornerB p i q = true) (hj : cornerB p i j = true) : ∀ q < j + 1, cornerB p i q = true := by
  intro q hq
  by_cases e : q = j
  · rw [e]; exact hj
  · exact h q (by omega)
theorem rows_next {p : List V2} {i : Nat} (h : ∀ m < i, ∀ q < p.length, cornerB p m q = true) (hi : ∀ q < p.length, cornerB p i q = true) : ∀ m < i + 1, ∀ q < p.length, cornerB p m q = true := by
  intro m hm
  by_cases e : m = i
  · rw [e]; exact hi
  · exact h m (by omega)
set_option maxRecDepth 100000 in
set_option maxHeartbeats 8000000 in
theorem SRight_any (w : World) (s : Shp) (pv : Value) (hp : VsS w pv s.p) (hi : ∀ a ∈ s.p, IV a) :
    Calls Tryz.prog 92 #[vS s pv] w fun e w' => e = .returned (.bool (rightS s)) ∧ Chg [] w w' := by
  obtain ⟨k, r, p⟩ := s
  have hlen := hp.len
  have HP := hd hp
  have HI := hd hi
  obtain ⟨ao, c, rfl, hao⟩ := hp.form
  have HAO := hd hao
  have hcb := (Chg.refl [] w).alloc (.cells #[.int .i64 k, .int .i64 r, .slice ao p.length c] 32)
  have hkb := Blk.new w #[.int .i64 k, .int .i64 r, .slice ao p.length c] 32
  clear hp hi hao
  unfold rightS vS
  simp only at hlen HP HI HAO hcb hkb ⊢
  by_cases hk : k = 1
  · subst hk
    rw [if_pos rfl]
    have HCB := hd hcb
    clear hkb hcb HP HI HAO
    generalize p.length = n at *
    by_cases h1 : n = 0
    · subst h1
      by_cases h2 : 16777216 ≤ r <;> by_cases h3 : r ≤ 274877906944 <;> first
      | (exfalso; omega)
      | (go_enter Tryz.func92, Tryz.ntmps92
         go_wp2
         go_step3
         go_wp2
         first | (rw [Exit.noGoto_ret]; go_ret) | go_ret
         exact ⟨ret_of (congrArg Value.bool (by simp [h2, h3])), HCB.out⟩)
      | (go_enter Tryz.func92, Tryz.ntmps92
         go_wp2
         go_step3
         go_wp2
         first | (rw [Exit.noGoto_ret]; go_ret) | go_ret
         exact ⟨by simp [h2, h3], HCB.out⟩)
    · have q1 : ((n : Int) == 0) = false := by rw [beq_eq_false_iff_ne]; omega
      have H1 := hd h1
      clear h1
      go_enter Tryz.func92, Tryz.ntmps92
      go_wp2
      go_step3
      go_wp2
      rw [Exit.noGoto_ret]
      go_ret
      exact ⟨by have := H1.out; simp [this], HCB.out⟩
  · rw [if_neg hk]
    have hkq : (k == 1) = false := by rw [beq_eq_false_iff_ne]; exact hk
    by_cases hbad : k ≠ 2 ∨ r ≠ 0 ∨ p.length < 3 ∨ 8 < p.length
    · rw [if_pos hbad]
      have HCB := hd hcb
      clear hkb hcb HP HI HAO hk
      generalize p.length = n at *
      by_cases h1 : k = 2
      · subst h1
        by_cases h2 : r = 0
        · subst h2
          by_cases h3 : n < 3
          · have h3' : (n : Int) < 3 := by omega
            clear hbad
            go_enter Tryz.func92, Tryz.ntmps92
            go_wp2
            go_step3
            go_wp2
            (try rw [Exit.noGoto_ret])
            go_ret
            exact ⟨rfl, HCB.out⟩
          · have h4 : (8 : Int) < (n : Int) := by omega
            have h3' : ¬ (n : Int) < 3 := by omega
            clear hbad h3
            go_enter Tryz.func92, Tryz.ntmps92
            go_wp2
            go_step3
            go_wp2
            (try rw [Exit.noGoto_ret])
            go_ret
            exact ⟨rfl, HCB.out⟩
        · have h2' : (r == 0) = false := by rw [beq_eq_false_iff_ne]; exact h2
          have h2'' : (r != 0) = true := by rw [bne_iff_ne]; exact h2
          clear hbad h2
          go_enter Tryz.func92, Tryz.ntmps92
          go_wp2
          go_step3
          go_wp2
          (try rw [Exit.noGoto_ret])
          go_ret
          exact ⟨rfl, HCB.out⟩
      · have h1' : (k == 2) = false := by rw [beq_eq_false_iff_ne]; exact h1
        have h1'' : (k != 2) = true := by rw [bne_iff_ne]; exact h1
        clear hbad h1
        go_enter Tryz.func92, Tryz.ntmps92
        go_wp2
        go_step3
        go_wp2
        (try rw [Exit.noGoto_ret])
        go_ret
        exact ⟨rfl, HCB.out⟩
    · rw [if_neg hbad]
      have h1 : k = 2 := by omega
      have h2 : r = 0 := by omega
      have h3 : 3 ≤ p.length := by omega
      have h4 : p.length ≤ 8 := by omega
      subst h1
      subst h2
      have hd3 : decide (p.length < 3) = false := by rw [decide_eq_false_iff_not]; omega
      have hd8 : decide (8 < p.length) = false := by rw [decide_eq_false_iff_not]; omega
      have hd3' : decide ((p.length : Int) < 3) = false := by rw [decide_eq_false_iff_not]; omega
      have hd8' : decide ((8 : Int) < (p.length : Int)) = false := by rw [decide_eq_false_iff_not]; omega
      clear hbad hk hkq
      go_enter Tryz.func92, Tryz.ntmps92
      go_wp2
      go_step3
      go_wp2
      have HCB := hd hcb
      have HKB := hd hkb
      clear hcb hkb
      generalize w.alloc (.cells #[.int .i64 2, .int .i64 0, .slice ao p.length c] 32) = w1 at *
      generalize w.heap.size = sb at *
      obtain ⟨b, off, rfl⟩ := HAO.out (by omega)
      go_loopw [50] (fun i wr => ∃ j : Nat, i = .int .i64 (j : Int) ∧ j ≤ p.length ∧ Hd (∀ a ∈ p.take j, nearV a 274877906944 = true) ∧ Hd (Chg [] w1 wr)) (fun i _ => p.length - (intOf i).toNat)
      case atStart => exact ⟨0, rfl, Nat.zero_le _, hd (by simp), hd (Chg.refl _ _)⟩
      case round =>
        obtain ⟨j, rfl, hj, hall, hc⟩ := hrel
        by_cases hjl : j < p.length
        · obtain ⟨q0, q1⟩ := (HP.out.k (HCB.out.k hc.out)).at j hjl
          have hcon := fun W => SWithin_any p[j] (HI.out _ (List.getElem_mem hjl)) W
          have hsn := List.take_succ_eq_append_getElem hjl
          have hmem := List.getElem_mem hjl
          generalize p[j] = a at *
          have HSN := hd hsn
          have HMEM := hd hmem
          clear hsn hmem
          unfold vV at hcon
          obtain ⟨d, hdd⟩ : ∃ d, nearV a 274877906944 = d := ⟨_, rfl⟩
          simp only [hdd] at hcon
          have HD := hd hdd
          clear hdd
          have hcx := (Chg.refl [] wr).alloc (.cells #[.int .i64 a.1, .int .i64 a.2] 27)
          cases d
          · go_wp2_with (go_at_call 135; refine (hcon _).mono ?_; rintro e w3 ⟨rfl, hc3⟩)
            (first | (rw [Exit.noGoto_ret]; go_ret) | go_ret)
            refine ⟨ret_of (congrArg Value.bool ?_), (HCB.out.k hc.out).k (hcx.k hc3)⟩
            have : (p.all fun a => nearV a 274877906944) = false := by
              rw [List.all_eq_false]
              exact ⟨a, HMEM.out, by rw [HD.out]; decide⟩
            rw [this]; rfl
          · go_wp2_with (go_at_call 135; refine (hcon _).mono ?_; rintro e w3 ⟨rfl, hc3⟩)
            have HALL : Hd (∀ a ∈ p.take (j + 1), nearV a 274877906944 = true) := hd (by rw [HSN.out]; intro x hx; rcases List.mem_append.1 hx with h | h; exact hall.out x h; obtain rfl := List.mem_singleton.1 h; exact HD.out)
            have HC := hd (hc.out.k (hcx.k hc3))
            go_roundw
            case rel => exact ⟨j + 1, by go_num, by omega, HALL, HC⟩
            case measure => simp [intOf]; omega
        · obtain rfl : j = p.length := by omega
          have HALL : Hd ((p.all fun a => nearV a 274877906944) = true) := hd (by
            have := hall.out
            rw [List.take_length] at this
            rw [List.all_eq_true]; exact this)
          clear hall hj hjl
          have x2 := (HKB.out.k hc.out).cell 2
          simp at x2
          go_wp2_with fail
          go_step3
          apply_assumption -exfalso -symm
          go_wp2_with fail
          have HC0 := hd (HCB.out.k hc.out)
          have HP0 := hd (HP.out.k HC0.out)
          have HKB0 := hd (HKB.out.k hc.out)
          clear HCB HKB HP
          have hok : ∀ x y z : Nat, IV (p.getD x (0, 0)) ∧ IV (p.getD y (0, 0)) ∧ IV (p.getD z (0, 0)) := fun x y z => ⟨getD_i HI.out x, getD_i HI.out y, getD_i HI.out z⟩
          have HOK := hd hok
          clear hok
          generalize hw0 : wr = w2 at *
          clear hw0 x2
          go_loopw [61] (fun i wr => ∃ ii : Nat, i = .int .i64 (ii : Int) ∧ ii ≤ p.length ∧ Hd (∀ m < ii, ∀ q < p.length, cornerB p m q = true) ∧ Hd (Chg [] w2 wr)) (fun i _ => p.length - (intOf i).toNat)
          case atStart => exact ⟨0, rfl, Nat.zero_le _, hd (by omega), hd (Chg.refl _ _)⟩
          case round =>
            obtain ⟨i, rfl, hi, hdone, hc⟩ := hrel
            by_cases hil : i < p.length
            · obtain ⟨q0, q1⟩ := (HP0.out.k hc.out).at i hil
              obtain ⟨kk, hkk⟩ : ∃ kk, (i + 1) % p.length = kk := ⟨_, rfl⟩
              have hkl : kk < p.length := by rw [← hkk]; exact Nat.mod_lt _ (by omega)
              have hkI : ((i : Int) + 1) % (p.length : Int) = (kk : Int) := by rw [← hkk]; simp
              obtain ⟨r0, r1⟩ := (HP0.out.k hc.out).at kk hkl
              have HKK := hd hkk
              clear hkk
              have hga : p.getD i (0, 0) = p[i] := by rw [List.getD_eq_getElem?_getD, List.getElem?_eq_getElem hil]; rfl
              have hgk : p.getD kk (0, 0) = p[kk] := by rw [List.getD_eq_getElem?_getD, List.getElem?_eq_getElem hkl]; rfl
              have HGK2' : ∃ x, x = p[kk] := ⟨_, rfl⟩
              generalize hgk2 : p[kk] = ak at *
              have HGK2 := hd hgk2
              clear hgk2 HGK2'
              generalize p[i] = a at *
              have HGA := hd hga
              have HGK := hd hgk
              clear hga hgk
              have x2 := (HKB0.out.k hc.out).cell 2
              simp at x2
              have hcx := (Chg.refl [] wr).alloc (.cells #[.int .i64 a.1, .int .i64 a.2] 27)
              have hka := Blk.new wr #[.int .i64 a.1, .int .i64 a.2] 27
              go_upto_region 16 with (fail)
              have hCA := hd (hc.out.k hcx)
              replace x2 := hcx.cellS x2
              generalize wr.alloc (.cells #[.int .i64 a.1, .int .i64 a.2] 27) = w3 at *
              generalize wr.heap.size = ab at *
              have HKA := hd hka
              clear hka hcx hc q0 q1 r0 r1 wr
              go_wp2_with fail
              rw [hkI]
              clear hkI
              go_loopw [73] (fun j wr => ∃ jj : Nat, j = .int .i64 (jj : Int) ∧ jj ≤ p.length ∧ Hd (∀ q < jj, cornerB p i q = true) ∧ Hd (Chg [] w3 wr)) (fun j _ => p.length - (intOf j).toNat)
              case atStart => exact ⟨0, rfl, Nat.zero_le _, hd (by omega), hd (Chg.refl _ _)⟩
              case round =>
                obtain ⟨j, rfl, hj, hrow, hc⟩ := hrel
                by_cases hjl : j < p.length
                · obtain ⟨q0, q1⟩ := (HP0.out.k (hCA.out.k hc.out)).at j hjl
                  have hgo : p.getD j (0, 0) = p[j] := by rw [List.getD_eq_getElem?_getD, List.getElem?_eq_getElem hjl]; rfl
                  generalize p[j] = o at *
                  have HGO := hd hgo
                  clear hgo
                  have hcy := (Chg.refl [] wr).alloc (.cells #[.int .i64 o.1, .int .i64 o.2] 27)
                  have hko := Blk.new wr #[.int .i64 o.1, .int .i64 o.2] 27
                  go_upto_region 19 with (fail)
                  have hCO := hd (hc.out.k hcy)
                  generalize wr.alloc (.cells #[.int .i64 o.1, .int .i64 o.2] 27) = w4 at *
                  generalize wr.heap.size = ob at *
                  have HKO := hd hko
                  clear hko hcy hc q0 q1 wr
                  by_cases hji : j = i
                  · have hq1 : ((j : Int) == (i : Int)) = true := by rw [beq_iff_eq]; omega
                    have HR : Hd (∀ q < j + 1, cornerB p i q = true) := hd (row_next hrow.out (by unfold cornerB; simp [hji]))
                    clear hji
                    go_wp2_with fail
                    go_roundw
                    case rel => exact ⟨j + 1, by go_num, by omega, HR, hCO⟩
                    case measure => simp [intOf]; omega
                  · have hq1 : ((j : Int) == (i : Int)) = false := by rw [beq_eq_false_iff_ne]; omega
                    by_cases hjk : j = kk
                    · have hq2 : ((j : Int) == (kk : Int)) = true := by rw [beq_iff_eq]; omega
                      have HR : Hd (∀ q < j + 1, cornerB p i q = true) := hd (row_next hrow.out (by unfold cornerB; rw [HKK.out]; simp [hjk]))
                      clear hji hjk
                      go_wp2_with fail
                      go_roundw
                      case rel => exact ⟨j + 1, by go_num, by omega, HR, hCO⟩
                      case measure => simp [intOf]; omega
                    · have hq2 : ((j : Int) == (kk : Int)) = false := by rw [beq_eq_false_iff_ne]; omega
                      have HJI := hd hji
                      have HJK := hd hjk
                      obtain ⟨hia, hik, hio⟩ := HOK.out i kk j
                      rw [HGA.out] at hia
                      rw [HGK.out] at hik
                      rw [HGO.out] at hio
                      have hs1 := fun W => VSub_any ak a hik hia W
                      have hs2 := fun W => VSub_any o a hio hia W
                      have hs3 := fun W => Cross_any (subV ak a) (subV o a) (subV_i _ _) (subV_i _ _) W
                      have hcor : cornerB p i j = decide (0 < crossV (subV ak a) (subV o a)) := by
                        unfold cornerB
                        rw [HKK.out, HGA.out, HGK.out, HGO.out, decide_eq_false hji, decide_eq_false hjk]; rfl
                      have hbd := crossV_s (subV ak a) (subV o a)
                      have HCOR := hd hcor
                      obtain ⟨z, hz⟩ : ∃ z, crossV (subV ak a) (subV o a) = z := ⟨_, rfl⟩
                      rw [hz] at HCOR hbd
                      simp only [hz] at hs3
                      clear hz hji hjk hcor hia hik hio
                      unfold vV at hs1 hs2 hs3
                      generalize subV ak a = d1 at *
                      generalize subV o a = d2 at *
                      obtain ⟨hb1, hb2⟩ := hbd
                      have hpk := (HP0.out.k (hCA.out.k hCO.out)).at kk hkl
                      have x2' := hCO.out.cellS x2
                      have HQ : Hd (∀ wx, Chg [] w4 wx → wx.cell? ⟨sb, 2, none⟩ = some (.slice (some ⟨b, off, none⟩) p.length c) ∧ wx.cell? ⟨b, off + kk * 2, none⟩ = some (.int .i64 ak.1) ∧ wx.cell? ⟨b, off + kk * 2 + 1, none⟩ = some (.int .i64 ak.2) ∧ wx.cell? ⟨ab, 0, none⟩ = some (.int .i64 a.1) ∧ wx.cell? ⟨ab, 1, none⟩ = some (.int .i64 a.2) ∧ wx.cell? ⟨ob, 0, none⟩ = some (.int .i64 o.1) ∧ wx.cell? ⟨ob, 1, none⟩ = some (.int .i64 o.2)) :=
                        hd fun wx hx => ⟨hx.cellS x2', hx.cellS (by rw [hpk.1, HGK2.out]), hx.cellS (by rw [hpk.2, HGK2.out]), hx.cellS ((HKA.out.k hCO.out).cell 0), hx.cellS ((HKA.out.k hCO.out).cell 1), hx.cellS (HKO.out.cell 0), hx.cellS (HKO.out.cell 1)⟩
                      clear hpk x2' x2
                      by_cases hz : 0 < z
                      · have HR : Hd (∀ q < j + 1, cornerB p i q = true) := hd (row_next hrow.out (by rw [HCOR.out]; exact decide_eq_true hz))
                        have hzq : decide (z ≤ 0) = false := by rw [decide_eq_false_iff_not]; omega
                        clear hz
                        go_upto_region 20 with (fail)
                        refine anyH_start (n := 12) (L := #[false, false, false, false, false, false, false, false, false, false, false, false]) (by kernel_rfl) (by kernel_rfl) (S := (fun wx => Chg [] w4 wx)) ((Chg.refl _ _).drew) (fun hHeld => ?_)
                        refine anyH_take (i := 0) (d := 86) (L' := #[true, false, false, false, false, false, false, false, false, false, false, false]) (v := ?v2) rfl rfl (by kernel_rfl) (fun _ _ _ h => h) (by rfl) ?hy2 (by assumption) ?rest2
                        case hy2 => (intro wx hSw; (try dsimp only at hSw); (obtain ⟨t0, t1, t2, t3, t4, t5, t6⟩ := HQ.out _ hSw); go_simp; (try with_reducible rfl))
                        simp only [Act.put, List.setIfInBounds_toArray, List.set_cons_zero, List.set_cons_succ]
                        refine anyH_take (i := 1) (d := 87) (L' := #[true, true, false, false, false, false, false, false, false, false, false, false]) (v := ?v3) rfl rfl (by kernel_rfl) (fun _ _ _ h => h) (by rfl) ?hy3 (by assumption) ?rest3
                        case hy3 => (intro wx hSw; (try dsimp only at hSw); (obtain ⟨t0, t1, t2, t3, t4, t5, t6⟩ := HQ.out _ hSw); go_simp; (try with_reducible rfl))
                        simp only [Act.put, List.setIfInBounds_toArray, List.set_cons_zero, List.set_cons_succ]
                        refine anyH_take (i := 2) (d := 88) (L' := #[true, true, true, false, false, false, false, false, false, false, false, false]) (v := ?v4) rfl rfl (by kernel_rfl) (fun _ _ _ h => h) (by rfl) ?hy4 (by assumption) ?rest4
                        case hy4 => (intro wx hSw; (try dsimp only at hSw); (obtain ⟨t0, t1, t2, t3, t4, t5, t6⟩ := HQ.out _ hSw); go_simp; (try with_reducible rfl))
                        simp only [Act.put, List.setIfInBounds_toArray, List.set_cons_zero, List.set_cons_succ]
                        refine anyH_take (i := 3) (d := 89) (L' := #[true, true, true, true, false, false, false, false, false, false, false, false]) (v := ?v5) rfl rfl (by kernel_rfl) (fun _ _ _ h => h) (by rfl) ?hy5 (by assumption) ?rest5
                        case hy5 => (intro wx hSw; (try dsimp only at hSw); (obtain ⟨t0, t1, t2, t3, t4, t5, t6⟩ := HQ.out _ hSw); go_simp; (try with_reducible rfl))
                        simp only [Act.put, List.setIfInBounds_toArray, List.set_cons_zero, List.set_cons_succ]
                        refine anyH_take (i := 4) (d := 90) (L' := #[true, true, true, true, true, false, false, false, false, false, false, false]) (v := ?v6) rfl rfl (by kernel_rfl) (fun _ _ _ h => h) (by rfl) ?hy6 (by assumption) ?rest6
                        case hy6 => (intro wx hSw; (try dsimp only at hSw); (obtain ⟨t0, t1, t2, t3, t4, t5, t6⟩ := HQ.out _ hSw); go_simp; (try with_reducible rfl))
                        simp only [Act.put, List.setIfInBounds_toArray, List.set_cons_zero, List.set_cons_succ]
                        refine anyH_take (i := 5) (d := 91) (L' := #[true, true, true, true, true, true, false, false, false, false, false, false]) (v := ?v7) rfl rfl (by kernel_rfl) (fun _ _ _ h => h) (by rfl) ?hy7 (by assumption) ?rest7
                        case hy7 => (intro wx hSw; (try dsimp only at hSw); (obtain ⟨t0, t1, t2, t3, t4, t5, t6⟩ := HQ.out _ hSw); go_simp; (try with_reducible rfl))
                        simp only [Act.put, List.setIfInBounds_toArray, List.set_cons_zero, List.set_cons_succ]
                        refine anyH_take (i := 7) (d := 93) (L' := #[true, true, true, true, true, true, false, true, false, false, false, false]) (v := ?v8) rfl rfl (by kernel_rfl) (fun _ _ _ h => h) (by rfl) ?hy8 (by assumption) ?rest8
                        case hy8 => (intro wx hSw; (try dsimp only at hSw); (obtain ⟨t0, t1, t2, t3, t4, t5, t6⟩ := HQ.out _ hSw); go_simp; (try with_reducible rfl))
                        simp only [Act.put, List.setIfInBounds_toArray, List.set_cons_zero, List.set_cons_succ]
                        refine anyH_take (i := 8) (d := 94) (L' := #[true, true, true, true, true, true, false, true, true, false, false, false]) (v := ?v9) rfl rfl (by kernel_rfl) (fun _ _ _ h => h) (by rfl) ?hy9 (by assumption) ?rest9
                        case hy9 => (intro wx hSw; (try dsimp only at hSw); (obtain ⟨t0, t1, t2, t3, t4, t5, t6⟩ := HQ.out _ hSw); go_simp; (try with_reducible rfl))
                        simp only [Act.put, List.setIfInBounds_toArray, List.set_cons_zero, List.set_cons_succ]
                        refine anyH_run (i := 6) (L' := #[true, true, true, true, true, true, true, true, true, false, false, false]) rfl (by kernel_rfl) (by rfl) (fun KK hKK => ?_)
                        go_simp
                        (refine (hs1 _).mono ?_; rintro e w5 ⟨rfl, hc5⟩; have hS5 := (Chg.refl [] w4).drew.k hc5; (try go_simp))
                        refine hKK.out _ _ (by assumption) (fun hHeld => ?_)
                        clear hKK KK
                        try simp only [Act.put, List.setIfInBounds_toArray, List.set_cons_zero, List.set_cons_succ]
                        refine anyH_run (i := 9) (L' := #[true, true, true, true, true, true, true, true, true, true, false, false]) rfl (by kernel_rfl) (by rfl) (fun KK hKK => ?_)
                        go_simp
                        (refine (hs2 _).mono ?_; rintro e w6 ⟨rfl, hc6⟩; have hS6 := hS5.k hc6; (try go_simp))
                        refine hKK.out _ _ (by assumption) (fun hHeld => ?_)
                        clear hKK KK
                        try simp only [Act.put, List.setIfInBounds_toArray, List.set_cons_zero, List.set_cons_succ]
                        refine anyH_run (i := 10) (L' := #[true, true, true, true, true, true, true, true, true, true, true, false]) rfl (by kernel_rfl) (by rfl) (fun KK hKK => ?_)
                        go_simp
                        (refine (hs3 _).mono ?_; rintro e w7 ⟨rfl, hc7⟩; have hS7 := hS6.k hc7; (try go_simp))
                        refine hKK.out _ _ (by assumption) (fun hHeld => ?_)
                        clear hKK KK
                        try simp only [Act.put, List.setIfInBounds_toArray, List.set_cons_zero, List.set_cons_succ]
                        refine anyH_run (i := 11) (L' := #[true, true, true, true, true, true, true, true, true, true, true, true]) rfl (by kernel_rfl) (by rfl) (fun KK hKK => ?_)
                        go_simp
                        (skip)
                        refine hKK.out _ _ (by assumption) (fun hHeld => ?_)
                        clear hKK KK
                        try simp only [Act.put, List.setIfInBounds_toArray, List.set_cons_zero, List.set_cons_succ]
                        refine wpAnyH_done (by kernel_rfl) ?_ _
                        skip
                        have HCF := hd (hCO.out.k hS7)
                        clear hS5 hS6 hS7 hHeld hc5 hc6 hc7
                        by_cases hp3 : p.length = 3
                        · have HROW : Hd (∀ q < p.length, cornerB p i q = true) := hd (by
                            rw [hp3]
                            exact corner_three hp3 (by omega) (by omega) HJI.out (by have := HJK.out; have := HKK.out; rw [hp3] at this; omega) HR.out)
                          have HDN : Hd (∀ m < i + 1, ∀ q < p.length, cornerB p m q = true) := hd (rows_next hdone.out HROW.out)
                          have hp3' : ((p.length : Int) == 3) = true := by rw [beq_iff_eq]; omega
                          clear hp3
                          go_wp2_with fail
                          go_roundw
                          case rel => exact ⟨i + 1, by go_num, by omega, HDN, hd (hCA.out.k HCF.out)⟩
                          case measure => simp [intOf]; omega
                        · have hp3' : ((p.length : Int) == 3) = false := by rw [beq_eq_false_iff_ne]; omega
                          clear hp3
                          go_wp2_with fail
                          go_roundw
                          case rel => exact ⟨j + 1, by go_num, by omega, HR, HCF⟩
                          case measure => simp [intOf]; omega
                      · have HNO : Hd (convexB p = false) := hd (convex_no hil hjl (by rw [HCOR.out]; exact decide_eq_false hz))
                        have hzq : decide (z ≤ 0) = true := by rw [decide_eq_true_iff]; omega
                        clear hz
                        go_upto_region 20 with (fail)
                        refine anyH_start (n := 12) (L := #[false, false, false, false, false, false, false, false, false, false, false, false]) (by kernel_rfl) (by kernel_rfl) (S := (fun wx => Chg [] w4 wx)) ((Chg.refl _ _).drew) (fun hHeld => ?_)
                        refine anyH_take (i := 0) (d := 86) (L' := #[true, false, false, false, false, false, false, false, false, false, false, false]) (v := ?v16) rfl rfl (by kernel_rfl) (fun _ _ _ h => h) (by rfl) ?hy16 (by assumption) ?rest16
                        case hy16 => (intro wx hSw; (try dsimp only at hSw); (obtain ⟨t0, t1, t2, t3, t4, t5, t6⟩ := HQ.out _ hSw); go_simp; (try with_reducible rfl))
                        simp only [Act.put, List.setIfInBounds_toArray, List.set_cons_zero, List.set_cons_succ]
                        refine anyH_take (i := 1) (d := 87) (L' := #[true, true, false, false, false, false, false, false, false, false, false, false]) (v := ?v17) rfl rfl (by kernel_rfl) (fun _ _ _ h => h) (by rfl) ?hy17 (by assumption) ?rest17
                        case hy17 => (intro wx hSw; (try dsimp only at hSw); (obtain ⟨t0, t1, t2, t3, t4, t5, t6⟩ := HQ.out _ hSw); go_simp; (try with_reducible rfl))
                        simp only [Act.put, List.setIfInBounds_toArray, List.set_cons_zero, List.set_cons_succ]
                        refine anyH_take (i := 2) (d := 88) (L' := #[true, true, true, false, false, false, false, false, false, false, false, false]) (v := ?v18) rfl rfl (by kernel_rfl) (fun _ _ _ h => h) (by rfl) ?hy18 (by assumption) ?rest18
                        case hy18 => (intro wx hSw; (try dsimp only at hSw); (obtain ⟨t0, t1, t2, t3, t4, t5, t6⟩ := HQ.out _ hSw); go_simp; (try with_reducible rfl))
                        simp only [Act.put, List.setIfInBounds_toArray, List.set_cons_zero, List.set_cons_succ]
                        refine anyH_take (i := 3) (d := 89) (L' := #[true, true, true, true, false, false, false, false, false, false, false, false]) (v := ?v19) rfl rfl (by kernel_rfl) (fun _ _ _ h => h) (by rfl) ?hy19 (by assumption) ?rest19
                        case hy19 => (intro wx hSw; (try dsimp only at hSw); (obtain ⟨t0, t1, t2, t3, t4, t5, t6⟩ := HQ.out _ hSw); go_simp; (try with_reducible rfl))
                        simp only [Act.put, List.setIfInBounds_toArray, List.set_cons_zero, List.set_cons_succ]
                        refine anyH_take (i := 4) (d := 90) (L' := #[true, true, true, true, true, false, false, false, false, false, false, false]) (v := ?v20) rfl rfl (by kernel_rfl) (fun _ _ _ h => h) (by rfl) ?hy20 (by assumption) ?rest20
                        case hy20 => (intro wx hSw; (try dsimp only at hSw); (obtain ⟨t0, t1, t2, t3, t4, t5, t6⟩ := HQ.out _ hSw); go_simp; (try with_reducible rfl))
                        simp only [Act.put, List.setIfInBounds_toArray, List.set_cons_zero, List.set_cons_succ]
                        refine anyH_take (i := 5) (d := 91) (L' := #[true, true, true, true, true, true, false, false, false, false, false, false]) (v := ?v21) rfl rfl (by kernel_rfl) (fun _ _ _ h => h) (by rfl) ?hy21 (by assumption) ?rest21
                        case hy21 => (intro wx hSw; (try dsimp only at hSw); (obtain ⟨t0, t1, t2, t3, t4, t5, t6⟩ := HQ.out _ hSw); go_simp; (try with_reducible rfl))
                        simp only [Act.put, List.setIfInBounds_toArray, List.set_cons_zero, List.set_cons_succ]
                        refine anyH_take (i := 7) (d := 93) (L' := #[true, true, true, true, true, true, false, true, false, false, false, false]) (v := ?v22) rfl rfl (by kernel_rfl) (fun _ _ _ h => h) (by rfl) ?hy22 (by assumption) ?rest22
                        case hy22 => (intro wx hSw; (try dsimp only at hSw); (obtain ⟨t0, t1, t2, t3, t4, t5, t6⟩ := HQ.out _ hSw); go_simp; (try with_reducible rfl))
                        simp only [Act.put, List.setIfInBounds_toArray, List.set_cons_zero, List.set_cons_succ]
                        refine anyH_take (i := 8) (d := 94) (L' := #[true, true, true, true, true, true, false, true, true, false, false, false]) (v := ?v23) rfl rfl (by kernel_rfl) (fun _ _ _ h => h) (by rfl) ?hy23 (by assumption) ?rest23
                        case hy23 => (intro wx hSw; (try dsimp only at hSw); (obtain ⟨t0, t1, t2, t3, t4, t5, t6⟩ := HQ.out _ hSw); go_simp; (try with_reducible rfl))
                        simp only [Act.put, List.setIfInBounds_toArray, List.set_cons_zero, List.set_cons_succ]
                        refine anyH_run (i := 6) (L' := #[true, true, true, true, true, true, true, true, true, false, false, false]) rfl (by kernel_rfl) (by rfl) (fun KK hKK => ?_)
                        go_simp
                        (refine (hs1 _).mono ?_; rintro e w5 ⟨rfl, hc5⟩; have hS5 := (Chg.refl [] w4).drew.k hc5; (try go_simp))
                        refine hKK.out _ _ (by assumption) (fun hHeld => ?_)
                        clear hKK KK
                        try simp only [Act.put, List.setIfInBounds_toArray, List.set_cons_zero, List.set_cons_succ]
                        refine anyH_run (i := 9) (L' := #[true, true, true, true, true, true, true, true, true, true, false, false]) rfl (by kernel_rfl) (by rfl) (fun KK hKK => ?_)
                        go_simp
                        (refine (hs2 _).mono ?_; rintro e w6 ⟨rfl, hc6⟩; have hS6 := hS5.k hc6; (try go_simp))
                        refine hKK.out _ _ (by assumption) (fun hHeld => ?_)
                        clear hKK KK
                        try simp only [Act.put, List.setIfInBounds_toArray, List.set_cons_zero, List.set_cons_succ]
                        refine anyH_run (i := 10) (L' := #[true, true, true, true, true, true, true, true, true, true, true, false]) rfl (by kernel_rfl) (by rfl) (fun KK hKK => ?_)
                        go_simp
                        (refine (hs3 _).mono ?_; rintro e w7 ⟨rfl, hc7⟩; have hS7 := hS6.k hc7; (try go_simp))
                        refine hKK.out _ _ (by assumption) (fun hHeld => ?_)
                        clear hKK KK
                        try simp only [Act.put, List.setIfInBounds_toArray, List.set_cons_zero, List.set_cons_succ]
                        refine anyH_run (i := 11) (L' := #[true, true, true, true, true, true, true, true, true, true, true, true]) rfl (by kernel_rfl) (by rfl) (fun KK hKK => ?_)
                        go_simp
                        (skip)
                        refine hKK.out _ _ (by assumption) (fun hHeld => ?_)
                        clear hKK KK
                        try simp only [Act.put, List.setIfInBounds_toArray, List.set_cons_zero, List.set_cons_succ]
                        refine wpAnyH_done (by kernel_rfl) ?_ _
                        skip
                        go_wp2_with fail
                        (first | (rw [Exit.noGoto_ret]; go_ret) | go_ret)
                        exact ⟨ret_of (congrArg Value.bool (by rw [HNO.out, Bool.and_false])), HC0.out.k (hCA.out.k (hCO.out.k hS7))⟩
                · obtain rfl : j = p.length := by omega
                  have HDN : Hd (∀ m < i + 1, ∀ q < p.length, cornerB p m q = true) := hd (rows_next hdone.out hrow.out)
                  have HCE := hd (hCA.out.k hc.out)
                  clear hrow
                  go_wp2_with fail
                  go_roundw
                  case rel => exact ⟨i + 1, by go_num, by omega, HDN, HCE⟩
                  case measure => simp [intOf]; omega
            · obtain rfl : i = p.length := by omega
              have HYES : Hd (convexB p = true) := hd (convex_yes hdone.out)
              go_wp2_with fail
              (first | (rw [Exit.noGoto_ret]; go_ret) | go_ret)
              exact ⟨ret_of (congrArg Value.bool (by rw [HYES.out, HALL.out]; rfl)), HC0.out.k hc.out⟩
end Go.Proofs.YtpadflhffiiglaaGreat
