/- PackFails: for every input the law returns true. -/
import Derived.Test.YteeanpbdnpmpaaaPackV
namespace Go.Proofs.Yteeanpbdnpmpaaa
open Go.RowKit

theorem u8_and7 (c : UInt8) : bits .and .u8 (n8 c) 7 = ((c.toNat % 8 : Nat) : Int) := by
  have h : ∀ z : Fin 256, bits .and .u8 (z.1 : Int) 7 = ((z.1 % 8 : Nat) : Int) := by decide +kernel
  exact h ⟨c.toNat, c.toNat_lt⟩

/-- What the loop keeps: how much is read, and whether it has failed. -/
def PfInv (l0 : List UInt8) (b : Nat) (t6 t7 : Value) (wr : World) : Prop :=
  ∃ m β, m ≤ l0.length ∧ t6 = .int .i64 (m : Nat) ∧ t7 = .bool β ∧ Rdr wr b (if β then [] else l0.drop m) β

set_option maxRecDepth 100000 in
set_option maxHeartbeats 2000000 in
theorem PackFails_law (v0 : Value) (l0 : List UInt8) (v1 : Value) (l1 : List UInt8) (w : World) (h0 : Bs w v0 l0) (_hl0 : l0.length ≤ 140737488351232) (h1 : Bs w v1 l1) (_hl1 : l1.length ≤ 140737488351232) :
    Calls Try.prog 5 #[v0, v1] w fun e w' => e = .returned (.bool true) ∧ Chg [] w w' := by
  have hlt0 := h0.lt
  have hlt1 := h1.lt
  obtain ⟨ao0, cap0, b0, off0, rfl, -, -, -, hao0, hc0⟩ := h0.open
  obtain ⟨ao1, cap1, b1, off1, rfl, -, -, -, hao1, hc1⟩ := h1.open
  go_enter Try.func5, Try.ntmps5
  go_wp2_with fail
  refine (fit14_any _).mono ?_
  rintro e w1 ⟨rfl, hf1⟩
  by_cases hbig : 200 < (l0.length : Int)
  · go_wp2_with fail
    go_ret
    exact ⟨rfl, hf1⟩
  by_cases hbig1 : 60 < (l1.length : Int)
  · go_wp2_with fail
    go_ret
    exact ⟨rfl, hf1⟩
  have g0 := h0.stays hf1
  have HC0 := hd hc0
  have HC1 := hd hc1
  have HL0 := hd hlt0
  have HL1 := hd hlt1
  clear hc0 hc1 hlt0 hlt1
  go_wp2_with fail
  refine (New_any _ _ _ g0).mono ?_
  rintro e w2 ⟨b, rfl, hb, hr2, hf2⟩
  have hf2' := hf1.trans hf2 (by simp)
  have hbw : w.heap.size ≤ b := Nat.le_trans hf1.size hb
  go_wp2_with fail
  go_loopw [6, 7, 9, 10, 11, 12, 13, 28] (fun m t _ _ _ _ _ i wr => ∃ k : Nat, k ≤ l1.length ∧ i = .int .i64 k ∧ PfInv l0 b m t wr ∧ Chg [] w wr)
    (fun _ _ _ _ _ _ _ i _ => l1.length - (intOf i).toNat)
  case atStart => exact ⟨0, by omega, rfl, ⟨0, false, by omega, rfl, rfl, by simpa using hr2⟩, hf2'⟩
  case round =>
    obtain ⟨k, hk, rfl, ⟨m, β, hm, rfl, rfl, hr⟩, hch⟩ := hrel
    by_cases hlt : k < l1.length
    · obtain rfl := hao1 (by omega)
      have hb1 : b1 < w.heap.size := HL1.out (by omega) b1 rfl
      have hx := (hch.cell (p := ⟨b1, off1 + k, none⟩) hb1 (by simp)).trans (HC1.out k hlt)
      have hand := u8_and7 l1[k]
      generalize l1[k] = c at *
      obtain ⟨n, hn⟩ : ∃ n : Nat, n = c.toNat % 8 := ⟨_, rfl⟩
      have hn8 : n < 8 := by omega
      rw [← hn] at hand
      clear hn
      by_cases hshort : β = true ∨ (l0.length : Int) - m < 1 + n
      · have hshort2 : ((if β = true then [] else List.drop m l0).length : Int) < 1 + n := by
          rcases hshort with rfl | h
          · simp; omega
          · cases β <;> simp <;> omega
        have hbr : β = false → (l0.length : Int) - m < 1 + n := by
          rintro rfl
          rcases hshort with h | h
          · cases h
          · exact h
        have hnum := RNum_short (1 + n) b _ β _ hr hshort2
        clear hr hshort hshort2
        have fin : ∀ w3 : World, Rdr w3 b [] true → Chg [b] wr w3 → PfInv l0 b (.int .i64 (m : Nat)) (.bool true) w3 ∧ Chg [] w w3 := fun w3 k1 k2 =>
          ⟨⟨m, true, hm, rfl, rfl, k1⟩, hch.trans k2 (by intro x hx hlt; simp at hx; omega)⟩
        cases β
        · have hbr := hbr rfl
          go_wp2_with fail
          refine hnum.mono ?_
          rintro e w3 ⟨rfl, hr3, hf3⟩
          go_wp2_with fail
          refine (Bad_any b _ true _ hr3).mono ?_
          rintro e w4 ⟨rfl, rfl⟩
          go_wp2_with fail
          refine (Left_any b _ true _ hr3).mono ?_
          rintro e w4 ⟨rfl, rfl⟩
          go_wp2_with fail
          refine (Done_any b _ true _ hr3).mono ?_
          rintro e w4 ⟨rfl, rfl⟩
          go_wp2_with fail
          refine (RV_short b _ true _ hr3 (by decide)).mono ?_
          rintro e w4 ⟨rfl, hr4, hf4⟩
          have fin4 := fin w4 hr4 (hf3.trans hf4 (fun x hx _ => hx))
          clear fin hr3 hf3 hr4 hf4
          go_wp2_with fail
          go_roundw
          case rel => exact ⟨k + 1, by omega, by go_num, fin4.1, fin4.2⟩
          case measure => simp [intOf]; omega
        · go_wp2_with fail
          refine hnum.mono ?_
          rintro e w3 ⟨rfl, hr3, hf3⟩
          go_wp2_with fail
          refine (Bad_any b _ true _ hr3).mono ?_
          rintro e w4 ⟨rfl, rfl⟩
          go_wp2_with fail
          refine (Left_any b _ true _ hr3).mono ?_
          rintro e w4 ⟨rfl, rfl⟩
          go_wp2_with fail
          refine (Done_any b _ true _ hr3).mono ?_
          rintro e w4 ⟨rfl, rfl⟩
          go_wp2_with fail
          refine (RV_short b _ true _ hr3 (by decide)).mono ?_
          rintro e w4 ⟨rfl, hr4, hf4⟩
          have fin4 := fin w4 hr4 (hf3.trans hf4 (fun x hx _ => hx))
          clear fin hr3 hf3 hr4 hf4
          go_wp2_with fail
          go_roundw
          case rel => exact ⟨k + 1, by omega, by go_num, fin4.1, fin4.2⟩
          case measure => simp [intOf]; omega
      · have hβ : β = false := by cases β; rfl; exact absurd (.inl rfl) hshort
        subst hβ
        have hlong : ¬ (l0.length : Int) - m < 1 + n := fun h => hshort (.inr h)
        clear hshort
        have hr : Rdr wr b (l0.drop m) false := hr
        obtain ⟨D, hD⟩ : ∃ D, D = l0.drop m := ⟨_, rfl⟩
        rw [← hD] at hr
        have hDl : D.length = l0.length - m := by rw [hD]; simp
        have hnum := RNum_long (1 + n) b D false _ hr (by omega) (by omega) (by rw [hDl]; omega)
        rw [show (1 + (n : Int)).toNat = n + 1 by omega] at hnum
        have hDn : D.drop (n + 1) = l0.drop (m + (n + 1)) := by rw [hD, List.drop_drop]
        rw [hDn] at hnum
        obtain ⟨rfl, hb0⟩ : ao0 = some ⟨b0, off0, none⟩ ∧ b0 < w.heap.size := by
          have := hao0 (by omega)
          subst this
          exact ⟨rfl, HL0.out (by omega) b0 rfl⟩
        have HD := hd hD
        have HDl := hd hDl
        clear hD hDl hDn hr
        go_wp2_with fail
        refine hnum.mono ?_
        rintro e w3 ⟨rfl, hr3, hf3⟩
        have hch3 : Chg [] w w3 := hch.trans hf3 (by intro x hx hlt; simp at hx; omega)
        clear hnum hf3
        rw [show rdNum (D.take (n + 1)) = wrap64 (rdB (D.take (n + 1))) from rfl]
        go_wp2_with fail
        go_loopw [12, 13, 72] (fun t _ i wi => ∃ j : Nat, j ≤ n + 1 ∧ i = .int .i64 j ∧ t = .int .i64 (wrap64 (rdB (D.take j))) ∧ wi = w3)
          (fun _ _ i _ => n + 1 - (intOf i).toNat)
        case atStart => exact ⟨0, by omega, rfl, by simp [rdB, wrap64], rfl⟩
        case round =>
          obtain ⟨j, hj, rfl, rfl, rfl⟩ := hrel
          by_cases hjl : j < n + 1
          · have hjD : j < D.length := by rw [HDl.out]; omega
            have hcell := (hch3.cell (p := ⟨b0, off0 + (m + j), none⟩) hb0 (by simp)).trans (HC0.out (m + j) (by omega))
            have hel : l0[m + j]'(by omega) = D[j]'hjD := by
              have := HD.out
              subst this
              simp
            rw [hel] at hcell
            have hS := hd (rdStep D j hjD (by omega))
            generalize rdB (D.take j) = s1 at *
            generalize D[j] = x at *
            clear hel
            go_wp2_with fail
            go_roundw
            case rel => exact ⟨j + 1, by omega, by go_num, by rw [hS.out], trivial⟩
            case measure => simp [intOf]; omega
          · have hjn : j = n + 1 := by omega
            subst hjn
            have hLf : ((l0.drop (m + (n + 1))).length : Int) = l0.length - (m + (1 + n)) := by rw [List.length_drop]; omega
            have hem : (l0.drop (m + (n + 1))).isEmpty = decide ((m : Int) + (1 + n) = l0.length) := by
              rw [Bool.eq_iff_iff, List.isEmpty_iff, List.drop_eq_nil_iff, decide_eq_true_iff]; omega
            have HLF := hd hLf
            have HEM := hd hem
            have fin : PfInv l0 b (.int .i64 ((m : Int) + (1 + n))) (.bool false) _ := ⟨m + (n + 1), false, by omega, by simp; omega, rfl, hr3⟩
            clear hLf hem
            by_cases hend : (m : Int) + (1 + n) = l0.length
            · rw [decide_eq_true hend] at HEM
              go_wp2_with fail
              refine (Bad_any b _ false _ hr3).mono ?_
              rintro e w4 ⟨rfl, rfl⟩
              go_wp2_with fail
              refine (Left_any b _ false _ hr3).mono ?_
              rintro e w4 ⟨rfl, rfl⟩
              rw [HLF.out]
              go_wp2_with fail
              refine (Done_any b _ false _ hr3).mono ?_
              rintro e w4 ⟨rfl, rfl⟩
              rw [HEM.out]
              go_wp2_with fail
              go_roundw
              case rel => exact ⟨k + 1, by omega, by go_num, by rw [decide_eq_false (show ¬ ((l0.length : Int) - m < 1 + n) by omega), ← hend]; exact fin, hch3⟩
              case measure => simp [intOf]; omega
            · rw [decide_eq_false hend] at HEM
              go_wp2_with fail
              refine (Bad_any b _ false _ hr3).mono ?_
              rintro e w4 ⟨rfl, rfl⟩
              go_wp2_with fail
              refine (Left_any b _ false _ hr3).mono ?_
              rintro e w4 ⟨rfl, rfl⟩
              rw [HLF.out]
              go_wp2_with fail
              refine (Done_any b _ false _ hr3).mono ?_
              rintro e w4 ⟨rfl, rfl⟩
              rw [HEM.out]
              go_wp2_with fail
              go_roundw
              case rel => exact ⟨k + 1, by omega, by go_num, by rw [decide_eq_false (show ¬ ((l0.length : Int) - m < 1 + n) by omega)]; exact fin, hch3⟩
              case measure => simp [intOf]; omega
    · have hkn : k = l1.length := by omega
      subst hkn
      go_wp2_with fail
      refine (Fail_any b _ β _ hr).mono ?_
      rintro e w3 ⟨rfl, hr3, hf3⟩
      have hch3 : Chg [] w w3 := hch.trans hf3 (by intro x hx hlt; simp at hx; omega)
      go_wp2_with fail
      refine (Bad_any b _ true _ hr3).mono ?_
      rintro e w4 ⟨rfl, rfl⟩
      go_wp2_with fail
      refine (RNum_short 1 b _ true _ hr3 (by simp)).mono ?_
      rintro e w4 ⟨rfl, hr4, hf4⟩
      have hch4 : Chg [] w w4 := hch3.trans hf4 (by intro x hx hlt; simp at hx; omega)
      go_wp2_with fail
      refine (Done_any b _ true _ hr4).mono ?_
      rintro e w5 ⟨rfl, rfl⟩
      go_wp2_with fail
      go_ret
      exact ⟨rfl, hch4⟩
end Go.Proofs.Yteeanpbdnpmpaaa
