/- names.Segment. -/
import Derived.Test.YtdmokfplkhmijaaDigits
import Derived.Test.YtdmokfplkhmijaaDiskA
namespace Go.Proofs.Ytdmokfplkhmijaa
open Go.RowKit

def nibB (n j : Nat) : UInt8 := hexB (n / 2 ^ (60 - 4 * j) % 16)
def hexS (c : UInt8) (n j : Nat) : List UInt8 := c :: (List.range j).map (nibB n)
def segB (n : Nat) : List UInt8 := hexS 106 n 16
theorem hexS_length (c : UInt8) (n j : Nat) : (hexS c n j).length = j + 1 := by simp [hexS]
theorem hexS_succ (c : UInt8) (n j : Nat) : hexS c n (j + 1) = hexS c n j ++ [nibB n j] := by simp [hexS, List.range_succ]
theorem digV_get : ∀ k, k < 16 → digV[k]? = some (.int .u8 (n8 (hexB k))) := by
  intro k hk
  match k, hk with
  | 0, _ => rfl
  | 1, _ => rfl
  | 2, _ => rfl
  | 3, _ => rfl
  | 4, _ => rfl
  | 5, _ => rfl
  | 6, _ => rfl
  | 7, _ => rfl
  | 8, _ => rfl
  | 9, _ => rfl
  | 10, _ => rfl
  | 11, _ => rfl
  | 12, _ => rfl
  | 13, _ => rfl
  | 14, _ => rfl
  | 15, _ => rfl
  | k + 16, h => exact absurd h (by omega)
theorem signD_hex (k : Nat) (hk : k < 16) : signD (hexB k) = true := by
  match k, hk with
  | 0, _ => rfl
  | 1, _ => rfl
  | 2, _ => rfl
  | 3, _ => rfl
  | 4, _ => rfl
  | 5, _ => rfl
  | 6, _ => rfl
  | 7, _ => rfl
  | 8, _ => rfl
  | 9, _ => rfl
  | 10, _ => rfl
  | 11, _ => rfl
  | 12, _ => rfl
  | 13, _ => rfl
  | 14, _ => rfl
  | 15, _ => rfl
  | k + 16, h => exact absurd h (by omega)
theorem nameD_seg (n : Nat) : nameD (segB n) = true := by
  unfold nameD
  have h1 : (segB n).all signD = true := by
    rw [List.all_eq_true]
    intro x hx
    rcases List.mem_cons.1 hx with rfl | hx
    · rfl
    · obtain ⟨j, _, rfl⟩ := List.mem_map.1 hx
      exact signD_hex _ (Nat.mod_lt _ (by decide))
  rw [h1]
  simp [segB, hexS]
theorem and15 (x : Int) : bits .and .i64 x 15 = x % 16 := and_mask x 4 (by decide)

theorem idx_dig (W : World) : ∀ k : Nat, k < 16 → (Instr.index 132 (.agg digV) (.int .i64 (k : Int))).run Try.prog W = .ok (.int .u8 (n8 (hexB k))) W
  | 0, _ => by kernel_rfl
  | 1, _ => by kernel_rfl
  | 2, _ => by kernel_rfl
  | 3, _ => by kernel_rfl
  | 4, _ => by kernel_rfl
  | 5, _ => by kernel_rfl
  | 6, _ => by kernel_rfl
  | 7, _ => by kernel_rfl
  | 8, _ => by kernel_rfl
  | 9, _ => by kernel_rfl
  | 10, _ => by kernel_rfl
  | 11, _ => by kernel_rfl
  | 12, _ => by kernel_rfl
  | 13, _ => by kernel_rfl
  | 14, _ => by kernel_rfl
  | 15, _ => by kernel_rfl
  | k + 16, h => absurd h (by omega)

set_option maxHeartbeats 1000000 in
theorem nname_any (w : World) (c : UInt8) (n : Nat) (_hn : n ≤ 4611686018427387904) : Calls Try.prog 50 #[.int .u8 (n8 c), .int .i64 (n : Int)] w fun e w' => e = .returned (.string (strB (hexS c n 16))) ∧ Chg [] w w' := by
  have hone := OwB.one w w.heap.size c (n8 c) rfl (Nat.le_refl _)
  go_enter Try.func50, Try.ntmps50
  go_wp2_with fail
  go_loopw [5, 6] (fun t5 t6 wr => ∃ (j : Nat) (ao : Option Addr) (cp : Nat), j ≤ 16 ∧ t6 = .int .i64 (60 - 4 * (j : Int)) ∧ t5 = .slice ao (j + 1) cp ∧ OwB wr w.heap.size (.slice ao (j + 1) cp) (hexS c n j) ∧ Chg [] w wr)
    (fun _ t6 _ => (intOf t6 + 4).toNat)
  case atStart => exact ⟨0, _, _, by omega, rfl, rfl, hone, (Chg.refl _ _).alloc _⟩
  case round =>
    obtain ⟨j, ao, cp, hj, rfl, rfl, hb, hch⟩ := hrel
    by_cases hlt : j < 16
    · have h60 : 0 ≤ 60 - 4 * (j : Int) := by omega
      go_upto_region 5 with (fail)
      obtain ⟨k, hk⟩ : ∃ k, k = n / 2 ^ (60 - 4 * j) % 16 := ⟨_, rfl⟩
      have hk16 : k < 16 := by rw [hk]; exact Nat.mod_lt _ (by decide)
      have hs := hexS_succ c n j
      have hnb : nibB n j = hexB k := by unfold nibB; rw [hk]
      rw [hnb] at hs
      have hX : (n : Int) / 2 ^ (60 - 4 * (j : Int)).toNat % 16 = (k : Int) := by
        rw [hk, show (60 - 4 * (j : Int)).toNat = 60 - 4 * j by omega]
        simp
      have hix := fun W => idx_dig W k hk16
      have HB := hd hb
      have HCH := hd hch
      have HS := hd hs
      have HH := hd (hexS_length c n j)
      clear hb hch hs hnb hk
      refine anyH_start (n := 10) (L := #[false, false, false, false, false, false, false, false, false, false]) (by kernel_rfl) (by kernel_rfl) (S := (fun wx => True)) trivial (fun hHeld => ?_)
      refine anyH_take (i := 0) (d := 13) (L' := #[true, false, false, false, false, false, false, false, false, false]) (v := ?v2) rfl rfl (by kernel_rfl) (fun _ _ _ h => h) (by rfl) ?hy2 (by assumption) ?rest2
      case hy2 => (intro wx hSw; (try dsimp only at hSw); (skip); go_simp; (try with_reducible rfl))
      simp only [Act.put, List.setIfInBounds_toArray, List.set_cons_zero, List.set_cons_succ]
      refine anyH_take (i := 2) (d := 15) (L' := #[true, false, true, false, false, false, false, false, false, false]) (v := ?v3) rfl rfl (by kernel_rfl) (fun _ _ _ h => h) (by rfl) ?hy3 (by assumption) ?rest3
      case hy3 => (intro wx hSw; (try dsimp only at hSw); (skip); go_simp; (try with_reducible rfl))
      simp only [Act.put, List.setIfInBounds_toArray, List.set_cons_zero, List.set_cons_succ]
      refine anyH_take (i := 3) (d := 16) (L' := #[true, false, true, true, false, false, false, false, false, false]) (v := ?v4) rfl rfl (by kernel_rfl) (fun _ _ _ h => h) (by rfl) ?hy4 (by assumption) ?rest4
      case hy4 => (intro wx hSw; (try dsimp only at hSw); (skip); go_simp; (try with_reducible rfl))
      simp only [Act.put, List.setIfInBounds_toArray, List.set_cons_zero, List.set_cons_succ]
      refine anyH_take (i := 4) (d := 17) (L' := #[true, false, true, true, true, false, false, false, false, false]) (v := ?v5) rfl rfl (by kernel_rfl) (fun _ _ _ h => h) (by rfl) ?hy5 (by assumption) ?rest5
      case hy5 => (intro wx hSw; (try dsimp only at hSw); (skip); go_simp; (try with_reducible rfl))
      simp only [Act.put, List.setIfInBounds_toArray, List.set_cons_zero, List.set_cons_succ]
      refine anyH_take (i := 5) (d := 18) (L' := #[true, false, true, true, true, true, false, false, false, false]) (v := ?v6) rfl rfl (by kernel_rfl) (fun _ _ _ h => h) (by rfl) ?hy6 (by assumption) ?rest6
      case hy6 => (intro wx hSw; (try dsimp only at hSw); (skip); go_simp; (try with_reducible rfl))
      simp only [Act.put, List.setIfInBounds_toArray, List.set_cons_zero, List.set_cons_succ]
      refine anyH_run (i := 1) (L' := #[true, true, true, true, true, true, false, false, false, false]) rfl (by kernel_rfl) (by rfl) (fun KK hKK => ?_)
      go_simp
      (refine (digits_any _).mono ?_; rintro e w2 ⟨rfl, hc2⟩; have hb2 := HB.out.k ((Chg.refl [] wr).drew.k hc2); have hch2 := HCH.out.k ((Chg.refl [] wr).drew.k hc2); clear hc2; (try go_simp))
      refine hKK.out _ _ (by assumption) (fun hHeld => ?_)
      clear hKK KK
      try simp only [Act.put, List.setIfInBounds_toArray, List.set_cons_zero, List.set_cons_succ]
      refine anyH_run (i := 6) (L' := #[true, true, true, true, true, true, true, false, false, false]) rfl (by kernel_rfl) (by rfl) (fun KK hKK => ?_)
      go_simp
      (rw [and15, hX, hix]; go_simp)
      refine hKK.out _ _ (by assumption) (fun hHeld => ?_)
      clear hKK KK
      try simp only [Act.put, List.setIfInBounds_toArray, List.set_cons_zero, List.set_cons_succ]
      refine anyH_run (i := 7) (L' := #[true, true, true, true, true, true, true, true, false, false]) rfl (by kernel_rfl) (by rfl) (fun KK hKK => ?_)
      go_simp
      (have hone3 := OwB.one w2 w.heap.size (hexB k) _ rfl hch2.size)
      refine hKK.out _ _ (by assumption) (fun hHeld => ?_)
      clear hKK KK
      try simp only [Act.put, List.setIfInBounds_toArray, List.set_cons_zero, List.set_cons_succ]
      refine anyH_run (i := 8) (L' := #[true, true, true, true, true, true, true, true, true, false]) rfl (by kernel_rfl) (by rfl) (fun KK hKK => ?_)
      (refine wp_appB _ _ rfl w.heap.size _ _ rfl (hb2.alloc _) _ _ rfl hone3.bs (by rw [HH.out]; simp; omega) (by simp; have := hch2.size; omega) ?_; intro ao3 c3 w3 hr3 hg3 hm3; have hch3 := (hch2.alloc _).app (hb2.alloc _) hg3 (Nat.le_refl _); rw [← HS.out, HH.out] at hr3; rw [HH.out]; have HR3 := hd hr3; have HC3 := hd hch3; clear hr3 hch3 hg3 hm3 hone3 hb2 hch2)
      refine hKK.out _ _ (by assumption) (fun hHeld => ?_)
      clear hKK KK
      try simp only [Act.put, List.setIfInBounds_toArray, List.set_cons_zero, List.set_cons_succ]
      refine anyH_run (i := 9) (L' := #[true, true, true, true, true, true, true, true, true, true]) rfl (by kernel_rfl) (by rfl) (fun KK hKK => ?_)
      go_simp
      (skip)
      refine hKK.out _ _ (by assumption) (fun hHeld => ?_)
      clear hKK KK
      try simp only [Act.put, List.setIfInBounds_toArray, List.set_cons_zero, List.set_cons_succ]
      refine wpAnyH_done (by kernel_rfl) ?_ _
      go_wp2_with fail
      go_roundw
      case rel => exact ⟨j + 1, ao3, c3, by omega, by go_num, rfl, HR3.out, HC3.out⟩
      case measure => simp [intOf]; omega
    · obtain rfl : j = 16 := by omega
      go_upto_region 6 with (fail)
      have hbs := hb.bs
      clear hb
      go_wp2_with (refine wpStr rfl _ rfl _ _ rfl hbs ?_)
      go_ret
      exact ⟨rfl, hch⟩
theorem Segment_any (w : World) (n : Nat) (hn : n ≤ 4611686018427387904) : Calls Try.prog 18 #[.int .i64 (n : Int)] w fun e w' => e = .returned (.string (strB (segB n))) ∧ Chg [] w w' := by
  go_enter Try.func18, Try.ntmps18
  go_wp2_with fail
  refine (nname_any w 106 n hn).mono ?_
  rintro e w1 ⟨rfl, h1⟩
  go_wp2_with fail
  go_ret
  exact ⟨rfl, h1⟩
end Go.Proofs.Ytdmokfplkhmijaa
