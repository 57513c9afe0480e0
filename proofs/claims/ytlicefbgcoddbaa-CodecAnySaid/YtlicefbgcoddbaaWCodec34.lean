/- Words and walks that Codec rests on: LawCodecAny. -/
import Derived.Test.YtlicefbgcoddbaaWCodec29
import Derived.Test.YtlicefbgcoddbaaWCodec33
import Derived.Test.YtlicefbgcoddbaaWCodec1
/- CodecAny: for every input the law returns true. -/
namespace Go.Proofs.Ytlicefbgcoddbaa
open Go.RowKit

set_option maxRecDepth 100000 in
set_option maxHeartbeats 4000000 in
theorem CodecAny_law (v : Value) (l : List UInt8) (w : World) (hv : Bs w v l) (_hl : l.length ≤ 140737488351232) :
    Calls Try.prog 3 #[v] w fun e w' => e = .returned (.bool true) ∧ Chg [] w w' := by
  obtain ⟨ao, cap, b0, off0, rfl, -⟩ := hv.open
  go_enter Try.func3, Try.ntmps3
  go_wp2_with fail
  refine (fit15_any _).mono ?_
  rintro e w1 ⟨rfl, h1⟩
  by_cases hbig : 4000 < (l.length : Int)
  · go_wp2_with fail
    go_ret
    exact ⟨rfl, h1⟩
  have hv1 := hv.stays h1
  have HV := hd hv
  clear hv
  go_wp2_with fail
  refine (ReadBatch_any _ _ l hv1).mono ?_
  rintro e w2 ⟨hout, h2⟩
  have H2 := hd (h1.k' h2)
  rcases hout with ⟨hn, rfl⟩ | ⟨L, v, hb, hL64, rfl, hos, hpo⟩
  · clear h2
    go_wp2_with fail
    go_ret
    exact ⟨rfl, H2.out⟩
  clear h1 h2 hv1 hpo
  obtain ⟨g1, g2, g3⟩ := readB_back _ _ hb
  clear hb
  have HOS := hd hos
  obtain ⟨av, cv, rfl, hav⟩ := hos.form
  have HAV := hd hav
  have HG1 := hd g1
  have HG3 : Hd (∀ x ∈ L, rightO x.1 = true ∧ IO x.1) := hd fun x hx => g3 _ (List.mem_map_of_mem hx)
  clear g1 g2 g3 hav hos
  go_wp2_with fail
  go_loopw [6, 28] (fun _ i wr => ∃ k : Nat, k ≤ L.length ∧ i = .int .i64 k ∧ Chg [] w2 wr)
    (fun _ i _ => L.length - (intOf i).toNat)
  case atStart => exact ⟨0, by omega, rfl, Chg.refl _ _⟩
  case round =>
    obtain ⟨j, hj, rfl, hc⟩ := hrel
    by_cases hlt : j < L.length
    · obtain ⟨gb, off, hao, hgb⟩ := HAV.out (by omega)
      subst hao
      have C := fun m hm => (hc.cell (p := ⟨gb, off + j * 15 + m, none⟩) hgb (by simp)).trans (HOS.out.at j hlt m hm)
      have q0 := C 0 (by decide)
      have q1 := C 1 (by decide)
      have q2 := C 2 (by decide)
      have q3 := C 3 (by decide)
      have q4 := C 4 (by decide)
      have q5 := C 5 (by decide)
      have q6 := C 6 (by decide)
      have q7 := C 7 (by decide)
      have q8 := C 8 (by decide)
      have q9 := C 9 (by decide)
      have q10 := C 10 (by decide)
      have q11 := C 11 (by decide)
      have q12 := C 12 (by decide)
      have q13 := C 13 (by decide)
      have q14 := C 14 (by decide)
      have hps := HOS.out.ps _ (List.getElem_mem hlt)
      obtain ⟨hri, hio⟩ := HG3.out _ (List.getElem_mem hlt)
      clear C
      generalize L[j] = x at *
      obtain ⟨⟨k, i, a, b1, ⟨px, py⟩, ⟨vx, vy⟩, an, sp, de, ln, ⟨sk, sr, p⟩⟩, pv⟩ := x
      rw [Nat.add_zero] at q0
      simp only [cOV, cO, List.getElem_cons_zero, List.getElem_cons_succ] at q0 q1 q2 q3 q4 q5 q6 q7 q8 q9 q10 q11 q12 q13 q14
      simp only at hps hri hio
      obtain ⟨ap, cp, rfl, -⟩ := hps.form
      have hcc := hc.k' ((Chg.refl [] wr).alloc (.cells #[.int .i64 k, .int .i64 i, .int .i64 a, .int .i64 b1, .int .i64 px, .int .i64 py, .int .i64 vx, .int .i64 vy, .int .i64 an, .int .i64 sp, .int .i64 de, .int .i64 ln, .int .i64 sk, .int .i64 sr, .slice ap p.length cp] 35))
      have hcon := fun W => ORight_any W ⟨k, i, a, b1, (px, py), (vx, vy), an, sp, de, ln, ⟨sk, sr, p⟩⟩ (.slice ap p.length cp)
      have hcon := hcon _ (hps.k hcc) hio
      rw [hri] at hcon
      have HCC := hd hcc
      clear hri hio hps hcc hc
      unfold vO at hcon
      simp only at hcon
      go_wp2_with (go_at_call 8; refine hcon.mono ?_; rintro e w9 ⟨rfl, h9⟩)
      go_roundw
      case rel => exact ⟨j + 1, by omega, by go_num, HCC.out.k' h9⟩
      case measure => simp [intOf]; omega
    · have hjn : j = L.length := by omega
      subst hjn
      have hB := Batch_any wr.drew _ L (HOS.out.k (hc.k' (Chg.refl [] wr).drew)) (by omega) (fun x hx => by have := rightO_p _ (HG3.out x hx).1; omega)
      rw [← HG1.out] at hB
      have hS : ∀ wx, Chg [] wr wx → (convert 22 9 (.slice ao l.length cap)).run Try.prog wx = .ok (.string (strB l)) wx := fun wx hx => run_str (((HV.out.stays H2.out).stays hc).stays hx)
      have HS := hd hS
      have HC := hd hc
      clear hS hc hlt
      go_upto_region 14 with (fail)
      have Q0 : Hd (decide ((L.length : Int) ≤ 64) = true) := hd (by simp; omega)
      refine anyH_start (n := 12) (L := #[false, false, false, false, false, false, false, false, false, false, false, false]) (by kernel_rfl) (by kernel_rfl) (S := (fun wx => Chg [] wr wx)) ((Chg.refl _ _).drew) (fun hHeld => ?_)
      refine anyH_take (i := 0) (d := 36) (L' := #[true, false, false, false, false, false, false, false, false, false, false, false]) (v := ?v2) rfl rfl (by kernel_rfl) (fun _ _ _ h => h) (by rfl) ?hy2 (by assumption) ?rest2
      case hy2 => (intro wx hSw; (try dsimp only at hSw); (have t0 := Q0.out); go_simp; (try with_reducible rfl))
      simp only [Act.put, List.setIfInBounds_toArray, List.set_cons_zero, List.set_cons_succ]
      refine anyH_take (i := 1) (d := 37) (L' := #[true, true, false, false, false, false, false, false, false, false, false, false]) (v := ?v3) rfl rfl (by kernel_rfl) (fun _ _ _ h => h) (by rfl) ?hy3 (by assumption) ?rest3
      case hy3 => (intro wx hSw; (try dsimp only at hSw); (have t0 := Q0.out); go_simp; (try with_reducible rfl))
      simp only [Act.put, List.setIfInBounds_toArray, List.set_cons_zero, List.set_cons_succ]
      refine anyH_take (i := 2) (d := 38) (L' := #[true, true, true, false, false, false, false, false, false, false, false, false]) (v := ?v4) rfl rfl (by kernel_rfl) (fun _ _ _ h => h) (by rfl) ?hy4 (by assumption) ?rest4
      case hy4 => (intro wx hSw; (try dsimp only at hSw); (have t0 := Q0.out); go_simp; (try with_reducible rfl))
      simp only [Act.put, List.setIfInBounds_toArray, List.set_cons_zero, List.set_cons_succ]
      refine anyH_take (i := 3) (d := 39) (L' := #[true, true, true, true, false, false, false, false, false, false, false, false]) (v := ?v5) rfl rfl (by kernel_rfl) (fun _ _ _ h => h) (by rfl) ?hy5 (by assumption) ?rest5
      case hy5 => (intro wx hSw; (try dsimp only at hSw); (have t0 := Q0.out); go_simp; (try with_reducible rfl))
      simp only [Act.put, List.setIfInBounds_toArray, List.set_cons_zero, List.set_cons_succ]
      refine anyH_take (i := 4) (d := 40) (L' := #[true, true, true, true, true, false, false, false, false, false, false, false]) (v := ?v6) rfl rfl (by kernel_rfl) (fun _ _ _ h => h) (by rfl) ?hy6 (by assumption) ?rest6
      case hy6 => (intro wx hSw; (try dsimp only at hSw); (have t0 := Q0.out); go_simp; (try with_reducible rfl))
      simp only [Act.put, List.setIfInBounds_toArray, List.set_cons_zero, List.set_cons_succ]
      refine anyH_take (i := 7) (d := 43) (L' := #[true, true, true, true, true, false, false, true, false, false, false, false]) (v := ?v7) rfl rfl (by kernel_rfl) (fun _ _ _ h => h) (by rfl) ?hy7 (by assumption) ?rest7
      case hy7 => (intro wx hSw; (try dsimp only at hSw); (have t0 := Q0.out); go_simp; (try with_reducible rfl))
      simp only [Act.put, List.setIfInBounds_toArray, List.set_cons_zero, List.set_cons_succ]
      refine anyH_take (i := 8) (d := 44) (L' := #[true, true, true, true, true, false, false, true, true, false, false, false]) (v := ?v8) rfl rfl (by kernel_rfl) (fun _ _ _ h => h) (by rfl) ?hy8 (by assumption) ?rest8
      case hy8 => (intro wx hSw; (try dsimp only at hSw); (have t1 := HS.out _ hSw); go_simp; (try with_reducible rfl))
      simp only [Act.put, List.setIfInBounds_toArray, List.set_cons_zero, List.set_cons_succ]
      refine anyH_run (i := 5) (L' := #[true, true, true, true, true, true, false, true, true, false, false, false]) rfl (by kernel_rfl) (by rfl) (fun KK hKK => ?_)
      go_simp
      (refine hB.mono ?_; rintro e w7 ⟨ao7, c7, rfl, ho7, hm0⟩; have hm := (Chg.refl [] wr).drew.k' hm0; have s7 := run_str ho7.bs; clear hm0; (try go_simp))
      refine hKK.out _ _ (by assumption) (fun hHeld => ?_)
      clear hKK KK
      try simp only [Act.put, List.setIfInBounds_toArray, List.set_cons_zero, List.set_cons_succ]
      refine anyH_run (i := 6) (L' := #[true, true, true, true, true, true, true, true, true, false, false, false]) rfl (by kernel_rfl) (by rfl) (fun KK hKK => ?_)
      go_simp
      (skip)
      refine hKK.out _ _ (by assumption) (fun hHeld => ?_)
      clear hKK KK
      try simp only [Act.put, List.setIfInBounds_toArray, List.set_cons_zero, List.set_cons_succ]
      refine anyH_run (i := 9) (L' := #[true, true, true, true, true, true, true, true, true, true, false, false]) rfl (by kernel_rfl) (by rfl) (fun KK hKK => ?_)
      go_simp
      (skip)
      refine hKK.out _ _ (by assumption) (fun hHeld => ?_)
      clear hKK KK
      try simp only [Act.put, List.setIfInBounds_toArray, List.set_cons_zero, List.set_cons_succ]
      refine anyH_run (i := 10) (L' := #[true, true, true, true, true, true, true, true, true, true, true, false]) rfl (by kernel_rfl) (by rfl) (fun KK hKK => ?_)
      go_simp
      (skip)
      refine hKK.out _ _ (by assumption) (fun hHeld => ?_)
      clear hKK KK
      try simp only [Act.put, List.setIfInBounds_toArray, List.set_cons_zero, List.set_cons_succ]
      refine anyH_run (i := 11) (L' := #[true, true, true, true, true, true, true, true, true, true, true, true]) rfl (by kernel_rfl) (by rfl) (fun KK hKK => ?_)
      go_simp
      (skip)
      refine hKK.out _ _ (by assumption) (fun hHeld => ?_)
      clear hKK KK
      try simp only [Act.put, List.setIfInBounds_toArray, List.set_cons_zero, List.set_cons_succ]
      refine wpAnyH_done (by kernel_rfl) ?_ _
      skip
      go_wp2_with (fail)
      go_ret
      exact ⟨rfl, (H2.out.k' HC.out).k' hHeld⟩
end Go.Proofs.Ytlicefbgcoddbaa
