/- Words and walks that Codec rests on: LawCodecBatches. -/
import Derived.Test.YtlicefbgcoddbaaWCodec44
import Derived.Test.YtlicefbgcoddbaaWCodec45
import Derived.Test.YtlicefbgcoddbaaWCodec46
import Derived.Test.YtlicefbgcoddbaaWCodec47
import Derived.Test.YtlicefbgcoddbaaWCodec33
/- CodecBatches: for every input the law returns true. -/
namespace Go.Proofs.Ytlicefbgcoddbaa
open Go.RowKit

set_option maxRecDepth 100000 in
set_option maxHeartbeats 8000000 in
theorem CodecBatches_law (v : Value) (l : List DV) (w : World) (hl : DsS w v l) (hI : ∀ x ∈ l, ID x.1) :
    Calls Try.prog 5 #[v] w fun e w' => e = .returned (.bool true) ∧ Chg [] w w' := by
  obtain ⟨av, cv, rfl, hmx, hav⟩ := Rd.form (by decide) hl.rd
  go_enter Try.func5, Try.ntmps5
  go_wp2_with fail
  refine (fit15_any _).mono ?_
  rintro e w1 ⟨rfl, h1⟩
  have HC1 := hd h1
  have HL := hd (hl.k h1)
  have HI := hd hI
  have HAV : Hd (0 < l.length → ∃ b off, av = some ⟨b, off, none⟩ ∧ b < w1.heap.size) := hd fun hn => by
    obtain ⟨b, off, e, hb⟩ := hav hn
    exact ⟨b, off, e, Nat.lt_of_lt_of_le hb h1.size⟩
  clear h1 hl hI hav
  go_wp2_with (fail)
  go_loopw [4, 13] (fun _ i wr => ∃ k : Nat, k ≤ l.length ∧ i = .int .i64 k ∧ Chg [] w1 wr)
    (fun _ i _ => l.length - (intOf i).toNat)
  case atStart => exact ⟨0, by omega, rfl, Chg.refl _ _⟩
  case round =>
    obtain ⟨j, hj, rfl, hc⟩ := hrel
    by_cases hlt : j < l.length
    · obtain ⟨gb, off, hao, hgb⟩ := HAV.out (by omega)
      subst hao
      have hcells := cellsChg (Rd.cellsAt cDV_len HL.out.rd j hlt) hc hgb
      have hps := HL.out.ps _ (List.getElem_mem hlt)
      have HCE := hd hcells
      have HC := hd hc
      clear hcells hc
      generalize l[j] = x at *
      obtain ⟨d, pv⟩ := x
      simp only at hps
      obtain ⟨ap, cp, rfl, -⟩ := hps.form
      have kA := Blk.new wr #[.int .i64 0, .int .i64 0, .int .i64 0, .int .i64 0, .int .i64 0, .int .i64 0, .int .i64 0, .int .i64 0, .int .i64 0, .int .i64 0, .int .i64 0, .int .i64 0, .int .i64 0, .int .i64 0, .int .i64 0, .int .i64 0, .int .i64 0, .int .i64 0, .int .i64 0, .int .i64 0, .int .i64 0, .int .i64 0, .int .i64 0, .int .i64 0, .int .i64 0, .int .i64 0, .int .i64 0, .int .i64 0, .int .i64 0, .slice none 0 0] 55
      have kB := kA.row (cs' := (cDV (d, .slice ap d.raw.shape.p.length cp)).toArray)
      have hcB : Chg [] wr ((wr.alloc (.cells #[.int .i64 0, .int .i64 0, .int .i64 0, .int .i64 0, .int .i64 0, .int .i64 0, .int .i64 0, .int .i64 0, .int .i64 0, .int .i64 0, .int .i64 0, .int .i64 0, .int .i64 0, .int .i64 0, .int .i64 0, .int .i64 0, .int .i64 0, .int .i64 0, .int .i64 0, .int .i64 0, .int .i64 0, .int .i64 0, .int .i64 0, .int .i64 0, .int .i64 0, .int .i64 0, .int .i64 0, .int .i64 0, .int .i64 0, .slice none 0 0] 55)).setRow wr.heap.size (cDV (d, .slice ap d.raw.shape.p.length cp)).toArray) := Chg.row ((Chg.refl [] wr).alloc _) wr.heap.size _ (fun h => absurd h (Nat.lt_irrefl _))
      go_upto_region 6 with (first
        | (refine wpList_load_at rfl _ _ rfl _ rfl (cDV (d, .slice ap d.raw.shape.p.length cp)) _ HCE.out Try.underlying55 rfl (by kernel_rfl) ?_)
        | (refine wpList_store_row rfl _ _ _ rfl wr.heap.size (cDV (d, .slice ap d.raw.shape.p.length cp)).toArray rfl rfl 55 _ kA (by kernel_rfl) rfl (cDV_all _ _ _ _) ?_))
      generalize (wr.alloc (.cells #[.int .i64 0, .int .i64 0, .int .i64 0, .int .i64 0, .int .i64 0, .int .i64 0, .int .i64 0, .int .i64 0, .int .i64 0, .int .i64 0, .int .i64 0, .int .i64 0, .int .i64 0, .int .i64 0, .int .i64 0, .int .i64 0, .int .i64 0, .int .i64 0, .int .i64 0, .int .i64 0, .int .i64 0, .int .i64 0, .int .i64 0, .int .i64 0, .int .i64 0, .int .i64 0, .int .i64 0, .int .i64 0, .int .i64 0, .slice none 0 0] 55)).setRow wr.heap.size (cDV (d, .slice ap d.raw.shape.p.length cp)).toArray = wB at *
      have q29 : wB.cell? ⟨wr.heap.size, 29, none⟩ = some (.slice ap d.raw.shape.p.length cp) := kB.cell 29
      have HM := hd (HC.out.k' hcB)
      clear kA kB hcB
      by_cases hbig : 12 < (d.raw.shape.p.length : Int)
      · go_wp2_with (fail)
        go_ret
        exact ⟨rfl, HC1.out.k' HM.out⟩
      · go_wp2_with (fail)
        go_roundw
        case rel => exact ⟨j + 1, by omega, by go_num, HM.out⟩
        case measure => simp [intOf]; omega
    · have HC := hd hc
      have hcon := Rights_any wr _ l (HL.out.k hc) HI.out
      clear hc
      go_wp2_with fail
      refine hcon.mono ?_
      rintro e w2 ⟨u, L, rfl, hos, h2, hLL⟩
      have hrt : ∀ o ∈ L.map (·.1), rightO o = true ∧ IO o := fun o ho => by
        rw [hLL] at ho
        obtain ⟨ho1, ho2⟩ := List.mem_filter.mp ho
        refine ⟨ho2, ?_⟩
        obtain ⟨x, hx, rfl⟩ := List.mem_map.mp ho1
        exact orderD_I _ (HI.out x (List.mem_of_mem_take hx))
      have hlen : L.length ≤ 20 := by
        have h1 := congrArg List.length hLL
        rw [List.length_map] at h1
        have h2 := List.length_filter_le rightO ((l.take 20).map (fun x => orderD x.1))
        rw [List.length_map, List.length_take] at h2
        omega
      have hfwd := readB_fwd _ hrt (by rw [List.length_map]; omega)
      have hpl : ∀ x ∈ L, x.1.shape.p.length ≤ 4096 := fun x hx => by have := rightO_p _ (hrt _ (List.mem_map_of_mem hx)).1; omega
      obtain ⟨au, cu, rfl, -⟩ := hos.form
      have HM2 := hd (HC.out.k' h2)
      have HOS := hd hos
      have HPL := hd hpl
      clear hcon hLL hrt hpl h2 hos
      obtain ⟨BB, hBB⟩ : ∃ BB, BB = leBatch (L.map (·.1)) := ⟨_, rfl⟩
      have hbat := fun W (h : Chg [] w2 W) => Batch_any W _ L (HOS.out.k h) (by omega) HPL.out
      have hlbat := fun W (h : Chg [] w2 W) => LBatch_any W _ L (HOS.out.k h) (by omega) HPL.out
      rw [← hBB] at hbat hlbat hfwd
      have HLB := hd hlbat
      clear hBB hlbat
      go_wp2_with fail
      refine (hbat _ (Chg.refl _ _)).mono ?_
      rintro e w3 ⟨ao, c, rfl, ho3, h3⟩
      have HB3 := hd ho3.bs
      have HM3 := hd h3
      clear hbat ho3 h3
      go_wp2_with fail
      refine (ReadBatch_any _ _ BB HB3.out).mono ?_
      rintro e w4 ⟨hout, h4⟩
      rcases hout with ⟨hn, rfl⟩ | ⟨L2, v2, hb2, hL2, rfl, hos2, -⟩
      · rw [hfwd] at hn; cases hn
      rw [hfwd] at hb2
      have heq : L.map (·.1) = L2.map (·.1) := Option.some.inj hb2
      obtain ⟨a2, c2, rfl, -⟩ := hos2.form
      have HM4 := hd (HM3.out.k' h4)
      have HS : Hd (∀ wx, Chg [] w4 wx → (convert 22 9 (.slice ao BB.length c)).run Try.prog wx = .ok (.string (strB BB)) wx) := hd fun wx hx => run_str ((HB3.out.stays h4).stays hx)
      have HLK : Hd (∀ W, Chg [] w4 W → Calls Try.prog 15 #[.slice au L.length cu, .slice a2 L2.length c2] W fun e w' => e = .returned (.bool true) ∧ Chg [] W w') := hd fun W h => Like_any W _ _ L L2 (HOS.out.k ((HM4.out).k' h)) (hos2.k h) heq (by omega)
      clear hb2 heq hos2 h4 hfwd
      go_upto_region 12 with (fail)
      refine anyH_start (n := 15) (L := #[false, false, false, false, false, false, false, false, false, false, false, false, false, false, false]) (by kernel_rfl) (by kernel_rfl) (S := (fun wx => Chg [] w4 wx)) ((Chg.refl _ _).drew) (fun hHeld => ?_)
      generalize w4.drew = w4d at *
      refine anyH_take (i := 0) (d := 33) (L' := #[true, false, false, false, false, false, false, false, false, false, false, false, false, false, false]) (v := ?v2) rfl rfl (by kernel_rfl) (fun _ _ _ h => h) (by rfl) ?hy2 (by assumption) ?rest2
      case hy2 => (intro wx hSw; (try dsimp only at hSw); (skip); go_simp; (try with_reducible rfl))
      simp only [Act.put, List.setIfInBounds_toArray, List.set_cons_zero, List.set_cons_succ]
      refine anyH_take (i := 1) (d := 34) (L' := #[true, true, false, false, false, false, false, false, false, false, false, false, false, false, false]) (v := ?v3) rfl rfl (by kernel_rfl) (fun _ _ _ h => h) (by rfl) ?hy3 (by assumption) ?rest3
      case hy3 => (intro wx hSw; (try dsimp only at hSw); (have t1 := HS.out _ hSw); go_simp; (try with_reducible rfl))
      simp only [Act.put, List.setIfInBounds_toArray, List.set_cons_zero, List.set_cons_succ]
      refine anyH_take (i := 2) (d := 35) (L' := #[true, true, true, false, false, false, false, false, false, false, false, false, false, false, false]) (v := ?v4) rfl rfl (by kernel_rfl) (fun _ _ _ h => h) (by rfl) ?hy4 (by assumption) ?rest4
      case hy4 => (intro wx hSw; (try dsimp only at hSw); (skip); go_simp; (try with_reducible rfl))
      simp only [Act.put, List.setIfInBounds_toArray, List.set_cons_zero, List.set_cons_succ]
      refine anyH_run (i := 3) (L' := #[true, true, true, true, false, false, false, false, false, false, false, false, false, false, false]) rfl (by kernel_rfl) (by rfl) (fun KK hKK => ?_)
      go_simp
      (refine (HLB.out _ (HM4.out.k' hHeld)).mono ?_; rintro e w7 ⟨rfl, hm0⟩; have hm := Chg.k' hHeld hm0; clear hm0; (try go_simp))
      refine hKK.out _ _ (by assumption) (fun hHeld => ?_)
      clear hKK KK
      try simp only [Act.put, List.setIfInBounds_toArray, List.set_cons_zero, List.set_cons_succ]
      refine anyH_run (i := 4) (L' := #[true, true, true, true, true, false, false, false, false, false, false, false, false, false, false]) rfl (by kernel_rfl) (by rfl) (fun KK hKK => ?_)
      go_simp
      (skip)
      refine hKK.out _ _ (by assumption) (fun hHeld => ?_)
      clear hKK KK
      try simp only [Act.put, List.setIfInBounds_toArray, List.set_cons_zero, List.set_cons_succ]
      refine anyH_run (i := 5) (L' := #[true, true, true, true, true, true, false, false, false, false, false, false, false, false, false]) rfl (by kernel_rfl) (by rfl) (fun KK hKK => ?_)
      go_simp
      (skip)
      refine hKK.out _ _ (by assumption) (fun hHeld => ?_)
      clear hKK KK
      try simp only [Act.put, List.setIfInBounds_toArray, List.set_cons_zero, List.set_cons_succ]
      refine anyH_take (i := 6) (d := 39) (L' := #[true, true, true, true, true, true, true, false, false, false, false, false, false, false, false]) (v := ?v8) rfl rfl (by kernel_rfl) (fun _ _ _ h => h) (by rfl) ?hy8 (by assumption) ?rest8
      case hy8 => (intro wx hSw; (try dsimp only at hSw); (skip); go_simp; (try with_reducible rfl))
      simp only [Act.put, List.setIfInBounds_toArray, List.set_cons_zero, List.set_cons_succ]
      refine anyH_take (i := 7) (d := 40) (L' := #[true, true, true, true, true, true, true, true, false, false, false, false, false, false, false]) (v := ?v9) rfl rfl (by kernel_rfl) (fun _ _ _ h => h) (by rfl) ?hy9 (by assumption) ?rest9
      case hy9 => (intro wx hSw; (try dsimp only at hSw); (skip); go_simp; (try with_reducible rfl))
      simp only [Act.put, List.setIfInBounds_toArray, List.set_cons_zero, List.set_cons_succ]
      refine anyH_run (i := 8) (L' := #[true, true, true, true, true, true, true, true, true, false, false, false, false, false, false]) rfl (by kernel_rfl) (by rfl) (fun KK hKK => ?_)
      go_simp
      (skip)
      refine hKK.out _ _ (by assumption) (fun hHeld => ?_)
      clear hKK KK
      try simp only [Act.put, List.setIfInBounds_toArray, List.set_cons_zero, List.set_cons_succ]
      refine anyH_run (i := 9) (L' := #[true, true, true, true, true, true, true, true, true, true, false, false, false, false, false]) rfl (by kernel_rfl) (by rfl) (fun KK hKK => ?_)
      go_simp
      (skip)
      refine hKK.out _ _ (by assumption) (fun hHeld => ?_)
      clear hKK KK
      try simp only [Act.put, List.setIfInBounds_toArray, List.set_cons_zero, List.set_cons_succ]
      refine anyH_take (i := 10) (d := 43) (L' := #[true, true, true, true, true, true, true, true, true, true, true, false, false, false, false]) (v := ?v12) rfl rfl (by kernel_rfl) (fun _ _ _ h => h) (by rfl) ?hy12 (by assumption) ?rest12
      case hy12 => (intro wx hSw; (try dsimp only at hSw); (skip); go_simp; (try with_reducible rfl))
      simp only [Act.put, List.setIfInBounds_toArray, List.set_cons_zero, List.set_cons_succ]
      refine anyH_take (i := 11) (d := 44) (L' := #[true, true, true, true, true, true, true, true, true, true, true, true, false, false, false]) (v := ?v13) rfl rfl (by kernel_rfl) (fun _ _ _ h => h) (by rfl) ?hy13 (by assumption) ?rest13
      case hy13 => (intro wx hSw; (try dsimp only at hSw); (skip); go_simp; (try with_reducible rfl))
      simp only [Act.put, List.setIfInBounds_toArray, List.set_cons_zero, List.set_cons_succ]
      refine anyH_run (i := 12) (L' := #[true, true, true, true, true, true, true, true, true, true, true, true, true, false, false]) rfl (by kernel_rfl) (by rfl) (fun KK hKK => ?_)
      go_simp
      (refine (HLK.out _ hHeld).mono ?_; rintro e w8 ⟨rfl, hm0⟩; have hm := Chg.k' hHeld hm0; clear hm0; (try go_simp))
      refine hKK.out _ _ (by assumption) (fun hHeld => ?_)
      clear hKK KK
      try simp only [Act.put, List.setIfInBounds_toArray, List.set_cons_zero, List.set_cons_succ]
      refine anyH_run (i := 13) (L' := #[true, true, true, true, true, true, true, true, true, true, true, true, true, true, false]) rfl (by kernel_rfl) (by rfl) (fun KK hKK => ?_)
      go_simp
      (skip)
      refine hKK.out _ _ (by assumption) (fun hHeld => ?_)
      clear hKK KK
      try simp only [Act.put, List.setIfInBounds_toArray, List.set_cons_zero, List.set_cons_succ]
      refine anyH_run (i := 14) (L' := #[true, true, true, true, true, true, true, true, true, true, true, true, true, true, true]) rfl (by kernel_rfl) (by rfl) (fun KK hKK => ?_)
      go_simp
      (skip)
      refine hKK.out _ _ (by assumption) (fun hHeld => ?_)
      clear hKK KK
      try simp only [Act.put, List.setIfInBounds_toArray, List.set_cons_zero, List.set_cons_succ]
      refine wpAnyH_done (by kernel_rfl) ?_ _
      skip
      have HF := hd (((HC1.out.k' HM2.out).k' HM4.out).k' hHeld)
      clear hHeld hm
      go_wp2_with (fail)
      go_ret
      exact ⟨rfl, HF.out⟩
end Go.Proofs.Ytlicefbgcoddbaa
