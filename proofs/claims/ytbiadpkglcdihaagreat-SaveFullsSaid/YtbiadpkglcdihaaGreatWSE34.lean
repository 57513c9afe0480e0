/- Words and walks that SE rests on: LawSaveFulls. -/
import Derived.Test.YtbiadpkglcdihaaGreatWSE31
import Derived.Test.YtbiadpkglcdihaaGreatWSE33
/- SaveFulls: for every input the law returns true. -/
namespace Go.Proofs.YtbiadpkglcdihaaGreat
open Go.RowKit

theorem DkN.newest {w0 w : World} {b : Nat} {d : Dsk} (h : DkN w0 w b d) (ao : Option Addr) (cap : Nat) (ks : List Nat) (hlen : ks.length ≤ 1000) (hv : Fs w (.slice ao ks.length cap) (ks.map Int.ofNat)) (r : Int) (ok : Bool) (X : Wld) (d' : Dsk) (hN : NewIs d (ks.mergeSort (fun x y => decide (x ≤ y))).reverse r ok X d') :
    Calls Tryz.prog 27 #[.pointer (some ⟨b, 0, none⟩), .slice ao ks.length cap] w fun e w' => ∃ bv jv kv L, e = .returned (.tuple #[vW X bv jv kv, .bool ok, .int .i64 r]) ∧ WlP w' bv jv kv L X ∧ Apart [b] bv jv kv L X ∧ DkN w0 w' b d' ∧ Chg [b] w w' := by
  obtain ⟨fp, h1, h2, h3⟩ := h
  have hb : b ∈ fp := by obtain ⟨_, _, _, _, _, hh⟩ := h1; exact hh.fpb
  exact (Newest_any h1 ao cap ks hlen hv r ok X d' hN).mono fun e w' ⟨bv, jv, kv, L, he, hp, ha, hd, hc⟩ => ⟨bv, jv, kv, L, he, hp, ha, .step h2 h3 (.same hd (hc.mono (fun x hx _ => by simp at hx; subst hx; exact hb))), hc⟩
theorem chk1_GW {X : Wld} (hG : GW X) (hC : X.contacts = []) {n : Nat} (hT : X.tick = (n : Int)) (hn : n < 128) (hL : (leW X).length ≤ 270000) {room : Int} {L : List (Nat × List UInt8 × Nat)} {d : Dsk} {i : Nat} (h : CkN room L d) (hm : (n, frameB X.tick (leW X), i) ∈ L) : LoadIs d n 0 X := by
  obtain ⟨h1, h2⟩ := h.bytes hm
  refine .inr (.inr ⟨h2, ?_, rfl, hG, hC, hT⟩)
  rw [h1, hT]
  exact oneB_frame _ _ (by omega) (by omega) (by omega)
set_option maxRecDepth 100000 in
set_option maxHeartbeats 8000000 in
theorem SaveFulls_law (v : Value) (l : List DV) (rm : UInt16) (w : World) (hl : DsS w v l) (hI : ∀ x ∈ l, ID x.1) :
    Calls Tryz.prog 8 #[v, .int .u16 (n16 rm)] w fun e w' => e = .returned (.bool true) ∧ Chg [] w w' := by
  obtain ⟨P, hP⟩ : ∃ P : Ending → World → Prop, P = fun e w' => e = .returned (.bool true) ∧ Chg [] w w' := ⟨_, rfl⟩
  rw [← hP]
  have HP := hd hP
  clear hP
  obtain ⟨z, hz, hz0, hz1⟩ : ∃ z : Int, n16 rm = z ∧ 0 ≤ z ∧ z < 65536 := ⟨_, rfl, by unfold n16; omega, by have := rm.toNat_lt; unfold n16; omega⟩
  rw [hz]
  have hwz : wrap64 z = z := IntWalk.wrap64_in _ (by omega)
  obtain ⟨m, hm, hm2⟩ : ∃ m : Nat, z.tmod 2000 = (m : Int) ∧ m < 2000 := ⟨(z % 2000).toNat, by rw [Int.tmod_eq_emod_of_nonneg hz0]; omega, by omega⟩
  have HM2 := hd hm2
  clear hz hz0 hz1 hm2
  obtain ⟨av, cv, rfl, -, -⟩ := Rd.form (by decide) hl.rd
  have hAtA := fun W (hW : Chg [] w W) => At_any W (.slice none 0 0) [] 1 ⟨by decide, by decide⟩ (DsS.nil W) (by simp)
  have hAtB := fun W (hW : Chg [] w W) => At_any W _ l 2 ⟨by decide, by decide⟩ (hl.k hW) hI
  rw [show ([] : List DV).map (·.1) = [] from rfl] at hAtA
  obtain ⟨hGA, hCA⟩ := atW_GW [] (by simp) 1
  obtain ⟨hGB, hCB⟩ := atW_GW (l.map (·.1)) (fun x hx => by obtain ⟨y, hy, rfl⟩ := List.mem_map.1 hx; exact hI y hy) 2
  have hTA : (atW [] 1).tick = ((1 : Nat) : Int) := rfl
  have hTB : (atW (l.map (·.1)) 2).tick = ((2 : Nat) : Int) := rfl
  generalize atW [] 1 = XA at *
  generalize atW (l.map (·.1)) 2 = XB at *
  have HATA := hd hAtA
  have HATB := hd hAtB
  have HGA := hd hGA
  have HGB := hd hGB
  have HCA := hd hCA
  have HCB := hd hCB
  have HTA := hd hTA
  have HTB := hd hTB
  clear hAtA hAtB hGA hGB hCA hCB hTA hTB hl hI
  go_enter Tryz.func8, Tryz.ntmps8
  go_upto_region 3 with (go_at_call 9; refine (fit20_any _).mono ?_; rintro e w1 ⟨rfl, h1⟩)
  go_upto_region 4 with (first
    | (go_at_call 10; (with_reducible refine (HATA.out _ h1).mono ?_); rintro e w2 ⟨bv, jv, kv, L, rfl, hA2, -, h2⟩; rw [show vW XA bv jv kv = .agg (wC XA bv jv kv) from rfl]; have hallA := wC_all hA2)
    | (go_at_call 10; (with_reducible refine (HATB.out _ (h1.k h2)).mono ?_); rintro e w3 ⟨bu, ju, ku, M, rfl, hB3, -, h3⟩; rw [show vW XB bu ju ku = .agg (wC XB bu ju ku) from rfl]; have hallB := wC_all hB3; have kA := (Blk.new w3 #[.int .i64 0, .int .i64 0, .int .i64 0, .int .i64 0, .int .i64 0, .slice none 0 0, .slice none 0 0, .slice none 0 0] 32).k ((Chg.refl [] _).alloc (.cells #[.int .i64 0, .int .i64 0, .int .i64 0, .int .i64 0, .int .i64 0, .slice none 0 0, .slice none 0 0, .slice none 0 0] 32)); have kB := Blk.new (w3.alloc (.cells #[.int .i64 0, .int .i64 0, .int .i64 0, .int .i64 0, .int .i64 0, .slice none 0 0, .slice none 0 0, .slice none 0 0] 32)) #[.int .i64 0, .int .i64 0, .int .i64 0, .int .i64 0, .int .i64 0, .slice none 0 0, .slice none 0 0, .slice none 0 0] 32; simp only [World.size_alloc] at kB; have kB2 := kB.chg (Chg.row (Chg.refl [w3.heap.size] _) w3.heap.size (wC XA bv jv kv) (fun _ => by simp)) (by simp))
    | (refine wpList_store_row rfl _ _ _ rfl w3.heap.size (wC XA bv jv kv) rfl rfl 32 _ kA (by kernel_rfl) rfl hallA ?_)
    | (refine wpList_store_row rfl _ _ _ rfl (w3.heap.size + 1) (wC XB bu ju ku) rfl rfl 32 _ kB2 (by kernel_rfl) rfl hallB ?_))
  have hcx := Chg.row (Chg.row (((Chg.refl [] w3).alloc (.cells #[.int .i64 0, .int .i64 0, .int .i64 0, .int .i64 0, .int .i64 0, .slice none 0 0, .slice none 0 0, .slice none 0 0] 32)).alloc (.cells #[.int .i64 0, .int .i64 0, .int .i64 0, .int .i64 0, .int .i64 0, .slice none 0 0, .slice none 0 0, .slice none 0 0] 32)) w3.heap.size (wC XA bv jv kv) (fun h => absurd h (Nat.lt_irrefl _))) (w3.heap.size + 1) (wC XB bu ju ku) (fun h => by omega)
  have kA3 := (kA.row (cs' := wC XA bv jv kv)).chg (Chg.row (Chg.refl [w3.heap.size + 1] _) (w3.heap.size + 1) (wC XB bu ju ku) (fun _ => by simp)) (by simp)
  have kB3 := kB2.row (cs' := wC XB bu ju ku)
  clear kA kB kB2
  generalize ((((w3.alloc (.cells #[.int .i64 0, .int .i64 0, .int .i64 0, .int .i64 0, .int .i64 0, .slice none 0 0, .slice none 0 0, .slice none 0 0] 32)).alloc (.cells #[.int .i64 0, .int .i64 0, .int .i64 0, .int .i64 0, .int .i64 0, .slice none 0 0, .slice none 0 0, .slice none 0 0] 32)).setRow w3.heap.size (wC XA bv jv kv)).setRow (w3.heap.size + 1) (wC XB bu ju ku)) = w4 at *
  obtain ⟨tb, htb⟩ : ∃ t, t = w3.heap.size + 1 := ⟨_, rfl⟩
  rw [← htb] at kB3 ⊢
  obtain ⟨ta, hta⟩ : ∃ t, t = w3.heap.size := ⟨_, rfl⟩
  rw [← hta] at kA3 ⊢
  have HKA := hd kA3
  have HKB := hd kB3
  have HPA := hd ((hA2.k h3).k hcx)
  have HPB := hd (hB3.k hcx)
  have HC4 := hd (((h1.k h2).k h3).k hcx)
  clear hta htb kA3 kB3 hcx hA2 hB3 h2 h3 hallA hallB
  clear h1 HATA HATB
  obtain ⟨FA, hFA⟩ : ∃ F, F = frameB XA.tick (leW XA) := ⟨_, rfl⟩
  obtain ⟨FB, hFB⟩ : ∃ F, F = frameB XB.tick (leW XB) := ⟨_, rfl⟩
  have HFA := hd hFA
  have HFB := hd hFB
  have HWA := hd (leW_small XA HGA.out.fit HCA.out)
  have HWB := hd (leW_small XB HGB.out.fit HCB.out)
  obtain ⟨LA, hLA⟩ : ∃ n, n = (leW XA).length := ⟨_, rfl⟩
  obtain ⟨LB, hLB⟩ : ∃ n, n = (leW XB).length := ⟨_, rfl⟩
  have HLA := hd (show FA.length = LA + 20 ∧ LA ≤ 270000 by have := HWA.out; rw [hFA, frameB_length]; omega)
  have HLB := hd (show FB.length = LB + 20 ∧ LB ≤ 270000 by have := HWB.out; rw [hFB, frameB_length]; omega)
  have hWA := fun W (hW : Chg [] w4 W) => World_any W (vW XA bv jv kv) XA ⟨_, _, _, _, rfl, HPA.out.k hW⟩ (fun b hb => by have := rightS_len (HGA.out.fit.b b hb).sh; omega) (by have := HWA.out; omega)
  have hWB := fun W (hW : Chg [] w4 W) => World_any W (vW XB bu ju ku) XB ⟨_, _, _, _, rfl, HPB.out.k hW⟩ (fun b hb => by have := rightS_len (HGB.out.fit.b b hb).sh; omega) (by have := HWB.out; omega)
  rw [← hLA, show vW XA bv jv kv = .agg (wC XA bv jv kv) from rfl] at hWA
  rw [← hLB, show vW XB bu ju ku = .agg (wC XB bu ju ku) from rfl] at hWB
  have HWDA := hd hWA
  have HWDB := hd hWB
  have hwA : IntKind.i64.wrap (20 + (LA : Int)) = 20 + (LA : Int) := IntWalk.i64_in _ (by have := HLA.out; omega)
  have hwB : IntKind.i64.wrap (20 + (LB : Int)) = 20 + (LB : Int) := IntWalk.i64_in _ (by have := HLB.out; omega)
  have HLA2 := hd hLA
  have HLB2 := hd hLB
  clear hFA hFB hLA hLB hWA hWB
  try simp only [Act.put]
  go_cut [7, 8] from 400 (fun t7 t8 wx => t7 = .int .i64 (20 + (LA : Int)) ∧ t8 = .int .i64 (20 + (LB : Int)) ∧ Chg [] w4 wx)
  case first =>
    refine rg (N := 10) (by kernel_rfl) (by kernel_rfl) (S := (fun wx => Chg [] w4 wx)) ((Chg.refl _ _).drew) (fun hHeld => ?_)
    generalize w4.drew = w4d at *
    refine tks [0, 4] (by kernel_rfl) (fun _ _ _ _ _ h => h) (by assumption) ?_
    refine tkc rfl rfl (by rfl) (fun wx hSw => by (try dsimp only at hSw); (refine exec_load_row (x := .tmp 5) (t := 32) ?_ ?_ (HKA.out.k hSw) Tryz.underlying32 rfl (by kernel_rfl) <;> rfl)) ?_; simp only [List.set]
    refine tkc rfl rfl (by rfl) (fun wx hSw => by (try dsimp only at hSw); (refine exec_load_row (x := .tmp 6) (t := 32) ?_ ?_ (HKB.out.k hSw) Tryz.underlying32 rfl (by kernel_rfl) <;> rfl)) ?_; simp only [List.set]
    refine tk0 ?_
    refine rn 1 rfl (by kernel_rfl) (by rfl) fun KK hKK => ?_
    go_simp; (refine (HWDA.out _ hHeld).mono ?_; rintro e w5 ⟨a5, c5, rfl, -, h5⟩; have hm := Chg.k' hHeld h5; (try go_simp)); refine hKK.out _ _ (by assumption) fun hHeld => ?_; clear hKK KK; try simp only [Act.put, List.setIfInBounds_toArray, List.set]
    refine tks [2, 3] (by kernel_rfl) (fun _ _ _ _ _ h => h) (by assumption) ?_
    iterate 2 (refine tkc rfl rfl (by rfl) (fun wx hSw => by (try dsimp only at hSw); go_simp; (try with_reducible rfl)) ?_; simp only [List.set])
    refine tk0 ?_
    refine rn 5 rfl (by kernel_rfl) (by rfl) fun KK hKK => ?_
    go_simp; (refine (HWDB.out _ hHeld).mono ?_; rintro e w6 ⟨a6, c6, rfl, -, h6⟩; have hm := Chg.k' hHeld h6; (try go_simp)); refine hKK.out _ _ (by assumption) fun hHeld => ?_; clear hKK KK; try simp only [Act.put, List.setIfInBounds_toArray, List.set]
    refine tks [6, 7] (by kernel_rfl) (fun _ _ _ _ _ h => h) (by assumption) ?_
    iterate 2 (refine tkc rfl rfl (by rfl) (fun wx hSw => by (try dsimp only at hSw); go_simp; (try with_reducible rfl)) ?_; simp only [List.set])
    refine tk0 ?_
    refine rn 8 rfl (by kernel_rfl) (by rfl) fun KK hKK => ?_
    go_simp; refine hKK.out _ _ (by assumption) fun hHeld => ?_; clear hKK KK; try simp only [Act.put, List.setIfInBounds_toArray, List.set]
    refine rn 9 rfl (by kernel_rfl) (by rfl) fun KK hKK => ?_
    go_simp; refine hKK.out _ _ (by assumption) fun hHeld => ?_; clear hKK KK; try simp only [Act.put, List.setIfInBounds_toArray, List.set]
    refine wpAnyH_done (by kernel_rfl) ?_ _
    (go_wp2_with fail; go_meet; exact ⟨rfl, rfl, hHeld⟩)
  case rest =>
  obtain ⟨rfl, rfl, hM4⟩ := hcut
  clear hwA hwB HWDA HWDB
  have hwC : IntKind.i64.wrap (20 + (LA : Int) + (m : Int)) = 20 + (LA : Int) + (m : Int) := IntWalk.i64_in _ (by have := HLA.out; have := HM2.out; omega)
  apply_assumption -exfalso -symm
  obtain ⟨R, hR⟩ : ∃ R : Int, R = 20 + (LA : Int) + (m : Int) := ⟨_, rfl⟩
  have hRb : R = (FA.length : Int) + m ∧ 0 ≤ R ∧ R ≤ 1000000 := by have := HLA.out; have := HM2.out; omega
  have hnew := DNew_any wc R (by omega)
  have HRB := hd hRb
  have hRd := hd hR
  rw [hR] at hnew
  clear hR hRb
  go_upto_region 6 with (go_at_call 11; refine hnew.mono ?_; rintro e w5 ⟨b, fp, rfl, hD, hc, hb⟩)
  rw [← hRd.out] at hD
  have HN5 := hd ((DkN.new hD hc hb).back hM4)
  clear hD hc hb hnew hwC hM4 hRd
  have hPA := fun W d (h : DkN w4 W b d) (h1 : d.ops ≤ 100) (h2 : d.room ≤ 1048576) => Put_N h bv jv kv L XA HPA.out HGA.out.fit HCA.out 1 HTA.out (by decide) (by omega) (by omega)
  have hPB := fun W d (h : DkN w4 W b d) (h1 : d.ops ≤ 100) (h2 : d.room ≤ 1048576) => Put_N h bu ju ku M XB HPB.out HGB.out.fit HCB.out 2 HTB.out (by decide) (by omega) (by omega)
  rw [← HFA.out, show vW XA bv jv kv = .agg (wC XA bv jv kv) from rfl] at hPA
  rw [← HFB.out, show vW XB bu ju ku = .agg (wC XB bu ju ku) from rfl] at hPB
  have HPUB := hd hPB
  have hck := Cks.new R HRB.out.2.1
  have hrm5 := hck.n.room
  have hpre := hck.put 1 FA (by decide) (by have := HRB.out; simp; omega) (by simp)
  have hp := hPA _ _ HN5.out (by rw [show (newD R).ops = 0 from rfl]; decide) (by have := HRB.out; omega)
  rw [hpre.1] at hp
  have k9 := HKA.out.k HN5.out.c
  obtain ⟨-, ⟨i, hC6⟩, hO6⟩ := hpre
  have HC6 : Hd (Cks R [(1, FA, i)] (putD (newD R) 1 FA).2) := hd (by simpa using hC6)
  have HOP6 : Hd ((putD (newD R) 1 FA).2.ops ≤ 7) := hd (by have : (newD R).ops = 0 := rfl; omega)
  clear hPA hC6 hO6 hck hrm5 HN5
  generalize (putD (newD R) 1 FA).2 = d6 at *
  go_upto_region 8 with (first
    | (refine wpList_load_row rfl _ _ rfl ta rfl 32 _ (0, 0) _ k9 Tryz.underlying32 rfl (by kernel_rfl) ?_)
    | (go_at_call 12; refine (hp).mono ?_; rintro e w6 ⟨rfl, hn6⟩))
  clear hp k9
  have hrm6 := HC6.out.n.room
  have hp := HPUB.out _ _ hn6 (by have := HOP6.out; omega) (by have := HRB.out; omega)
  have k9 := HKB.out.k hn6.c
  obtain ⟨hcs, ho7⟩ : ((putD d6 2 FB).1 = 0 ∧ FB.length ≤ m ∧ (∃ i j, Cks R [(1, FA, i), (2, FB, j)] (crashD (putD d6 2 FB).2 0 [])) ∨ (putD d6 2 FB).1 = 6 ∧ m < FB.length ∧ ∃ i, Cks R [(1, FA, i)] (crashD (putD d6 2 FB).2 0 [])) ∧ (putD d6 2 FB).2.ops ≤ 14 := by
    have hRR := HRB.out
    by_cases hle : FB.length ≤ m
    · obtain ⟨h1, ⟨j, h2⟩, h3⟩ := HC6.out.put 2 FB (by decide) (by simp; omega) (by simp)
      refine ⟨.inl ⟨h1, hle, ?_⟩, by have := HOP6.out; omega⟩
      have h4 : Cks R [(1, FA, i), (2, FB, j)] (putD d6 2 FB).2 := by simpa using h2
      exact ⟨_, _, h4.crash 0 []⟩
    · obtain ⟨h1, ⟨es, h2⟩, h3⟩ := HC6.out.full 2 FB (by simp; omega) (by simp)
      exact ⟨.inr ⟨h1, by omega, _, h2⟩, by have := HOP6.out; omega⟩
  generalize putD d6 2 FB = Q at *
  obtain ⟨E, d7⟩ := Q
  simp only at hcs ho7 hp
  have HCS := hd hcs
  have HO7 := hd ho7
  clear hcs ho7 hrm6 HC6 HOP6
  go_upto_region 9 with (first
    | (refine wpList_load_row rfl _ _ rfl tb rfl 32 _ (0, 0) _ k9 Tryz.underlying32 rfl (by kernel_rfl) ?_)
    | (go_at_call 12; refine (hp).mono ?_; rintro e w7 ⟨rfl, hn7⟩))
  clear hp k9 hn6
  go_cut [57] from 42 (fun t wx => t = .bool false ∧ wx = w7)
  case first =>
    rcases HCS.out with ⟨rfl, hle, -⟩ | ⟨rfl, hle, -⟩
    · have hle' : 20 + (LB : Int) ≤ (m : Int) := by have := HLB.out; omega
      clear hle
      go_wp2_with fail
      go_meet
      case rel => exact ⟨rfl, rfl⟩
    · have hle' : ¬ 20 + (LB : Int) ≤ (m : Int) := by have := HLB.out; omega
      clear hle
      go_wp2_with fail
      go_meet
      case rel => exact ⟨rfl, rfl⟩
  case rest =>
  obtain ⟨rfl, rfl⟩ := hcut
  apply_assumption -exfalso -symm
  have hcr := hn7.crash0
  have HO8 : Hd ((crashD d7 0 []).ops ≤ 14) := hd (show d7.ops ≤ 14 from HO7.out)
  obtain ⟨r, X2, Lk, hck, hm1, hli, hcs2, hby⟩ : ∃ (r : Int) (X2 : Wld) (Lk : List (Nat × List UInt8 × Nat)), Cks R Lk (crashD d7 0 []) ∧ (∃ i, (1, FA, i) ∈ Lk) ∧ (∀ d, CkN R Lk d → LoadIs d 2 r X2) ∧ ((E = 0 ∧ r = 0 ∧ X2 = XB) ∨ (E = 6 ∧ r = 4 ∧ X2 = WZ)) ∧ ∀ d, CkN R Lk d → (bytesD d (chkB 2)).length ≤ 300000 := by
    rcases HCS.out with ⟨rfl, -, i, j, h⟩ | ⟨rfl, -, i, h⟩
    · refine ⟨0, XB, _, h, ⟨i, by simp⟩, fun d hd => chk1_GW HGB.out HCB.out HTB.out (by decide) HWB.out (i := j) hd (by rw [← HFB.out]; simp), .inl ⟨rfl, rfl, rfl⟩, fun d hd => ?_⟩
      rw [(hd.bytes (x := (2, FB, j)) (by simp)).1]
      have := HLB.out
      simp only
      omega
    · refine ⟨4, WZ, _, h, ⟨i, by simp⟩, fun d hd => ?_, .inr ⟨rfl, rfl, rfl⟩, fun d hd => ?_⟩
      · have h4 := (hd.none (n := 2) (by decide) (by simp)).1
        exact .inl ⟨by rw [h4]; decide, h4.symm, rfl⟩
      · unfold bytesD
        rw [hd.no (n := 2) (by decide) (by simp)]
        simp
  have HCS2 := hd hcs2
  have HCK := hd hck
  have HM1 := hd hm1
  have HLI := hd hli
  have HBY := hd hby
  clear hck hm1 hli hcs2 hby HCS HO7
  generalize crashD d7 0 [] = d8 at *
  go_upto_region 12 with (go_at_call 22; refine hcr.mono ?_; rintro e w8 ⟨rfl, hn8⟩)
  clear hcr hn7
  obtain ⟨i, hmem⟩ := HM1.out
  have hn8A := hn8.k ((Chg.refl [] w8).alloc (.cells #[.int .i64 1] 3))
  have hnw := hn8A.newest (some ⟨w8.heap.size, 0, none⟩) 1 [1] (by decide) (Fs.lit w8 [(1 : Int)] #[.int .i64 1] 3 1 rfl rfl (by simp)) 0 true XA (opD d8) (by
    rw [show ([1] : List Nat).mergeSort (fun x y => decide (x ≤ y)) = [1] by simp]
    refine .hit d8 1 [] XA ⟨by decide, by have := HO8.out; omega, ?_⟩ (chk1_GW HGA.out HCA.out HTA.out (by decide) HWA.out (i := i) HCK.out.n (by rw [← HFA.out]; exact hmem))
    rw [(HCK.out.n.bytes hmem).1]
    have := HLA.out
    simp only
    omega)
  have HNW := hd hnw
  clear hnw hn8A hmem
  go_upto_region 13 with (first
    | (go_at_call 27; refine HNW.out.mono ?_; rintro e w9 ⟨bv9, jv9, kv9, L9, rfl, hp9, ha9, hn9, hc9⟩; rw [show vW XA bv9 jv9 kv9 = .agg (wC XA bv9 jv9 kv9) from rfl]; have kb9 := Blk.new w9 #[.int .i64 0, .int .i64 0, .int .i64 0, .int .i64 0, .int .i64 0, .slice none 0 0, .slice none 0 0, .slice none 0 0] 32; have hall9 := wC_all hp9)
    | (refine wpList_store_row rfl _ _ _ rfl w9.heap.size (wC XA bv9 jv9 kv9) rfl rfl 32 _ kb9 (by kernel_rfl) rfl hall9 ?_))
  have HB9 := hd hn9.lt
  have HA9 := hd ha9
  have hcx9 : Chg [] w9 ((w9.alloc (.cells #[.int .i64 0, .int .i64 0, .int .i64 0, .int .i64 0, .int .i64 0, .slice none 0 0, .slice none 0 0, .slice none 0 0] 32)).setRow w9.heap.size (wC XA bv9 jv9 kv9)) := Chg.row ((Chg.refl [] w9).alloc _) w9.heap.size _ (fun h => absurd h (Nat.lt_irrefl _))
  have ky9 := kb9.row (cs' := wC XA bv9 jv9 kv9)
  generalize (w9.alloc (.cells #[.int .i64 0, .int .i64 0, .int .i64 0, .int .i64 0, .int .i64 0, .slice none 0 0, .slice none 0 0, .slice none 0 0] 32)).setRow w9.heap.size (wC XA bv9 jv9 kv9) = w9x at *
  obtain ⟨tb9, htb9⟩ : ∃ tb, tb = w9.heap.size := ⟨_, rfl⟩
  rw [← htb9] at ky9 ⊢
  have HK9 := hd ky9
  have HP9 := hd (hp9.k hcx9)
  have HT9 := hd htb9
  clear kb9 ky9 htb9 hp9 hall9
  have HN9 := hd (hn9.k hcx9)
  have HO9 : Hd ((opD d8).ops ≤ 15) := hd (show d8.ops + 1 ≤ 15 by have := HO8.out; omega)
  have HC9 := hd HCK.out.n.op
  clear hn9 hc9 hcx9 HNW HM1 hn8
  generalize opD d8 = d9 at *
  have hld := Load_N HN9.out 2 (by decide) (by have := HO9.out; omega) (by have := HBY.out _ HC9.out; omega) r X2 (HLI.out _ HC9.out)
  go_upto_region 14 with (first
    | (go_at_call 17; refine (hld).mono ?_; rintro e w13 ⟨bv13, jv13, kv13, L13, rfl, hp13, -, hn13, hc13⟩; rw [show vW X2 bv13 jv13 kv13 = .agg (wC X2 bv13 jv13 kv13) from rfl]; have kb13 := Blk.new w13 #[.int .i64 0, .int .i64 0, .int .i64 0, .int .i64 0, .int .i64 0, .slice none 0 0, .slice none 0 0, .slice none 0 0] 32; have hall13 := wC_all hp13)
    | (refine wpList_store_row rfl _ _ _ rfl w13.heap.size (wC X2 bv13 jv13 kv13) rfl rfl 32 _ kb13 (by kernel_rfl) rfl hall13 ?_)
    )
  have hcx13 : Chg [] w13 ((w13.alloc (.cells #[.int .i64 0, .int .i64 0, .int .i64 0, .int .i64 0, .int .i64 0, .slice none 0 0, .slice none 0 0, .slice none 0 0] 32)).setRow w13.heap.size (wC X2 bv13 jv13 kv13)) := Chg.row ((Chg.refl [] w13).alloc _) w13.heap.size _ (fun h => absurd h (Nat.lt_irrefl _))
  have ky13 := kb13.row (cs' := wC X2 bv13 jv13 kv13)
  generalize (w13.alloc (.cells #[.int .i64 0, .int .i64 0, .int .i64 0, .int .i64 0, .int .i64 0, .slice none 0 0, .slice none 0 0, .slice none 0 0] 32)).setRow w13.heap.size (wC X2 bv13 jv13 kv13) = w13x at *
  obtain ⟨tb13, htb13⟩ : ∃ tb, tb = w13.heap.size := ⟨_, rfl⟩
  rw [← htb13] at ky13 ⊢
  have HK13 := hd ky13
  have HP13 := hd (hp13.k hcx13)
  clear kb13 ky13 htb13 hp13 hall13
  have HN13 := hd (hn13.k hcx13)
  have HC13 := hd (hc13.k' hcx13)
  clear hn13 hc13 hcx13
  clear hld
  have HK1 := hd (HKA.out.k HN13.out.c)
  have HK2 := hd (HKB.out.k HN13.out.c)
  have HF := hd (HC4.out.k HN13.out.c)
  have HK9b := hd (HK9.out.chg HC13.out (by have := HT9.out; have := HB9.out; simp; omega))
  have HP9b := hd (HP9.out.chg HC13.out HA9.out)
  have hb2 : X2.bodies.length ≤ 1099511627776 := by
    rcases HCS2.out with ⟨-, -, rfl⟩ | ⟨-, -, rfl⟩
    · have := HGB.out.fit.bl; omega
    · decide
  have HS1 := hd (fun W (hW : Chg [] w13x W) => WSame_any W (vW XA bv9 jv9 kv9) (vW XA bv jv kv) XA XA ⟨_, _, _, _, rfl, HP9b.out.k hW⟩ ⟨_, _, _, _, rfl, (HPA.out.k HN13.out.c).k hW⟩ (by have := HGA.out.fit.bl; omega))
  have HS2 := hd (fun W (hW : Chg [] w13x W) => WSame_any W (vW X2 bv13 jv13 kv13) (vW XB bu ju ku) X2 XB ⟨_, _, _, _, rfl, HP13.out.k hW⟩ ⟨_, _, _, _, rfl, (HPB.out.k HN13.out.c).k hW⟩ hb2)
  rw [show vW XA bv9 jv9 kv9 = .agg (wC XA bv9 jv9 kv9) from rfl, show vW XA bv jv kv = .agg (wC XA bv jv kv) from rfl] at HS1
  rw [show vW X2 bv13 jv13 kv13 = .agg (wC X2 bv13 jv13 kv13) from rfl, show vW XB bu ju ku = .agg (wC XB bu ju ku) from rfl] at HS2
  clear hb2
  rcases HCS2.out with ⟨rfl, rfl, rfl⟩ | ⟨rfl, rfl, rfl⟩
  · go_wp2_with (first
      | (refine wpList_load_rowW rfl _ _ rfl tb9 rfl 32 _ (0, 0) _ HK9b.out Tryz.underlying32 rfl (by kernel_rfl) ?_)
      | (refine wpList_load_rowW rfl _ _ rfl ta rfl 32 _ (0, 0) _ HK1.out Tryz.underlying32 rfl (by kernel_rfl) ?_)
      | (go_at_call 18; (with_reducible refine (HS1.out _ (Chg.refl _ _)).mono ?_); rintro e w14 ⟨⟨q, rfl, hq⟩, hm14⟩; obtain rfl : q = true := hq.2 (by first | rfl | trivial); have k13 := HK13.out.k hm14; have k2 := HK2.out.k hm14)
      | (refine wpList_load_rowW rfl _ _ rfl tb13 rfl 32 _ (0, 0) _ k13 Tryz.underlying32 rfl (by kernel_rfl) ?_)
      | (refine wpList_load_rowW rfl _ _ rfl tb rfl 32 _ (0, 0) _ k2 Tryz.underlying32 rfl (by kernel_rfl) ?_)
      | (go_at_call 18; (with_reducible refine (HS2.out _ hm14).mono ?_); rintro e w15 ⟨⟨q, rfl, hq⟩, hm15⟩; obtain rfl : q = true := hq.2 (by first | rfl | trivial)))
    rw [HP.out]
    exact ⟨rfl, (HF.out.k hm14).k hm15⟩
  · go_wp2_with (first
      | (refine wpList_load_rowW rfl _ _ rfl tb9 rfl 32 _ (0, 0) _ HK9b.out Tryz.underlying32 rfl (by kernel_rfl) ?_)
      | (refine wpList_load_rowW rfl _ _ rfl ta rfl 32 _ (0, 0) _ HK1.out Tryz.underlying32 rfl (by kernel_rfl) ?_)
      | (go_at_call 18; (with_reducible refine (HS1.out _ (Chg.refl _ _)).mono ?_); rintro e w14 ⟨⟨q, rfl, hq⟩, hm14⟩; obtain rfl : q = true := hq.2 (by first | rfl | trivial)))
    rw [HP.out]
    exact ⟨rfl, HF.out.k hm14⟩
end Go.Proofs.YtbiadpkglcdihaaGreat
