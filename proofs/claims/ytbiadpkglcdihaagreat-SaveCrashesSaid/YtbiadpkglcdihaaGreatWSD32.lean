/- Words and walks that SD rests on: LawSaveCrashes. -/
import Derived.Test.YtbiadpkglcdihaaGreatWSD27
import Derived.Test.YtbiadpkglcdihaaGreatWSD29
import Derived.Test.YtbiadpkglcdihaaGreatWSD31
/- SaveCrashes: for every input the law returns true. -/
namespace Go.Proofs.YtbiadpkglcdihaaGreat
open Go.RowKit

theorem DkN.good {w0 w : World} {b : Nat} {d : Dsk} (h : DkN w0 w b d) : GoodD d := let ⟨_, h, _⟩ := h; h.good
theorem DkN.arm {w0 w : World} {b : Nat} {d : Dsk} (h : DkN w0 w b d) (down fail : Int) :
    Calls Tryz.prog 26 #[.pointer (some ⟨b, 0, none⟩), .int .i64 down, .int .i64 fail] w fun e w' => e = .returned (.tuple #[]) ∧ DkN w0 w' b (armD d down fail) := by
  obtain ⟨fp, h1, h2, h3⟩ := h
  exact (Arm_any h1 down fail).mono fun e w' ⟨he, hk⟩ => ⟨he, .step h2 h3 hk⟩
theorem DkN.crash {w0 w : World} {b : Nat} {d : Dsk} (h : DkN w0 w b d) (m : Int) (v : Value) (kept : List Int) (hv : Fs w0 v kept) :
    Calls Tryz.prog 22 #[.pointer (some ⟨b, 0, none⟩), .int .i64 m, v] w fun e w' => e = .returned (.tuple #[]) ∧ DkN w0 w' b (crashD d m kept) := by
  obtain ⟨fp, h1, h2, h3⟩ := h
  exact (Crash_anyE h1 m v kept (hv.chg h2 (by simp)) (fun h0 j hj hf => by have := Rd.lt hv h0 (by decide) j hj; have := h3 j hf; omega)).mono fun e w' ⟨he, hk⟩ => ⟨he, .step h2 h3 hk⟩
/-- What is put behind an arming. -/
structure ArmC (A B : List UInt8) (k : Nat) (room ops : Int) (d : Dsk) : Prop where
  e : (putD d 6 B).1 = 0 ↔ 6 ≤ k
  m : ∃ i, MidP A B i (decide (6 ≤ k)) (putD d 6 B).2
  r : (putD d 6 B).2.room = room
  o : (putD d 6 B).2.ops ≤ ops + 6
theorem latD_neg (o : Int) : latD o (-1) = -1 := by unfold latD; simp
theorem latD_small (o : Int) (k : Nat) (h : k < 16) : latD o (k : Int) = o + k := by unfold latD; rw [if_neg (by omega)]
theorem OneC.armed {room : Int} {A : List UInt8} {d : Dsk} (h : OneC room 5 A d) (h0 : 0 ≤ d.ops) (k : Nat) (hk : k < 16) (B : List UInt8) (hr : (A.length : Int) + B.length ≤ room) :
    ArmC A B k room d.ops (armD d k (-1)) ∧ ArmC A B k room d.ops (armD (armD d k (-1)) (-1) k) := by
  obtain ⟨⟨q1, q2, q3⟩, hroom, ⟨i, h1, h2, h3, h4⟩, hch⟩ := h
  obtain ⟨rm, files, names, sure, ch, ops, down, fail, off⟩ := d
  simp only at q1 q2 q3 hroom h1 h2 h3 h4 hch h0
  subst q1 q2 q3 hroom h1 h2 hch
  unfold armD
  simp only
  rw [latD_neg, latD_small _ _ hk]
  have f1 : Flt k (RD rm (ops + k) (-1) files [(chkB 5, i)] [(chkB 5, i)] [] ops) := ⟨rfl, h0, .inl ⟨rfl, rfl⟩⟩
  have f2 : Flt k (RD rm (-1) (ops + k) files [(chkB 5, i)] [(chkB 5, i)] [] ops) := ⟨rfl, h0, .inr ⟨rfl, rfl⟩⟩
  obtain ⟨a1, a2, a3, a4⟩ := put_flt A B i k f1 h3 h4 hr
  obtain ⟨b1, b2, b3, b4⟩ := put_flt A B i k f2 h3 h4 hr
  exact ⟨⟨a1, ⟨i, a2⟩, a3, a4⟩, ⟨b1, ⟨i, b2⟩, b3, b4⟩⟩
theorem andF15 (x : Int) : bits .and .i64 x 15 = x % 16 := and_mask x 4 (by decide)
set_option maxRecDepth 100000 in
set_option maxHeartbeats 8000000 in
theorem SaveCrashes_law (v : Value) (l : List DV) (x0 x1 x2 : Int) (vk : Value) (kept : List Int) (w : World) (hl : DsS w v l) (hI : ∀ x ∈ l, ID x.1) (_y0 : -9223372036854775808 ≤ x0 ∧ x0 ≤ 9223372036854775807) (_y1 : -9223372036854775808 ≤ x1 ∧ x1 ≤ 9223372036854775807) (_y2 : -9223372036854775808 ≤ x2 ∧ x2 ≤ 9223372036854775807)
    (hk0 : Fs w vk kept) (_hb : ∀ z ∈ kept, -9223372036854775808 ≤ z ∧ z ≤ 9223372036854775807) (_hkl : kept.length * 8 ≤ 140737488351232) :
    Calls Tryz.prog 5 #[v, .agg #[.int .i64 x0, .int .i64 x1, .int .i64 x2], vk] w fun e w' => e = .returned (.bool true) ∧ Chg [] w w' := by
  obtain ⟨P, hP⟩ : ∃ P : Ending → World → Prop, P = fun e w' => e = .returned (.bool true) ∧ Chg [] w w' := ⟨_, rfl⟩
  rw [← hP]
  have HP := hd hP
  clear hP _y0 _y1 _y2 _hb
  obtain ⟨k, hke, hk16⟩ : ∃ k : Nat, x0 % 16 = (k : Int) ∧ k < 16 := ⟨(x0 % 16).toNat, by omega, by omega⟩
  have u0 : bits .and .i64 x0 15 = (k : Int) := by rw [andF15, hke]
  obtain ⟨m1, hm1⟩ : ∃ m : Int, bits .and .i64 x1 7 = m := ⟨_, rfl⟩
  obtain ⟨m2, hm2⟩ : ∃ m : Int, bits .and .i64 x2 7 = m := ⟨_, rfl⟩
  have HK16 := hd hk16
  clear hke hk16
  obtain ⟨aok, capk, bk, offk, rfl, -, -, -, -, -⟩ := hk0.open
  have HKF := hd hk0
  obtain ⟨av, cv, rfl, -, -⟩ := Rd.form (by decide) hl.rd
  have hblk := Blk.new w #[.int .i64 x0, .int .i64 x1, .int .i64 x2] 58
  have hc0 := (Chg.refl [] w).alloc (.cells #[.int .i64 x0, .int .i64 x1, .int .i64 x2] 58)
  have hAtA := fun W (hW : Chg [] w W) => At_any W (.slice none 0 0) [] 5 ⟨by decide, by decide⟩ (DsS.nil W) (by simp)
  have hAtB := fun W (hW : Chg [] w W) => At_any W _ l 6 ⟨by decide, by decide⟩ (hl.k hW) hI
  rw [show ([] : List DV).map (·.1) = [] from rfl] at hAtA
  obtain ⟨hGA, hCA⟩ := atW_GW [] (by simp) 5
  obtain ⟨hGB, hCB⟩ := atW_GW (l.map (·.1)) (fun x hx => by obtain ⟨y, hy, rfl⟩ := List.mem_map.1 hx; exact hI y hy) 6
  have hTA : (atW [] 5).tick = ((5 : Nat) : Int) := rfl
  have hTB : (atW (l.map (·.1)) 6).tick = ((6 : Nat) : Int) := rfl
  generalize atW [] 5 = XA at *
  generalize atW (l.map (·.1)) 6 = XB at *
  have HA0 := hd hAtA
  have HB0 := hd hAtB
  have HGA := hd hGA
  have HGB := hd hGB
  have HCA := hd hCA
  have HCB := hd hCB
  have HTA := hd hTA
  have HTB := hd hTB
  clear hAtA hAtB hGA hGB hCA hCB hTA hTB hl hI hk0
  go_enter Tryz.func5, Tryz.ntmps5
  go_upto_region 1 with (fail)
  generalize w.alloc (.cells #[.int .i64 x0, .int .i64 x1, .int .i64 x2] 58) = w0 at *
  obtain ⟨xb, hxb⟩ : ∃ xb, xb = w.heap.size := ⟨_, rfl⟩
  rw [← hxb] at hblk ⊢
  have HXB := hd hblk
  have HC0 := hd hc0
  have HATA := hd (fun W (hW : Chg [] w0 W) => HA0.out W (HC0.out.k hW))
  have HATB := hd (fun W (hW : Chg [] w0 W) => HB0.out W (HC0.out.k hW))
  clear hblk hxb hc0 HA0 HB0
  go_upto_region 3 with (go_at_call 9; refine (fit20_any _).mono ?_; rintro e w1 ⟨rfl, h1⟩)
  by_cases hkl : kept.length ≤ 20
  case neg =>
    have hl0' : (20 : Int) < (kept.length : Int) := by omega
    go_wp2_with fail
    rw [HP.out]
    exact ⟨rfl, HC0.out.k h1⟩
  have hl0' : ¬ (20 : Int) < (kept.length : Int) := by omega
  go_upto_region 5 with (fail)
  clear hl0' hkl
  go_upto_region 6 with (first
    | (go_at_call 10; (with_reducible refine (HATA.out _ h1).mono ?_); rintro e w2 ⟨bv, jv, kv, L, rfl, hA2, -, h2⟩; rw [show vW XA bv jv kv = .agg (wC XA bv jv kv) from rfl]; have hallA := wC_all hA2)
    | (go_at_call 10; (with_reducible refine (HATB.out _ (h1.k h2)).mono ?_); rintro e w3 ⟨bu, ju, ku, M, rfl, hB3, -, h3⟩; rw [show vW XB bu ju ku = .agg (wC XB bu ju ku) from rfl]; have hallB := wC_all hB3; have kA := (Blk.new w3 #[.int .i64 0, .int .i64 0, .int .i64 0, .int .i64 0, .int .i64 0, .slice none 0 0, .slice none 0 0, .slice none 0 0] 32).k ((Chg.refl [] _).alloc (.cells #[.int .i64 0, .int .i64 0, .int .i64 0, .int .i64 0, .int .i64 0, .slice none 0 0, .slice none 0 0, .slice none 0 0] 32)); have kB := Blk.new (w3.alloc (.cells #[.int .i64 0, .int .i64 0, .int .i64 0, .int .i64 0, .int .i64 0, .slice none 0 0, .slice none 0 0, .slice none 0 0] 32)) #[.int .i64 0, .int .i64 0, .int .i64 0, .int .i64 0, .int .i64 0, .slice none 0 0, .slice none 0 0, .slice none 0 0] 32; simp only [World.size_alloc] at kB; have kB2 := kB.chg (Chg.row (Chg.refl [w3.heap.size] _) w3.heap.size (wC XA bv jv kv) (fun _ => by simp)) (by simp))
    | (refine wpList_store_row rfl _ _ _ rfl w3.heap.size (wC XA bv jv kv) rfl rfl 32 _ kA (by kernel_rfl) rfl hallA ?_)
    | (refine wpList_store_row rfl _ _ _ rfl (w3.heap.size + 1) (wC XB bu ju ku) rfl rfl 32 _ kB2 (by kernel_rfl) rfl hallB ?_))
  have hcx := Chg.row (Chg.row (((Chg.refl [] w3).alloc (.cells #[.int .i64 0, .int .i64 0, .int .i64 0, .int .i64 0, .int .i64 0, .slice none 0 0, .slice none 0 0, .slice none 0 0] 32)).alloc (.cells #[.int .i64 0, .int .i64 0, .int .i64 0, .int .i64 0, .int .i64 0, .slice none 0 0, .slice none 0 0, .slice none 0 0] 32)) w3.heap.size (wC XA bv jv kv) (fun h => absurd h (Nat.lt_irrefl _))) (w3.heap.size + 1) (wC XB bu ju ku) (fun h => by omega)
  have kA3 := (kA.row (cs' := wC XA bv jv kv)).chg (Chg.row (Chg.refl [w3.heap.size + 1] _) (w3.heap.size + 1) (wC XB bu ju ku) (fun _ => by simp)) (by simp)
  have kB3 := kB2.row (cs' := wC XB bu ju ku)
  clear kA kB kB2
  generalize ((((w3.alloc (.cells #[.int .i64 0, .int .i64 0, .int .i64 0, .int .i64 0, .int .i64 0, .slice none 0 0, .slice none 0 0, .slice none 0 0] 32)).alloc (.cells #[.int .i64 0, .int .i64 0, .int .i64 0, .int .i64 0, .int .i64 0, .slice none 0 0, .slice none 0 0, .slice none 0 0] 32)).setRow w3.heap.size (wC XA bv jv kv)).setRow (w3.heap.size + 1) (wC XB bu ju ku)) = w4 at *
  obtain ⟨tb, htb⟩ : ∃ t, t = w3.heap.size + 1 := ⟨_, rfl⟩
  rw [← htb] at kB3 ⊢
  obtain ⟨ta, hta⟩ : ∃ t, t = w3.heap.size := ⟨_, rfl⟩
  rw [← hta] at kA3 ⊢
  have HKA := hd kA3
  have HKB := hd kB3
  have HPA := hd ((hA2.k h3).k hcx)
  have HPB := hd (hB3.k hcx)
  have HC4 := hd (((h1.k h2).k h3).k hcx)
  clear hta htb kA3 kB3 hcx hA2 hB3 h2 h3 hallA hallB
  clear h1 HATA HATB
  have hnew := DNew_any w4 1048576 (by decide)
  go_upto_region 7 with (go_at_call 11; refine hnew.mono ?_; rintro e w5 ⟨b, fp, rfl, hD, hc, hb⟩)
  have HN5 := hd (DkN.new hD hc hb)
  clear hD hc hb hnew
  obtain ⟨FA, hFA⟩ : ∃ F, F = frameB XA.tick (leW XA) := ⟨_, rfl⟩
  obtain ⟨FB, hFB⟩ : ∃ F, F = frameB XB.tick (leW XB) := ⟨_, rfl⟩
  have HFA := hd hFA
  have HFB := hd hFB
  have HWA := hd (leW_small XA HGA.out.fit HCA.out)
  have HWB := hd (leW_small XB HGB.out.fit HCB.out)
  have HLA := hd (show FA.length ≤ 270020 by have := HWA.out; rw [hFA, frameB_length]; omega)
  have HLB := hd (show FB.length ≤ 270020 by have := HWB.out; rw [hFB, frameB_length]; omega)
  clear hFA hFB
  have hPA := fun W d (h : DkN w4 W b d) (h1 : d.ops ≤ 100) (h2 : d.room ≤ 1048576) => Put_N h bv jv kv L XA HPA.out HGA.out.fit HCA.out 5 HTA.out (by decide) (by omega) (by omega)
  have hPB := fun W d (h : DkN w4 W b d) (h1 : d.ops ≤ 100) (h2 : d.room ≤ 1048576) => Put_N h bu ju ku M XB HPB.out HGB.out.fit HCB.out 6 HTB.out (by decide) (by omega) (by omega)
  rw [← HFA.out, show vW XA bv jv kv = .agg (wC XA bv jv kv) from rfl] at hPA
  rw [← HFB.out, show vW XB bu ju ku = .agg (wC XB bu ju ku) from rfl] at hPB
  have HPUB := hd hPB
  have hpre := put_pre (new_pre 5 FA).1 (by have := HLA.out; omega)
  have hp := hPA _ _ HN5.out (by decide) (by decide)
  rw [hpre.1] at hp
  have k9 := HKA.out.k HN5.out.c
  have HO6 := hd hpre.2.1
  have HOP6 : Hd ((putD (newD 1048576) 5 FA).2.ops ≤ 7) := hd (by have := hpre.2.2; have := (new_pre 5 FA).2; omega)
  clear hPA hPB hpre HN5
  generalize (putD (newD 1048576) 5 FA).2 = d6 at *
  go_upto_region 9 with (first
    | (refine wpList_load_row rfl _ _ rfl ta rfl 32 _ (0, 0) _ k9 Tryz.underlying32 rfl (by kernel_rfl) ?_)
    | (go_at_call 12; refine (hp).mono ?_; rintro e w6 ⟨rfl, hn6⟩))
  clear hp k9
  have HN6 := hd hn6
  have hx6 := HXB.out.k (HC4.out.k hn6.c)
  have q0 := hx6.cell 0
  simp at q0
  have har := hn6.arm k (-1)
  clear hx6 hn6
  go_upto_region 11 with (go_at_call 26; refine har.mono ?_; rintro e w7 ⟨rfl, hn7⟩)
  have q2 := (HXB.out.k (HC4.out.k hn7.c)).cell 2
  simp at q2
  have HAR := hd (HO6.out.armed HN6.out.good.ops.1 k HK16.out FB (by have := HLA.out; have := HLB.out; omega))
  have HRM := hd HO6.out.room
  have HN7 := hd hn7
  clear q0 u0 har hn7
  go_upto_if 38 with (fail)
  clear q2 hm2
  go_cut [9] from 39 (fun t9 wx => t9 = .pointer (some ⟨b, 0, none⟩) ∧ ∃ d, DkN w4 wx b d ∧ ArmC FA FB k 1048576 d6.ops d ∧ d.room = 1048576 ∧ d.ops = d6.ops)
  case first =>
    by_cases h7 : m2 = 7
    · subst h7
      have har2 := HN7.out.arm (-1) k
      go_wp2_with (go_at_call 26; refine har2.mono ?_; rintro e w8 ⟨rfl, hn8⟩)
      go_meet
      case rel => exact ⟨rfl, _, hn8, HAR.out.2, HRM.out, rfl⟩
    · have hz : (m2 == 7) = false := by rw [beq_eq_false_iff_ne]; exact h7
      go_wp2_with fail
      go_meet
      case rel => exact ⟨rfl, _, HN7.out, HAR.out.1, HRM.out, rfl⟩
  case rest =>
  obtain ⟨rfl, d7, hN8, hAr, hr8, ho8⟩ := hcut
  apply_assumption -exfalso -symm
  have hp := HPUB.out _ _ hN8 (by have := HOP6.out; omega) (by omega)
  obtain ⟨hE, hM, hR, hO⟩ := hAr
  have k9 := HKB.out.k hN8.c
  generalize putD d7 6 FB = Q at *
  obtain ⟨E, d8⟩ := Q
  simp only at hE hM hR hO hp
  have HE := hd hE
  have HM := hd hM
  have HR := hd hR
  have HO := hd (show d8.ops ≤ 13 by have := HOP6.out; omega)
  clear hE hM hR hO hr8 ho8 HAR HRM HN7 HO6 HN6 hN8
  go_upto_region 14 with (first
    | (refine wpList_load_row rfl _ _ rfl tb rfl 32 _ (0, 0) _ k9 Tryz.underlying32 rfl (by kernel_rfl) ?_)
    | (go_at_call 12; refine (hp).mono ?_; rintro e w9 ⟨rfl, hn9⟩))
  clear hp k9
  go_cut [49] from 45 (fun t wx => t = .bool false ∧ wx = w9)
  case first =>
    by_cases h6 : 6 ≤ k
    · obtain rfl := HE.out.2 h6
      have h6' : (6 : Int) ≤ (k : Int) := by omega
      go_wp2_with fail
      go_meet
      case rel => exact ⟨rfl, rfl⟩
    · have hE1 : (E == 0) = false := by rw [beq_eq_false_iff_ne]; exact fun e => h6 (HE.out.1 e)
      have h6' : ¬ (6 : Int) ≤ (k : Int) := by omega
      go_wp2_with fail
      go_meet
      case rel => exact ⟨rfl, rfl⟩
  case rest =>
  obtain ⟨rfl, rfl⟩ := hcut
  apply_assumption -exfalso -symm
  have q1 := (HXB.out.k (HC4.out.k hn9.c)).cell 1
  simp at q1
  have hcr := hn9.crash m1 _ kept (HKF.out.chg (HC0.out.k HC4.out) (by simp))
  obtain ⟨i, hM⟩ := HM.out
  obtain ⟨hAf, hr10, ho10⟩ := hM.crash m1 kept
  have HAF := hd hAf
  have HR10 : Hd ((crashD d8 m1 kept).room = 1048576) := hd (by rw [hr10]; exact HR.out)
  have HO10 : Hd ((crashD d8 m1 kept).ops ≤ 13) := hd (by rw [ho10]; exact HO.out)
  clear hM hAf hr10 ho10 HM HR HO hn9
  generalize crashD d8 m1 kept = d10 at *
  go_upto_region 17 with (go_at_call 22; refine hcr.mono ?_; rintro e w10 ⟨rfl, hn10⟩)
  have hli : LoadIs d10 5 0 XA := .inr (.inr ⟨HAF.out.five.2, by rw [HAF.out.five.1, HFA.out, HTA.out]; exact oneB_frame _ _ (by decide) (by decide) (by have := HWA.out; omega), rfl, HGA.out, HCA.out, HTA.out⟩)
  have hld := Load_N hn10 5 (by decide) (by have := HO10.out; omega) (by rw [HAF.out.five.1]; have := HLA.out; omega) 0 XA hli
  clear hli hcr q1 hm1
  go_upto_region 18 with (first
    | (go_at_call 17; refine (hld).mono ?_; rintro e w17 ⟨bv17, jv17, kv17, L17, rfl, hp17, -, hn17, hc17⟩; rw [show vW XA bv17 jv17 kv17 = .agg (wC XA bv17 jv17 kv17) from rfl]; have kb17 := Blk.new w17 #[.int .i64 0, .int .i64 0, .int .i64 0, .int .i64 0, .int .i64 0, .slice none 0 0, .slice none 0 0, .slice none 0 0] 32; have hall17 := wC_all hp17)
    | (refine wpList_store_row rfl _ _ _ rfl w17.heap.size (wC XA bv17 jv17 kv17) rfl rfl 32 _ kb17 (by kernel_rfl) rfl hall17 ?_)
    )
  have hcx17 : Chg [] w17 ((w17.alloc (.cells #[.int .i64 0, .int .i64 0, .int .i64 0, .int .i64 0, .int .i64 0, .slice none 0 0, .slice none 0 0, .slice none 0 0] 32)).setRow w17.heap.size (wC XA bv17 jv17 kv17)) := Chg.row ((Chg.refl [] w17).alloc _) w17.heap.size _ (fun h => absurd h (Nat.lt_irrefl _))
  have ky17 := kb17.row (cs' := wC XA bv17 jv17 kv17)
  generalize (w17.alloc (.cells #[.int .i64 0, .int .i64 0, .int .i64 0, .int .i64 0, .int .i64 0, .slice none 0 0, .slice none 0 0, .slice none 0 0] 32)).setRow w17.heap.size (wC XA bv17 jv17 kv17) = w17x at *
  obtain ⟨tb17, htb17⟩ : ∃ tb, tb = w17.heap.size := ⟨_, rfl⟩
  rw [← htb17] at ky17 ⊢
  have HK17 := hd ky17
  have HP17 := hd (hp17.k hcx17)
  clear kb17 ky17 htb17 hp17 hall17
  have HN17 := hd (hn17.k hcx17)
  have HC17 := hd (hc17.k' hcx17)
  clear hn17 hc17 hcx17
  clear hld hn10
  have HK1 := hd (HKA.out.k HN17.out.c)
  have HSA := hd (fun W (hW : Chg [] w17x W) => WSame_any W (vW XA bv17 jv17 kv17) (vW XA bv jv kv) XA XA ⟨_, _, _, _, rfl, HP17.out.k hW⟩ ⟨_, _, _, _, rfl, (HPA.out.k HN17.out.c).k hW⟩ (by have := HGA.out.fit.bl; omega))
  go_cut [68] from 61 (fun t wx => t = .bool false ∧ Chg [] w17x wx)
  case first =>
    go_wp2_with (first
      | (refine wpList_load_rowW rfl _ _ rfl tb17 rfl 32 _ (0, 0) _ HK17.out Tryz.underlying32 rfl (by kernel_rfl) ?_)
      | (refine wpList_load_rowW rfl _ _ rfl ta rfl 32 _ (0, 0) _ HK1.out Tryz.underlying32 rfl (by kernel_rfl) ?_)
      | (go_at_call 18; refine (HSA.out _ (Chg.refl _ _)).mono ?_; rintro e w14 ⟨⟨q14, rfl, hq14⟩, hm14⟩; obtain rfl : q14 = true := hq14.2 rfl))
    go_meet
    case rel => exact ⟨rfl, hm14⟩
  case rest =>
  obtain ⟨rfl, hM17⟩ := hcut
  apply_assumption -exfalso -symm
  have HN18 := hd (HN17.out.k hM17)
  have HAF1 := hd HAF.out.op
  have HR11 : Hd ((opD d10).room = 1048576) := hd HR10.out
  have HO11 : Hd ((opD d10).ops ≤ 14) := hd (show d10.ops + 1 ≤ 14 by have := HO10.out; omega)
  clear HSA HK1 hM17 HN17 HAF HR10 HO10
  generalize opD d10 = d11 at *
  obtain ⟨r, X2, hli, hcs, hby⟩ : ∃ (r : Int) (X2 : Wld), LoadIs d11 6 r X2 ∧ ((r = 0 ∧ X2 = XB) ∨ (r = 4 ∧ X2 = WZ ∧ ¬ 6 ≤ k)) ∧ (bytesD d11 (chkB 6)).length ≤ 270020 := by
    rcases HAF1.out.six with ⟨h1, h2, h3⟩ | ⟨h1, h2⟩
    · exact ⟨4, WZ, .inl ⟨by rw [h2]; decide, h2.symm, rfl⟩, .inr ⟨rfl, rfl, of_decide_eq_false h1⟩, by rw [h3]; simp⟩
    · refine ⟨0, XB, .inr (.inr ⟨h2, ?_, rfl, HGB.out, HCB.out, HTB.out⟩), .inl ⟨rfl, rfl⟩, by rw [h1]; exact HLB.out⟩
      rw [h1, HFB.out, HTB.out]
      exact oneB_frame _ _ (by decide) (by decide) (by have := HWB.out; omega)
  have hld := Load_N HN18.out 6 (by decide) (by have := HO11.out; omega) (by omega) r X2 hli
  have HCS := hd hcs
  clear hli hcs hby
  go_upto_region 21 with (first
    | (go_at_call 17; refine (hld).mono ?_; rintro e w20 ⟨bv20, jv20, kv20, L20, rfl, hp20, -, hn20, hc20⟩; rw [show vW X2 bv20 jv20 kv20 = .agg (wC X2 bv20 jv20 kv20) from rfl]; have kb20 := Blk.new w20 #[.int .i64 0, .int .i64 0, .int .i64 0, .int .i64 0, .int .i64 0, .slice none 0 0, .slice none 0 0, .slice none 0 0] 32; have hall20 := wC_all hp20)
    | (refine wpList_store_row rfl _ _ _ rfl w20.heap.size (wC X2 bv20 jv20 kv20) rfl rfl 32 _ kb20 (by kernel_rfl) rfl hall20 ?_)
    )
  have hcx20 : Chg [] w20 ((w20.alloc (.cells #[.int .i64 0, .int .i64 0, .int .i64 0, .int .i64 0, .int .i64 0, .slice none 0 0, .slice none 0 0, .slice none 0 0] 32)).setRow w20.heap.size (wC X2 bv20 jv20 kv20)) := Chg.row ((Chg.refl [] w20).alloc _) w20.heap.size _ (fun h => absurd h (Nat.lt_irrefl _))
  have ky20 := kb20.row (cs' := wC X2 bv20 jv20 kv20)
  generalize (w20.alloc (.cells #[.int .i64 0, .int .i64 0, .int .i64 0, .int .i64 0, .int .i64 0, .slice none 0 0, .slice none 0 0, .slice none 0 0] 32)).setRow w20.heap.size (wC X2 bv20 jv20 kv20) = w20x at *
  obtain ⟨tb20, htb20⟩ : ∃ tb, tb = w20.heap.size := ⟨_, rfl⟩
  rw [← htb20] at ky20 ⊢
  have HK20 := hd ky20
  have HP20 := hd (hp20.k hcx20)
  clear kb20 ky20 htb20 hp20 hall20
  have HN20 := hd (hn20.k hcx20)
  have HC20 := hd (hc20.k' hcx20)
  clear hn20 hc20 hcx20
  clear hld
  have HK2 := hd (HKB.out.k HN20.out.c)
  have hb2 : X2.bodies.length ≤ 1099511627776 := by
    rcases HCS.out with ⟨-, rfl⟩ | ⟨-, rfl, -⟩
    · have := HGB.out.fit.bl; omega
    · decide
  have HSA := hd (fun W (hW : Chg [] w20x W) => WSame_any W (vW X2 bv20 jv20 kv20) (vW XB bu ju ku) X2 XB ⟨_, _, _, _, rfl, HP20.out.k hW⟩ ⟨_, _, _, _, rfl, (HPB.out.k HN20.out.c).k hW⟩ hb2)
  clear hb2
  go_cut [93] from 74 (fun t wx => t = .bool false ∧ Chg [] w20x wx)
  case first =>
    rcases HCS.out with ⟨rfl, rfl⟩ | ⟨rfl, rfl, h6⟩
    · go_wp2_with (first
        | (refine wpList_load_rowW rfl _ _ rfl tb20 rfl 32 _ (0, 0) _ HK20.out Tryz.underlying32 rfl (by kernel_rfl) ?_)
        | (refine wpList_load_rowW rfl _ _ rfl tb rfl 32 _ (0, 0) _ HK2.out Tryz.underlying32 rfl (by kernel_rfl) ?_)
        | (go_at_call 18; refine (HSA.out _ (Chg.refl _ _)).mono ?_; rintro e w21 ⟨⟨q21, rfl, hq21⟩, hm21⟩; obtain rfl : q21 = true := hq21.2 rfl))
      go_meet
      case rel => exact ⟨rfl, hm21⟩
    · have hE1 : (E == 0) = false := by rw [beq_eq_false_iff_ne]; exact fun e => h6 (HE.out.1 e)
      clear h6
      go_wp2_with fail
      go_meet
      case rel => exact ⟨rfl, Chg.refl _ _⟩
  case rest =>
  obtain ⟨rfl, hM20⟩ := hcut
  apply_assumption -exfalso -symm
  have hN22 := HN20.out.k hM20
  have hz := HAF1.out.op.put (by have := HLA.out; have := HLB.out; have := HR11.out; show _ ≤ (opD d11).room; rw [show (opD d11).room = d11.room from rfl]; omega)
  have hp := HPUB.out _ _ hN22 (show d11.ops + 1 ≤ 100 by have := HO11.out; omega) (show d11.room ≤ 1048576 by have := HR11.out; omega)
  rw [hz] at hp
  have k9 := HKB.out.k hN22.c
  clear hz hM20 hN22 HSA HK2
  go_wp2_with (first
    | (refine wpList_load_row rfl _ _ rfl tb rfl 32 _ (0, 0) _ k9 Tryz.underlying32 rfl (by kernel_rfl) ?_)
    | (go_at_call 12; refine hp.mono ?_; rintro e w23 ⟨rfl, hn23⟩))
  rw [HP.out]
  exact ⟨rfl, (HC0.out.k HC4.out).k hn23.c⟩
end Go.Proofs.YtbiadpkglcdihaaGreat
