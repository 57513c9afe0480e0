/- Words and walks that SF rests on: Load. -/
import Derived.Test.YtbiadpkglcdihaaGreatWSF14
import Derived.Test.YtbiadpkglcdihaaGreatWSF16
import Derived.Test.YtbiadpkglcdihaaGreatWSF10
import Derived.Shelf.Abstract
/- save.Load. -/
namespace Go.Proofs.YtbiadpkglcdihaaGreat
open Go.RowKit

/-- The world's zero value. -/
def WZ : Wld := ⟨0, 0, 0, (0, 0), [], [], []⟩
def vWZ : Value := .agg #[.int .i64 0, .int .i64 0, .int .i64 0, .int .i64 0, .int .i64 0, .slice none 0 0, .slice none 0 0, .slice none 0 0]
theorem WZ_reads (w : World) : WlS w vWZ WZ := ⟨_, _, _, [], rfl, ⟨Rd.ofOwn (e := 97) (base := 0) (World.ownsRow_nil _ _ _ _), by simp⟩, rfl, Rd.ofOwn (e := 101) (base := 0) (World.ownsRow_nil _ _ _ _), Rd.ofOwn (e := 104) (base := 0) (World.ownsRow_nil _ _ _ _)⟩
/-- What save.Load answers: an error and a world. -/
def LoadIs (d : Dsk) (n : Nat) (r : Int) (X : Wld) : Prop :=
  (syncE d (chkB n) ≠ 0 ∧ r = syncE d (chkB n) ∧ X = WZ) ∨ (syncE d (chkB n) = 0 ∧ (∀ p, oneB (bytesD d (chkB n)) 16777216 ≠ some ((n : Int), p)) ∧ r = 9 ∧ X = WZ) ∨
  (syncE d (chkB n) = 0 ∧ oneB (bytesD d (chkB n)) 16777216 = some ((n : Int), leW X) ∧ r = 0 ∧ GW X ∧ X.contacts = [] ∧ X.tick = (n : Int))
def LoadOut (w : World) (fp : List Nat) (b : Nat) (d : Dsk) (r : Int) (X : Wld) (e : Ending) (w' : World) : Prop := ∃ bv jv kv L, e = .returned (.tuple #[vW X bv jv kv, .int .i64 r]) ∧ WlP w' bv jv kv L X ∧ (∀ S : List Nat, (∀ x ∈ S, x < w.heap.size) → Apart S bv jv kv L X) ∧ Dk w' fp b (opD d) ∧ Chg [b] w w'
theorem WZ_parts (w : World) : WlP w (.slice none 0 0) (.slice none 0 0) (.slice none 0 0) [] WZ :=
  ⟨⟨Rd.ofOwn (e := 97) (base := 0) (World.ownsRow_nil _ _ _ _), by simp⟩, rfl, Rd.ofOwn (e := 101) (base := 0) (World.ownsRow_nil _ _ _ _), Rd.ofOwn (e := 104) (base := 0) (World.ownsRow_nil _ _ _ _)⟩
theorem WZ_apart (S : List Nat) : Apart S (.slice none 0 0) (.slice none 0 0) (.slice none 0 0) [] WZ := ⟨by simp, by simp [WZ], by simp [WZ], by simp⟩
set_option maxRecDepth 100000 in
set_option maxHeartbeats 8000000 in
theorem Load_any {w : World} {fp : List Nat} {b : Nat} {d : Dsk} (h : Dk w fp b d) (n : Nat) (hn : n ≤ 4611686018427387904) (hops : d.ops < 1073741824) (hlen : (bytesD d (chkB n)).length ≤ 140737488354000) (r : Int) (X : Wld) (hi : LoadIs d n r X) :
    Calls Tryz.prog 17 #[.pointer (some ⟨b, 0, none⟩), .int .i64 (n : Int)] w (LoadOut w fp b d r X) := by
  obtain ⟨P, hP⟩ : ∃ P : Ending → World → Prop, P = LoadOut w fp b d r X := ⟨_, rfl⟩
  rw [← hP]
  have HP := hd hP
  clear hP
  have hb : b ∈ fp := by obtain ⟨_, _, _, _, _, hh⟩ := h; exact hh.fpb
  have hbl := h.fpl b hb
  have hk0 := Blk.new w #[.int .i64 0, .int .i64 0, .int .i64 0, .int .i64 0, .int .i64 0, .slice none 0 0, .slice none 0 0, .slice none 0 0] 32
  have hc0 := (Chg.refl [] w).alloc (.cells #[.int .i64 0, .int .i64 0, .int .i64 0, .int .i64 0, .int .i64 0, .slice none 0 0, .slice none 0 0, .slice none 0 0] 32)
  obtain ⟨kb, hkb⟩ : ∃ kb, kb = w.heap.size := ⟨_, rfl⟩
  go_enter Tryz.func17, Tryz.ntmps17
  go_upto_region 1 with (fail)
  generalize w.alloc (.cells #[.int .i64 0, .int .i64 0, .int .i64 0, .int .i64 0, .int .i64 0, .slice none 0 0, .slice none 0 0, .slice none 0 0] 32) = w0 at *
  rw [← hkb] at hk0 ⊢
  have HKB : Hd (kb = w.heap.size ∧ b < w.heap.size) := hd ⟨hkb, hbl⟩
  have HD := hd h
  have HFL := hd h.fpl
  have HK0 := hd hk0
  have HC0 := hd hc0
  clear h hk0 hc0 hb hbl hkb
  go_upto_region 2 with (first
    | (go_at_call 13; refine (Check_any _ n hn).mono ?_; rintro e w1 ⟨rfl, h1⟩; have hrd := Read_any (HD.out.k (HC0.out.k h1)) (chkB n) (by rw [chk_length]; decide) hops)
    | (go_at_call 14; refine hrd.mono ?_; rintro e w2 ⟨ao, m, c, rfl, ho, hD2, h2⟩))
  have HX2 := hd ((HC0.out.k h1).mono (S' := [b]) (by simp) |>.trans h2 (fun x hx _ => hx))
  have HK2 := hd ((HK0.out.k h1).chg h2 (by have := HKB.out; simp; omega))
  have HD2 := hd hD2
  clear h1 h2 hrd hD2
  rcases hi with ⟨h1, rfl, rfl⟩ | ⟨h1, h2, rfl, rfl⟩ | ⟨h1, h2, rfl, hg, hcn, htk⟩
  · have hz : (syncE d (chkB n) == 0) = false := by rw [beq_eq_false_iff_ne]; exact h1
    rw [if_neg h1] at ho
    clear h1 ho
    generalize syncE d (chkB n) = E at *
    have k2 := HK2.out
    have hs := Chg.row (Chg.refl [kb] w2) kb #[.int .i64 0, .int .i64 0, .int .i64 0, .int .i64 0, .int .i64 0, .slice none 0 0, .slice none 0 0, .slice none 0 0] (by simp)
    have hY := k2.row (cs' := #[.int .i64 0, .int .i64 0, .int .i64 0, .int .i64 0, .int .i64 0, .slice none 0 0, .slice none 0 0, .slice none 0 0])
    have HDL := hd (HD2.out)
    have HXL := hd (HX2.out)
    go_wp2_with (first
      | (refine wpList_load_row rfl _ _ rfl kb rfl 32 _ (0, 0) _ hY Tryz.underlying32 rfl (by kernel_rfl) ?_)
      | (refine wpList_store_row rfl _ _ _ rfl kb #[.int .i64 0, .int .i64 0, .int .i64 0, .int .i64 0, .int .i64 0, .slice none 0 0, .slice none 0 0, .slice none 0 0] rfl rfl 32 _ k2 (by kernel_rfl) (by simp) (by simp [Value.oneCell']) ?_))
    have r0 := hY.cell 0
    have r1 := hY.cell 1
    have r2 := hY.cell 2
    have r3 := hY.cell 3
    have r4 := hY.cell 4
    have r5 := hY.cell 5
    have r6 := hY.cell 6
    have r7 := hY.cell 7
    simp at r0 r1 r2 r3 r4 r5 r6 r7
    refine bodyPost_ret (v := .tuple #[.agg #[.int .i64 0, .int .i64 0, .int .i64 0, .int .i64 0, .int .i64 0, .slice none 0 0, .slice none 0 0, .slice none 0 0], .int .i64 E]) ?_ rfl ?_
    · simp only [results]
      go_simp
    · rw [HP.out]
      exact ⟨_, _, _, [], rfl, WZ_parts _, fun S _ => WZ_apart S, HDL.out.chg hs (fun x hx hm => by have := HFL.out x hx; have := HKB.out; simp at hm; omega), HXL.out.trans hs (fun x hx hl => by have := HKB.out; simp at hx; omega)⟩
  · rw [if_pos h1] at ho
    rw [h1]
    clear h1
    have hone := One_any (.slice ao m c) _ 16777216 w2 ho.bs hlen
    generalize bytesD d (chkB n) = B at *
    clear ho hlen
    rcases hq : oneB B 16777216 with _ | ⟨no, p⟩
    · rw [hq] at hone
      clear hq h2
      go_upto_region 5 with (go_at_call 44; refine hone.mono ?_; rintro e w3 ⟨rfl, h3⟩)
      have HK4 := hd ((HK2.out.k h3).alloc (.cells #[.int .i64 0, .slice none 0 0] 88))
      have HC4 := hd (((Chg.refl [] w3).alloc (.cells #[.int .i64 0, .slice none 0 0] 88)))
      have HN3 := Blk.new w3 #[.int .i64 0, .slice none 0 0] 88
      have HH3 := hd h3
      clear h3 hone
      generalize w3.alloc (.cells #[.int .i64 0, .slice none 0 0] 88) = w4 at *
      obtain ⟨rb, hrb⟩ : ∃ rb, rb = w3.heap.size := ⟨_, rfl⟩
      rw [← hrb] at HN3 ⊢
      clear hrb
      have n0 := HN3.cell 0
      simp at n0
      have k2 := HK4.out
      have hs := Chg.row (Chg.refl [kb] w4) kb #[.int .i64 0, .int .i64 0, .int .i64 0, .int .i64 0, .int .i64 0, .slice none 0 0, .slice none 0 0, .slice none 0 0] (by simp)
      have hY := k2.row (cs' := #[.int .i64 0, .int .i64 0, .int .i64 0, .int .i64 0, .int .i64 0, .slice none 0 0, .slice none 0 0, .slice none 0 0])
      have HDL := hd ((HD2.out.k HH3.out).k HC4.out)
      have HXL := hd ((HX2.out.k' HH3.out).k' HC4.out)
      go_wp2_with (first
        | (refine wpList_load_row rfl _ _ rfl kb rfl 32 _ (0, 0) _ hY Tryz.underlying32 rfl (by kernel_rfl) ?_)
        | (refine wpList_store_row rfl _ _ _ rfl kb #[.int .i64 0, .int .i64 0, .int .i64 0, .int .i64 0, .int .i64 0, .slice none 0 0, .slice none 0 0, .slice none 0 0] rfl rfl 32 _ k2 (by kernel_rfl) (by simp) (by simp [Value.oneCell']) ?_))
      have r0 := hY.cell 0
      have r1 := hY.cell 1
      have r2 := hY.cell 2
      have r3 := hY.cell 3
      have r4 := hY.cell 4
      have r5 := hY.cell 5
      have r6 := hY.cell 6
      have r7 := hY.cell 7
      simp at r0 r1 r2 r3 r4 r5 r6 r7
      refine bodyPost_ret (v := .tuple #[.agg #[.int .i64 0, .int .i64 0, .int .i64 0, .int .i64 0, .int .i64 0, .slice none 0 0, .slice none 0 0, .slice none 0 0], .int .i64 9]) ?_ rfl ?_
      · simp only [results]
        go_simp
      · rw [HP.out]
        exact ⟨_, _, _, [], rfl, WZ_parts _, fun S _ => WZ_apart S, HDL.out.chg hs (fun x hx hm => by have := HFL.out x hx; have := HKB.out; simp at hm; omega), HXL.out.trans hs (fun x hx hl => by have := HKB.out; simp at hx; omega)⟩
    · rw [hq] at hone
      have hno : no ≠ (n : Int) := fun hh => h2 p (by rw [hq, hh])
      have hno' : (no == (n : Int)) = false := by rw [beq_eq_false_iff_ne]; exact hno
      clear hq h2
      go_upto_region 5 with (go_at_call 44; refine hone.mono ?_; rintro e w3 ⟨ao3, c3, rfl, hbs, h3⟩)
      have HK4 := hd ((HK2.out.k h3).alloc (.cells #[.int .i64 no, .slice ao3 p.length c3] 88))
      have HC4 := hd (((Chg.refl [] w3).alloc (.cells #[.int .i64 no, .slice ao3 p.length c3] 88)))
      have HN3 := Blk.new w3 #[.int .i64 no, .slice ao3 p.length c3] 88
      have HH3 := hd h3
      clear h3 hone hbs
      generalize w3.alloc (.cells #[.int .i64 no, .slice ao3 p.length c3] 88) = w4 at *
      obtain ⟨rb, hrb⟩ : ∃ rb, rb = w3.heap.size := ⟨_, rfl⟩
      rw [← hrb] at HN3 ⊢
      clear hrb
      have n0 := HN3.cell 0
      simp at n0
      have k2 := HK4.out
      have hs := Chg.row (Chg.refl [kb] w4) kb #[.int .i64 0, .int .i64 0, .int .i64 0, .int .i64 0, .int .i64 0, .slice none 0 0, .slice none 0 0, .slice none 0 0] (by simp)
      have hY := k2.row (cs' := #[.int .i64 0, .int .i64 0, .int .i64 0, .int .i64 0, .int .i64 0, .slice none 0 0, .slice none 0 0, .slice none 0 0])
      have HDL := hd ((HD2.out.k HH3.out).k HC4.out)
      have HXL := hd ((HX2.out.k' HH3.out).k' HC4.out)
      go_wp2_with (first
        | (refine wpList_load_row rfl _ _ rfl kb rfl 32 _ (0, 0) _ hY Tryz.underlying32 rfl (by kernel_rfl) ?_)
        | (refine wpList_store_row rfl _ _ _ rfl kb #[.int .i64 0, .int .i64 0, .int .i64 0, .int .i64 0, .int .i64 0, .slice none 0 0, .slice none 0 0, .slice none 0 0] rfl rfl 32 _ k2 (by kernel_rfl) (by simp) (by simp [Value.oneCell']) ?_))
      have r0 := hY.cell 0
      have r1 := hY.cell 1
      have r2 := hY.cell 2
      have r3 := hY.cell 3
      have r4 := hY.cell 4
      have r5 := hY.cell 5
      have r6 := hY.cell 6
      have r7 := hY.cell 7
      simp at r0 r1 r2 r3 r4 r5 r6 r7
      refine bodyPost_ret (v := .tuple #[.agg #[.int .i64 0, .int .i64 0, .int .i64 0, .int .i64 0, .int .i64 0, .slice none 0 0, .slice none 0 0, .slice none 0 0], .int .i64 9]) ?_ rfl ?_
      · simp only [results]
        go_simp
      · rw [HP.out]
        exact ⟨_, _, _, [], rfl, WZ_parts _, fun S _ => WZ_apart S, HDL.out.chg hs (fun x hx hm => by have := HFL.out x hx; have := HKB.out; simp at hm; omega), HXL.out.trans hs (fun x hx hl => by have := HKB.out; simp at hx; omega)⟩
  · rw [if_pos h1] at ho
    rw [h1]
    clear h1
    have hone := One_any (.slice ao m c) _ 16777216 w2 ho.bs hlen
    rw [h2] at hone
    clear h2 ho hlen
    have HTK := hd htk
    have hRW := fun W v hv => ReadW_any W v X hv hg hcn
    clear hg hcn
    generalize leW X = LW at *
    go_upto_region 5 with (go_at_call 44; refine hone.mono ?_; rintro e w3 ⟨ao3, c3, rfl, hbs, h3⟩)
    have HK4 := hd ((HK2.out.k h3).alloc (.cells #[.int .i64 n, .slice ao3 LW.length c3] 88))
    have HC4 := hd (((Chg.refl [] w3).alloc (.cells #[.int .i64 n, .slice ao3 LW.length c3] 88)))
    have HN3 := Blk.new w3 #[.int .i64 n, .slice ao3 LW.length c3] 88
    have HH3 := hd h3
    have hRd := hRW _ _ (hbs.alloc (.cells #[.int .i64 n, .slice ao3 LW.length c3] 88))
    clear h3 hone hbs hRW
    generalize w3.alloc (.cells #[.int .i64 n, .slice ao3 LW.length c3] 88) = w4 at *
    obtain ⟨rb, hrb⟩ : ∃ rb, rb = w3.heap.size := ⟨_, rfl⟩
    rw [← hrb] at HN3 ⊢
    clear hrb
    have n0 := HN3.cell 0
    have n1 := HN3.cell 1
    simp at n0 n1
    go_upto_region 8 with (go_at_call 45; refine hRd.mono ?_; rintro e w5 ⟨bv5, jv5, kv5, L5, rfl, hx6, hap, h5⟩; obtain ⟨a6, c6, rfl, -, -⟩ := Rd.form (by decide) hx6.b.rd; obtain ⟨a7, c7, rfl, -, -⟩ := Rd.form (by decide) hx6.j; obtain ⟨a8, c8, rfl, -, -⟩ := Rd.form (by decide) hx6.c; unfold vW; rw [htk]; go_simp)
    have HK6 := hd ((HK4.out.k h5).alloc (.cells #[.int .i64 (n : Int), .int .i64 X.nb, .int .i64 X.nj, .int .i64 X.grav.1, .int .i64 X.grav.2, .slice a6 L5.length c6, .slice a7 X.joints.length c7, .slice a8 X.contacts.length c8] 32))
    have HC6 := hd ((h5).k ((Chg.refl [] w5).alloc (.cells #[.int .i64 (n : Int), .int .i64 X.nb, .int .i64 X.nj, .int .i64 X.grav.1, .int .i64 X.grav.2, .slice a6 L5.length c6, .slice a7 X.joints.length c7, .slice a8 X.contacts.length c8] 32)))
    have HN6 := Blk.new w5 #[.int .i64 (n : Int), .int .i64 X.nb, .int .i64 X.nj, .int .i64 X.grav.1, .int .i64 X.grav.2, .slice a6 L5.length c6, .slice a7 X.joints.length c7, .slice a8 X.contacts.length c8] 32
    have HX6 := hd (hx6.k ((Chg.refl [] w5).alloc (.cells #[.int .i64 (n : Int), .int .i64 X.nb, .int .i64 X.nj, .int .i64 X.grav.1, .int .i64 X.grav.2, .slice a6 L5.length c6, .slice a7 X.joints.length c7, .slice a8 X.contacts.length c8] 32)))
    have HKR := hd (show kb < w5.heap.size from Nat.lt_of_lt_of_le HK4.out.lt h5.size)
    have HAL := hd (show ∀ S : List Nat, (∀ x ∈ S, x < w.heap.size) → Apart S _ _ _ L5 X from fun S hS => hap S (fun x hx => by have := hS x hx; have := HX2.out.size; have := HH3.out.size; have := HC4.out.size; omega))
    have HAP := hd (hap [kb] (fun x hx => by simp at hx; subst hx; exact HK4.out.lt))
    clear h5 hx6 hRd hap
    generalize w5.alloc (.cells #[.int .i64 (n : Int), .int .i64 X.nb, .int .i64 X.nj, .int .i64 X.grav.1, .int .i64 X.grav.2, .slice a6 L5.length c6, .slice a7 X.joints.length c7, .slice a8 X.contacts.length c8] 32) = w6 at *
    obtain ⟨sb, hsb⟩ : ∃ sb, sb = w5.heap.size := ⟨_, rfl⟩
    rw [← hsb] at HN6 HKR ⊢
    clear hsb
    have m0 := HN6.cell 0
    simp at m0
    have k2 := HK6.out
    have hs := Chg.row (Chg.refl [kb] w6) kb #[.int .i64 (n : Int), .int .i64 X.nb, .int .i64 X.nj, .int .i64 X.grav.1, .int .i64 X.grav.2, .slice a6 L5.length c6, .slice a7 X.joints.length c7, .slice a8 X.contacts.length c8] (by simp)
    have hY := k2.row (cs' := #[.int .i64 (n : Int), .int .i64 X.nb, .int .i64 X.nj, .int .i64 X.grav.1, .int .i64 X.grav.2, .slice a6 L5.length c6, .slice a7 X.joints.length c7, .slice a8 X.contacts.length c8])
    have HDL := hd (((HD2.out.k HH3.out).k HC4.out).k HC6.out)
    have HXL := hd (((HX2.out.k' HH3.out).k' HC4.out).k' HC6.out)
    have hN6 := HN6
    go_wp2_with (first
      | (refine wpList_load_row rfl _ _ rfl kb rfl 32 _ (0, 0) _ hY Tryz.underlying32 rfl (by kernel_rfl) ?_)
      | (refine wpList_load_row rfl _ _ rfl sb rfl 32 _ (0, 0) _ hN6 Tryz.underlying32 rfl (by kernel_rfl) ?_)
      | (refine wpList_store_row rfl _ _ _ rfl kb #[.int .i64 (n : Int), .int .i64 X.nb, .int .i64 X.nj, .int .i64 X.grav.1, .int .i64 X.grav.2, .slice a6 L5.length c6, .slice a7 X.joints.length c7, .slice a8 X.contacts.length c8] rfl rfl 32 _ k2 (by kernel_rfl) (by simp) (by simp [Value.oneCell']) ?_))
    have r0 := hY.cell 0
    have r1 := hY.cell 1
    have r2 := hY.cell 2
    have r3 := hY.cell 3
    have r4 := hY.cell 4
    have r5 := hY.cell 5
    have r6 := hY.cell 6
    have r7 := hY.cell 7
    simp at r0 r1 r2 r3 r4 r5 r6 r7
    refine bodyPost_ret (v := .tuple #[.agg #[.int .i64 (n : Int), .int .i64 X.nb, .int .i64 X.nj, .int .i64 X.grav.1, .int .i64 X.grav.2, .slice a6 L5.length c6, .slice a7 X.joints.length c7, .slice a8 X.contacts.length c8], .int .i64 0]) ?_ rfl ?_
    · simp only [results]
      go_simp
    · rw [HP.out]
      exact ⟨_, _, _, L5, by unfold vW; rw [HTK.out], HX6.out.chg hs HAP.out, HAL.out, HDL.out.chg hs (fun x hx hm => by have := HFL.out x hx; have := HKB.out; simp at hm; omega), HXL.out.trans hs (fun x hx hl => by have := HKB.out; simp at hx; omega)⟩
end Go.Proofs.YtbiadpkglcdihaaGreat
