/- Words and walks that SF rests on: ReadW, FrameN, FrameMath, FrameOne. -/
import Derived.Test.YtbiadpkglcdihaaGreatWSF13
import Derived.Test.YtbiadpkglcdihaaGreatWSF15
import Derived.Test.YtbiadpkglcdihaaGreatWSF12
import Derived.Deep.Cut
import Derived.Test.YtbiadpkglcdihaaGreatWSF1
import Derived.Test.YtbiadpkglcdihaaGreatWSF2
import Derived.OrdersHeld
import Derived.Deep.RegionHeld
/- codec.ReadWorld: a world's own bytes are read as it (worlds without contacts). -/
namespace Go.Proofs.YtbiadpkglcdihaaGreat
open Go.RowKit

section
attribute [local irreducible] numR plR shapeR countR
/-- A world's bytes, read piece by piece. -/
theorem leW_reads (X : Wld) (h : FitW X) : ∃ s1 s2 s3 s4 s5 s6 s7 s8 s9 s10 : St, numR 8 (leW X, false) = (X.tick, s1) ∧ numR 8 s1 = (X.nb, s2) ∧ numR 8 s2 = (X.nj, s3) ∧ plR s3 = (X.grav, s4) ∧ countR 1024 s4 = ((X.bodies.length : Int), s5) ∧ sevR bdyR X.bodies.length s5 = (X.bodies, s6) ∧
    countR 1024 s6 = ((X.joints.length : Int), s7) ∧ sevR jntR X.joints.length s7 = (X.joints, s8) ∧ numR 4 s8 = ((X.contacts.length : Int), s9) ∧ sevR cntR X.contacts.length s9 = (X.contacts, s10) ∧ s10 = ([], false) := by
  obtain ⟨tk, nb, nj, ⟨gx, gy⟩, bs, js, cs⟩ := X
  have e : leW ⟨tk, nb, nj, (gx, gy), bs, js, cs⟩ = leB 8 tk ++ (leB 8 nb ++ (leB 8 nj ++ (leB 8 gx ++ (leB 8 gy ++ (leB 2 (bs.length : Int) ++ (bs.flatMap leBd ++ (leB 2 (js.length : Int) ++ (js.flatMap leJt ++ (leB 4 (cs.length : Int) ++ (cs.flatMap leCt ++ [])))))))))) := by
    simp [leW, leW3, leW2, leW1, leW0, leF, fV]
  rw [e]
  have hb := h.bl
  have hj := h.jl
  have hc := h.cl
  simp only at hb hj hc
  exact ⟨_, _, _, _, _, _, _, _, _, _, num8 tk h.tick _, num8 nb h.nb _, num8 nj h.nj _, pl8 (gx, gy) h.grav _, count2 1024 bs.length (by omega) (by omega) _, sevR_fwd bdyR leBd bs (fun x hx r => bdyR_fwd x (h.b x hx) r) _,
    count2 1024 js.length (by omega) (by omega) _, sevR_fwd jntR leJt js (fun x hx r => jntR_fwd x (h.j x hx) r) _, num4 cs.length hc _, sevR_fwd cntR leCt cs (fun x hx r => cntR_fwd x (h.c x hx) r) _, rfl⟩
end
def ReadOutW (w : World) (X : Wld) (e : Ending) (w' : World) : Prop := ∃ bv jv kv L, e = .returned (.tuple #[vW X bv jv kv, .int .i64 0]) ∧ WlP w' bv jv kv L X ∧ (∀ S : List Nat, (∀ x ∈ S, x < w.heap.size) → Apart S bv jv kv L X) ∧ Chg [] w w'
set_option maxRecDepth 100000 in
set_option maxHeartbeats 8000000 in
theorem ReadW_any (w : World) (v : Value) (X : Wld) (hv : Bs w v (leW X)) (hg : GW X) (hc0 : X.contacts = []) :
    Calls Tryz.prog 45 #[v] w (ReadOutW w X) := by
  obtain ⟨base, hbase⟩ : ∃ base, base = w.heap.size + 1 + 1 := ⟨_, rfl⟩
  obtain ⟨b, hbe⟩ : ∃ b, b = w.heap.size + 1 := ⟨_, rfl⟩
  obtain ⟨s1, s2, s3, s4, s5, s6, s7, s8, s9, s10, e1, e2, e3, e4, e5, e6, e7, e8, e9, e10, e11⟩ := leW_reads X hg.fit
  obtain ⟨P, hP⟩ : ∃ P : Ending → World → Prop, P = ReadOutW w X := ⟨_, rfl⟩
  rw [← hP]
  have HP := hd hP
  clear hP
  have hRight := fun W bv jv kv L (h : WlP W bv jv kv L X) => RightE_any W bv jv kv L X h hg hc0
  obtain ⟨s0, hs0⟩ : ∃ s0, s0 = (leW X, false) := ⟨_, rfl⟩
  rw [← hs0] at e1
  have N0 := fun W (h : RdB base W b s0) => NumB_any 8 base b s0 W h (by omega)
  have N1 := fun W (h : RdB base W b s1) => NumB_any 8 base b s1 W h (by omega)
  have N2 := fun W (h : RdB base W b s2) => NumB_any 8 base b s2 W h (by omega)
  have N3 := fun W (h : RdB base W b s3) (hb : base ≤ W.heap.size) => VB_any base b s3 W h hb
  have N4 := fun W (h : RdB base W b s4) => CountB_any 1024 base b s4 W h
  have M4 := fun W (h : RdB base W b s5) (hb : base ≤ W.heap.size) => SeveralB_any base b X.bodies.length s5 W h hb (by have := hg.fit.bl; omega)
  have N5 := fun W (h : RdB base W b s6) => CountB_any 1024 base b s6 W h
  have M5 := fun W (h : RdB base W b s7) (hb : base ≤ W.heap.size) => SeveralJ_any base b X.joints.length s7 W h hb (by have := hg.fit.jl; omega)
  have N6 := fun W (h : RdB base W b s8) => NumB_any 4 base b s8 W h (by omega)
  have M6 := fun W (h : RdB base W b s9) (hb : base ≤ W.heap.size) => SeveralC_any base b X.contacts.length s9 W h hb (by have := hg.fit.cl; omega)
  have N7 := fun W (h : RdB base W b s10) => DoneB_any base b s10 W h
  rw [e1] at N0; rw [e2] at N1; rw [e3] at N2; rw [e4] at N3; rw [e5] at N4; rw [e6] at M4; rw [e7] at N5; rw [e8] at M5; rw [e9] at N6; rw [e10] at M6; rw [e11] at N7 M6
  clear e1 e2 e3 e4 e5 e6 e7 e8 e9 e10 e11
  generalize leW X = l0 at *
  obtain ⟨tk, nb, nj, ⟨gx, gy⟩, bs, js, ks⟩ := X
  clear hc0
  simp only at N0 N1 N2 N3 N4 M4 N5 M5 N6 M6
  unfold vV at N3
  simp only at N3
  clear hg
  have HBE := hd hbe
  have HBS := hd hbase
  have HZ0 := hd hs0
  clear hbe hbase hs0
  obtain ⟨ao, cap, b0, off, rfl, -⟩ := hv.open
  have hca := (Chg.refl [] w).alloc (.cells #[.int .i64 0, .int .i64 0, .int .i64 0, .int .i64 0, .int .i64 0, .slice none 0 0, .slice none 0 0, .slice none 0 0] 32)
  have hk2 := Blk.new w #[.int .i64 0, .int .i64 0, .int .i64 0, .int .i64 0, .int .i64 0, .slice none 0 0, .slice none 0 0, .slice none 0 0] 32
  have hv2 := hv.alloc (.cells #[.int .i64 0, .int .i64 0, .int .i64 0, .int .i64 0, .int .i64 0, .slice none 0 0, .slice none 0 0, .slice none 0 0] 32)
  clear hv
  go_enter Tryz.func45, Tryz.ntmps45
  go_upto_region 1 with (fail)
  have hsz : (w.alloc (.cells #[.int .i64 0, .int .i64 0, .int .i64 0, .int .i64 0, .int .i64 0, .slice none 0 0, .slice none 0 0, .slice none 0 0] 32)).heap.size = w.heap.size + 1 := by simp
  generalize w.alloc (.cells #[.int .i64 0, .int .i64 0, .int .i64 0, .int .i64 0, .int .i64 0, .slice none 0 0, .slice none 0 0, .slice none 0 0] 32) = w0 at *
  have hNew := NewB_any _ l0 w0 hv2
  rw [hsz, ← HBE.out, ← HZ0.out, show b + 1 = base by have := HBE.out; have := HBS.out; omega] at hNew
  have HSZ := hd hsz
  clear hsz
  go_upto_region 2 with (go_at_call 72; refine hNew.mono ?_; rintro e w1 ⟨rfl, hr1, hm1⟩)
  have hcC := (Chg.refl [] w1).alloc (.cells #[.pointer (some ⟨b, 0, none⟩)] 152)
  have hX := Blk.new w1 #[.pointer (some ⟨b, 0, none⟩)] 152
  have hR := hr1.k hcC
  have hK := (hk2.k hm1).k hcC
  have hM := (hca.k' hm1).k' hcC
  have hT1 : b + 1 ≤ w1.heap.size := hr1.down.lt
  generalize w1.alloc (.cells #[.pointer (some ⟨b, 0, none⟩)] 152) = w2 at *
  obtain ⟨rb, hrb⟩ : ∃ rb, rb = w1.heap.size := ⟨_, rfl⟩
  obtain ⟨kb, hkb⟩ : ∃ kb, kb = w.heap.size := ⟨_, rfl⟩
  rw [← hrb] at hX hT1 ⊢
  rw [← hkb] at hK ⊢
  have hbe := HBE.out
  have hbase := HBS.out
  have HT0 : Hd (b = kb + 1 ∧ base = b + 1 ∧ base ≤ rb ∧ kb = w.heap.size) := hd ⟨by omega, by omega, by omega, hkb⟩
  have hrlt := hX.lt
  have HW2 : Hd (base ≤ w2.heap.size) := hd (by omega)
  clear hr1 hm1 hcC hca hk2 hv2 hNew hbe hbase hrb hkb hT1 HBE HBS HZ0 HSZ
  go_cut [5] from 400 (fun t wx => ∃ tb, t = .pointer (some ⟨tb, 0, none⟩) ∧ Blk wx tb #[.int .i64 tk, .int .i64 nb, .int .i64 nj, .int .i64 0, .int .i64 0, .slice none 0 0, .slice none 0 0, .slice none 0 0] 32 ∧ w2.heap.size ≤ tb ∧ RdB base wx b s3 ∧ Chg [b] w2 wx)
  case first =>
    have Q0 := hd (show w2.cell? ⟨rb, 0, none⟩ = some (.pointer (some ⟨b, 0, none⟩)) from hX.cell 0)
    have NX : Hd (rb ∉ [b]) := hd (by have := HT0.out; simp; omega)
    have hR0 := hR
    clear hR
    have hR := hR0.k (Chg.refl [] w2).drew
    clear hR0 hRight
    refine rg (N := 12) (by kernel_rfl) (by kernel_rfl) (S := (fun wx => Chg [b] w2 wx)) ((Chg.refl _ _).drew) (fun hHeld => ?_)
    generalize w2.drew = w2d at *
    refine tks [0, 1, 3, 4, 6, 7] (by kernel_rfl) (fun _ _ _ _ _ h => h) (by assumption) ?_
    iterate 6 (refine tkc rfl rfl (by rfl) (fun wx hSw => by (try dsimp only at hSw); (have t0 := Chg.cellT hSw Q0.out NX.out); go_simp; (try with_reducible rfl)) ?_; simp only [List.set])
    refine tk0 ?_
    refine rn2 2 10 rfl rfl (by kernel_rfl) (by rfl) (by rfl) (fun KK hKK => ?ra0) (fun KK hKK => ?rb0)
    case' ra0 =>
      go_simp; (refine (N0 _ hR).mono ?_; rintro e wn2 ⟨rfl, hr, hm0⟩; have hm := Chg.trans hHeld hm0 (by simp); (try replace hT := hT.chg hm0 (by have := hTb; simp; omega)); replace hR := hr; clear hr hm0; (try go_simp)); refine hKK.out _ _ (by assumption) fun hHeld => ?_; clear hKK KK; try simp only [Act.put, List.setIfInBounds_toArray, List.set]
      refine rn2 5 10 rfl rfl (by kernel_rfl) (by rfl) (by rfl) (fun KK hKK => ?ra1) (fun KK hKK => ?rb1)
      case' ra1 =>
        go_simp; (refine (N1 _ hR).mono ?_; rintro e wn5 ⟨rfl, hr, hm0⟩; have hm := Chg.trans hHeld hm0 (by simp); (try replace hT := hT.chg hm0 (by have := hTb; simp; omega)); replace hR := hr; clear hr hm0; (try go_simp)); refine hKK.out _ _ (by assumption) fun hHeld => ?_; clear hKK KK; try simp only [Act.put, List.setIfInBounds_toArray, List.set]
        refine rn2 8 10 rfl rfl (by kernel_rfl) (by rfl) (by rfl) (fun KK hKK => ?ra2) (fun KK hKK => ?rb2)
        case' ra2 =>
          go_simp; (refine (N2 _ hR).mono ?_; rintro e wn8 ⟨rfl, hr, hm0⟩; have hm := Chg.trans hHeld hm0 (by simp); (try replace hT := hT.chg hm0 (by have := hTb; simp; omega)); replace hR := hr; clear hr hm0; (try go_simp)); refine hKK.out _ _ (by assumption) fun hHeld => ?_; clear hKK KK; try simp only [Act.put, List.setIfInBounds_toArray, List.set]
          refine tks [9] (by kernel_rfl) (fun _ _ _ _ _ h => h) (by assumption) ?_
          refine tkc rfl rfl (by rfl) (fun wx hSw => by (try dsimp only at hSw); (have t0 := Chg.cellT hSw Q0.out NX.out); go_simp; (try with_reducible rfl)) ?_; simp only [List.set]
          refine tk0 ?_
          refine rn 10 rfl (by kernel_rfl) (by rfl) fun KK hKK => ?_
          (obtain ⟨m1, hT, hTb⟩ := hR.lit #[.int .i64 0, .int .i64 0, .int .i64 0, .int .i64 0, .int .i64 0, .slice none 0 0, .slice none 0 0, .slice none 0 0] 32; have hT2 := hHeld.size; have hm := Chg.alloc hHeld (.cells #[.int .i64 0, .int .i64 0, .int .i64 0, .int .i64 0, .int .i64 0, .slice none 0 0, .slice none 0 0, .slice none 0 0] 32); replace hR := m1; clear m1; go_simp); refine hKK.out _ _ (by assumption) fun hHeld => ?_; clear hKK KK; try simp only [Act.put, List.setIfInBounds_toArray, List.set]
          refine rn 11 rfl (by kernel_rfl) (by rfl) fun KK hKK => ?_
          (refine wp_store_row 32 _ _ rfl _ #[.int .i64 tk, .int .i64 nb, .int .i64 nj, .int .i64 0, .int .i64 0, .slice none 0 0, .slice none 0 0, .slice none 0 0] rfl rfl 32 _ hT (by kernel_rfl) rfl (by kernel_rfl) ?_; obtain ⟨hS, hR9, hT9⟩ := RdB.rowed hR hT hHeld hT2 HW2.out #[.int .i64 tk, .int .i64 nb, .int .i64 nj, .int .i64 0, .int .i64 0, .slice none 0 0, .slice none 0 0, .slice none 0 0]; go_simp); refine hKK.out _ _ (by assumption) fun hHeld => ?_; clear hKK KK; try simp only [Act.put, List.setIfInBounds_toArray, List.set]
          refine wpAnyH_done (by kernel_rfl) ?_ _
          (go_wp2_with fail; go_meet; exact ⟨_, rfl, hT9, hT2, hR9, hHeld⟩)
        case' rb2 =>
          (obtain ⟨m1, hT, hTb⟩ := hR.lit #[.int .i64 0, .int .i64 0, .int .i64 0, .int .i64 0, .int .i64 0, .slice none 0 0, .slice none 0 0, .slice none 0 0] 32; have hT2 := hHeld.size; have hm := Chg.alloc hHeld (.cells #[.int .i64 0, .int .i64 0, .int .i64 0, .int .i64 0, .int .i64 0, .slice none 0 0, .slice none 0 0, .slice none 0 0] 32); replace hR := m1; clear m1; go_simp); refine hKK.out _ _ (by assumption) fun hHeld => ?_; clear hKK KK; try simp only [Act.put, List.setIfInBounds_toArray, List.set]
          refine rn 8 rfl (by kernel_rfl) (by rfl) fun KK hKK => ?_
          go_simp; (refine (N2 _ hR).mono ?_; rintro e wn8 ⟨rfl, hr, hm0⟩; have hm := Chg.trans hHeld hm0 (by simp); (try replace hT := hT.chg hm0 (by have := hTb; simp; omega)); replace hR := hr; clear hr hm0; (try go_simp)); refine hKK.out _ _ (by assumption) fun hHeld => ?_; clear hKK KK; try simp only [Act.put, List.setIfInBounds_toArray, List.set]
          refine rn 9 rfl (by kernel_rfl) (by rfl) fun KK hKK => ?_
          go_simp; refine hKK.out _ _ (by assumption) fun hHeld => ?_; clear hKK KK; try simp only [Act.put, List.setIfInBounds_toArray, List.set]
          refine rn 11 rfl (by kernel_rfl) (by rfl) fun KK hKK => ?_
          (refine wp_store_row 32 _ _ rfl _ #[.int .i64 tk, .int .i64 nb, .int .i64 nj, .int .i64 0, .int .i64 0, .slice none 0 0, .slice none 0 0, .slice none 0 0] rfl rfl 32 _ hT (by kernel_rfl) rfl (by kernel_rfl) ?_; obtain ⟨hS, hR9, hT9⟩ := RdB.rowed hR hT hHeld hT2 HW2.out #[.int .i64 tk, .int .i64 nb, .int .i64 nj, .int .i64 0, .int .i64 0, .slice none 0 0, .slice none 0 0, .slice none 0 0]; go_simp); refine hKK.out _ _ (by assumption) fun hHeld => ?_; clear hKK KK; try simp only [Act.put, List.setIfInBounds_toArray, List.set]
          refine wpAnyH_done (by kernel_rfl) ?_ _
          (go_wp2_with fail; go_meet; exact ⟨_, rfl, hT9, hT2, hR9, hHeld⟩)
      case' rb1 =>
        (obtain ⟨m1, hT, hTb⟩ := hR.lit #[.int .i64 0, .int .i64 0, .int .i64 0, .int .i64 0, .int .i64 0, .slice none 0 0, .slice none 0 0, .slice none 0 0] 32; have hT2 := hHeld.size; have hm := Chg.alloc hHeld (.cells #[.int .i64 0, .int .i64 0, .int .i64 0, .int .i64 0, .int .i64 0, .slice none 0 0, .slice none 0 0, .slice none 0 0] 32); replace hR := m1; clear m1; go_simp); refine hKK.out _ _ (by assumption) fun hHeld => ?_; clear hKK KK; try simp only [Act.put, List.setIfInBounds_toArray, List.set]
        refine rn 5 rfl (by kernel_rfl) (by rfl) fun KK hKK => ?_
        go_simp; (refine (N1 _ hR).mono ?_; rintro e wn5 ⟨rfl, hr, hm0⟩; have hm := Chg.trans hHeld hm0 (by simp); (try replace hT := hT.chg hm0 (by have := hTb; simp; omega)); replace hR := hr; clear hr hm0; (try go_simp)); refine hKK.out _ _ (by assumption) fun hHeld => ?_; clear hKK KK; try simp only [Act.put, List.setIfInBounds_toArray, List.set]
        refine rn 8 rfl (by kernel_rfl) (by rfl) fun KK hKK => ?_
        go_simp; (refine (N2 _ hR).mono ?_; rintro e wn8 ⟨rfl, hr, hm0⟩; have hm := Chg.trans hHeld hm0 (by simp); (try replace hT := hT.chg hm0 (by have := hTb; simp; omega)); replace hR := hr; clear hr hm0; (try go_simp)); refine hKK.out _ _ (by assumption) fun hHeld => ?_; clear hKK KK; try simp only [Act.put, List.setIfInBounds_toArray, List.set]
        refine rn 9 rfl (by kernel_rfl) (by rfl) fun KK hKK => ?_
        go_simp; refine hKK.out _ _ (by assumption) fun hHeld => ?_; clear hKK KK; try simp only [Act.put, List.setIfInBounds_toArray, List.set]
        refine rn 11 rfl (by kernel_rfl) (by rfl) fun KK hKK => ?_
        (refine wp_store_row 32 _ _ rfl _ #[.int .i64 tk, .int .i64 nb, .int .i64 nj, .int .i64 0, .int .i64 0, .slice none 0 0, .slice none 0 0, .slice none 0 0] rfl rfl 32 _ hT (by kernel_rfl) rfl (by kernel_rfl) ?_; obtain ⟨hS, hR9, hT9⟩ := RdB.rowed hR hT hHeld hT2 HW2.out #[.int .i64 tk, .int .i64 nb, .int .i64 nj, .int .i64 0, .int .i64 0, .slice none 0 0, .slice none 0 0, .slice none 0 0]; go_simp); refine hKK.out _ _ (by assumption) fun hHeld => ?_; clear hKK KK; try simp only [Act.put, List.setIfInBounds_toArray, List.set]
        refine wpAnyH_done (by kernel_rfl) ?_ _
        (go_wp2_with fail; go_meet; exact ⟨_, rfl, hT9, hT2, hR9, hHeld⟩)
    case' rb0 =>
      (obtain ⟨m1, hT, hTb⟩ := hR.lit #[.int .i64 0, .int .i64 0, .int .i64 0, .int .i64 0, .int .i64 0, .slice none 0 0, .slice none 0 0, .slice none 0 0] 32; have hT2 := hHeld.size; have hm := Chg.alloc hHeld (.cells #[.int .i64 0, .int .i64 0, .int .i64 0, .int .i64 0, .int .i64 0, .slice none 0 0, .slice none 0 0, .slice none 0 0] 32); replace hR := m1; clear m1; go_simp); refine hKK.out _ _ (by assumption) fun hHeld => ?_; clear hKK KK; try simp only [Act.put, List.setIfInBounds_toArray, List.set]
      refine rn 2 rfl (by kernel_rfl) (by rfl) fun KK hKK => ?_
      go_simp; (refine (N0 _ hR).mono ?_; rintro e wn2 ⟨rfl, hr, hm0⟩; have hm := Chg.trans hHeld hm0 (by simp); (try replace hT := hT.chg hm0 (by have := hTb; simp; omega)); replace hR := hr; clear hr hm0; (try go_simp)); refine hKK.out _ _ (by assumption) fun hHeld => ?_; clear hKK KK; try simp only [Act.put, List.setIfInBounds_toArray, List.set]
      refine rn 5 rfl (by kernel_rfl) (by rfl) fun KK hKK => ?_
      go_simp; (refine (N1 _ hR).mono ?_; rintro e wn5 ⟨rfl, hr, hm0⟩; have hm := Chg.trans hHeld hm0 (by simp); (try replace hT := hT.chg hm0 (by have := hTb; simp; omega)); replace hR := hr; clear hr hm0; (try go_simp)); refine hKK.out _ _ (by assumption) fun hHeld => ?_; clear hKK KK; try simp only [Act.put, List.setIfInBounds_toArray, List.set]
      refine rn 8 rfl (by kernel_rfl) (by rfl) fun KK hKK => ?_
      go_simp; (refine (N2 _ hR).mono ?_; rintro e wn8 ⟨rfl, hr, hm0⟩; have hm := Chg.trans hHeld hm0 (by simp); (try replace hT := hT.chg hm0 (by have := hTb; simp; omega)); replace hR := hr; clear hr hm0; (try go_simp)); refine hKK.out _ _ (by assumption) fun hHeld => ?_; clear hKK KK; try simp only [Act.put, List.setIfInBounds_toArray, List.set]
      refine rn 9 rfl (by kernel_rfl) (by rfl) fun KK hKK => ?_
      go_simp; refine hKK.out _ _ (by assumption) fun hHeld => ?_; clear hKK KK; try simp only [Act.put, List.setIfInBounds_toArray, List.set]
      refine rn 11 rfl (by kernel_rfl) (by rfl) fun KK hKK => ?_
      (refine wp_store_row 32 _ _ rfl _ #[.int .i64 tk, .int .i64 nb, .int .i64 nj, .int .i64 0, .int .i64 0, .slice none 0 0, .slice none 0 0, .slice none 0 0] rfl rfl 32 _ hT (by kernel_rfl) rfl (by kernel_rfl) ?_; obtain ⟨hS, hR9, hT9⟩ := RdB.rowed hR hT hHeld hT2 HW2.out #[.int .i64 tk, .int .i64 nb, .int .i64 nj, .int .i64 0, .int .i64 0, .slice none 0 0, .slice none 0 0, .slice none 0 0]; go_simp); refine hKK.out _ _ (by assumption) fun hHeld => ?_; clear hKK KK; try simp only [Act.put, List.setIfInBounds_toArray, List.set]
      refine wpAnyH_done (by kernel_rfl) ?_ _
      (go_wp2_with fail; go_meet; exact ⟨_, rfl, hT9, hT2, hR9, hHeld⟩)
  case rest =>
  obtain ⟨tb, rfl, hT, htb, hR2, hM2⟩ := hcut
  clear hR
  have hR := hR2
  clear hR2
  replace hX := hX.chg hM2 (by have := HT0.out; simp; omega)
  replace hK := hK.chg hM2 (by have := HT0.out; simp; omega)
  replace hM := hM.trans hM2 (fun x hx hl => by have := HT0.out; simp at hx; omega)
  have HT : Hd (b = kb + 1 ∧ base = b + 1 ∧ base ≤ rb ∧ rb < tb ∧ kb = w.heap.size) := hd (by have := HT0.out; omega)
  clear hM2 htb hrlt HT0
  have hc0' := hX.cell 0
  simp at hc0'
  go_upto_region 4 with (go_at_call 74; refine (N3 _ hR (by have := HT.out; have := hX.lt; omega)).mono ?_; rintro e w5 ⟨rfl, hr, hm0⟩; have hT5 := hT.chg hm0 (by have := HT.out; simp; omega); have c3 := hT5.cell 3; have c4 := hT5.cell 4; have f3 := hT5.free 3; have f4 := hT5.free 4; simp at c3 c4)
  have hs := ((Chg.refl [tb] w5).setCell ⟨tb, 3, none⟩ (.int .i64 gx) (by simp)).setCell ⟨tb, 4, none⟩ (.int .i64 gy) (by simp)
  have hR1 := hr.keep hs (by have := HT.out; simp; omega)
  have hT1 := (hT5.set 3 (.int .i64 gx)).set 4 (.int .i64 gy)
  simp at hT1
  have hX1 := (hX.chg hm0 (by have := HT.out; simp; omega)).chg hs (by have := HT.out; simp; omega)
  have hK1 := (hK.chg hm0 (by have := HT.out; simp; omega)).chg hs (by have := HT.out; simp; omega)
  have hM1 := (hM.trans hm0 (fun x hx hl => by have := HT.out; simp at hx; omega)).trans hs (fun x hx hl => by have := HT.out; simp at hx; omega)
  clear hR hT hX hK hM hs hm0 hT5 hr c3 c4 f3 f4 hc0'
  generalize (w5.setCell ⟨tb, 3, none⟩ (.int .i64 gx)).setCell ⟨tb, 4, none⟩ (.int .i64 gy) = wc4 at *
  have hR := hR1
  have hT := hT1
  have hX := hX1
  have hK := hK1
  have hM := hM1
  clear hR1 hT1 hX1 hK1 hM1
  have Q0 := hd (show wc4.cell? ⟨rb, 0, none⟩ = some (.pointer (some ⟨b, 0, none⟩)) from hX.cell 0)
  have NX : Hd (rb ∉ [b, tb]) := hd (by have := HT.out; simp; omega)
  have hR0 := hR
  have hT0 := hT
  clear hR hT
  have hR := hR0.k (Chg.refl [] wc4).drew
  have hT := hT0.k (Chg.refl [] wc4).drew
  clear hR0 hT0
  refine rg (N := 7) (by kernel_rfl) (by kernel_rfl) (S := (fun wx => Chg [b, tb] wc4 wx)) ((Chg.refl _ _).drew) (fun hHeld => ?_)
  generalize wc4.drew = wd4 at *
  refine tks [0, 1, 2] (by kernel_rfl) (fun _ _ _ _ _ h => h) (by assumption) ?_
  iterate 3 (refine tkc rfl rfl (by rfl) (fun wx hSw => by (try dsimp only at hSw); (have t0 := Chg.cellT hSw Q0.out NX.out); go_simp; (try with_reducible rfl)) ?_; simp only [List.set])
  refine tk0 ?_
  refine rn 3 rfl (by kernel_rfl) (by rfl) fun KK hKK => ?_
  go_simp; (refine (N4 _ hR).mono ?_; rintro e w3 ⟨rfl, hr, hm0⟩; have hm := Chg.trans hHeld hm0 (by simp); replace hT := hT.chg hm0 (by have := HT.out; simp; omega); replace hR := hr; clear hr hm0; (try go_simp)); refine hKK.out _ _ (by assumption) fun hHeld => ?_; clear hKK KK; try simp only [Act.put, List.setIfInBounds_toArray, List.set]
  refine rn 4 rfl (by kernel_rfl) (by rfl) fun KK hKK => ?_
  go_simp; (refine (M4 _ hR (by have := HT.out; have := hT.lt; omega)).mono ?_; rintro e w4 ⟨v4, L, rfl, hLm, hbs, hvo, hpo, hr, hm0⟩; obtain ⟨ab, cb, rfl, -, -⟩ := Rd.form (by decide) hbs.rd; have hm := Chg.trans hHeld hm0 (by simp); have hTlt := hT.lt; replace hT := hT.chg hm0 (by have := HT.out; simp; omega); replace hR := hr; have c5 := hT.cell 5; have f5 := hT.free 5; simp at c5; clear hr hm0; (try go_simp)); refine hKK.out _ _ (by assumption) fun hHeld => ?_; clear hKK KK; try simp only [Act.put, List.setIfInBounds_toArray, List.set]
  refine tks [5] (by kernel_rfl) (fun _ _ _ _ _ h => h) (by assumption) ?_
  refine tkc rfl rfl (by rfl) (fun wx hSw => by (try dsimp only at hSw); (have t0 := Chg.cellT hSw Q0.out NX.out); go_simp; (try with_reducible rfl)) ?_; simp only [List.set]
  refine tk0 ?_
  refine rn 6 rfl (by kernel_rfl) (by rfl) fun KK hKK => ?_
  go_simp; (have hS := Chg.setCell hHeld ⟨tb, 5, none⟩ (.slice ab L.length cb) (by simp)); refine hKK.out _ _ (by assumption) fun hHeld => ?_; clear hKK KK; try simp only [Act.put, List.setIfInBounds_toArray, List.set]
  refine wpAnyH_done (by kernel_rfl) ?_ _
  skip
  have hH9 := hm
  clear hm hHeld Q0 NX c5 f5
  have hs5 := (Chg.refl [tb] w4).setCell ⟨tb, 5, none⟩ (.slice ab L.length cb) (by simp)
  have hR1 := hR.keep hs5 (by have := HT.out; simp; omega)
  have hT1 := hT.set 5 (.slice ab L.length cb)
  simp at hT1
  have hX1 := (hX.chg hH9 (by have := HT.out; simp; omega)).chg hs5 (by have := HT.out; simp; omega)
  have hK1 := (hK.chg hH9 (by have := HT.out; simp; omega)).chg hs5 (by have := HT.out; simp; omega)
  have hM1 := (hM.trans hH9 (fun x hx hl => by have := HT.out; simp at hx; omega)).trans hs5 (fun x hx hl => by have := HT.out; simp at hx; omega)
  have hH10 := hH9.trans (S' := [tb]) hs5 (by simp)
  have HLM := hd hLm
  have HBO : Hd (∀ k, (Value.slice ab L.length cb).ownBlock = some k → k ∉ [b, tb, kb]) := hd (fun k hk hm => by have := hvo k hk; have := HT.out; simp at hm; omega)
  have HBL : Hd (∀ k, (Value.slice ab L.length cb).ownBlock = some k → w.heap.size ≤ k) := hd (fun k hk => by have := hvo k hk; have := HT.out; omega)
  have HPO : Hd (∀ x ∈ L, 0 < x.1.shape.p.length → ∀ k, x.2.ownBlock = some k → k ∉ [b, tb, kb]) := hd (fun x hx hn k hk hm => by have := hpo x hx hn k hk; have := HT.out; simp at hm; omega)
  have HPL : Hd (∀ x ∈ L, 0 < x.1.shape.p.length → ∀ k, x.2.ownBlock = some k → w.heap.size ≤ k) := hd (fun x hx hn k hk => by have := hpo x hx hn k hk; have := HT.out; omega)
  have HB := hd (hbs.chg (hs5.mono (S' := [b, tb]) (by simp)) (fun _ k hk hm => HBO.out k hk (by simp at hm ⊢; omega)) (fun x hx hn k hk hm => HPO.out x hx hn k hk (by simp at hm ⊢; omega)))
  clear hLm hbs hvo hpo
  clear hR hT hX hK hM hs5 hH9 hH10 hTlt
  generalize w4.setCell ⟨tb, 5, none⟩ (.slice ab L.length cb) = wc5 at *
  have hR := hR1
  have hT := hT1
  have hX := hX1
  have hK := hK1
  have hM := hM1
  clear hR1 hT1 hX1 hK1 hM1
  have Q0 := hd (show wc5.cell? ⟨rb, 0, none⟩ = some (.pointer (some ⟨b, 0, none⟩)) from hX.cell 0)
  have NX : Hd (rb ∉ [b, tb]) := hd (by have := HT.out; simp; omega)
  have hR0 := hR
  have hT0 := hT
  clear hR hT
  have hR := hR0.k (Chg.refl [] wc5).drew
  have hT := hT0.k (Chg.refl [] wc5).drew
  clear hR0 hT0
  go_upto_region 5 with (fail)
  refine rg (N := 7) (by kernel_rfl) (by kernel_rfl) (S := (fun wx => Chg [b, tb] wc5 wx)) ((Chg.refl _ _).drew) (fun hHeld => ?_)
  generalize wc5.drew = wd5 at *
  refine tks [0, 1, 2] (by kernel_rfl) (fun _ _ _ _ _ h => h) (by assumption) ?_
  iterate 3 (refine tkc rfl rfl (by rfl) (fun wx hSw => by (try dsimp only at hSw); (have t0 := Chg.cellT hSw Q0.out NX.out); go_simp; (try with_reducible rfl)) ?_; simp only [List.set])
  refine tk0 ?_
  refine rn 3 rfl (by kernel_rfl) (by rfl) fun KK hKK => ?_
  go_simp; (refine (N5 _ hR).mono ?_; rintro e w3 ⟨rfl, hr, hm0⟩; have hm := Chg.trans hHeld hm0 (by simp); replace hT := hT.chg hm0 (by have := HT.out; simp; omega); replace hR := hr; clear hr hm0; (try go_simp)); refine hKK.out _ _ (by assumption) fun hHeld => ?_; clear hKK KK; try simp only [Act.put, List.setIfInBounds_toArray, List.set]
  refine rn 4 rfl (by kernel_rfl) (by rfl) fun KK hKK => ?_
  go_simp; (refine (M5 _ hR (by have := HT.out; have := hT.lt; omega)).mono ?_; rintro e w4 ⟨v4, rfl, hjs, hr, hm0⟩; obtain ⟨aj, cj, rfl, -, -⟩ := Rd.form (enc := cJt) (l := js) (by decide) (Rd.ofOwn hjs); have hm := Chg.trans hHeld hm0 (by simp); have hTlt := hT.lt; replace hT := hT.chg hm0 (by have := HT.out; simp; omega); replace hR := hr; have c6 := hT.cell 6; have f6 := hT.free 6; simp at c6; clear hr hm0; (try go_simp)); refine hKK.out _ _ (by assumption) fun hHeld => ?_; clear hKK KK; try simp only [Act.put, List.setIfInBounds_toArray, List.set]
  refine tks [5] (by kernel_rfl) (fun _ _ _ _ _ h => h) (by assumption) ?_
  refine tkc rfl rfl (by rfl) (fun wx hSw => by (try dsimp only at hSw); (have t0 := Chg.cellT hSw Q0.out NX.out); go_simp; (try with_reducible rfl)) ?_; simp only [List.set]
  refine tk0 ?_
  refine rn 6 rfl (by kernel_rfl) (by rfl) fun KK hKK => ?_
  go_simp; (have hS := Chg.setCell hHeld ⟨tb, 6, none⟩ (.slice aj js.length cj) (by simp)); refine hKK.out _ _ (by assumption) fun hHeld => ?_; clear hKK KK; try simp only [Act.put, List.setIfInBounds_toArray, List.set]
  refine wpAnyH_done (by kernel_rfl) ?_ _
  skip
  have hH9 := hm
  clear hm hHeld Q0 NX c6 f6
  have hs5 := (Chg.refl [tb] w4).setCell ⟨tb, 6, none⟩ (.slice aj js.length cj) (by simp)
  have hR1 := hR.keep hs5 (by have := HT.out; simp; omega)
  have hT1 := hT.set 6 (.slice aj js.length cj)
  simp at hT1
  have hX1 := (hX.chg hH9 (by have := HT.out; simp; omega)).chg hs5 (by have := HT.out; simp; omega)
  have hK1 := (hK.chg hH9 (by have := HT.out; simp; omega)).chg hs5 (by have := HT.out; simp; omega)
  have hM1 := (hM.trans hH9 (fun x hx hl => by have := HT.out; simp at hx; omega)).trans hs5 (fun x hx hl => by have := HT.out; simp at hx; omega)
  have hH10 := hH9.trans (S' := [tb]) hs5 (by simp)
  have HB1 := hd (HB.out.chg hH10 (fun _ k hk hm => HBO.out k hk (by simp at hm ⊢; omega)) (fun x hx hn k hk hm => HPO.out x hx hn k hk (by simp at hm ⊢; omega)))
  have HJO : Hd (∀ k, (Value.slice aj js.length cj).ownBlock = some k → k ∉ [b, tb, kb]) := hd (fun k hk hm => by have := (World.ownsRow.lt hjs k hk).1; have := HT.out; simp at hm; omega)
  have HJL : Hd (∀ k, (Value.slice aj js.length cj).ownBlock = some k → w.heap.size ≤ k) := hd (fun k hk => by have := (World.ownsRow.lt hjs k hk).1; have := HT.out; omega)
  have HJ := hd (show JsS _ _ js from Rd.keep (Rd.ofOwn hjs) (hs5.mono (S' := [b, tb]) (by simp)) (fun _ k hk hm => HJO.out k hk (by simp at hm ⊢; omega)))
  clear hjs HB
  have HB := HB1
  clear HB1
  clear hR hT hX hK hM hs5 hH9 hH10 hTlt
  generalize w4.setCell ⟨tb, 6, none⟩ (.slice aj js.length cj) = wc6 at *
  have hR := hR1
  have hT := hT1
  have hX := hX1
  have hK := hK1
  have hM := hM1
  clear hR1 hT1 hX1 hK1 hM1
  have Q0 := hd (show wc6.cell? ⟨rb, 0, none⟩ = some (.pointer (some ⟨b, 0, none⟩)) from hX.cell 0)
  have NX : Hd (rb ∉ [b, tb]) := hd (by have := HT.out; simp; omega)
  have hR0 := hR
  have hT0 := hT
  clear hR hT
  have hR := hR0.k (Chg.refl [] wc6).drew
  have hT := hT0.k (Chg.refl [] wc6).drew
  clear hR0 hT0
  go_upto_region 6 with (fail)
  refine rg (N := 7) (by kernel_rfl) (by kernel_rfl) (S := (fun wx => Chg [b, tb] wc6 wx)) ((Chg.refl _ _).drew) (fun hHeld => ?_)
  generalize wc6.drew = wd6 at *
  refine tks [0, 1, 2] (by kernel_rfl) (fun _ _ _ _ _ h => h) (by assumption) ?_
  iterate 3 (refine tkc rfl rfl (by rfl) (fun wx hSw => by (try dsimp only at hSw); (have t0 := Chg.cellT hSw Q0.out NX.out); go_simp; (try with_reducible rfl)) ?_; simp only [List.set])
  refine tk0 ?_
  refine rn 3 rfl (by kernel_rfl) (by rfl) fun KK hKK => ?_
  go_simp; (refine (N6 _ hR).mono ?_; rintro e w3 ⟨rfl, hr, hm0⟩; have hm := Chg.trans hHeld hm0 (by simp); replace hT := hT.chg hm0 (by have := HT.out; simp; omega); replace hR := hr; clear hr hm0; (try go_simp)); refine hKK.out _ _ (by assumption) fun hHeld => ?_; clear hKK KK; try simp only [Act.put, List.setIfInBounds_toArray, List.set]
  refine rn 4 rfl (by kernel_rfl) (by rfl) fun KK hKK => ?_
  go_simp; (refine (M6 _ hR (by have := HT.out; have := hT.lt; omega)).mono ?_; rintro e w4 ⟨v4, rfl, hks, hr, hm0⟩; obtain ⟨ak, ck, rfl, -, -⟩ := Rd.form (enc := cCt) (l := ks) (by decide) (Rd.ofOwn hks); have hm := Chg.trans hHeld hm0 (by simp); have hTlt := hT.lt; replace hT := hT.chg hm0 (by have := HT.out; simp; omega); replace hR := hr; have c7 := hT.cell 7; have f7 := hT.free 7; simp at c7; clear hr hm0; (try go_simp)); refine hKK.out _ _ (by assumption) fun hHeld => ?_; clear hKK KK; try simp only [Act.put, List.setIfInBounds_toArray, List.set]
  refine tks [5] (by kernel_rfl) (fun _ _ _ _ _ h => h) (by assumption) ?_
  refine tkc rfl rfl (by rfl) (fun wx hSw => by (try dsimp only at hSw); (have t0 := Chg.cellT hSw Q0.out NX.out); go_simp; (try with_reducible rfl)) ?_; simp only [List.set]
  refine tk0 ?_
  refine rn 6 rfl (by kernel_rfl) (by rfl) fun KK hKK => ?_
  go_simp; (have hS := Chg.setCell hHeld ⟨tb, 7, none⟩ (.slice ak ks.length ck) (by simp)); refine hKK.out _ _ (by assumption) fun hHeld => ?_; clear hKK KK; try simp only [Act.put, List.setIfInBounds_toArray, List.set]
  refine wpAnyH_done (by kernel_rfl) ?_ _
  skip
  have hH9 := hm
  clear hm hHeld Q0 NX c7 f7
  have hs5 := (Chg.refl [tb] w4).setCell ⟨tb, 7, none⟩ (.slice ak ks.length ck) (by simp)
  have hR1 := hR.keep hs5 (by have := HT.out; simp; omega)
  have hT1 := hT.set 7 (.slice ak ks.length ck)
  simp at hT1
  have hX1 := (hX.chg hH9 (by have := HT.out; simp; omega)).chg hs5 (by have := HT.out; simp; omega)
  have hK1 := (hK.chg hH9 (by have := HT.out; simp; omega)).chg hs5 (by have := HT.out; simp; omega)
  have hM1 := (hM.trans hH9 (fun x hx hl => by have := HT.out; simp at hx; omega)).trans hs5 (fun x hx hl => by have := HT.out; simp at hx; omega)
  have hH10 := hH9.trans (S' := [tb]) hs5 (by simp)
  have HB1 := hd (HB.out.chg hH10 (fun _ k hk hm => HBO.out k hk (by simp at hm ⊢; omega)) (fun x hx hn k hk hm => HPO.out x hx hn k hk (by simp at hm ⊢; omega)))
  have HJ1 := hd (HJ.out.chg hH10 (fun _ k hk hm => HJO.out k hk (by simp at hm ⊢; omega)))
  have HKO : Hd (∀ k, (Value.slice ak ks.length ck).ownBlock = some k → k ∉ [b, tb, kb]) := hd (fun k hk hm => by have := (World.ownsRow.lt hks k hk).1; have := HT.out; simp at hm; omega)
  have HKL : Hd (∀ k, (Value.slice ak ks.length ck).ownBlock = some k → w.heap.size ≤ k) := hd (fun k hk => by have := (World.ownsRow.lt hks k hk).1; have := HT.out; omega)
  have HKK := hd (show CsS _ _ ks from Rd.keep (Rd.ofOwn hks) (hs5.mono (S' := [b, tb]) (by simp)) (fun _ k hk hm => HKO.out k hk (by simp at hm ⊢; omega)))
  clear hks HB HJ
  have HB := HB1
  have HJ := HJ1
  clear HB1 HJ1
  clear hR hT hX hK hM hs5 hH9 hH10 hTlt
  generalize w4.setCell ⟨tb, 7, none⟩ (.slice ak ks.length ck) = wc7 at *
  have hR := hR1
  have hT := hT1
  have hX := hX1
  have hK := hK1
  have hM := hM1
  clear hR1 hT1 hX1 hK1 hM1
  have hc0' := hX.cell 0
  simp at hc0'
  have hP7 : WlP wc7 (.slice ab L.length cb) (.slice aj js.length cj) (.slice ak ks.length ck) L ⟨tk, nb, nj, (gx, gy), bs, js, ks⟩ := ⟨HB.out, HLM.out, HJ.out, HKK.out⟩
  have hrt := hRight wc7 _ _ _ _ hP7
  unfold vW at hrt
  simp only at hrt
  have HP7 := hd hP7
  have HAP := hd (show Apart [kb] (.slice ab L.length cb) (.slice aj js.length cj) (.slice ak ks.length ck) L ⟨tk, nb, nj, (gx, gy), bs, js, ks⟩ from ⟨fun _ k hk hm => HBO.out k hk (by simp at hm ⊢; omega), fun _ k hk hm => HJO.out k hk (by simp at hm ⊢; omega), fun _ k hk hm => HKO.out k hk (by simp at hm ⊢; omega), fun x hx hn k hk hm => HPO.out x hx hn k hk (by simp at hm ⊢; omega)⟩)
  have HAL := hd (show ∀ S : List Nat, (∀ x ∈ S, x < w.heap.size) → Apart S (.slice ab L.length cb) (.slice aj js.length cj) (.slice ak ks.length ck) L ⟨tk, nb, nj, (gx, gy), bs, js, ks⟩ from fun S hS => ⟨fun _ k hk hm => Nat.not_lt.2 (HBL.out k hk) (hS k hm), fun _ k hk hm => Nat.not_lt.2 (HJL.out k hk) (hS k hm), fun _ k hk hm => Nat.not_lt.2 (HKL.out k hk) (hS k hm), fun x hx hn k hk hm => Nat.not_lt.2 (HPL.out x hx hn k hk) (hS k hm)⟩)
  have HKO2 := hd hK
  clear N0 N1 N2 N3 N4 M4 N5 M5 N6 M6 HB HJ HKK HBO HPO HJO HKO HBL HPL HJL HKL HLM hP7 hRight hK
  have N7' : ∀ W, RdB base W b ([], false) → Calls Tryz.prog 82 #[.pointer (some ⟨b, 0, none⟩)] W fun e w' => e = .returned (.bool true) ∧ W = w' := fun W h => by simpa using N7 W h
  clear N7
  go_upto_region 9 with (first
    | (go_at_call 82; refine (N7' _ hR).mono ?_; rintro e w8 ⟨rfl, rfl⟩)
    | (go_at_call 83; refine hrt.mono ?_; rintro e w9 ⟨rfl, h9⟩)
    | (refine wpList_load_rowW rfl _ _ rfl tb rfl 32 _ (0, 0) _ hT Tryz.underlying32 rfl (by kernel_rfl) ?_))
  have k5 := hT.k h9
  have kB5 := HKO2.out.k h9
  have hY := kB5.row (cs' := #[.int .i64 tk, .int .i64 nb, .int .i64 nj, .int .i64 gx, .int .i64 gy, .slice ab L.length cb, .slice aj js.length cj, .slice ak ks.length ck])
  have hs9 := Chg.row (Chg.refl [kb] w9) kb #[.int .i64 tk, .int .i64 nb, .int .i64 nj, .int .i64 gx, .int .i64 gy, .slice ab L.length cb, .slice aj js.length cj, .slice ak ks.length ck] (by simp)
  have HM9 := hd ((hM.k' h9).trans hs9 (fun x hx hl => by have := HT.out; simp at hx; omega))
  have HP9 := hd ((HP7.out.k h9).chg hs9 HAP.out)
  clear hX hM hR hrt N7' hc0'
  go_wp2_with (first
    | (refine wpList_load_row rfl _ _ rfl tb rfl 32 _ (0, 0) _ k5 Tryz.underlying32 rfl (by kernel_rfl) ?_)
    | (refine wpList_store_row rfl _ _ _ rfl kb #[.int .i64 tk, .int .i64 nb, .int .i64 nj, .int .i64 gx, .int .i64 gy, .slice ab L.length cb, .slice aj js.length cj, .slice ak ks.length ck] rfl rfl 32 _ kB5 (by kernel_rfl) (by simp) (by simp [Value.oneCell']) ?_))
  have r0 := hY.cell 0
  have r1 := hY.cell 1
  have r2 := hY.cell 2
  have r3 := hY.cell 3
  have r4 := hY.cell 4
  have r5 := hY.cell 5
  have r6 := hY.cell 6
  have r7 := hY.cell 7
  simp at r0 r1 r2 r3 r4 r5 r6 r7
  refine bodyPost_ret (v := .tuple #[vW ⟨tk, nb, nj, (gx, gy), bs, js, ks⟩ (.slice ab L.length cb) (.slice aj js.length cj) (.slice ak ks.length ck), .int .i64 0]) ?_ rfl ?_
  · unfold vW
    simp only [results]
    go_simp
  · rw [HP.out]
    exact ⟨_, _, _, L, rfl, HP9.out, HAL.out, HM9.out⟩
end Go.Proofs.YtbiadpkglcdihaaGreat

/- frame.Next. -/
namespace Go.Proofs.YtbiadpkglcdihaaGreat
open Go.RowKit

def openB (x : List UInt8) : Option (List UInt8) := if x = sealB (x.take (x.length - 4)) then some (x.take (x.length - 4)) else none
theorem openB_seal (l : List UInt8) : openB (sealB l) = some l := by
  have e : (sealB l).take ((sealB l).length - 4) = l := by rw [sealB_length]; simp [sealB]
  unfold openB; rw [e, if_pos rfl]
theorem openB_some {x l : List UInt8} (h : openB x = some l) : x = sealB l := by
  unfold openB at h
  split at h
  · rename_i hx; cases h; exact hx
  · cases h
theorem openB_none {x : List UInt8} (h : openB x = none) : ∀ l, x ≠ sealB l := by
  intro l e
  rw [e, openB_seal] at h
  cases h

/-- What Next finds at the front: number, body, how far. -/
def nextB (l : List UInt8) (most : Int) : Option (Int × List UInt8 × Nat) :=
  if l.length < 16 then none else
  match openB (l.take 16) with
  | none => none
  | some H =>
    if rdNum (H.take 4) > most ∨ rdNum ((H.drop 4).take 8) < 0 ∨ (l.length : Int) < 16 + rdNum (H.take 4) + 4 then none else
    match openB ((l.drop 16).take ((rdNum (H.take 4)).toNat + 4)) with
    | none => none
    | some p => some (rdNum ((H.drop 4).take 8), p, 16 + (rdNum (H.take 4)).toNat + 4)
def NextPost (w : World) (r : Option (Int × List UInt8 × Nat)) (e : Ending) (w' : World) : Prop :=
  match r with
  | none => e = .returned (.tuple #[.agg #[.int .i64 0, .slice none 0 0], .int .i64 0, .bool false]) ∧ Chg [] w w'
  | some (no, p, q) => ∃ ao c, e = .returned (.tuple #[.agg #[.int .i64 no, .slice ao p.length c], .int .i64 (q : Nat), .bool true]) ∧ OwB w' w.heap.size (.slice ao p.length c) p ∧ Chg [] w w'

theorem rdNum4 (l : List UInt8) (h : l.length ≤ 4) : 0 ≤ rdNum l ∧ rdNum l < 4294967296 := by
  have h1 := rdB_lo l
  have h2 := rdB_hi l
  unfold rdNum
  rcases (by omega : l.length = 0 ∨ l.length = 1 ∨ l.length = 2 ∨ l.length = 3 ∨ l.length = 4) with h | h | h | h | h <;> rw [h] at h2 <;> rw [IntWalk.wrap64_in _ (by omega)] <;> omega

set_option maxRecDepth 100000 in
set_option maxHeartbeats 2000000 in
theorem Next_any (v : Value) (l : List UInt8) (most : Int) (w : World) (hl : Bs w v l) (hlen : l.length ≤ 140737488354000) :
    Calls Tryz.prog 71 #[v, .int .i64 most] w (NextPost w (nextB l most)) := by
  obtain ⟨ao, cap, b, off, rfl, -⟩ := hl.open
  have hk := Blk.new w #[.int .i64 0, .slice none 0 0] 88
  have hc0 : Chg [] w (w.alloc (.cells #[.int .i64 0, .slice none 0 0] 88)) := (Chg.refl [] w).alloc _
  by_cases h16 : l.length < 16
  · have hn : nextB l most = none := by unfold nextB; rw [if_pos h16]
    rw [hn]
    have q0 := hk.cell 0
    have q1 := hk.cell 1
    have f0 := hk.free 0
    have f1 := hk.free 1
    have hk3 := (hk.set 0 (.int .i64 0)).set 1 (.slice none 0 0)
    have p0 := hk3.cell 0
    have p1 := hk3.cell 1
    simp at q0 q1 p0 p1
    go_enter Tryz.func71, Tryz.ntmps71
    go_wp2_with fail
    refine bodyPost_ret (v := .tuple #[.agg #[.int .i64 0, .slice none 0 0], .int .i64 0, .bool false]) ?_ rfl ?_
    · simp only [results]
      go_simp
    · exact ⟨rfl, hc0⟩
  have htl : (l.take 16).length = 16 := by rw [List.length_take]; omega
  -- the end of each way on which nothing is found
  rcases hO : openB (l.take 16) with _ | H
  · have hn : nextB l most = none := by unfold nextB; rw [if_neg h16, hO]
    rw [hn]
    go_enter Tryz.func71, Tryz.ntmps71
    go_wp2_with (refine wpCutB rfl _ _ _ rfl _ _ rfl (hl.stays hc0) 0 16 (.inl ⟨rfl, rfl⟩) (.inr ⟨.i64, rfl⟩) (by omega) (by omega) ?_; intro ao1 c1 hcut hblk1)
    refine (Open_no _ _ _ hcut (by simp; omega) (openB_none hO)).mono ?_
    rintro e w1 ⟨rfl, hc1⟩
    have hc1' := hc0.trans hc1 (by simp)
    have hk1 := hk.chg hc1 (by simp)
    have q0 := hk1.cell 0
    have q1 := hk1.cell 1
    have f0 := hk1.free 0
    have f1 := hk1.free 1
    have hk3 := (hk1.set 0 (.int .i64 0)).set 1 (.slice none 0 0)
    have p0 := hk3.cell 0
    have p1 := hk3.cell 1
    simp at q0 q1 p0 p1
    go_wp2_with fail
    refine bodyPost_ret (v := .tuple #[.agg #[.int .i64 0, .slice none 0 0], .int .i64 0, .bool false]) ?_ rfl ?_
    · simp only [results]
      go_simp
    · refine ⟨rfl, ?_⟩
      refine Chg.setCell (Chg.setCell hc1' _ _ ?_) _ _ ?_ <;> simp
  · have hH := openB_some hO
    have hHl : H.length = 12 := by have := sealB_length H; rw [← hH, htl] at this; omega
    have hN4 := rdNum4 (H.take 4) (by rw [List.length_take]; omega)
    have hn : nextB l most = if rdNum (H.take 4) > most ∨ rdNum ((H.drop 4).take 8) < 0 ∨ (l.length : Int) < 16 + rdNum (H.take 4) + 4 then none else
      match openB ((l.drop 16).take ((rdNum (H.take 4)).toNat + 4)) with
      | none => none
      | some p => some (rdNum ((H.drop 4).take 8), p, 16 + (rdNum (H.take 4)).toNat + 4) := by unfold nextB; rw [if_neg h16, hO]
    have HN := hd hn
    clear hn
    go_enter Tryz.func71, Tryz.ntmps71
    go_wp2_with (refine wpCutB rfl _ _ _ rfl _ _ rfl (hl.stays hc0) 0 16 (.inl ⟨rfl, rfl⟩) (.inr ⟨.i64, rfl⟩) (by omega) (by omega) ?_; intro ao1 c1 hcut hblk1)
    have hcut' := hcut
    rw [List.drop_zero, show 16 - 0 = 16 from rfl, hH] at hcut'
    refine (Open_yes _ H _ hcut' (by omega)).mono ?_
    rintro e w1 ⟨ao2, c2, rfl, ho, hc1⟩
    rw [hHl] at ho ⊢
    have hc1' := hc0.trans hc1 (by simp)
    have hk1 := hk.chg hc1 (by simp)
    have hz1 := hc1'.size
    clear hcut hcut' hblk1 hk hc0 hc1
    go_wp2_with fail
    refine (New_any _ H _ ho.bs).mono ?_
    rintro e w2 ⟨b', rfl, hb', hr2, hc2⟩
    have hc2' := hc1'.trans hc2 (by simp)
    have hk2 := hk1.chg hc2 (by simp)
    have hkl := hk1.lt
    clear hc1' hk1 hc2 ho
    go_wp2_with fail
    refine (RNum_long 4 b' H false _ hr2 (by decide) (by decide) (by omega)).mono ?_
    rintro e w3 ⟨rfl, hr3, hc3⟩
    rw [show (4 : Int).toNat = 4 from rfl] at hr3 ⊢
    have hc3' : Chg [] w w3 := hc2'.trans hc3 (by intro x hx hlt; simp at hx; omega)
    have hk3 := hk2.chg hc3 (by simp; omega)
    clear hc2' hk2 hc3 hr2
    go_wp2_with fail
    refine (RNum_long 8 b' _ false _ hr3 (by decide) (by decide) (by rw [List.length_drop]; omega)).mono ?_
    rintro e w4 ⟨rfl, hr4, hc4⟩
    rw [show (8 : Int).toNat = 8 from rfl]
    have hc4' : Chg [] w w4 := hc3'.trans hc4 (by intro x hx hlt; simp at hx; omega)
    have hk4 := hk3.chg hc4 (by simp; omega)
    clear hc3' hk3 hc4 hr3 hr4
    obtain ⟨N, hN⟩ : ∃ N, N = rdNum (H.take 4) := ⟨_, rfl⟩
    obtain ⟨no, hno⟩ : ∃ no, no = rdNum ((H.drop 4).take 8) := ⟨_, rfl⟩
    have hn := HN.out
    rw [← hN] at hN4 hn ⊢
    rw [← hno] at hn ⊢
    clear hN hno HN
    obtain ⟨hN0, hN1⟩ := hN4
    by_cases b1 : most < N
    · rw [if_pos (.inl b1)] at hn
      have HN := hd hn
      clear hn
      have q0 := Blk.cell hk4 0
      have q1 := Blk.cell hk4 1
      have f0 := Blk.free hk4 0
      have f1 := Blk.free hk4 1
      have hk3 := Blk.set (Blk.set hk4 0 (.int .i64 0)) 1 (.slice none 0 0)
      have p0 := Blk.cell hk3 0
      have p1 := Blk.cell hk3 1
      simp at q0 q1 p0 p1
      go_wp2_with fail
      refine bodyPost_ret (v := .tuple #[.agg #[.int .i64 0, .slice none 0 0], .int .i64 0, .bool false]) ?_ rfl ?_
      · simp only [results]
        go_simp
      · rw [Hd.out HN]
        refine ⟨rfl, ?_⟩
        refine Chg.setCell (Chg.setCell hc4' _ _ ?_) _ _ ?_ <;> simp
    by_cases b2 : no < 0
    · rw [if_pos (.inr (.inl b2))] at hn
      have HN := hd hn
      clear hn
      have q0 := Blk.cell hk4 0
      have q1 := Blk.cell hk4 1
      have f0 := Blk.free hk4 0
      have f1 := Blk.free hk4 1
      have hk3 := Blk.set (Blk.set hk4 0 (.int .i64 0)) 1 (.slice none 0 0)
      have p0 := Blk.cell hk3 0
      have p1 := Blk.cell hk3 1
      simp at q0 q1 p0 p1
      go_wp2_with fail
      refine bodyPost_ret (v := .tuple #[.agg #[.int .i64 0, .slice none 0 0], .int .i64 0, .bool false]) ?_ rfl ?_
      · simp only [results]
        go_simp
      · rw [Hd.out HN]
        refine ⟨rfl, ?_⟩
        refine Chg.setCell (Chg.setCell hc4' _ _ ?_) _ _ ?_ <;> simp
    by_cases b3 : (l.length : Int) < 16 + N + 4
    · rw [if_pos (.inr (.inr b3))] at hn
      have HN := hd hn
      clear hn
      have q0 := Blk.cell hk4 0
      have q1 := Blk.cell hk4 1
      have f0 := Blk.free hk4 0
      have f1 := Blk.free hk4 1
      have hk3 := Blk.set (Blk.set hk4 0 (.int .i64 0)) 1 (.slice none 0 0)
      have p0 := Blk.cell hk3 0
      have p1 := Blk.cell hk3 1
      simp at q0 q1 p0 p1
      go_wp2_with fail
      refine bodyPost_ret (v := .tuple #[.agg #[.int .i64 0, .slice none 0 0], .int .i64 0, .bool false]) ?_ rfl ?_
      · simp only [results]
        go_simp
      · rw [Hd.out HN]
        refine ⟨rfl, ?_⟩
        refine Chg.setCell (Chg.setCell hc4' _ _ ?_) _ _ ?_ <;> simp
    rw [if_neg (by rintro (h | h | h); exact b1 h; exact b2 h; exact b3 h)] at hn
    obtain ⟨M, hM⟩ := Int.eq_ofNat_of_zero_le hN0
    have hMt : N.toNat = M := by omega
    rw [hMt] at hn
    have hl4 := hl.stays hc4'
    have hbl : ((l.drop 16).take (M + 4)).length = M + 4 := by rw [List.length_take, List.length_drop]; omega
    obtain ⟨Q, hQ⟩ : ∃ Q : Nat, Q = M + 20 := ⟨_, rfl⟩
    have e4 : Q - 16 = M + 4 := by omega
    have HQ : Hd ((16 : Int) + N + 4 = (Q : Int)) := hd (by omega)
    have HQ16 : Hd (16 ≤ Q ∧ Q ≤ l.length) := hd (by omega)
    have HM := hd hM
    clear hQ hMt hM
    have HBL := hd hbl
    have HE4 := hd e4
    clear hbl e4
    have Hn := hd hn
    clear hn hO hH
    go_upto_if 46 with (fail)
    rw [decide_eq_false (Int.not_lt.2 b1), decide_eq_false (Int.not_lt.2 b2), decide_eq_false (Int.not_lt.2 b3)]
    simp only [Bool.or_false]
    clear b1 b2 b3
    go_wp2_with (refine wpCutB rfl _ _ _ rfl _ _ rfl hl4 16 Q (.inr ⟨.i64, rfl⟩) (.inr ⟨.i64, congrArg some (congrArg (Value.int .i64) HQ.out)⟩) HQ16.out.1 HQ16.out.2 ?_; intro ao3 c3 hcut hblk1)
    have hn := Hn.out
    rw [HE4.out] at hcut ⊢
    clear hblk1 Hn
    rcases hO2 : openB ((l.drop 16).take (M + 4)) with _ | p
    · rw [hO2] at hn
      have HN := hd hn
      clear hn
      refine (Open_no _ _ _ hcut (by rw [HBL.out]; have := HQ16.out; have := HE4.out; omega) (openB_none hO2)).mono ?_
      rintro e w5 ⟨rfl, hc5⟩
      have hc5' := hc4'.trans hc5 (by simp)
      have hk5 := hk4.chg hc5 (by simp)
      clear hO2 hcut hc5
      have q0 := Blk.cell hk5 0
      have q1 := Blk.cell hk5 1
      have f0 := Blk.free hk5 0
      have f1 := Blk.free hk5 1
      have hk3 := Blk.set (Blk.set hk5 0 (.int .i64 0)) 1 (.slice none 0 0)
      have p0 := Blk.cell hk3 0
      have p1 := Blk.cell hk3 1
      simp at q0 q1 p0 p1
      go_wp2_with fail
      refine bodyPost_ret (v := .tuple #[.agg #[.int .i64 0, .slice none 0 0], .int .i64 0, .bool false]) ?_ rfl ?_
      · simp only [results]
        go_simp
      · rw [Hd.out HN]
        refine ⟨rfl, ?_⟩
        refine Chg.setCell (Chg.setCell hc5' _ _ ?_) _ _ ?_ <;> simp
    · rw [hO2] at hn
      have HN := hd hn
      have hP := openB_some hO2
      have hpl : p.length = M := by have := sealB_length p; rw [← hP, HBL.out] at this; omega
      have hcut' := hcut
      rw [hP] at hcut'
      refine (Open_yes _ p _ hcut' (by have := HQ16.out; have := HE4.out; omega)).mono ?_
      rintro e w5 ⟨ao5, c5, rfl, ho5, hc5⟩
      rw [hpl] at ho5 ⊢
      have hc5' := hc4'.trans hc5 (by simp)
      have hk5 := hk4.chg hc5 (by simp)
      have hz4 := hc4'.size
      have q0 := hk5.cell 0
      have q1 := hk5.cell 1
      have f0 := hk5.free 0
      have f1 := hk5.free 1
      have hk6 := (hk5.set 0 (.int .i64 no)).set 1 (.slice ao5 M c5)
      have p0 := hk6.cell 0
      have p1 := hk6.cell 1
      simp at q0 q1 p0 p1
      have ho6 := ho5.mono hz4
      have hapart := ho5.apart hk5 (by decide)
      have HPL := hd hpl
      clear hcut hcut' hP hO2 hl4 hn hpl
      go_wp2_with fail
      refine bodyPost_ret (v := .tuple #[.agg #[.int .i64 no, .slice ao5 M c5], .int .i64 (16 + N + 4), .bool true]) ?_ rfl ?_
      · simp only [results]
        go_simp
      · rw [HN.out]
        refine ⟨ao5, c5, ?_, ?_, ?_⟩
        · rw [HPL.out, show (16 + N + 4) = ((16 + M + 4 : Nat) : Int) by have := HM.out; omega]
        · rw [HPL.out]
          exact ownsRow_setCell_other (ownsRow_setCell_other ho6 (a := ⟨w.heap.size, 0, none⟩) hapart _) (a := ⟨w.heap.size, 1, none⟩) hapart _
        · refine Chg.setCell (Chg.setCell hc5' _ _ ?_) _ _ ?_ <;> simp
end Go.Proofs.YtbiadpkglcdihaaGreat

/- frame.Next as a plain function: what it finds is what begins with a record's bytes. -/
namespace Go.Proofs.YtbiadpkglcdihaaGreat
open Go.RowKit

theorem leB_rdBF (l : List UInt8) : leB l.length (rdB l) = l := by
  induction l with
  | nil => rfl
  | cons c l ih =>
    have h0 := n8_lo c
    have h1 := n8_hi c
    have e1 : UInt8.ofInt (n8 c + 256 * rdB l) = c := by apply n8_inj.1; rw [n8_ofInt]; omega
    have e2 : (n8 c + 256 * rdB l) / 256 = rdB l := by omega
    simp only [List.length_cons, rdB, leB, e1, e2, ih]
theorem leB_modF (n : Nat) (x y : Int) (h : x % 256 ^ n = y % 256 ^ n) : leB n x = leB n y := by
  have hx : rdB (leB n x) = rdB (leB n y) := by rw [rdB_leB, rdB_leB, h]
  have h1 := leB_rdBF (leB n x)
  have h2 := leB_rdBF (leB n y)
  rw [leB_length] at h1 h2
  rw [← h1, hx, h2]
theorem wrap_mod (n : Nat) (h : n ≤ 8) (x : Int) : wrap64 x % 256 ^ n = x % 256 ^ n := by
  have e : (256 : Int) ^ n = 2 ^ (8 * n) := by rw [Int.pow_mul]; rfl
  have hd : (256 : Int) ^ n ∣ 18446744073709551616 := by
    refine ⟨2 ^ (64 - 8 * n), ?_⟩
    rw [e, ← Int.pow_add, show 8 * n + (64 - 8 * n) = 64 by omega]; rfl
  rw [← Int.emod_emod_of_dvd (wrap64 x) hd, ← Int.emod_emod_of_dvd x hd]
  congr 1
  unfold wrap64
  omega
theorem leB_rdNum (l : List UInt8) (h : l.length ≤ 8) : leB l.length (rdNum l) = l := by
  rw [leB_modF _ (rdNum l) (rdB l) (wrap_mod _ h _), leB_rdBF]
theorem rdNum_leB8 (x : Int) (h0 : -9223372036854775808 ≤ x) (h1 : x ≤ 9223372036854775807) : rdNum (leB 8 x) = x := by
  unfold rdNum
  rw [rdB_leB, show (256 : Int) ^ 8 = 18446744073709551616 by decide]
  unfold wrap64
  omega
theorem rdNum_leB4 (x : Int) (h0 : 0 ≤ x) (h1 : x < 4294967296) : rdNum (leB 4 x) = x := by
  unfold rdNum
  rw [rdB_leB, show (256 : Int) ^ 4 = 4294967296 by decide]
  unfold wrap64
  omega

theorem nextB_yes (no : Int) (p r : List UInt8) (most : Int) (h0 : 0 ≤ no) (h1 : no ≤ 9223372036854775807) (hl : p.length < 4294967296) (hm : (p.length : Int) ≤ most) :
    nextB (frameB no p ++ r) most = some (no, p, p.length + 20) := by
  have hlen : (frameB no p ++ r).length = p.length + 20 + r.length := by rw [List.length_append, frameB_length]
  have hs : frameB no p ++ r = sealB (leB 4 p.length ++ leB 8 no) ++ (sealB p ++ r) := by unfold frameB; rw [List.append_assoc]
  have hS : (sealB (leB 4 (p.length : Int) ++ leB 8 no)).length = 16 := by rw [sealB_length, List.length_append, leB_length, leB_length]
  have t16 : (frameB no p ++ r).take 16 = sealB (leB 4 p.length ++ leB 8 no) := by rw [hs, ← hS]; exact List.take_left
  have d16 : (frameB no p ++ r).drop 16 = sealB p ++ r := by rw [hs, ← hS]; exact List.drop_left
  have e4 : (leB 4 (p.length : Int) ++ leB 8 no).take 4 = leB 4 p.length := by
    have := List.take_left (l₁ := leB 4 (p.length : Int)) (l₂ := leB 8 no)
    rwa [leB_length] at this
  have e8 : ((leB 4 (p.length : Int) ++ leB 8 no).drop 4).take 8 = leB 8 no := by
    have := List.drop_left (l₁ := leB 4 (p.length : Int)) (l₂ := leB 8 no)
    rw [leB_length] at this
    rw [this]; exact List.take_of_length_le (by simp)
  have n4 : rdNum (leB 4 (p.length : Int)) = p.length := rdNum_leB4 _ (by omega) (by omega)
  have n8' : rdNum (leB 8 no) = no := rdNum_leB8 _ (by omega) h1
  have tp : (sealB p ++ r).take (p.length + 4) = sealB p := by rw [← sealB_length]; exact List.take_left
  unfold nextB
  rw [if_neg (by rw [hlen]; omega), t16, openB_seal]
  simp only
  rw [e4, e8, n4, n8', if_neg (by rw [hlen]; omega), d16, Int.toNat_natCast, tp, openB_seal]
  simp only [Option.some.injEq, Prod.mk.injEq, true_and]
  omega

theorem nextB_some {l : List UInt8} {most no : Int} {p : List UInt8} {q : Nat} (h : nextB l most = some (no, p, q)) :
    q = p.length + 20 ∧ (p.length : Int) ≤ most ∧ 0 ≤ no ∧ no ≤ 9223372036854775807 ∧ p.length < 4294967296 ∧ l.take q = frameB no p ∧ q ≤ l.length := by
  unfold nextB at h
  split at h
  · cases h
  rename_i h16
  split at h
  · cases h
  rename_i H hO
  split at h
  · cases h
  rename_i hc
  split at h
  · cases h
  rename_i p' hO2
  simp only [Option.some.injEq, Prod.mk.injEq] at h
  obtain ⟨hno, rfl, hq⟩ := h
  have hH := openB_some hO
  have hP := openB_some hO2
  have hHl : H.length = 12 := by have := sealB_length H; rw [← hH, List.length_take] at this; omega
  have hN4 := rdNum4 (H.take 4) (by rw [List.length_take]; omega)
  have h1 : ¬ rdNum (H.take 4) > most := fun h => hc (.inl h)
  have h2 : ¬ rdNum ((H.drop 4).take 8) < 0 := fun h => hc (.inr (.inl h))
  have h3 : ¬ (l.length : Int) < 16 + rdNum (H.take 4) + 4 := fun h => hc (.inr (.inr h))
  have hpl : p'.length = (rdNum (H.take 4)).toNat := by
    have := sealB_length p'
    rw [← hP, List.length_take, List.length_drop] at this
    omega
  have e4 : leB 4 (p'.length : Int) = H.take 4 := by
    have h4l : (H.take 4).length = 4 := by rw [List.length_take]; omega
    have := leB_rdNum (H.take 4) (by omega)
    rw [h4l] at this
    rw [← this, hpl, Int.toNat_of_nonneg hN4.1]
  have e8 : leB 8 no = H.drop 4 := by
    have h8l : ((H.drop 4).take 8).length = 8 := by rw [List.length_take, List.length_drop]; omega
    have := leB_rdNum ((H.drop 4).take 8) (by omega)
    rw [h8l, hno] at this
    rw [this]; exact List.take_of_length_le (by rw [List.length_drop]; omega)
  have hwr : no ≤ 9223372036854775807 := by
    rw [← hno]; unfold rdNum wrap64; omega
  refine ⟨by omega, by omega, by omega, hwr, by omega, ?_, by omega⟩
  unfold frameB
  rw [e4, e8, List.take_append_drop, ← hH, ← hP, ← hq]
  have : 16 + (rdNum (H.take 4)).toNat + 4 = 16 + ((rdNum (H.take 4)).toNat + 4) := by omega
  rw [this, List.take_add]

end Go.Proofs.YtbiadpkglcdihaaGreat

/- frame.One. -/
namespace Go.Proofs.YtbiadpkglcdihaaGreat
open Go.RowKit

def oneB (l : List UInt8) (most : Int) : Option (Int × List UInt8) :=
  match nextB l most with
  | none => none
  | some (no, p, q) => if q = l.length then some (no, p) else none
def OnePost (w : World) (r : Option (Int × List UInt8)) (e : Ending) (w' : World) : Prop :=
  match r with
  | none => e = .returned (.tuple #[.agg #[.int .i64 0, .slice none 0 0], .bool false]) ∧ Chg [] w w'
  | some (no, p) => ∃ ao c, e = .returned (.tuple #[.agg #[.int .i64 no, .slice ao p.length c], .bool true]) ∧ Bs w' (.slice ao p.length c) p ∧ Chg [] w w'

set_option maxHeartbeats 1000000 in
theorem One_any (v : Value) (l : List UInt8) (most : Int) (w : World) (hl : Bs w v l) (hlen : l.length ≤ 140737488354000) :
    Calls Tryz.prog 44 #[v, .int .i64 most] w (OnePost w (oneB l most)) := by
  obtain ⟨ao, cap, b, off, rfl, -⟩ := hl.open
  have hk := Blk.new w #[.int .i64 0, .slice none 0 0] 88
  have hc0 : Chg [] w (w.alloc (.cells #[.int .i64 0, .slice none 0 0] 88)) := (Chg.refl [] w).alloc _
  have hl0 := hl.stays hc0
  generalize hR : oneB l most = R
  have HR := hd hR
  clear hR
  go_enter Tryz.func44, Tryz.ntmps44
  go_wp2_with fail
  refine (Next_any _ l most _ hl0 hlen).mono ?_
  rcases hN : nextB l most with _ | ⟨no, p, q⟩
  · rintro e w1 ⟨rfl, hc1⟩
    have hR : R = none := by rw [← HR.out]; unfold oneB; rw [hN]
    clear HR
    subst hR
    have hc1' := hc0.trans hc1 (by simp)
    have hk1 := hk.chg hc1 (by simp)
    have hk1' := hk1.alloc (.cells #[.int .i64 0, .slice none 0 0] 88)
    have q0 := hk1'.cell 0
    have q1 := hk1'.cell 1
    have f0 := hk1'.free 0
    have f1 := hk1'.free 1
    have hk3 := (hk1'.set 0 (.int .i64 0)).set 1 (.slice none 0 0)
    have p0 := hk3.cell 0
    have p1 := hk3.cell 1
    simp at q0 q1 p0 p1
    clear hk hk1 hc1 hl hl0 hN
    go_wp2_with fail
    refine bodyPost_ret (v := .tuple #[.agg #[.int .i64 0, .slice none 0 0], .bool false]) ?_ rfl ?_
    · simp only [results]
      go_simp
    · refine ⟨rfl, ?_⟩
      refine Chg.setCell (Chg.setCell (hc1'.alloc _) _ _ ?_) _ _ ?_ <;> simp
  · obtain ⟨hq, -, -, -, -, -, hqle⟩ := nextB_some hN
    rintro e w1 ⟨ao1, c1, rfl, ho, hc1⟩
    have hc1' := hc0.trans hc1 (by simp)
    have hk1 := hk.chg hc1 (by simp)
    have hk1' := hk1.alloc (.cells #[.int .i64 no, .slice ao1 p.length c1] 88)
    have q0 := hk1'.cell 0
    have q1 := hk1'.cell 1
    have f0 := hk1'.free 0
    have f1 := hk1'.free 1
    simp at q0 q1
    by_cases hql : q = l.length
    · have hk3 := (hk1'.set 0 (.int .i64 no)).set 1 (.slice ao1 p.length c1)
      have p0 := hk3.cell 0
      have p1 := hk3.cell 1
      simp at p0 p1
      have HO := hd ho
      have HAP := hd (ho.apart hk1 (by decide))
      have hR : R = some (no, p) := by rw [← HR.out]; unfold oneB; rw [hN]; simp only; rw [if_pos hql]
      clear HR
      subst hR
      have hqi : (q : Int) = (l.length : Int) := by omega
      clear hk hk1 hc1 hl hl0 hN ho hql hq hqle
      go_wp2_with fail
      refine bodyPost_ret (v := .tuple #[.agg #[.int .i64 no, .slice ao1 p.length c1], .bool true]) ?_ rfl ?_
      · simp only [results]
        go_simp
      · have hap := HAP.out
        refine ⟨ao1, c1, rfl, ?_, ?_⟩
        · exact ((HO.out.bs.alloc _).setCell _ _ (fun _ => hap)).setCell _ _ (fun _ => hap)
        · refine Chg.setCell (Chg.setCell (hc1'.alloc _) _ _ ?_) _ _ ?_ <;> simp
    · have hk3 := (hk1'.set 0 (.int .i64 0)).set 1 (.slice none 0 0)
      have p0 := hk3.cell 0
      have p1 := hk3.cell 1
      simp at p0 p1
      have hR : R = none := by rw [← HR.out]; unfold oneB; rw [hN]; simp only; rw [if_neg hql]
      clear HR
      subst hR
      have hqi : ¬ (q : Int) = (l.length : Int) := by omega
      clear hk hk1 hc1 hl hl0 hN ho hql hq hqle
      go_wp2_with fail
      refine bodyPost_ret (v := .tuple #[.agg #[.int .i64 0, .slice none 0 0], .bool false]) ?_ rfl ?_
      · simp only [results]
        go_simp
      · refine ⟨rfl, ?_⟩
        refine Chg.setCell (Chg.setCell (hc1'.alloc _) _ _ ?_) _ _ ?_ <;> simp

end Go.Proofs.YtbiadpkglcdihaaGreat
