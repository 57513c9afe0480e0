/- Words and walks that Apart rests on: WorldG. -/
import Derived.Test.YtpadflhffiiglaaGreatWApart44
/- The bytes of the empty world are read: codec.ReadWorld. -/
namespace Go.Proofs.YtpadflhffiiglaaGreat
open Go.RowKit

theorem RdB.rowed {S : List Nat} {base b g : Nat} {w0 W : World} {s : St} {cs : Array Value} {t : TypeId} (hR : RdB base W b s) (hT : Blk W g cs t) (hH : Chg S w0 W) (hg : w0.heap.size ≤ g) (hb : base ≤ w0.heap.size) (cs' : Array Value) :
    Chg S w0 (W.setRow g cs') ∧ RdB base (W.setRow g cs') b s ∧ Blk (W.setRow g cs') g cs' t :=
  ⟨Chg.row hH g cs' (fun hx => absurd hx (by omega)), hR.keep (Chg.row (Chg.refl [g] W) g cs' (by simp)) (by simp; omega), hT.row⟩
set_option maxRecDepth 100000 in
set_option maxHeartbeats 8000000 in
theorem Read0_any (w : World) (v : Value) (hv : Bs w v (leW W0)) :
    Calls Tryz.prog 12 #[v] w fun e w' => e = .returned (.tuple #[vW0, .int .i64 0]) ∧ Chg [] w w' := by
  obtain ⟨base, hbase⟩ : ∃ base, base = w.heap.size + 1 + 1 := ⟨_, rfl⟩
  obtain ⟨b, hbe⟩ : ∃ b, b = w.heap.size + 1 := ⟨_, rfl⟩
  have N0 := fun W (h : RdB base W b z0) => NumB_any 8 base b z0 W h (by omega)
  have N1 := fun W (h : RdB base W b z1) => NumB_any 8 base b z1 W h (by omega)
  have N2 := fun W (h : RdB base W b z2) => NumB_any 8 base b z2 W h (by omega)
  have N3 := fun W (h : RdB base W b z3) (hb : base ≤ W.heap.size) => VB_any base b z3 W h hb
  have N4 := fun W (h : RdB base W b z4) => CountB_any 1024 base b z4 W h
  have N5 := fun W (h : RdB base W b z5) => CountB_any 1024 base b z5 W h
  have N6 := fun W (h : RdB base W b z6) => NumB_any 4 base b z6 W h (by omega)
  have N7 := fun W (h : RdB base W b z7) => DoneB_any base b z7 W h
  rw [z0e] at N0; rw [z1e] at N1; rw [z2e] at N2; rw [z3e] at N3; rw [z4e] at N4; rw [z5e] at N5; rw [z6e] at N6; rw [z7e] at N7
  rw [← show z1 = (numR 8 z0).2 from rfl] at N0
  rw [← show z2 = (numR 8 z1).2 from rfl] at N1
  rw [← show z3 = (numR 8 z2).2 from rfl] at N2
  rw [← show z4 = (plR z3).2 from rfl] at N3
  rw [← show z5 = (countR 1024 z4).2 from rfl] at N4
  rw [← show z6 = (countR 1024 z5).2 from rfl] at N5
  rw [← show z7 = (numR 4 z6).2 from rfl] at N6
  have hz0 : (leW W0, false) = z0 := rfl
  generalize leW W0 = l0 at *
  generalize z0 = s0 at *
  generalize z1 = s1 at *
  generalize z2 = s2 at *
  generalize z3 = s3 at *
  generalize z4 = s4 at *
  generalize z5 = s5 at *
  generalize z6 = s6 at *
  generalize z7 = s7 at *
  unfold vV at N3
  simp only at N3
  have HBE := hd hbe
  have HBS := hd hbase
  have HZ0 := hd hz0
  clear hbe hbase hz0
  obtain ⟨ao, cap, b0, off, rfl, -⟩ := hv.open
  have hca := (Chg.refl [] w).alloc (.cells #[.int .i64 0, .int .i64 0, .int .i64 0, .int .i64 0, .int .i64 0, .slice none 0 0, .slice none 0 0, .slice none 0 0] 42)
  have hk2 := Blk.new w #[.int .i64 0, .int .i64 0, .int .i64 0, .int .i64 0, .int .i64 0, .slice none 0 0, .slice none 0 0, .slice none 0 0] 42
  have hv2 := hv.alloc (.cells #[.int .i64 0, .int .i64 0, .int .i64 0, .int .i64 0, .int .i64 0, .slice none 0 0, .slice none 0 0, .slice none 0 0] 42)
  clear hv
  go_enter Tryz.func12, Tryz.ntmps12
  go_upto_region 1 with (fail)
  have hsz : (w.alloc (.cells #[.int .i64 0, .int .i64 0, .int .i64 0, .int .i64 0, .int .i64 0, .slice none 0 0, .slice none 0 0, .slice none 0 0] 42)).heap.size = w.heap.size + 1 := by simp
  generalize w.alloc (.cells #[.int .i64 0, .int .i64 0, .int .i64 0, .int .i64 0, .int .i64 0, .slice none 0 0, .slice none 0 0, .slice none 0 0] 42) = w0 at *
  have hNew := NewB_any _ l0 w0 hv2
  rw [hsz, ← HBE.out, HZ0.out, show b + 1 = base by have := HBE.out; have := HBS.out; omega] at hNew
  have HSZ := hd hsz
  clear hsz
  go_upto_region 2 with (go_at_call 38; refine hNew.mono ?_; rintro e w1 ⟨rfl, hr1, hm1⟩)
  have hcC := (Chg.refl [] w1).alloc (.cells #[.pointer (some ⟨b, 0, none⟩)] 106)
  have hX := Blk.new w1 #[.pointer (some ⟨b, 0, none⟩)] 106
  have hR := hr1.k hcC
  have hK := (hk2.k hm1).k hcC
  have hM := (hca.k' hm1).k' hcC
  have hT1 : b + 1 ≤ w1.heap.size := hr1.down.lt
  generalize w1.alloc (.cells #[.pointer (some ⟨b, 0, none⟩)] 106) = w2 at *
  obtain ⟨rb, hrb⟩ : ∃ rb, rb = w1.heap.size := ⟨_, rfl⟩
  obtain ⟨kb, hkb⟩ : ∃ kb, kb = w.heap.size := ⟨_, rfl⟩
  rw [← hrb] at hX hT1 ⊢
  rw [← hkb] at hK ⊢
  have hbe := HBE.out
  have hbase := HBS.out
  have HT0 : Hd (b = kb + 1 ∧ base = b + 1 ∧ base ≤ rb ∧ kb = w.heap.size) := hd ⟨by omega, by omega, by omega, hkb⟩
  have hrlt := hX.lt
  have HW2 : Hd (base ≤ w2.heap.size) := hd (by omega)
  clear hr1 hm1 hcC hca hk2 hv2 hNew hbe hbase hrb hkb hT1 HBE HBS HZ0 HSZ
  go_cut [5] from 400 (fun t wx => ∃ tb, t = .pointer (some ⟨tb, 0, none⟩) ∧ Blk wx tb #[.int .i64 0, .int .i64 1, .int .i64 1, .int .i64 0, .int .i64 0, .slice none 0 0, .slice none 0 0, .slice none 0 0] 42 ∧ w2.heap.size ≤ tb ∧ RdB base wx b s3 ∧ Chg [b] w2 wx)
  case first =>
    have Q0 := hd (show w2.cell? ⟨rb, 0, none⟩ = some (.pointer (some ⟨b, 0, none⟩)) from hX.cell 0)
    have NX : Hd (rb ∉ [b]) := hd (by have := HT0.out; simp; omega)
    have hR0 := hR
    clear hR
    have hR := hR0.k (Chg.refl [] w2).drew
    clear hR0
    refine anyH_start (n := 12) (L := #[false, false, false, false, false, false, false, false, false, false, false, false]) (by kernel_rfl) (by kernel_rfl) (S := (fun wx => Chg [b] w2 wx)) ((Chg.refl _ _).drew) (fun hHeld => ?_)
    generalize w2.drew = w2d at *
    refine anyH_take (i := 0) (d := 9) (L' := #[true, false, false, false, false, false, false, false, false, false, false, false]) (v := ?v5) rfl rfl (by kernel_rfl) (fun _ _ _ h => h) (by rfl) ?hy5 (by assumption) ?rest5
    case hy5 => (intro wx hSw; (try dsimp only at hSw); (have t0 := Chg.cellT hSw Q0.out NX.out); go_simp; (try with_reducible rfl))
    simp only [Act.put, List.setIfInBounds_toArray, List.set_cons_zero, List.set_cons_succ]
    refine anyH_take (i := 1) (d := 10) (L' := #[true, true, false, false, false, false, false, false, false, false, false, false]) (v := ?v6) rfl rfl (by kernel_rfl) (fun _ _ _ h => h) (by rfl) ?hy6 (by assumption) ?rest6
    case hy6 => (intro wx hSw; (try dsimp only at hSw); (have t0 := Chg.cellT hSw Q0.out NX.out); go_simp; (try with_reducible rfl))
    simp only [Act.put, List.setIfInBounds_toArray, List.set_cons_zero, List.set_cons_succ]
    refine anyH_take (i := 3) (d := 12) (L' := #[true, true, false, true, false, false, false, false, false, false, false, false]) (v := ?v7) rfl rfl (by kernel_rfl) (fun _ _ _ h => h) (by rfl) ?hy7 (by assumption) ?rest7
    case hy7 => (intro wx hSw; (try dsimp only at hSw); (have t0 := Chg.cellT hSw Q0.out NX.out); go_simp; (try with_reducible rfl))
    simp only [Act.put, List.setIfInBounds_toArray, List.set_cons_zero, List.set_cons_succ]
    refine anyH_take (i := 4) (d := 13) (L' := #[true, true, false, true, true, false, false, false, false, false, false, false]) (v := ?v8) rfl rfl (by kernel_rfl) (fun _ _ _ h => h) (by rfl) ?hy8 (by assumption) ?rest8
    case hy8 => (intro wx hSw; (try dsimp only at hSw); (have t0 := Chg.cellT hSw Q0.out NX.out); go_simp; (try with_reducible rfl))
    simp only [Act.put, List.setIfInBounds_toArray, List.set_cons_zero, List.set_cons_succ]
    refine anyH_take (i := 6) (d := 15) (L' := #[true, true, false, true, true, false, true, false, false, false, false, false]) (v := ?v9) rfl rfl (by kernel_rfl) (fun _ _ _ h => h) (by rfl) ?hy9 (by assumption) ?rest9
    case hy9 => (intro wx hSw; (try dsimp only at hSw); (have t0 := Chg.cellT hSw Q0.out NX.out); go_simp; (try with_reducible rfl))
    simp only [Act.put, List.setIfInBounds_toArray, List.set_cons_zero, List.set_cons_succ]
    refine anyH_take (i := 7) (d := 16) (L' := #[true, true, false, true, true, false, true, true, false, false, false, false]) (v := ?v10) rfl rfl (by kernel_rfl) (fun _ _ _ h => h) (by rfl) ?hy10 (by assumption) ?rest10
    case hy10 => (intro wx hSw; (try dsimp only at hSw); (have t0 := Chg.cellT hSw Q0.out NX.out); go_simp; (try with_reducible rfl))
    simp only [Act.put, List.setIfInBounds_toArray, List.set_cons_zero, List.set_cons_succ]
    refine anyH_run2 (i := 2) (j := 10) (L1 := #[true, true, true, true, true, false, true, true, false, false, false, false]) (L2 := #[true, true, false, true, true, false, true, true, false, false, true, false]) rfl rfl (by kernel_rfl) (by rfl) (by rfl) (fun KK hKK => ?ra0) (fun KK hKK => ?rb0)
    case' ra0 =>
      go_simp
      (refine (N0 _ hR).mono ?_; rintro e wn2 ⟨rfl, hr, hm0⟩; have hm := Chg.trans hHeld hm0 (by simp); (try replace hT := hT.chg hm0 (by have := hTb; simp; omega)); replace hR := hr; clear hr hm0; (try go_simp))
      refine hKK.out _ _ (by assumption) (fun hHeld => ?_)
      clear hKK KK
      try simp only [Act.put, List.setIfInBounds_toArray, List.set_cons_zero, List.set_cons_succ]
      refine anyH_run2 (i := 5) (j := 10) (L1 := #[true, true, true, true, true, true, true, true, false, false, false, false]) (L2 := #[true, true, true, true, true, false, true, true, false, false, true, false]) rfl rfl (by kernel_rfl) (by rfl) (by rfl) (fun KK hKK => ?ra1) (fun KK hKK => ?rb1)
      case' ra1 =>
        go_simp
        (refine (N1 _ hR).mono ?_; rintro e wn5 ⟨rfl, hr, hm0⟩; have hm := Chg.trans hHeld hm0 (by simp); (try replace hT := hT.chg hm0 (by have := hTb; simp; omega)); replace hR := hr; clear hr hm0; (try go_simp))
        refine hKK.out _ _ (by assumption) (fun hHeld => ?_)
        clear hKK KK
        try simp only [Act.put, List.setIfInBounds_toArray, List.set_cons_zero, List.set_cons_succ]
        refine anyH_run2 (i := 8) (j := 10) (L1 := #[true, true, true, true, true, true, true, true, true, false, false, false]) (L2 := #[true, true, true, true, true, true, true, true, false, false, true, false]) rfl rfl (by kernel_rfl) (by rfl) (by rfl) (fun KK hKK => ?ra2) (fun KK hKK => ?rb2)
        case' ra2 =>
          go_simp
          (refine (N2 _ hR).mono ?_; rintro e wn8 ⟨rfl, hr, hm0⟩; have hm := Chg.trans hHeld hm0 (by simp); (try replace hT := hT.chg hm0 (by have := hTb; simp; omega)); replace hR := hr; clear hr hm0; (try go_simp))
          refine hKK.out _ _ (by assumption) (fun hHeld => ?_)
          clear hKK KK
          try simp only [Act.put, List.setIfInBounds_toArray, List.set_cons_zero, List.set_cons_succ]
          refine anyH_take (i := 9) (d := 18) (L' := #[true, true, true, true, true, true, true, true, true, true, false, false]) (v := ?v11) rfl rfl (by kernel_rfl) (fun _ _ _ h => h) (by rfl) ?hy11 (by assumption) ?rest11
          case hy11 => (intro wx hSw; (try dsimp only at hSw); (have t0 := Chg.cellT hSw Q0.out NX.out); go_simp; (try with_reducible rfl))
          simp only [Act.put, List.setIfInBounds_toArray, List.set_cons_zero, List.set_cons_succ]
          refine anyH_run (i := 10) (L' := #[true, true, true, true, true, true, true, true, true, true, true, false]) rfl (by kernel_rfl) (by rfl) (fun KK hKK => ?_)
          (obtain ⟨m1, hT, hTb⟩ := hR.lit #[.int .i64 0, .int .i64 0, .int .i64 0, .int .i64 0, .int .i64 0, .slice none 0 0, .slice none 0 0, .slice none 0 0] 42; have hT2 := hHeld.size; have hm := Chg.alloc hHeld (.cells #[.int .i64 0, .int .i64 0, .int .i64 0, .int .i64 0, .int .i64 0, .slice none 0 0, .slice none 0 0, .slice none 0 0] 42); replace hR := m1; clear m1; go_simp)
          refine hKK.out _ _ (by assumption) (fun hHeld => ?_)
          clear hKK KK
          try simp only [Act.put, List.setIfInBounds_toArray, List.set_cons_zero, List.set_cons_succ]
          refine anyH_run (i := 11) (L' := #[true, true, true, true, true, true, true, true, true, true, true, true]) rfl (by kernel_rfl) (by rfl) (fun KK hKK => ?_)
          (refine wp_store_row 42 _ _ rfl _ #[.int .i64 0, .int .i64 1, .int .i64 1, .int .i64 0, .int .i64 0, .slice none 0 0, .slice none 0 0, .slice none 0 0] rfl rfl 42 _ hT (by kernel_rfl) rfl (by kernel_rfl) ?_; obtain ⟨hS, hR9, hT9⟩ := RdB.rowed hR hT hHeld hT2 HW2.out #[.int .i64 0, .int .i64 1, .int .i64 1, .int .i64 0, .int .i64 0, .slice none 0 0, .slice none 0 0, .slice none 0 0]; go_simp)
          refine hKK.out _ _ (by assumption) (fun hHeld => ?_)
          clear hKK KK
          try simp only [Act.put, List.setIfInBounds_toArray, List.set_cons_zero, List.set_cons_succ]
          refine wpAnyH_done (by kernel_rfl) ?_ _
          (go_wp2_with fail; go_meet; exact ⟨_, rfl, hT9, hT2, hR9, hHeld⟩)
        case' rb2 =>
          (obtain ⟨m1, hT, hTb⟩ := hR.lit #[.int .i64 0, .int .i64 0, .int .i64 0, .int .i64 0, .int .i64 0, .slice none 0 0, .slice none 0 0, .slice none 0 0] 42; have hT2 := hHeld.size; have hm := Chg.alloc hHeld (.cells #[.int .i64 0, .int .i64 0, .int .i64 0, .int .i64 0, .int .i64 0, .slice none 0 0, .slice none 0 0, .slice none 0 0] 42); replace hR := m1; clear m1; go_simp)
          refine hKK.out _ _ (by assumption) (fun hHeld => ?_)
          clear hKK KK
          try simp only [Act.put, List.setIfInBounds_toArray, List.set_cons_zero, List.set_cons_succ]
          refine anyH_run (i := 8) (L' := #[true, true, true, true, true, true, true, true, true, false, true, false]) rfl (by kernel_rfl) (by rfl) (fun KK hKK => ?_)
          go_simp
          (refine (N2 _ hR).mono ?_; rintro e wn8 ⟨rfl, hr, hm0⟩; have hm := Chg.trans hHeld hm0 (by simp); (try replace hT := hT.chg hm0 (by have := hTb; simp; omega)); replace hR := hr; clear hr hm0; (try go_simp))
          refine hKK.out _ _ (by assumption) (fun hHeld => ?_)
          clear hKK KK
          try simp only [Act.put, List.setIfInBounds_toArray, List.set_cons_zero, List.set_cons_succ]
          refine anyH_run (i := 9) (L' := #[true, true, true, true, true, true, true, true, true, true, true, false]) rfl (by kernel_rfl) (by rfl) (fun KK hKK => ?_)
          go_simp
          (skip)
          refine hKK.out _ _ (by assumption) (fun hHeld => ?_)
          clear hKK KK
          try simp only [Act.put, List.setIfInBounds_toArray, List.set_cons_zero, List.set_cons_succ]
          refine anyH_run (i := 11) (L' := #[true, true, true, true, true, true, true, true, true, true, true, true]) rfl (by kernel_rfl) (by rfl) (fun KK hKK => ?_)
          (refine wp_store_row 42 _ _ rfl _ #[.int .i64 0, .int .i64 1, .int .i64 1, .int .i64 0, .int .i64 0, .slice none 0 0, .slice none 0 0, .slice none 0 0] rfl rfl 42 _ hT (by kernel_rfl) rfl (by kernel_rfl) ?_; obtain ⟨hS, hR9, hT9⟩ := RdB.rowed hR hT hHeld hT2 HW2.out #[.int .i64 0, .int .i64 1, .int .i64 1, .int .i64 0, .int .i64 0, .slice none 0 0, .slice none 0 0, .slice none 0 0]; go_simp)
          refine hKK.out _ _ (by assumption) (fun hHeld => ?_)
          clear hKK KK
          try simp only [Act.put, List.setIfInBounds_toArray, List.set_cons_zero, List.set_cons_succ]
          refine wpAnyH_done (by kernel_rfl) ?_ _
          (go_wp2_with fail; go_meet; exact ⟨_, rfl, hT9, hT2, hR9, hHeld⟩)
      case' rb1 =>
        (obtain ⟨m1, hT, hTb⟩ := hR.lit #[.int .i64 0, .int .i64 0, .int .i64 0, .int .i64 0, .int .i64 0, .slice none 0 0, .slice none 0 0, .slice none 0 0] 42; have hT2 := hHeld.size; have hm := Chg.alloc hHeld (.cells #[.int .i64 0, .int .i64 0, .int .i64 0, .int .i64 0, .int .i64 0, .slice none 0 0, .slice none 0 0, .slice none 0 0] 42); replace hR := m1; clear m1; go_simp)
        refine hKK.out _ _ (by assumption) (fun hHeld => ?_)
        clear hKK KK
        try simp only [Act.put, List.setIfInBounds_toArray, List.set_cons_zero, List.set_cons_succ]
        refine anyH_run (i := 5) (L' := #[true, true, true, true, true, true, true, true, false, false, true, false]) rfl (by kernel_rfl) (by rfl) (fun KK hKK => ?_)
        go_simp
        (refine (N1 _ hR).mono ?_; rintro e wn5 ⟨rfl, hr, hm0⟩; have hm := Chg.trans hHeld hm0 (by simp); (try replace hT := hT.chg hm0 (by have := hTb; simp; omega)); replace hR := hr; clear hr hm0; (try go_simp))
        refine hKK.out _ _ (by assumption) (fun hHeld => ?_)
        clear hKK KK
        try simp only [Act.put, List.setIfInBounds_toArray, List.set_cons_zero, List.set_cons_succ]
        refine anyH_run (i := 8) (L' := #[true, true, true, true, true, true, true, true, true, false, true, false]) rfl (by kernel_rfl) (by rfl) (fun KK hKK => ?_)
        go_simp
        (refine (N2 _ hR).mono ?_; rintro e wn8 ⟨rfl, hr, hm0⟩; have hm := Chg.trans hHeld hm0 (by simp); (try replace hT := hT.chg hm0 (by have := hTb; simp; omega)); replace hR := hr; clear hr hm0; (try go_simp))
        refine hKK.out _ _ (by assumption) (fun hHeld => ?_)
        clear hKK KK
        try simp only [Act.put, List.setIfInBounds_toArray, List.set_cons_zero, List.set_cons_succ]
        refine anyH_run (i := 9) (L' := #[true, true, true, true, true, true, true, true, true, true, true, false]) rfl (by kernel_rfl) (by rfl) (fun KK hKK => ?_)
        go_simp
        (skip)
        refine hKK.out _ _ (by assumption) (fun hHeld => ?_)
        clear hKK KK
        try simp only [Act.put, List.setIfInBounds_toArray, List.set_cons_zero, List.set_cons_succ]
        refine anyH_run (i := 11) (L' := #[true, true, true, true, true, true, true, true, true, true, true, true]) rfl (by kernel_rfl) (by rfl) (fun KK hKK => ?_)
        (refine wp_store_row 42 _ _ rfl _ #[.int .i64 0, .int .i64 1, .int .i64 1, .int .i64 0, .int .i64 0, .slice none 0 0, .slice none 0 0, .slice none 0 0] rfl rfl 42 _ hT (by kernel_rfl) rfl (by kernel_rfl) ?_; obtain ⟨hS, hR9, hT9⟩ := RdB.rowed hR hT hHeld hT2 HW2.out #[.int .i64 0, .int .i64 1, .int .i64 1, .int .i64 0, .int .i64 0, .slice none 0 0, .slice none 0 0, .slice none 0 0]; go_simp)
        refine hKK.out _ _ (by assumption) (fun hHeld => ?_)
        clear hKK KK
        try simp only [Act.put, List.setIfInBounds_toArray, List.set_cons_zero, List.set_cons_succ]
        refine wpAnyH_done (by kernel_rfl) ?_ _
        (go_wp2_with fail; go_meet; exact ⟨_, rfl, hT9, hT2, hR9, hHeld⟩)
    case' rb0 =>
      (obtain ⟨m1, hT, hTb⟩ := hR.lit #[.int .i64 0, .int .i64 0, .int .i64 0, .int .i64 0, .int .i64 0, .slice none 0 0, .slice none 0 0, .slice none 0 0] 42; have hT2 := hHeld.size; have hm := Chg.alloc hHeld (.cells #[.int .i64 0, .int .i64 0, .int .i64 0, .int .i64 0, .int .i64 0, .slice none 0 0, .slice none 0 0, .slice none 0 0] 42); replace hR := m1; clear m1; go_simp)
      refine hKK.out _ _ (by assumption) (fun hHeld => ?_)
      clear hKK KK
      try simp only [Act.put, List.setIfInBounds_toArray, List.set_cons_zero, List.set_cons_succ]
      refine anyH_run (i := 2) (L' := #[true, true, true, true, true, false, true, true, false, false, true, false]) rfl (by kernel_rfl) (by rfl) (fun KK hKK => ?_)
      go_simp
      (refine (N0 _ hR).mono ?_; rintro e wn2 ⟨rfl, hr, hm0⟩; have hm := Chg.trans hHeld hm0 (by simp); (try replace hT := hT.chg hm0 (by have := hTb; simp; omega)); replace hR := hr; clear hr hm0; (try go_simp))
      refine hKK.out _ _ (by assumption) (fun hHeld => ?_)
      clear hKK KK
      try simp only [Act.put, List.setIfInBounds_toArray, List.set_cons_zero, List.set_cons_succ]
      refine anyH_run (i := 5) (L' := #[true, true, true, true, true, true, true, true, false, false, true, false]) rfl (by kernel_rfl) (by rfl) (fun KK hKK => ?_)
      go_simp
      (refine (N1 _ hR).mono ?_; rintro e wn5 ⟨rfl, hr, hm0⟩; have hm := Chg.trans hHeld hm0 (by simp); (try replace hT := hT.chg hm0 (by have := hTb; simp; omega)); replace hR := hr; clear hr hm0; (try go_simp))
      refine hKK.out _ _ (by assumption) (fun hHeld => ?_)
      clear hKK KK
      try simp only [Act.put, List.setIfInBounds_toArray, List.set_cons_zero, List.set_cons_succ]
      refine anyH_run (i := 8) (L' := #[true, true, true, true, true, true, true, true, true, false, true, false]) rfl (by kernel_rfl) (by rfl) (fun KK hKK => ?_)
      go_simp
      (refine (N2 _ hR).mono ?_; rintro e wn8 ⟨rfl, hr, hm0⟩; have hm := Chg.trans hHeld hm0 (by simp); (try replace hT := hT.chg hm0 (by have := hTb; simp; omega)); replace hR := hr; clear hr hm0; (try go_simp))
      refine hKK.out _ _ (by assumption) (fun hHeld => ?_)
      clear hKK KK
      try simp only [Act.put, List.setIfInBounds_toArray, List.set_cons_zero, List.set_cons_succ]
      refine anyH_run (i := 9) (L' := #[true, true, true, true, true, true, true, true, true, true, true, false]) rfl (by kernel_rfl) (by rfl) (fun KK hKK => ?_)
      go_simp
      (skip)
      refine hKK.out _ _ (by assumption) (fun hHeld => ?_)
      clear hKK KK
      try simp only [Act.put, List.setIfInBounds_toArray, List.set_cons_zero, List.set_cons_succ]
      refine anyH_run (i := 11) (L' := #[true, true, true, true, true, true, true, true, true, true, true, true]) rfl (by kernel_rfl) (by rfl) (fun KK hKK => ?_)
      (refine wp_store_row 42 _ _ rfl _ #[.int .i64 0, .int .i64 1, .int .i64 1, .int .i64 0, .int .i64 0, .slice none 0 0, .slice none 0 0, .slice none 0 0] rfl rfl 42 _ hT (by kernel_rfl) rfl (by kernel_rfl) ?_; obtain ⟨hS, hR9, hT9⟩ := RdB.rowed hR hT hHeld hT2 HW2.out #[.int .i64 0, .int .i64 1, .int .i64 1, .int .i64 0, .int .i64 0, .slice none 0 0, .slice none 0 0, .slice none 0 0]; go_simp)
      refine hKK.out _ _ (by assumption) (fun hHeld => ?_)
      clear hKK KK
      try simp only [Act.put, List.setIfInBounds_toArray, List.set_cons_zero, List.set_cons_succ]
      refine wpAnyH_done (by kernel_rfl) ?_ _
      (go_wp2_with fail; go_meet; exact ⟨_, rfl, hT9, hT2, hR9, hHeld⟩)
  case rest =>
  obtain ⟨tb, rfl, hT, htb, hR2, hM2⟩ := hcut
  clear hR
  have hR := hR2
  clear hR2
  replace hX := hX.chg hM2 (by have := HT0.out; simp; omega)
  replace hK := hK.chg hM2 (by have := HT0.out; simp; omega)
  replace hM := hM.trans hM2 (fun x hx hl => by have := HT0.out; simp at hx; omega)
  have HT : Hd (b = kb + 1 ∧ base = b + 1 ∧ base ≤ rb ∧ rb < tb ∧ kb = w.heap.size) := hd (by have := HT0.out; omega)
  clear hM2 htb hrlt HT0
  have hc0 := hX.cell 0
  simp at hc0
  go_upto_region 4 with (go_at_call 40; refine (N3 _ hR (by have := HT.out; have := hX.lt; omega)).mono ?_; rintro e w5 ⟨rfl, hr, hm0⟩; have hT5 := hT.chg hm0 (by have := HT.out; simp; omega); have c3 := hT5.cell 3; have c4 := hT5.cell 4; have f3 := hT5.free 3; have f4 := hT5.free 4; simp at c3 c4)
  have hs := ((Chg.refl [tb] w5).setCell ⟨tb, 3, none⟩ (.int .i64 0) (by simp)).setCell ⟨tb, 4, none⟩ (.int .i64 0) (by simp)
  have hR1 := hr.keep hs (by have := HT.out; simp; omega)
  have hT1 := (hT5.set 3 (.int .i64 0)).set 4 (.int .i64 0)
  simp at hT1
  have hX1 := (hX.chg hm0 (by have := HT.out; simp; omega)).chg hs (by have := HT.out; simp; omega)
  have hK1 := (hK.chg hm0 (by have := HT.out; simp; omega)).chg hs (by have := HT.out; simp; omega)
  have hM1 := (hM.trans hm0 (fun x hx hl => by have := HT.out; simp at hx; omega)).trans hs (fun x hx hl => by have := HT.out; simp at hx; omega)
  clear hR hT hX hK hM hs hm0 hT5 hr c3 c4 f3 f4 hc0
  generalize (w5.setCell ⟨tb, 3, none⟩ (.int .i64 0)).setCell ⟨tb, 4, none⟩ (.int .i64 0) = wc4 at *
  have hR := hR1
  have hT := hT1
  have hX := hX1
  have hK := hK1
  have hM := hM1
  clear hR1 hT1 hX1 hK1 hM1
  have Q0 := hd (show wc4.cell? ⟨rb, 0, none⟩ = some (.pointer (some ⟨b, 0, none⟩)) from hX.cell 0)
  have NX : Hd (rb ∉ [b, tb]) := hd (by have := HT.out; simp; omega)
  have hR0 := hR
  have hT0 := hT
  clear hR hT
  have hR := hR0.k (Chg.refl [] wc4).drew
  have hT := hT0.k (Chg.refl [] wc4).drew
  clear hR0 hT0
  refine anyH_start (n := 7) (L := #[false, false, false, false, false, false, false]) (by kernel_rfl) (by kernel_rfl) (S := (fun wx => Chg [b, tb] wc4 wx)) ((Chg.refl _ _).drew) (fun hHeld => ?_)
  generalize wc4.drew = wd4 at *
  refine anyH_take (i := 0) (d := 23) (L' := #[true, false, false, false, false, false, false]) (v := ?v31) rfl rfl (by kernel_rfl) (fun _ _ _ h => h) (by rfl) ?hy31 (by assumption) ?rest31
  case hy31 => (intro wx hSw; (try dsimp only at hSw); (have t0 := Chg.cellT hSw Q0.out NX.out); go_simp; (try with_reducible rfl))
  simp only [Act.put, List.setIfInBounds_toArray, List.set_cons_zero, List.set_cons_succ]
  refine anyH_take (i := 1) (d := 24) (L' := #[true, true, false, false, false, false, false]) (v := ?v32) rfl rfl (by kernel_rfl) (fun _ _ _ h => h) (by rfl) ?hy32 (by assumption) ?rest32
  case hy32 => (intro wx hSw; (try dsimp only at hSw); (have t0 := Chg.cellT hSw Q0.out NX.out); go_simp; (try with_reducible rfl))
  simp only [Act.put, List.setIfInBounds_toArray, List.set_cons_zero, List.set_cons_succ]
  refine anyH_take (i := 2) (d := 25) (L' := #[true, true, true, false, false, false, false]) (v := ?v33) rfl rfl (by kernel_rfl) (fun _ _ _ h => h) (by rfl) ?hy33 (by assumption) ?rest33
  case hy33 => (intro wx hSw; (try dsimp only at hSw); (have t0 := Chg.cellT hSw Q0.out NX.out); go_simp; (try with_reducible rfl))
  simp only [Act.put, List.setIfInBounds_toArray, List.set_cons_zero, List.set_cons_succ]
  refine anyH_run (i := 3) (L' := #[true, true, true, true, false, false, false]) rfl (by kernel_rfl) (by rfl) (fun KK hKK => ?_)
  go_simp
  (refine (N4 _ hR).mono ?_; rintro e w3 ⟨rfl, hr, hm0⟩; have hm := Chg.trans hHeld hm0 (by simp); replace hT := hT.chg hm0 (by have := HT.out; simp; omega); replace hR := hr; clear hr hm0; (try go_simp))
  refine hKK.out _ _ (by assumption) (fun hHeld => ?_)
  clear hKK KK
  try simp only [Act.put, List.setIfInBounds_toArray, List.set_cons_zero, List.set_cons_succ]
  refine anyH_run (i := 4) (L' := #[true, true, true, true, true, false, false]) rfl (by kernel_rfl) (by rfl) (fun KK hKK => ?_)
  go_simp
  (refine (SevB0_any _ _ _).mono ?_; rintro e w4 ⟨rfl, hm0⟩; have hm := Chg.k' hHeld hm0; replace hR := hR.k hm0; replace hT := hT.k hm0; have c5 := hT.cell 5; have f5 := hT.free 5; simp at c5; clear hm0; (try go_simp))
  refine hKK.out _ _ (by assumption) (fun hHeld => ?_)
  clear hKK KK
  try simp only [Act.put, List.setIfInBounds_toArray, List.set_cons_zero, List.set_cons_succ]
  refine anyH_take (i := 5) (d := 28) (L' := #[true, true, true, true, true, true, false]) (v := ?v36) rfl rfl (by kernel_rfl) (fun _ _ _ h => h) (by rfl) ?hy36 (by assumption) ?rest36
  case hy36 => (intro wx hSw; (try dsimp only at hSw); (have t0 := Chg.cellT hSw Q0.out NX.out); go_simp; (try with_reducible rfl))
  simp only [Act.put, List.setIfInBounds_toArray, List.set_cons_zero, List.set_cons_succ]
  refine anyH_run (i := 6) (L' := #[true, true, true, true, true, true, true]) rfl (by kernel_rfl) (by rfl) (fun KK hKK => ?_)
  go_simp
  (have hS := Chg.setCell hHeld ⟨tb, 5, none⟩ (.slice none 0 0) (by simp))
  refine hKK.out _ _ (by assumption) (fun hHeld => ?_)
  clear hKK KK
  try simp only [Act.put, List.setIfInBounds_toArray, List.set_cons_zero, List.set_cons_succ]
  refine wpAnyH_done (by kernel_rfl) ?_ _
  skip
  have hH9 := hm
  clear hm hHeld Q0 NX c5 f5
  have hs5 := (Chg.refl [tb] w4).setCell ⟨tb, 5, none⟩ (.slice none 0 0) (by simp)
  have hR1 := hR.keep hs5 (by have := HT.out; simp; omega)
  have hT1 := hT.set 5 (.slice none 0 0)
  simp at hT1
  have hX1 := (hX.chg hH9 (by have := HT.out; simp; omega)).chg hs5 (by have := HT.out; simp; omega)
  have hK1 := (hK.chg hH9 (by have := HT.out; simp; omega)).chg hs5 (by have := HT.out; simp; omega)
  have hM1 := (hM.trans hH9 (fun x hx hl => by have := HT.out; simp at hx; omega)).trans hs5 (fun x hx hl => by have := HT.out; simp at hx; omega)
  clear hR hT hX hK hM hs5 hH9
  generalize w4.setCell ⟨tb, 5, none⟩ (.slice none 0 0) = wc5 at *
  have hR := hR1
  have hT := hT1
  have hX := hX1
  have hK := hK1
  have hM := hM1
  clear hR1 hT1 hX1 hK1 hM1
  go_upto_region 5 with (fail)
  have Q0 := hd (show wc5.cell? ⟨rb, 0, none⟩ = some (.pointer (some ⟨b, 0, none⟩)) from hX.cell 0)
  have NX : Hd (rb ∉ [b, tb]) := hd (by have := HT.out; simp; omega)
  have hR0 := hR
  have hT0 := hT
  clear hR hT
  have hR := hR0.k (Chg.refl [] wc5).drew
  have hT := hT0.k (Chg.refl [] wc5).drew
  clear hR0 hT0
  refine anyH_start (n := 7) (L := #[false, false, false, false, false, false, false]) (by kernel_rfl) (by kernel_rfl) (S := (fun wx => Chg [b, tb] wc5 wx)) ((Chg.refl _ _).drew) (fun hHeld => ?_)
  generalize wc5.drew = wd5 at *
  refine anyH_take (i := 0) (d := 29) (L' := #[true, false, false, false, false, false, false]) (v := ?v40) rfl rfl (by kernel_rfl) (fun _ _ _ h => h) (by rfl) ?hy40 (by assumption) ?rest40
  case hy40 => (intro wx hSw; (try dsimp only at hSw); (have t0 := Chg.cellT hSw Q0.out NX.out); go_simp; (try with_reducible rfl))
  simp only [Act.put, List.setIfInBounds_toArray, List.set_cons_zero, List.set_cons_succ]
  refine anyH_take (i := 1) (d := 30) (L' := #[true, true, false, false, false, false, false]) (v := ?v41) rfl rfl (by kernel_rfl) (fun _ _ _ h => h) (by rfl) ?hy41 (by assumption) ?rest41
  case hy41 => (intro wx hSw; (try dsimp only at hSw); (have t0 := Chg.cellT hSw Q0.out NX.out); go_simp; (try with_reducible rfl))
  simp only [Act.put, List.setIfInBounds_toArray, List.set_cons_zero, List.set_cons_succ]
  refine anyH_take (i := 2) (d := 31) (L' := #[true, true, true, false, false, false, false]) (v := ?v42) rfl rfl (by kernel_rfl) (fun _ _ _ h => h) (by rfl) ?hy42 (by assumption) ?rest42
  case hy42 => (intro wx hSw; (try dsimp only at hSw); (have t0 := Chg.cellT hSw Q0.out NX.out); go_simp; (try with_reducible rfl))
  simp only [Act.put, List.setIfInBounds_toArray, List.set_cons_zero, List.set_cons_succ]
  refine anyH_run (i := 3) (L' := #[true, true, true, true, false, false, false]) rfl (by kernel_rfl) (by rfl) (fun KK hKK => ?_)
  go_simp
  (refine (N5 _ hR).mono ?_; rintro e w3 ⟨rfl, hr, hm0⟩; have hm := Chg.trans hHeld hm0 (by simp); replace hT := hT.chg hm0 (by have := HT.out; simp; omega); replace hR := hr; clear hr hm0; (try go_simp))
  refine hKK.out _ _ (by assumption) (fun hHeld => ?_)
  clear hKK KK
  try simp only [Act.put, List.setIfInBounds_toArray, List.set_cons_zero, List.set_cons_succ]
  refine anyH_run (i := 4) (L' := #[true, true, true, true, true, false, false]) rfl (by kernel_rfl) (by rfl) (fun KK hKK => ?_)
  go_simp
  (refine (SevJ0_any _ _ _).mono ?_; rintro e w4 ⟨rfl, hm0⟩; have hm := Chg.k' hHeld hm0; replace hR := hR.k hm0; replace hT := hT.k hm0; have c6 := hT.cell 6; have f6 := hT.free 6; simp at c6; clear hm0; (try go_simp))
  refine hKK.out _ _ (by assumption) (fun hHeld => ?_)
  clear hKK KK
  try simp only [Act.put, List.setIfInBounds_toArray, List.set_cons_zero, List.set_cons_succ]
  refine anyH_take (i := 5) (d := 34) (L' := #[true, true, true, true, true, true, false]) (v := ?v45) rfl rfl (by kernel_rfl) (fun _ _ _ h => h) (by rfl) ?hy45 (by assumption) ?rest45
  case hy45 => (intro wx hSw; (try dsimp only at hSw); (have t0 := Chg.cellT hSw Q0.out NX.out); go_simp; (try with_reducible rfl))
  simp only [Act.put, List.setIfInBounds_toArray, List.set_cons_zero, List.set_cons_succ]
  refine anyH_run (i := 6) (L' := #[true, true, true, true, true, true, true]) rfl (by kernel_rfl) (by rfl) (fun KK hKK => ?_)
  go_simp
  (have hS := Chg.setCell hHeld ⟨tb, 6, none⟩ (.slice none 0 0) (by simp))
  refine hKK.out _ _ (by assumption) (fun hHeld => ?_)
  clear hKK KK
  try simp only [Act.put, List.setIfInBounds_toArray, List.set_cons_zero, List.set_cons_succ]
  refine wpAnyH_done (by kernel_rfl) ?_ _
  skip
  have hH9 := hm
  clear hm hHeld Q0 NX c6 f6
  have hs6 := (Chg.refl [tb] w4).setCell ⟨tb, 6, none⟩ (.slice none 0 0) (by simp)
  have hR1 := hR.keep hs6 (by have := HT.out; simp; omega)
  have hT1 := hT.set 6 (.slice none 0 0)
  simp at hT1
  have hX1 := (hX.chg hH9 (by have := HT.out; simp; omega)).chg hs6 (by have := HT.out; simp; omega)
  have hK1 := (hK.chg hH9 (by have := HT.out; simp; omega)).chg hs6 (by have := HT.out; simp; omega)
  have hM1 := (hM.trans hH9 (fun x hx hl => by have := HT.out; simp at hx; omega)).trans hs6 (fun x hx hl => by have := HT.out; simp at hx; omega)
  clear hR hT hX hK hM hs6 hH9
  generalize w4.setCell ⟨tb, 6, none⟩ (.slice none 0 0) = wc6 at *
  have hR := hR1
  have hT := hT1
  have hX := hX1
  have hK := hK1
  have hM := hM1
  clear hR1 hT1 hX1 hK1 hM1
  go_upto_region 6 with (fail)
  have Q0 := hd (show wc6.cell? ⟨rb, 0, none⟩ = some (.pointer (some ⟨b, 0, none⟩)) from hX.cell 0)
  have NX : Hd (rb ∉ [b, tb]) := hd (by have := HT.out; simp; omega)
  have hR0 := hR
  have hT0 := hT
  clear hR hT
  have hR := hR0.k (Chg.refl [] wc6).drew
  have hT := hT0.k (Chg.refl [] wc6).drew
  clear hR0 hT0
  refine anyH_start (n := 7) (L := #[false, false, false, false, false, false, false]) (by kernel_rfl) (by kernel_rfl) (S := (fun wx => Chg [b, tb] wc6 wx)) ((Chg.refl _ _).drew) (fun hHeld => ?_)
  generalize wc6.drew = wd6 at *
  refine anyH_take (i := 0) (d := 35) (L' := #[true, false, false, false, false, false, false]) (v := ?v49) rfl rfl (by kernel_rfl) (fun _ _ _ h => h) (by rfl) ?hy49 (by assumption) ?rest49
  case hy49 => (intro wx hSw; (try dsimp only at hSw); (have t0 := Chg.cellT hSw Q0.out NX.out); go_simp; (try with_reducible rfl))
  simp only [Act.put, List.setIfInBounds_toArray, List.set_cons_zero, List.set_cons_succ]
  refine anyH_take (i := 1) (d := 36) (L' := #[true, true, false, false, false, false, false]) (v := ?v50) rfl rfl (by kernel_rfl) (fun _ _ _ h => h) (by rfl) ?hy50 (by assumption) ?rest50
  case hy50 => (intro wx hSw; (try dsimp only at hSw); (have t0 := Chg.cellT hSw Q0.out NX.out); go_simp; (try with_reducible rfl))
  simp only [Act.put, List.setIfInBounds_toArray, List.set_cons_zero, List.set_cons_succ]
  refine anyH_take (i := 2) (d := 37) (L' := #[true, true, true, false, false, false, false]) (v := ?v51) rfl rfl (by kernel_rfl) (fun _ _ _ h => h) (by rfl) ?hy51 (by assumption) ?rest51
  case hy51 => (intro wx hSw; (try dsimp only at hSw); (have t0 := Chg.cellT hSw Q0.out NX.out); go_simp; (try with_reducible rfl))
  simp only [Act.put, List.setIfInBounds_toArray, List.set_cons_zero, List.set_cons_succ]
  refine anyH_run (i := 3) (L' := #[true, true, true, true, false, false, false]) rfl (by kernel_rfl) (by rfl) (fun KK hKK => ?_)
  go_simp
  (refine (N6 _ hR).mono ?_; rintro e w3 ⟨rfl, hr, hm0⟩; have hm := Chg.trans hHeld hm0 (by simp); replace hT := hT.chg hm0 (by have := HT.out; simp; omega); replace hR := hr; clear hr hm0; (try go_simp))
  refine hKK.out _ _ (by assumption) (fun hHeld => ?_)
  clear hKK KK
  try simp only [Act.put, List.setIfInBounds_toArray, List.set_cons_zero, List.set_cons_succ]
  refine anyH_run (i := 4) (L' := #[true, true, true, true, true, false, false]) rfl (by kernel_rfl) (by rfl) (fun KK hKK => ?_)
  go_simp
  (refine (SevC0_any _ _ _).mono ?_; rintro e w4 ⟨rfl, hm0⟩; have hm := Chg.k' hHeld hm0; replace hR := hR.k hm0; replace hT := hT.k hm0; have c7 := hT.cell 7; have f7 := hT.free 7; simp at c7; clear hm0; (try go_simp))
  refine hKK.out _ _ (by assumption) (fun hHeld => ?_)
  clear hKK KK
  try simp only [Act.put, List.setIfInBounds_toArray, List.set_cons_zero, List.set_cons_succ]
  refine anyH_take (i := 5) (d := 40) (L' := #[true, true, true, true, true, true, false]) (v := ?v54) rfl rfl (by kernel_rfl) (fun _ _ _ h => h) (by rfl) ?hy54 (by assumption) ?rest54
  case hy54 => (intro wx hSw; (try dsimp only at hSw); (have t0 := Chg.cellT hSw Q0.out NX.out); go_simp; (try with_reducible rfl))
  simp only [Act.put, List.setIfInBounds_toArray, List.set_cons_zero, List.set_cons_succ]
  refine anyH_run (i := 6) (L' := #[true, true, true, true, true, true, true]) rfl (by kernel_rfl) (by rfl) (fun KK hKK => ?_)
  go_simp
  (have hS := Chg.setCell hHeld ⟨tb, 7, none⟩ (.slice none 0 0) (by simp))
  refine hKK.out _ _ (by assumption) (fun hHeld => ?_)
  clear hKK KK
  try simp only [Act.put, List.setIfInBounds_toArray, List.set_cons_zero, List.set_cons_succ]
  refine wpAnyH_done (by kernel_rfl) ?_ _
  skip
  have hH9 := hm
  clear hm hHeld Q0 NX c7 f7
  have hs7 := (Chg.refl [tb] w4).setCell ⟨tb, 7, none⟩ (.slice none 0 0) (by simp)
  have hR1 := hR.keep hs7 (by have := HT.out; simp; omega)
  have hT1 := hT.set 7 (.slice none 0 0)
  simp at hT1
  have hX1 := (hX.chg hH9 (by have := HT.out; simp; omega)).chg hs7 (by have := HT.out; simp; omega)
  have hK1 := (hK.chg hH9 (by have := HT.out; simp; omega)).chg hs7 (by have := HT.out; simp; omega)
  have hM1 := (hM.trans hH9 (fun x hx hl => by have := HT.out; simp at hx; omega)).trans hs7 (fun x hx hl => by have := HT.out; simp at hx; omega)
  clear hR hT hX hK hM hs7 hH9
  generalize w4.setCell ⟨tb, 7, none⟩ (.slice none 0 0) = wc7 at *
  have hR := hR1
  have hT := hT1
  have hX := hX1
  have hK := hK1
  have hM := hM1
  clear hR1 hT1 hX1 hK1 hM1
  have hc0 := hX.cell 0
  simp at hc0
  have d0 := hT.cell 0
  have d1 := hT.cell 1
  have d2 := hT.cell 2
  have d3 := hT.cell 3
  have d4 := hT.cell 4
  have d5 := hT.cell 5
  have d6 := hT.cell 6
  have d7 := hT.cell 7
  simp at d0 d1 d2 d3 d4 d5 d6 d7
  go_wp2_with (first
    | (go_at_call 48; refine (N7 _ hR).mono ?_; rintro e w8 ⟨rfl, rfl⟩)
    | (go_at_call 49; refine (Right0_any _).mono ?_; rintro e w9 ⟨rfl, h9⟩; have k5 := hT.k h9; have kB5 := hK.k h9)
    | (refine wpList_load_row rfl _ _ rfl tb rfl 42 _ (0, 0) _ k5 Tryz.underlying42 rfl (by kernel_rfl) ?_)
    | (refine wpList_store_row rfl _ _ _ rfl kb #[.int .i64 0, .int .i64 1, .int .i64 1, .int .i64 0, .int .i64 0, .slice none 0 0, .slice none 0 0, .slice none 0 0] rfl rfl 42 _ kB5 (by kernel_rfl) (by simp) (by simp [Value.oneCell']) ?_))
  have hY := kB5.row (cs' := #[.int .i64 0, .int .i64 1, .int .i64 1, .int .i64 0, .int .i64 0, .slice none 0 0, .slice none 0 0, .slice none 0 0])
  have hM9 := (hM.k' h9).trans (Chg.row (Chg.refl [kb] w9) kb #[.int .i64 0, .int .i64 1, .int .i64 1, .int .i64 0, .int .i64 0, .slice none 0 0, .slice none 0 0, .slice none 0 0] (by simp)) (fun x hx hl => by have := HT.out; simp at hx; omega)
  have r0 := hY.cell 0
  have r1 := hY.cell 1
  have r2 := hY.cell 2
  have r3 := hY.cell 3
  have r4 := hY.cell 4
  have r5 := hY.cell 5
  have r6 := hY.cell 6
  have r7 := hY.cell 7
  simp at r0 r1 r2 r3 r4 r5 r6 r7
  refine bodyPost_ret (v := .tuple #[vW0, .int .i64 0]) ?_ rfl ⟨rfl, hM9⟩
  unfold vW0
  simp only [results]
  go_simp
end Go.Proofs.YtpadflhffiiglaaGreat
