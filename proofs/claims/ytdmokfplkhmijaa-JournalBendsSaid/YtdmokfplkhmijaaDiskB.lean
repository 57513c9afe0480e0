/- turn, change, name. -/
import Derived.Test.YtdmokfplkhmijaaDiskOp
import Derived.Deep.Cut
namespace Go.Proofs.Ytdmokfplkhmijaa
open Go.RowKit

theorem strB_nil : strB [] = ByteArray.empty := rfl
theorem strB_beq (a b : List UInt8) : (strB a == strB b) = (a == b) := by
  show (a.toArray == b.toArray) = _
  simp
theorem strB_empty {s : List UInt8} (h : s ≠ []) : (strB s == ByteArray.empty) = false := by
  rw [← strB_nil, strB_beq]; simpa using h

set_option maxHeartbeats 400000 in
theorem turn_any (w : World) (nb : Nat) (es : Nm) (c : List UInt8 × List UInt8 × Nat) (h : MapAt w nb es) (h1 : c.1.length ≤ 140737488355328) (h2 : c.2.1.length ≤ 140737488355328) (hi : c.2.2 ≤ 4611686018427387904) (hn : es.length ≤ 10000000000) :
    Calls Try.prog 56 #[.map (some nb), .agg #[.string (strB c.1), .string (strB c.2.1), .int .i64 (c.2.2 : Int)]] w fun e w' => e = .returned (.tuple #[]) ∧ MapAt w' nb (turnD es c) ∧ Chg [nb] w w' := by
  obtain ⟨g, s, i⟩ := c
  dsimp only at h1 h2 hi ⊢
  have hnd : (es.map (·.1)).Nodup := let ⟨_, _, hr⟩ := h; hr.nodup
  have hlen : (ndel es g).length ≤ 10000000000 := Nat.le_trans (List.length_filter_le _ _) hn
  go_enter Try.func56, Try.ntmps56
  have kx := Blk.new w #[.string (strB g), .string (strB s), .int .i64 (i : Int)] 99
  have hm := h.alloc (.cells #[.string (strB g), .string (strB s), .int .i64 (i : Int)] 99)
  have hc := (Chg.refl [nb] w).alloc (.cells #[.string (strB g), .string (strB s), .int .i64 (i : Int)] 99)
  by_cases hg : g = []
  · subst hg
    by_cases hs : s = []
    · subst hs
      go_wp2_with fail
      go_end0
      exact ⟨rfl, by simp [turnD, *], hc⟩
    · have s1 := strB_empty hs
      have s2 : (s == []) = false := by simpa using hs
      go_wp2_with (refine wpPut rfl _ _ _ rfl nb _ s i rfl rfl rfl hm h2 hi (by omega) ?_; intro w2 hm2 hg2)
      go_end0
      exact ⟨rfl, by simp [turnD, *], hc.grown hg2 (by simp)⟩
  · have g1 := strB_empty hg
    have g2 : (g == []) = false := by simpa using hg
    by_cases hs : s = []
    · subst hs
      go_wp2_with (at_delete; refine wpDel rfl _ _ rfl nb _ g rfl rfl hm h1 ?_; intro w2 hm2 hg2; have kx2 := kx.grown hg2 (fun e => hm.apart kx (by injection e)); have r0 := kx2.cell 0; have r1 := kx2.cell 1; have r2 := kx2.cell 2; simp at r0 r1 r2)
      go_end0
      exact ⟨rfl, by simp [turnD, *], hc.grown hg2 (by simp)⟩
    · have s1 := strB_empty hs
      have s2 : (s == []) = false := by simpa using hs
      go_wp2_with (first | (at_delete; refine wpDel rfl _ _ rfl nb _ g rfl rfl hm h1 ?_; intro w2 hm2 hg2; have kx2 := kx.grown hg2 (fun e => hm.apart kx (by injection e)); have r0 := kx2.cell 0; have r1 := kx2.cell 1; have r2 := kx2.cell 2; simp at r0 r1 r2) | (refine wpPut rfl _ _ _ rfl nb _ s i rfl rfl rfl hm2 h2 hi (by omega) ?_; intro w3 hm3 hg3))
      go_end0
      exact ⟨rfl, by simp [turnD, *], (hc.grown hg2 (by simp)).grown hg3 (by simp)⟩
end Go.Proofs.Ytdmokfplkhmijaa

/- Disk.change. -/
namespace Go.Proofs.Ytdmokfplkhmijaa
open Go.RowKit

variable {w : World} {fp : List Nat} {b : Nat} {fv cv : Value} {nb sb : Nat} {hs : List HF} {d : Dsk}

theorem change_fin {w2 W w7 : World} {es : Nm} {g s : List UInt8} {i : Nat} {cv' : Value} (D : DkP w2 fp b fv cv nb sb hs { d with names := es }) (hcf : Chg fp w w2) (hA : Chg [] w2 W)
    (hr7 : w7.ownsRow 0 99 3 cv' (d.changes.length + 1) (chCells d.changes ++ [.string (strB g), .string (strB s), .int .i64 (i : Int)])) (hg7 : W.grownBy w7 cv.ownBlock) (hm7 : Moved W cv cv')
    (hg : GoodD { d with names := es, changes := d.changes ++ [(g, s, i)] }) (hS8 : Chg (b :: cv.ownBlock.toList) w2 (w7.setCell ⟨b, 4, none⟩ cv')) :
    DkOut w fp b { d with names := es, changes := d.changes ++ [(g, s, i)] } (w7.setCell ⟨b, 4, none⟩ cv') := by
  have hsz := hcf.size
  have hszA := hA.size
  refine DkOut.mk ⟨_, _, _, _, _, DkP.changed (D.k hA) (cs := d.changes ++ [(g, s, i)]) hg7 ?_ hg⟩ ?_ ?_
  · rw [chCells_app, List.length_append]; exact hr7
  · refine hcf.trans hS8 fun x hx _ => ?_
    rcases List.mem_cons.1 hx with rfl | hx
    · exact D.fpb
    · exact D.fpc x (by simpa using hx)
  · exact (Gr.refl fp w).trans (Gr.cons hm7 D.fpc) (by omega)

set_option maxHeartbeats 1000000 in
theorem change_any (h : DkP w fp b fv cv nb sb hs d) (g s : List UInt8) (i : Nat) (h1 : g.length ≤ 140737488355328) (h2 : s.length ≤ 140737488355328) (hi : i ≤ d.files.length) (hi' : s ≠ [] → i < d.files.length)
    (hb1 : (d.names.length : Int) + 1 ≤ d.ops) (hb2 : (d.sure.length + d.changes.length : Int) + 1 ≤ d.ops) :
    Calls Try.prog 60 #[.pointer (some ⟨b, 0, none⟩), .agg #[.string (strB g), .string (strB s), .int .i64 (i : Int)]] w fun e w' =>
      e = .returned (.tuple #[]) ∧ DkOut w fp b (changeD d (g, s, i)) w' := by
  have hg := h.good
  have ho := hg.ops
  have hnf := hg.nfiles
  have hnd : (d.names.map (·.1)).Nodup := let ⟨_, _, hr⟩ := h.names; hr.nodup
  have hg1 : GoodD { d with names := turnD d.names (g, s, i) } := by
    refine { hg with named := fun p hp => ?_, nnames := ?_ }
    · rcases mem_turnD hp with hp | ⟨hne, rfl⟩
      · exact hg.named p hp
      · exact hi' hne
    · have := length_turn hnd (g, s, i)
      show ((turnD d.names (g, s, i)).length : Int) ≤ d.ops
      omega
  have hg2 : GoodD (changeD d (g, s, i)) := by
    refine { hg1 with turned := fun c hc => ?_, idx := fun c hc => ?_, nchanges := ?_, clens := fun c hc => ?_ }
    · rcases List.mem_append.1 hc with hc | hc
      · exact hg.turned c hc
      · obtain rfl : c = (g, s, i) := by simpa using hc
        exact hi'
    · rcases List.mem_append.1 hc with hc | hc
      · exact hg.idx c hc
      · obtain rfl : c = (g, s, i) := by simpa using hc
        exact hi
    · show (d.sure.length : Int) + ((d.changes ++ [(g, s, i)]).length : Int) ≤ d.ops
      simp only [List.length_append, List.length_cons, List.length_nil]
      omega
    · rcases List.mem_append.1 hc with hc | hc
      · exact hg.clens c hc
      · obtain rfl : c = (g, s, i) := by simpa using hc
        exact ⟨h1, h2⟩
  have HG1 := hd hg1
  have HG2 := hd hg2
  clear hg hg1 hg2 hnd
  have hc := Chg.refl [] w
  have hblt := h.box.lt
  have hcvlt := fun k hk => (World.ownsRow.lt h.changes k hk).2
  go_enter Try.func60, Try.ntmps60
  go_upto_region 1 with (fail)
  have hcb1 := (Chg.refl [] w).alloc (.cells #[.string (strB g), .string (strB s), .int .i64 (i : Int)] 99)
  have kx := Blk.new w #[.string (strB g), .string (strB s), .int .i64 (i : Int)] 99
  replace h := h.k hcb1
  replace hc := hc.k hcb1
  generalize w.alloc (.cells #[.string (strB g), .string (strB s), .int .i64 (i : Int)] 99) = w0 at *
  clear hcb1
  have q0 := kx.cell 0
  have q1 := kx.cell 1
  have q2 := kx.cell 2
  have q3 := h.box.cell 2
  simp [boxCells] at q0 q1 q2 q3
  have Q0 := hd q0
  have Q1 := hd q1
  have Q2 := hd q2
  have Q3 := hd q3
  have HM := hd h.names
  clear q0 q1 q2 q3
  have N1 : w.heap.size ∉ [nb] := by simpa using fun e => h.names.apart kx e.symm
  have N2 : b ∉ [nb] := by simpa using fun e => h.names.apart h.box e.symm
  refine anyH_start (n := 6) (L := #[false, false, false, false, false, false]) (by kernel_rfl) (by kernel_rfl) (S := (fun wx => Chg [nb] w0 wx)) ((Chg.refl _ _).drew) (fun hHeld => ?_)
  refine anyH_take (i := 0) (d := 4) (L' := #[true, false, false, false, false, false]) (v := ?v3) rfl rfl (by kernel_rfl) (fun _ _ _ h => h) (by rfl) ?hy3 (by assumption) ?rest3
  case hy3 => (intro wx hSw; (try dsimp only at hSw); (have t0 := hSw.cellT Q0.out N1; have t1 := hSw.cellT Q1.out N1; have t2 := hSw.cellT Q2.out N1; have t3 := hSw.cellT Q3.out N2); go_simp; (try with_reducible rfl))
  simp only [Act.put, List.setIfInBounds_toArray, List.set_cons_zero, List.set_cons_succ]
  refine anyH_take (i := 1) (d := 5) (L' := #[true, true, false, false, false, false]) (v := ?v4) rfl rfl (by kernel_rfl) (fun _ _ _ h => h) (by rfl) ?hy4 (by assumption) ?rest4
  case hy4 => (intro wx hSw; (try dsimp only at hSw); (have t0 := hSw.cellT Q0.out N1; have t1 := hSw.cellT Q1.out N1; have t2 := hSw.cellT Q2.out N1; have t3 := hSw.cellT Q3.out N2); go_simp; (try with_reducible rfl))
  simp only [Act.put, List.setIfInBounds_toArray, List.set_cons_zero, List.set_cons_succ]
  refine anyH_take (i := 2) (d := 6) (L' := #[true, true, true, false, false, false]) (v := ?v5) rfl rfl (by kernel_rfl) (fun _ _ _ h => h) (by rfl) ?hy5 (by assumption) ?rest5
  case hy5 => (intro wx hSw; (try dsimp only at hSw); (have t0 := hSw.cellT Q0.out N1; have t1 := hSw.cellT Q1.out N1; have t2 := hSw.cellT Q2.out N1; have t3 := hSw.cellT Q3.out N2); go_simp; (try with_reducible rfl))
  simp only [Act.put, List.setIfInBounds_toArray, List.set_cons_zero, List.set_cons_succ]
  refine anyH_take (i := 3) (d := 7) (L' := #[true, true, true, true, false, false]) (v := ?v6) rfl rfl (by kernel_rfl) (fun _ _ _ h => h) (by rfl) ?hy6 (by assumption) ?rest6
  case hy6 => (intro wx hSw; (try dsimp only at hSw); (have t0 := hSw.cellT Q0.out N1; have t1 := hSw.cellT Q1.out N1; have t2 := hSw.cellT Q2.out N1; have t3 := hSw.cellT Q3.out N2); go_simp; (try with_reducible rfl))
  simp only [Act.put, List.setIfInBounds_toArray, List.set_cons_zero, List.set_cons_succ]
  refine anyH_take (i := 4) (d := 8) (L' := #[true, true, true, true, true, false]) (v := ?v7) rfl rfl (by kernel_rfl) (fun _ _ _ h => h) (by rfl) ?hy7 (by assumption) ?rest7
  case hy7 => (intro wx hSw; (try dsimp only at hSw); (have t0 := hSw.cellT Q0.out N1; have t1 := hSw.cellT Q1.out N1; have t2 := hSw.cellT Q2.out N1; have t3 := hSw.cellT Q3.out N2); go_simp; (try with_reducible rfl))
  simp only [Act.put, List.setIfInBounds_toArray, List.set_cons_zero, List.set_cons_succ]
  refine anyH_run (i := 5) (L' := #[true, true, true, true, true, true]) rfl (by kernel_rfl) (by rfl) (fun KK hKK => ?_)
  go_simp
  (refine (turn_any _ nb d.names (g, s, i) (HM.out.k (Chg.refl _ _).drew) h1 h2 (by show i ≤ _; omega) (by omega)).mono ?_; rintro e w2 ⟨rfl, hm2, hc2⟩; have hcc := (Chg.refl [nb] w0).drew.trans hc2 (by simp); clear hc2; try go_simp)
  refine hKK.out _ _ (by assumption) (fun hHeld => ?_)
  clear hKK KK
  try simp only [Act.put, List.setIfInBounds_toArray, List.set_cons_zero, List.set_cons_succ]
  refine wpAnyH_done (by kernel_rfl) ?_ _
  have D2 := h.named hcc hm2 HG1.out
  have hcf : Chg fp w w2 := (hc.mono (S' := fp) (by simp)).trans hcc (by simp only [List.mem_singleton]; rintro x rfl _; exact h.fpn)
  have kx2 := kx.chg hcc N1
  have q0 := kx2.cell 0
  have q1 := kx2.cell 1
  have q2 := kx2.cell 2
  have q3 := D2.box.cell 4
  simp [boxCells] at q0 q1 q2 q3
  replace Q0 := hd q0
  replace Q1 := hd q1
  replace Q2 := hd q2
  have hlt := D2.box.lt
  have HC := hd D2.changes
  have HD := hd D2
  have HCF := hd hcf
  have N1 : w.heap.size ∉ b :: cv.ownBlock.toList := by
    intro hx
    rcases List.mem_cons.1 hx with e | e
    · omega
    · rw [Option.mem_toList] at e; have := hcvlt _ e; omega
  clear q0 q1 q2 D2 hcf hm2 hcc kx kx2 h HM N2 Q3
  go_upto_region 2 with (fail)
  refine anyH_start (n := 11) (L := #[false, false, false, false, false, false, false, false, false, false, false]) (by kernel_rfl) (by kernel_rfl) (S := (fun wx => Chg (b :: cv.ownBlock.toList) w2 wx)) ((Chg.refl _ _).drew) (fun hHeld => ?_)
  refine anyH_take (i := 0) (d := 10) (L' := #[true, false, false, false, false, false, false, false, false, false, false]) (v := ?v11) rfl rfl (by kernel_rfl) (fun _ _ _ h => h) (by rfl) ?hy11 (by assumption) ?rest11
  case hy11 => (intro wx hSw; (try dsimp only at hSw); (have t0 := hSw.cellT Q0.out N1; have t1 := hSw.cellT Q1.out N1; have t2 := hSw.cellT Q2.out N1); go_simp; (try with_reducible rfl))
  simp only [Act.put, List.setIfInBounds_toArray, List.set_cons_zero, List.set_cons_succ]
  refine anyH_take (i := 1) (d := 11) (L' := #[true, true, false, false, false, false, false, false, false, false, false]) (v := ?v12) rfl rfl (by kernel_rfl) (fun _ _ _ h => h) (by rfl) ?hy12 (by assumption) ?rest12
  case hy12 => (intro wx hSw; (try dsimp only at hSw); (have t0 := hSw.cellT Q0.out N1; have t1 := hSw.cellT Q1.out N1; have t2 := hSw.cellT Q2.out N1); go_simp; (try with_reducible rfl))
  simp only [Act.put, List.setIfInBounds_toArray, List.set_cons_zero, List.set_cons_succ]
  refine anyH_take (i := 2) (d := 12) (L' := #[true, true, true, false, false, false, false, false, false, false, false]) (v := ?v13) rfl rfl (by kernel_rfl) (fun _ _ _ h => h) (by rfl) ?hy13 (by assumption) ?rest13
  case hy13 => (intro wx hSw; (try dsimp only at hSw); (have t0 := hSw.cellT Q0.out N1; have t1 := hSw.cellT Q1.out N1; have t2 := hSw.cellT Q2.out N1); go_simp; (try with_reducible rfl))
  simp only [Act.put, List.setIfInBounds_toArray, List.set_cons_zero, List.set_cons_succ]
  refine anyH_take (i := 3) (d := 13) (L' := #[true, true, true, true, false, false, false, false, false, false, false]) (v := ?v14) rfl rfl (by kernel_rfl) (fun _ _ _ h => h) (by rfl) ?hy14 (by assumption) ?rest14
  case hy14 => (intro wx hSw; (try dsimp only at hSw); (have t0 := hSw.cellT Q0.out N1; have t1 := hSw.cellT Q1.out N1; have t2 := hSw.cellT Q2.out N1); go_simp; (try with_reducible rfl))
  simp only [Act.put, List.setIfInBounds_toArray, List.set_cons_zero, List.set_cons_succ]
  refine anyH_take (i := 5) (d := 15) (L' := #[true, true, true, true, false, true, false, false, false, false, false]) (v := ?v15) rfl rfl (by kernel_rfl) (fun _ _ _ h => h) (by rfl) ?hy15 (by assumption) ?rest15
  case hy15 => (intro wx hSw; (try dsimp only at hSw); (have t0 := hSw.cellT Q0.out N1; have t1 := hSw.cellT Q1.out N1; have t2 := hSw.cellT Q2.out N1); go_simp; (try with_reducible rfl))
  simp only [Act.put, List.setIfInBounds_toArray, List.set_cons_zero, List.set_cons_succ]
  refine anyH_run2 (i := 4) (j := 6) (L1 := #[true, true, true, true, true, true, false, false, false, false, false]) (L2 := #[true, true, true, true, false, true, true, false, false, false, false]) rfl rfl (by kernel_rfl) (by rfl) (by rfl) (fun KK hKK => ?_) (fun KK hKK => ?_)
  · go_simp
    (skip)
    refine hKK.out _ _ (by assumption) (fun hHeld => ?_)
    clear hKK KK
    try simp only [Act.put, List.setIfInBounds_toArray, List.set_cons_zero, List.set_cons_succ]
    refine anyH_run (i := 6) (L' := #[true, true, true, true, true, true, true, false, false, false, false]) rfl (by kernel_rfl) (by rfl) (fun KK hKK => ?_)
    go_simp
    (have hm6 := hHeld.alloc (.cells #[.string (strB g), .string (strB s), .int .i64 (i : Int)] 99))
    refine hKK.out _ _ (by assumption) (fun hHeld => ?_)
    clear hKK KK
    try simp only [Act.put, List.setIfInBounds_toArray, List.set_cons_zero, List.set_cons_succ]
    refine anyH_run (i := 7) (L' := #[true, true, true, true, true, true, true, true, false, false, false]) rfl (by kernel_rfl) (by rfl) (fun KK hKK => ?_)
    (have hmA := ((Chg.refl [] w2).alloc (.cells #[.string (strB g), .string (strB s), .int .i64 (i : Int)] 99)).drew; refine wp_appT rowCh _ _ rfl 0 cv d.changes.length (chCells d.changes) rfl (ownsRow_k HC.out hmA) _ 1 [.string (strB g), .string (strB s), .int .i64 (i : Int)] rfl (Rd.keep (Rd.lit w2 3 1 _ _ _ rfl rfl (by decide)) ((Chg.refl [] _).drew) (by simp)) (by simp [Value.oneCell']) (by omega) (by omega) (Nat.zero_le _) ?_; intro ao7 c7 w7 hr7 hg7 hm7; have DA := HD.out.k hmA; have bx7 := DA.box.grown hg7 (ownsRow_apart DA.changes DA.box (by decide)); have f7 := bx7.free 4; have q7 := bx7.cell 4; simp [boxCells] at q7; have hS7 : Chg (b :: cv.ownBlock.toList) w2 w7 := (hmA.mono (S' := b :: cv.ownBlock.toList) (by simp)).grown hg7 (by intro k hk _; simp [hk]); have P7 := hd (And.intro hr7 (And.intro hg7 hm7)); have HS7 := hd hS7; clear hr7 hg7 hm7 hmA DA bx7 hS7; (try have hS7 := HS7.out))
    refine hKK.out _ _ (by assumption) (fun hHeld => ?_)
    clear hKK KK
    try simp only [Act.put, List.setIfInBounds_toArray, List.set_cons_zero, List.set_cons_succ]
    refine anyH_take (i := 8) (d := 18) (L' := #[true, true, true, true, true, true, true, true, true, false, false]) (v := ?v18) rfl rfl (by kernel_rfl) (fun _ _ _ h => h) (by rfl) ?hy18 (by assumption) ?rest18
    case hy18 => (intro wx hSw; (try dsimp only at hSw); (have t0 := hSw.cellT Q0.out N1; have t1 := hSw.cellT Q1.out N1; have t2 := hSw.cellT Q2.out N1); go_simp; (try with_reducible rfl))
    simp only [Act.put, List.setIfInBounds_toArray, List.set_cons_zero, List.set_cons_succ]
    refine anyH_take (i := 9) (d := 19) (L' := #[true, true, true, true, true, true, true, true, true, true, false]) (v := ?v19) rfl rfl (by kernel_rfl) (fun _ _ _ h => h) (by rfl) ?hy19 (by assumption) ?rest19
    case hy19 => (intro wx hSw; (try dsimp only at hSw); (have t0 := hSw.cellT Q0.out N1; have t1 := hSw.cellT Q1.out N1; have t2 := hSw.cellT Q2.out N1); go_simp; (try with_reducible rfl))
    simp only [Act.put, List.setIfInBounds_toArray, List.set_cons_zero, List.set_cons_succ]
    refine anyH_run (i := 10) (L' := #[true, true, true, true, true, true, true, true, true, true, true]) rfl (by kernel_rfl) (by rfl) (fun KK hKK => ?_)
    go_simp
    (have hS8 : Chg (b :: cv.ownBlock.toList) w2 (w7.setCell ⟨b, 4, none⟩ (.slice ao7 (d.changes.length + 1) c7)) := HS7.out.setCell _ _ (by simp))
    refine hKK.out _ _ (by assumption) (fun hHeld => ?_)
    clear hKK KK
    try simp only [Act.put, List.setIfInBounds_toArray, List.set_cons_zero, List.set_cons_succ]
    refine wpAnyH_done (by kernel_rfl) ?_ _
    clear hHeld; (try clear hS7); go_wp2_with fail; go_end0; exact ⟨rfl, change_fin HD.out HCF.out (((Chg.refl [] w2).alloc (.cells #[.string (strB g), .string (strB s), .int .i64 (i : Int)] 99)).drew) P7.out.1 P7.out.2.1 P7.out.2.2 HG2.out hS8⟩
  · go_simp
    (have hm6 := hHeld.alloc (.cells #[.string (strB g), .string (strB s), .int .i64 (i : Int)] 99))
    refine hKK.out _ _ (by assumption) (fun hHeld => ?_)
    clear hKK KK
    try simp only [Act.put, List.setIfInBounds_toArray, List.set_cons_zero, List.set_cons_succ]
    refine anyH_run (i := 4) (L' := #[true, true, true, true, true, true, true, false, false, false, false]) rfl (by kernel_rfl) (by rfl) (fun KK hKK => ?_)
    go_simp
    (skip)
    refine hKK.out _ _ (by assumption) (fun hHeld => ?_)
    clear hKK KK
    try simp only [Act.put, List.setIfInBounds_toArray, List.set_cons_zero, List.set_cons_succ]
    refine anyH_run (i := 7) (L' := #[true, true, true, true, true, true, true, true, false, false, false]) rfl (by kernel_rfl) (by rfl) (fun KK hKK => ?_)
    (have hmA := ((Chg.refl [] w2).alloc (.cells #[.string (strB g), .string (strB s), .int .i64 (i : Int)] 99)).drew; refine wp_appT rowCh _ _ rfl 0 cv d.changes.length (chCells d.changes) rfl (ownsRow_k HC.out hmA) _ 1 [.string (strB g), .string (strB s), .int .i64 (i : Int)] rfl (Rd.keep (Rd.lit w2 3 1 _ _ _ rfl rfl (by decide)) ((Chg.refl [] _).drew) (by simp)) (by simp [Value.oneCell']) (by omega) (by omega) (Nat.zero_le _) ?_; intro ao7 c7 w7 hr7 hg7 hm7; have DA := HD.out.k hmA; have bx7 := DA.box.grown hg7 (ownsRow_apart DA.changes DA.box (by decide)); have f7 := bx7.free 4; have q7 := bx7.cell 4; simp [boxCells] at q7; have hS7 : Chg (b :: cv.ownBlock.toList) w2 w7 := (hmA.mono (S' := b :: cv.ownBlock.toList) (by simp)).grown hg7 (by intro k hk _; simp [hk]); have P7 := hd (And.intro hr7 (And.intro hg7 hm7)); have HS7 := hd hS7; clear hr7 hg7 hm7 hmA DA bx7 hS7; (try have hS7 := HS7.out))
    refine hKK.out _ _ (by assumption) (fun hHeld => ?_)
    clear hKK KK
    try simp only [Act.put, List.setIfInBounds_toArray, List.set_cons_zero, List.set_cons_succ]
    refine anyH_take (i := 8) (d := 18) (L' := #[true, true, true, true, true, true, true, true, true, false, false]) (v := ?v24) rfl rfl (by kernel_rfl) (fun _ _ _ h => h) (by rfl) ?hy24 (by assumption) ?rest24
    case hy24 => (intro wx hSw; (try dsimp only at hSw); (have t0 := hSw.cellT Q0.out N1; have t1 := hSw.cellT Q1.out N1; have t2 := hSw.cellT Q2.out N1); go_simp; (try with_reducible rfl))
    simp only [Act.put, List.setIfInBounds_toArray, List.set_cons_zero, List.set_cons_succ]
    refine anyH_take (i := 9) (d := 19) (L' := #[true, true, true, true, true, true, true, true, true, true, false]) (v := ?v25) rfl rfl (by kernel_rfl) (fun _ _ _ h => h) (by rfl) ?hy25 (by assumption) ?rest25
    case hy25 => (intro wx hSw; (try dsimp only at hSw); (have t0 := hSw.cellT Q0.out N1; have t1 := hSw.cellT Q1.out N1; have t2 := hSw.cellT Q2.out N1); go_simp; (try with_reducible rfl))
    simp only [Act.put, List.setIfInBounds_toArray, List.set_cons_zero, List.set_cons_succ]
    refine anyH_run (i := 10) (L' := #[true, true, true, true, true, true, true, true, true, true, true]) rfl (by kernel_rfl) (by rfl) (fun KK hKK => ?_)
    go_simp
    (have hS8 : Chg (b :: cv.ownBlock.toList) w2 (w7.setCell ⟨b, 4, none⟩ (.slice ao7 (d.changes.length + 1) c7)) := HS7.out.setCell _ _ (by simp))
    refine hKK.out _ _ (by assumption) (fun hHeld => ?_)
    clear hKK KK
    try simp only [Act.put, List.setIfInBounds_toArray, List.set_cons_zero, List.set_cons_succ]
    refine wpAnyH_done (by kernel_rfl) ?_ _
    clear hHeld; (try clear hS7); go_wp2_with fail; go_end0; exact ⟨rfl, change_fin HD.out HCF.out (((Chg.refl [] w2).alloc (.cells #[.string (strB g), .string (strB s), .int .i64 (i : Int)] 99)).drew) P7.out.1 P7.out.2.1 P7.out.2.2 HG2.out hS8⟩
end Go.Proofs.Ytdmokfplkhmijaa

/- disk.name. -/
namespace Go.Proofs.Ytdmokfplkhmijaa
open Go.RowKit

theorem Bs.cell {w : World} {b off n c : Nat} {l : List UInt8} (h : Bs w (.slice (some ⟨b, off, none⟩) n c) l) (j : Nat) (hj : j < l.length) : w.cell? ⟨b, off + j, none⟩ = some (.int .u8 (n8 l[j])) := by
  obtain ⟨b', off', cap, e, -, hcell⟩ := Rd.cells h (by omega)
  simp only [Value.slice.injEq, Option.some.injEq, Addr.mk.injEq, and_true] at e
  obtain ⟨⟨rfl, rfl⟩, -, -⟩ := e
  have := hcell j (.int .u8 (n8 l[j])) (by rw [List.getElem?_map, List.getElem?_eq_getElem hj]; rfl)
  by_cases h0 : j = 0
  · subst h0; simpa [Addr.add] using this
  · simpa [Addr.add, h0] using this

set_option maxHeartbeats 1000000 in
theorem name_any (w : World) (s : List UInt8) (hs : s.length ≤ 140737488355328) : Calls Try.prog 59 #[.string (strB s)] w fun e w' => e = .returned (.bool (nameD s)) ∧ Chg [] w w' := by
  have hsz : (strB s).size = s.length := strB_size s
  have hdl : (strB s).data.toList = s := strB_list s
  have hsl : (strB s).size ≤ 140737488355328 := by rw [hsz]; exact hs
  have Hdl := hd hdl
  have Hsz := hd hsz
  clear hdl hsz
  have hE : s ≠ [] → (strB s == ByteArray.empty) = false := strB_empty
  obtain ⟨N, hN⟩ : ∃ N, nameD s = N := ⟨_, rfl⟩
  have HN := hd hN
  rw [hN]
  clear hN
  go_enter Try.func59, Try.ntmps59
  go_upto_region 1 with (fail)
  go_wp2_with (refine wpOfStr rfl _ rfl _ rfl hsl ?_; intro g c w1 hb1 hg1 hc1; rw [Hdl.out, Hsz.out] at hb1; rw [Hsz.out])
  subst hg1
  have hm1 : s.length ≤ 140737488355328 := hs
  go_loopw [4, 8] (fun _ i wr => ∃ k : Nat, k ≤ s.length ∧ i = .int .i64 k ∧ (s.take k).all signD = true ∧ wr = w1) (fun _ i _ => s.length - (intOf i).toNat)
  case atStart => exact ⟨0, by omega, rfl, by simp, rfl⟩
  case round =>
    obtain ⟨k, hk, rfl, hall, rfl⟩ := hrel
    by_cases hlt : k < s.length
    · have hc := hb1.cell k hlt
      have hT : (s.take (k + 1)).all signD = ((s.take k).all signD && signD s[k]) := by
        rw [List.take_succ_eq_append_getElem hlt, List.all_append]; simp
      rw [hall, Bool.true_and] at hT
      have hbad : signD s[k] = false → N = false := by
        intro h
        rw [← HN.out]
        unfold nameD
        have : s.all signD = false := by
          rw [List.all_eq_false]; exact ⟨s[k], List.getElem_mem hlt, by simp [h]⟩
        rw [this]; rfl
      have hsg : signD s[k] = ((decide (97 ≤ n8 s[k]) && decide (n8 s[k] ≤ 122)) || (decide (48 ≤ n8 s[k]) && decide (n8 s[k] ≤ 57)) || n8 s[k] == 45) := by
        unfold signD n8
        rw [Bool.eq_iff_iff]
        simp
        omega
      have HT := hd hT
      have HB := hd hbad
      have HSG := hd hsg
      clear hT hbad hsg hall
      rw [Nat.zero_add] at hc
      generalize n8 s[k] = z at *
      generalize signD s[k] = sg at *
      by_cases h1 : z < 97
      · by_cases h3 : z < 48
        · by_cases h5 : z = 45
          · have h5' : (z == 45) = true := by simpa using h5
            have hs' : sg = true := by rw [HSG.out, h5']; simp
            go_wp2_with fail
            go_roundw
            case rel => exact ⟨k + 1, by omega, by go_num, by rw [HT.out, hs'], by trivial⟩
            case measure => simp [intOf]; omega
          · have h5' : (z == 45) = false := by simpa using h5
            have hs' : sg = false := by rw [HSG.out, h5']; simp <;> omega
            go_wp2_with fail
            go_ret
            have hbN := HB.out hs'
            subst hbN
            exact ⟨rfl, hc1⟩
        · by_cases h4 : 57 < z
          · by_cases h5 : z = 45
            · have h5' : (z == 45) = true := by simpa using h5
              have hs' : sg = true := by rw [HSG.out, h5']; simp
              go_wp2_with fail
              go_roundw
              case rel => exact ⟨k + 1, by omega, by go_num, by rw [HT.out, hs'], by trivial⟩
              case measure => simp [intOf]; omega
            · have h5' : (z == 45) = false := by simpa using h5
              have hs' : sg = false := by rw [HSG.out, h5']; simp <;> omega
              go_wp2_with fail
              go_ret
              have hbN := HB.out hs'
              subst hbN
              exact ⟨rfl, hc1⟩
          · have hs' : sg = true := by rw [HSG.out]; simp <;> omega
            go_wp2_with fail
            go_roundw
            case rel => exact ⟨k + 1, by omega, by go_num, by rw [HT.out, hs'], by trivial⟩
            case measure => simp [intOf]; omega
      · by_cases h2 : 122 < z
        · have h3 : ¬ z < 48 := by omega
          have h4 : 57 < z := by omega
          have h5' : (z == 45) = false := by simp; omega
          have hs' : sg = false := by rw [HSG.out, h5']; simp <;> omega
          go_wp2_with fail
          go_ret
          have hbN := HB.out hs'
          subst hbN
          exact ⟨rfl, hc1⟩
        · have hs' : sg = true := by rw [HSG.out]; simp <;> omega
          go_wp2_with fail
          go_roundw
          case rel => exact ⟨k + 1, by omega, by go_num, by rw [HT.out, hs'], by trivial⟩
          case measure => simp [intOf]; omega
    · obtain rfl : k = s.length := by omega
      rw [List.take_length] at hall
      have hN : N = (decide (s ≠ []) && decide (s.length ≤ 24)) := by rw [← HN.out]; unfold nameD; rw [hall, Bool.true_and]
      have HN' := hd hN
      clear hN hall
      by_cases h0 : s = []
      · have h0N : N = false := by rw [HN'.out]; simp [h0]
        subst h0
        go_wp2_with fail
        go_ret
        subst h0N
        exact ⟨rfl, hc1⟩
      · have h0e := hE h0
        have h0e' : (s == []) = false := by simpa using h0
        by_cases h24 : s.length ≤ 24
        · have h0N : N = true := by rw [HN'.out]; simp [h0, h24]
          have h24' : (s.length : Int) ≤ 24 := by omega
          go_wp2_with fail
          go_ret
          subst h0N
          exact ⟨rfl, hc1⟩
        · have h0N : N = false := by rw [HN'.out]; simp [h24]
          have h24' : ¬ (s.length : Int) ≤ 24 := by omega
          go_wp2_with fail
          go_ret
          subst h0N
          exact ⟨rfl, hc1⟩
end Go.Proofs.Ytdmokfplkhmijaa
