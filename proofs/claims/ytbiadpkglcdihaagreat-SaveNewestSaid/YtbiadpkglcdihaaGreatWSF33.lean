/- Words and walks that SF rests on: SortV, Newest, NewestW, FullC, LawSaveFulls, NewC. -/
import Derived.Test.YtbiadpkglcdihaaGreatWSF31
import Derived.Test.YtbiadpkglcdihaaGreatWSF32
import Derived.Test.YtbiadpkglcdihaaGreatWSF27
import Derived.Deep.Cut
import Derived.LoopNIn
import Derived.LoopIn
import Derived.Lib.SlKeysI
import Derived.RangeFuncBox
import Derived.Test.YtbiadpkglcdihaaGreatWSF17
import Derived.WalkMore
import Derived.Test.YtbiadpkglcdihaaGreatWSF19
import Derived.Deep.CutBlock
/- slices.Sorted(slices.Values(x)) at []int: a new row, sorted. -/
namespace Go.Proofs.YtbiadpkglcdihaaGreat
open Go.RowKit Go.Sort

theorem Values_any (ao : Option Addr) (n c : Nat) (w : World) :
    Calls Tryz.prog 66 #[.slice ao n c] w fun e w' => e = .returned (.func (.func 92) #[] #[.pointer (some ⟨w.heap.size, 0, none⟩)]) ∧ w' = w.alloc (.cells #[.slice ao n c] 59) := by
  go_enter Tryz.func66, Tryz.ntmps66
  go_wp2_with fail
  go_ret
  exact ⟨rfl, rfl⟩
/-- Between two rounds of AppendSeq: what came so far. -/
structure ColJ (w W : World) (rec : Loop) (l : List Int) (i : Nat) : Prop where
  chg : Chg [] w W
  out : ∃ u, Blk W w.heap.size #[u] 59 ∧ OwI W w.heap.size u (l.take i)
  dfr : W.heap[w.heap.size + 1]? = some (.deferred (some []))
  lp : W.heap[w.heap.size + 2]? = some (.loop rec)
theorem ColJ.k {w W W' : World} {rec : Loop} {l : List Int} {i : Nat} (h : ColJ w W rec l i) (hc : Chg [] W W') : ColJ w W' rec l i :=
  ⟨h.chg.k hc, by obtain ⟨v, h1, h2⟩ := h.out; exact ⟨v, h1.k hc, h2.k hc⟩, (hc.block _ (Array.getElem?_eq_some_iff.1 h.dfr).1 (by simp)).trans h.dfr, (hc.block _ (Array.getElem?_eq_some_iff.1 h.lp).1 (by simp)).trans h.lp⟩
set_option maxRecDepth 100000 in
set_option maxHeartbeats 4000000 in
theorem values1 {n : Nat} (w : World) (bx : Nat) (ao : Option Addr) (cap : Nat) (l : List Int) (rec : Loop) (_hlen : l.length ≤ 1000000) (h0 : Fs w (.slice ao l.length cap) l) (hbx : Blk w bx #[.slice ao l.length cap] 59)
    (hY : ∀ (i : Nat) (h : i < l.length) (W : World), ColJ w W rec l i → YieldAt Fence.wide n Tryz.prog (w.heap.size + 2) #[.int .i64 l[i]] W fun e W' => e = .returned (.bool true) ∧ ColJ w W' rec l (i + 1))
    (W0 : World) (hW : ColJ w W0 rec l 0) :
    Calls Tryz.prog 92 #[.func (.yield (w.heap.size + 2)) #[] #[], .pointer (some ⟨bx, 0, none⟩)] W0 fun e W' => (∃ v, e = .returned v) ∧ ColJ w W' rec l l.length := by
  obtain ⟨ao', cap', b0, off0, he, -, -, -, hao, hel⟩ := h0.open
  injection he with he1 he2 he3
  subst he1 he3
  have HY := hd hY
  have HEL := hd hel
  have q := (hbx.k hW.chg).cell 0
  simp at q
  clear hY hel h0 hbx he2
  go_enter Tryz.func92, Tryz.ntmps92
  go_wp2_with fail
  clear q
  go_loopw [4, 7] (fun _ t7 wr => ∃ i : Nat, i ≤ l.length ∧ t7 = .int .i64 i ∧ ColJ w wr rec l i) (fun _ t7 _ => l.length - (intOf t7).toNat)
  case atStart => exact ⟨0, by omega, rfl, hW⟩
  case round =>
    obtain ⟨i, hi, rfl, hJ⟩ := hrel
    by_cases hlt : i < l.length
    · have hlti : (i : Int) < (l.length : Int) := by omega
      obtain rfl := hao (by omega)
      have q0 := hJ.chg.cellS (HEL.out i hlt)
      obtain ⟨fn, tmps, assign, body, hy, hR⟩ := HY.out i hlt wr hJ
      generalize l[i]'hlt = x at *
      go_upto_region 3 with (fail)
      refine (wpIn_wide (n := n + 1)).1 ?_
      gi_wp2
      refine hR.mono ?_
      rintro e w6 ⟨rfl, hJ6⟩
      clear hR hy hJ q0
      gi_wp2
      go_wp2_with fail
      go_roundw
      case rel => exact ⟨i + 1, by omega, by go_num, hJ6⟩
      case measure => simp [intOf]; omega
    · obtain rfl : i = l.length := by omega
      go_wp2_with fail
      go_end0
      exact ⟨⟨_, rfl⟩, hJ⟩
theorem col_step {w W2 W4 : World} {RB : LoopState → Option Code → Loop} {l : List Int} {i : Nat} (hi : i < l.length) {u v' : Value} (hch : Chg [] w W2) (hb : Blk W2 w.heap.size #[u] 59) (hrow : OwI W2 w.heap.size u (l.take i))
    (hdf : W2.heap[w.heap.size + 1]? = some (.deferred (some []))) (hlp : W2.heap[w.heap.size + 2]? = some (.loop (RB .busy none)))
    (hg4 : (W2.alloc (.cells #[.int .i64 l[i]] 3)).grownBy W4 u.ownBlock)
    (hR4 : W4.ownsRow w.heap.size 3 1 v' (i + 1) ((l.take i).map (Value.int .i64) ++ [.int .i64 l[i]])) :
    (W4.setCell ⟨w.heap.size, 0, none⟩ v').heap[w.heap.size + 2]? = some (.loop (RB .busy none)) ∧
    ColJ w ((W4.setCell ⟨w.heap.size, 0, none⟩ v').putObj (w.heap.size + 2) (.loop (RB .ready none))) (RB .ready none) l (i + 1) := by
  have hcA := (Chg.refl [] W2).alloc (.cells #[.int .i64 l[i]] 3)
  replace hb := hb.k hcA
  replace hrow := OwI.k hrow hcA
  replace hdf := (hcA.block _ (Array.getElem?_eq_some_iff.1 hdf).1 (by simp)).trans hdf
  replace hlp := (hcA.block _ (Array.getElem?_eq_some_iff.1 hlp).1 (by simp)).trans hlp
  replace hch := hch.k hcA
  clear hcA
  generalize W2.alloc (.cells #[.int .i64 l[i]] 3) = W3 at *
  replace hb := hb.grown hg4 (ownsRow_apart hrow hb (by decide))
  replace hch := hch.grown hg4 (fun k hk hlt => by have := (World.ownsRow.lt hrow k hk).1; omega)
  replace hdf := (hg4.block _ (Array.getElem?_eq_some_iff.1 hdf).1 (ownsRow_ne hrow hdf rfl)).trans hdf
  replace hlp := (hg4.block _ (Array.getElem?_eq_some_iff.1 hlp).1 (ownsRow_ne hrow hlp rfl)).trans hlp
  have hlp5 : (W4.setCell ⟨w.heap.size, 0, none⟩ v').heap[w.heap.size + 2]? = some (.loop (RB .busy none)) := (heap_setCell_other _ _ _ _ (by simp)).trans hlp
  have hdf5 : (W4.setCell ⟨w.heap.size, 0, none⟩ v').heap[w.heap.size + 1]? = some (.deferred (some [])) := (heap_setCell_other _ _ _ _ (by simp)).trans hdf
  refine ⟨hlp5, ((hch.setCell _ _ (by simp))).put _ (by omega), ⟨v', ?_, ?_⟩, (World.putObj_heap_other (by omega)).trans hdf5, World.putObj_heap_same (Array.getElem?_eq_some_iff.1 hlp5).1⟩
  · refine Blk.put _ ?_ hlp5 rfl
    exact hb.set 0 _
  · have hlen : (l.take (i + 1)).length = i + 1 := by rw [List.length_take]; omega
    unfold OwI
    rw [hlen, List.take_succ_eq_append_getElem hi, List.map_append]
    exact ownsRow_putObj (ownsRow_set hR4 hb (by decide) 0 _) (.loop (RB .ready none)) hlp5 rfl
attribute [local go_sem] Oper.semAt_some
set_option maxRecDepth 100000 in
set_option maxHeartbeats 4000000 in
theorem AppSeq_any (w : World) (bx : Nat) (ao : Option Addr) (cap : Nat) (l : List Int) (hlen : l.length ≤ 1000000) (h0 : Fs w (.slice ao l.length cap) l) (hbx : Blk w bx #[.slice ao l.length cap] 59) :
    Calls Tryz.prog 120 #[.slice none 0 0, .func (.func 92) #[] #[.pointer (some ⟨bx, 0, none⟩)]] w fun e w' => ∃ v, e = .returned v ∧ OwI w' w.heap.size v l ∧ Chg [] w w' := by
  refine (callsIn_wide (n := 9)).1 ?_
  refine callsIn_of_wp_marks Tryz.func120 rfl trivial ?_
  simp only [Tryz.ntmps120, List.size_toArray, List.length_cons, List.length_nil, Nat.reduceAdd, Nat.reduceSub, Array.replicate_succ, Array.replicate_zero, List.push_toArray, List.append_toArray, List.nil_append, List.cons_append]
  refine wpIn_wide.2 ?_
  go_wp2_with fail
  have b2 := Blk.new w #[.slice none 0 0] 59
  have hcN := (Chg.refl [] w).alloc (.cells #[.slice none 0 0] 59)
  have hsz : (w.alloc (.cells #[.slice none 0 0] 59)).heap.size = w.heap.size + 1 := by simp
  generalize w.alloc (.cells #[.slice none 0 0] 59) = wN at *
  refine (wpIn_wide (n := 8)).1 ?_
  refine range_outer (gf := 92) (lb := #[.pointer (some ⟨bx, 0, none⟩)]) rfl (enters_of Tryz.func92 (by kernel_rfl) rfl) ?_
  intro fn REC hREC
  rw [hsz] at hREC ⊢
  refine callsIn_wide.2 ((values1 (n := 5) w bx ao cap l (REC .ready none) hlen h0 hbx ?hY _ ?hW).mono ?_)
  case hW =>
    refine ⟨(hcN.alloc _).alloc _, ⟨_, (b2.alloc _).alloc _, by rw [List.take_zero]; exact OwI.nil _ _⟩, ?_, ?_⟩
    · rw [Below.heap_alloc _ _ _ (by simp [hsz])]
      have := World.alloc_heap_new wN (.deferred (some []))
      rwa [hsz] at this
    · have := World.alloc_heap_new (wN.alloc (.deferred (some []))) (.loop (REC .ready none))
      rwa [World.size_alloc, hsz] at this
  case hY =>
    clear b2 hcN hbx h0
    intro i hi W hJ
    have hlp := hJ.lp
    have hlp0 := hJ.lp
    have HREC := hd hREC
    rw [hREC] at hlp
    clear hREC
    have HI := hd hi
    obtain ⟨x, hx⟩ : ∃ x, x = l[i] := ⟨_, rfl⟩
    rw [← hx]
    have HX := hd hx
    clear hx
    refine yield_at hlp rfl ?_
    have HLP := hd hlp
    have HLP0 := hd hlp0
    have HJ := hd hJ
    clear hlp hlp0 hJ
    simp
    gi_wp2
    refine ⟨HLP.out, ?_⟩
    have hlp := HLP.out
    have hlp0 := HLP0.out
    have hJ := HJ.out
    clear HLP HLP0 HJ
    generalize hbz : recOf fn _ _ _ _ (w.heap.size + 1) = RB
    have hRB : RB = REC := by rw [← hbz, HREC.out]
    clear hbz HREC hlp
    subst hRB
    have hl5 : w.heap.size + 2 < W.heap.size := (Array.getElem?_eq_some_iff.1 hlp0).1
    obtain ⟨u, hb6, hrow⟩ := hJ.out
    have hdf := hJ.dfr
    have hch := hJ.chg
    clear hJ
    replace hb6 := hb6.put (.loop (RB .busy none)) hlp0 rfl
    replace hdf := (World.putObj_heap_other (w := W) (o := .loop (RB .busy none)) (show w.heap.size + 1 ≠ w.heap.size + 2 by omega)).trans hdf
    replace hch := hch.put (.loop (RB .busy none)) (show w.heap.size ≤ w.heap.size + 2 by omega)
    replace hrow : OwI (W.putObj (w.heap.size + 2) (.loop (RB .busy none))) w.heap.size u (l.take i) := ownsRow_putObj hrow (.loop (RB .busy none)) hlp0 rfl
    have hl2 : (W.putObj (w.heap.size + 2) (.loop (RB .busy none))).heap[w.heap.size + 2]? = some (.loop (RB .busy none)) := World.putObj_heap_same hl5
    clear hlp0
    generalize W.putObj (w.heap.size + 2) (.loop (RB .busy none)) = W2 at *
    have q6 := hb6.cell 0
    simp at q6
    have hlt : (l.take i).length = i := by rw [List.length_take]; omega
    have hr3 := World.ownsRow.alloc hrow (.cells #[.int .i64 x] 3)
    rw [hlt] at hr3
    have hb63 := hb6.alloc (.cells #[.int .i64 x] 3)
    have hch3 := hch.alloc (.cells #[.int .i64 x] 3)
    have hone : Rd (W2.alloc (.cells #[.int .i64 x] 3)) 1 (.slice (some ⟨W2.heap.size, 0, none⟩) 1 1) 1 [.int .i64 x] := Fs.lit W2 [x] #[.int .i64 x] 3 1 rfl rfl (by simp)
    have HB6 := hd hb6
    have HROW := hd hrow
    have HDF := hd hdf
    have HCH := hd hch
    have HL2 := hd hl2
    clear hb6 hdf hl2 hrow hch
    gi_wp2_with (gi_at_builtin; refine wpAppIn rowInt rfl _ _ rfl w.heap.size u i _ rfl hr3 _ 1 [.int .i64 x] rfl hone (by simp [Value.oneCell']) (by omega) (by omega) hch3.size ?_; intro ao18 c18 W4 hR4 hg4 hm4; have hb64 := hb63.grown hg4 (ownsRow_apart hr3 hb63 (by decide)); have q64 := hb64.cell 0; have f64 := hb64.free 0; simp at q64)
    have hx := HX.out
    subst hx
    obtain ⟨k1, k2⟩ := col_step (RB := RB) hi HCH.out HB6.out HROW.out HDF.out HL2.out hg4 hR4
    exact ⟨k1, rfl, k2⟩
  · rintro e W2 ⟨⟨v, rfl⟩, hJ⟩
    have hnb : (REC .ready none).state ≠ .busy := by rw [hREC]; simp [recOf]
    have hp : (REC .ready none).pending = none := by rw [hREC]; rfl
    have hend := run_endLoop (P := Tryz.prog) hJ.lp hnb
    rw [hp] at hend
    clear hREC hp hnb
    refine ⟨none, _, hend, ?_⟩
    simp only
    clear hend
    obtain ⟨u, hb6, hrow⟩ := hJ.out
    rw [List.take_length] at hrow
    have hF : ∀ o', Blk (W2.putObj (w.heap.size + 2) o') w.heap.size #[u] 59 ∧ OwI (W2.putObj (w.heap.size + 2) o') w.heap.size u l ∧ Chg [] w (W2.putObj (w.heap.size + 2) o') ∧ (W2.putObj (w.heap.size + 2) o').heap[w.heap.size + 1]? = some (.deferred (some [])) := fun o' =>
      ⟨hb6.put o' hJ.lp rfl, ownsRow_putObj hrow o' hJ.lp rfl, hJ.chg.put o' (by omega), (World.putObj_heap_other (by omega)).trans hJ.dfr⟩
    generalize hW3 : W2.putObj (w.heap.size + 2) _ = W3
    have hF3 : Blk W3 w.heap.size #[u] 59 ∧ OwI W3 w.heap.size u l ∧ Chg [] w W3 ∧ W3.heap[w.heap.size + 1]? = some (.deferred (some [])) := by rw [← hW3]; exact hF _
    obtain ⟨hb6, hrow, hch, hdf⟩ := hF3
    clear hF hW3 hJ b2 hcN h0 hbx
    have q6 := hb6.cell 0
    simp at q6
    go_wp2_with fail
    refine ⟨by simp, .inl ⟨_, _, rfl, run_takeDeferred (w := W3) hdf, ?_⟩⟩
    refine ⟨_, results_tmp rfl _ _ _, u, rfl, ?_, ?_⟩
    · exact ownsRow_putObj hrow _ hdf rfl
    · exact hch.put _ (by omega)
theorem Collect_any (w : World) (bx : Nat) (ao : Option Addr) (cap : Nat) (l : List Int) (hlen : l.length ≤ 1000000) (h0 : Fs w (.slice ao l.length cap) l) (hbx : Blk w bx #[.slice ao l.length cap] 59) :
    Calls Tryz.prog 90 #[.func (.func 92) #[] #[.pointer (some ⟨bx, 0, none⟩)]] w fun e w' => ∃ v, e = .returned v ∧ OwI w' w.heap.size v l ∧ Chg [] w w' := by
  have hA := hd (AppSeq_any w bx ao cap l hlen h0 hbx)
  clear h0 hbx
  go_enter Tryz.func90, Tryz.ntmps90
  go_wp2_with (go_at_call 120; refine hA.out.mono ?_; rintro e w1 ⟨v, rfl, ho, hc⟩; rcases ho.2 with ⟨rfl, hz⟩ | ⟨g, cp, cur, rfl, hrest⟩)
  all_goals
    have HO := hd ho
    have HC := hd hc
    go_ret
    exact ⟨_, rfl, HO.out, HC.out⟩
theorem Sort_any (w : World) (base : Nat) (v : Value) (l : List Int) (hlen : l.length ≤ 1000000) (h : OwI w base v l) :
    Calls Tryz.prog 91 #[v] w fun e w' => e = .returned (.tuple #[]) ∧ OwI w' base v (l.mergeSort (fun x y => decide (x ≤ y))) ∧ w.grownBy w' v.ownBlock := by
  rcases h.2 with ⟨rfl, hz⟩ | ⟨g, cap, cur, rfl, hb, hg, h1, h2, h3, h4⟩
  · have hl : l = [] := List.eq_nil_of_length_eq_zero hz
    subst hl
    refine (AnyM.slices_Sort_int_none sortLI none 0 w).mono ?_
    rintro e w' ⟨rfl, rfl⟩
    exact ⟨rfl, by simpa using h, World.grownBy.refl _ _⟩
  · have hH : Holds (Value.int .i64) w g 0 l.toArray := holds_of_block_i hg (by simpa using h4)
    refine (AnyM.slices_Sort_int sortLI g 0 cap l w hH (Array.getElem?_eq_some_iff.1 hg).1 (by omega)).mono ?_
    rintro e w' ⟨rfl, n, os, rfl⟩
    refine ⟨rfl, ?_, grownBy_sorted_i _⟩
    have hls : (l.mergeSort (fun x y => decide (x ≤ y))).length = l.length := List.length_mergeSort _
    unfold OwI
    rw [hls]
    exact ownsRow_sorted_i hls hb hg h1 h2 (by simpa using h3)
/-- slices.Sorted over slices.Values. -/
theorem SortedV_any (w : World) (bx : Nat) (ao : Option Addr) (cap : Nat) (l : List Int) (hlen : l.length ≤ 1000000) (h0 : Fs w (.slice ao l.length cap) l) (hbx : Blk w bx #[.slice ao l.length cap] 59) :
    Calls Tryz.prog 65 #[.func (.func 92) #[] #[.pointer (some ⟨bx, 0, none⟩)]] w fun e w' => ∃ v, e = .returned v ∧ OwI w' w.heap.size v (l.mergeSort (fun x y => decide (x ≤ y))) ∧ Chg [] w w' := by
  have hA := hd (Collect_any w bx ao cap l hlen h0 hbx)
  clear h0 hbx
  go_enter Tryz.func65, Tryz.ntmps65
  go_upto_region 2 with (go_at_call 90; refine hA.out.mono ?_; rintro e w1 ⟨v, rfl, ho, hc⟩; rcases ho.2 with ⟨rfl, hz⟩ | ⟨g, cp, cur, rfl, hrest⟩)
  all_goals
    have hs := Sort_any w1 _ _ l hlen ho
    have hlo := fun k hk => (World.ownsRow.lt ho k hk).1
    have HLO := hd hlo
    have HC := hd hc
    clear ho hc hlo
    try clear hrest
    go_wp2_with (go_at_call 91; refine hs.mono ?_; rintro e w2 ⟨rfl, ho2, hg2⟩)
    have HO := hd ho2
    have HG := hd hg2
    go_ret
    exact ⟨_, rfl, HO.out, HC.out.grown HG.out (fun k hk hl => by have := HLO.out k hk; omega)⟩
end Go.Proofs.YtbiadpkglcdihaaGreat

/- save.Newest. -/
namespace Go.Proofs.YtbiadpkglcdihaaGreat
open Go.RowKit Go.Sort

/-- What is told of checkpoints, the newest first. -/
def NOk (d : Dsk) (n : Nat) : Prop := n ≤ 4611686018427387904 ∧ d.ops < 1073741824 ∧ (bytesD d (chkB n)).length ≤ 140737488354000
inductive NewIs : Dsk → List Nat → Int → Bool → Wld → Dsk → Prop
  | nil (d : Dsk) : NewIs d [] 0 false WZ d
  | hit (d : Dsk) (n : Nat) (L : List Nat) (X : Wld) : NOk d n → LoadIs d n 0 X → NewIs d (n :: L) 0 true X (opD d)
  | skip (d : Dsk) (n : Nat) (L : List Nat) (r : Int) (ok : Bool) (X : Wld) (d' : Dsk) : NOk d n → LoadIs d n 9 WZ → NewIs (opD d) L r ok X d' → NewIs d (n :: L) r ok X d'
  | err (d : Dsk) (n : Nat) (L : List Nat) (r : Int) : NOk d n → r ≠ 0 → r ≠ 9 → LoadIs d n r WZ → NewIs d (n :: L) r false WZ (opD d)
theorem Backward_any (ao : Option Addr) (n c : Nat) (w : World) :
    Calls Tryz.prog 67 #[.slice ao n c] w fun e w' => e = .returned (.func (.func 93) #[] #[.pointer (some ⟨w.heap.size, 0, none⟩)]) ∧ w' = w.alloc (.cells #[.slice ao n c] 59) := by
  go_enter Tryz.func67, Tryz.ntmps67
  go_wp2_with fail
  go_ret
  exact ⟨rfl, rfl⟩
set_option maxRecDepth 100000 in
set_option maxHeartbeats 4000000 in
theorem backward1 {n : Nat} (lp bx : Nat) (ao : Option Addr) (cap : Nat) (l : List Int) (J : Nat → World → Prop) (Jx : World → Prop) (hlen : l.length ≤ 1000000)
    (hJr : ∀ i W, J i W → Fs W (.slice ao l.length cap) l ∧ W.cell? ⟨bx, 0, none⟩ = some (.slice ao l.length cap))
    (hY : ∀ (i : Nat) (h : i < l.length) (W : World), J i W → YieldAt Fence.wide n Tryz.prog lp #[.int .i64 ((l.length - 1 - i : Nat) : Int), .int .i64 (l[l.length - 1 - i]'(by omega))] W fun e W' => (e = .returned (.bool true) ∧ J (i + 1) W') ∨ (e = .returned (.bool false) ∧ Jx W'))
    (W0 : World) (hW : J 0 W0) :
    Calls Tryz.prog 93 #[.func (.yield lp) #[] #[], .pointer (some ⟨bx, 0, none⟩)] W0 fun e W' => (∃ v, e = .returned v) ∧ (J l.length W' ∨ Jx W') := by
  have HY := hd hY
  have HJR := hd hJr
  have q := (hJr 0 W0 hW).2
  clear hY hJr
  go_enter Tryz.func93, Tryz.ntmps93
  have hw1 : IntKind.i64.wrap ((l.length : Int) - 1) = (l.length : Int) - 1 := IntWalk.i64_in _ (by omega)
  go_wp2_with fail
  clear q
  go_loopw [3] (fun t3 wr => ∃ i : Nat, i ≤ l.length ∧ t3 = .int .i64 ((l.length : Int) - 1 - i) ∧ J i wr) (fun t3 _ => (intOf t3 + 1).toNat)
  case atStart => exact ⟨0, by omega, by simp, hW⟩
  case round =>
    obtain ⟨i, hi, rfl, hJ⟩ := hrel
    by_cases hlt : i < l.length
    · obtain ⟨k, hk⟩ : ∃ k : Nat, l.length = k + 1 + i := ⟨l.length - 1 - i, by omega⟩
      have e1 : (l.length : Int) - 1 - (i : Int) = (k : Int) := by omega
      obtain ⟨hF, hbx⟩ := HJR.out i wr hJ
      obtain ⟨ao', cap', b0, off0, he, -, -, -, hao, hel⟩ := hF.open
      injection he with he1 he2 he3
      subst he1 he3
      obtain rfl := hao (by omega)
      have q0 := hel k (by omega)
      have hy := HY.out i hlt wr hJ
      have e2 : l.length - 1 - i = k := by omega
      have e3 : l[l.length - 1 - i]'(by omega) = l[k]'(by omega) := by congr 1
      rw [e3] at hy
      rw [e2] at hy
      rw [e1]
      obtain ⟨fn, tmps, assign, body, hy, hR⟩ := hy
      have hkl : (k : Int) < (l.length : Int) := by omega
      generalize l[k]'(by omega) = x at *
      have hk0 : (0 : Int) ≤ (k : Int) := by omega
      have hwk : IntKind.i64.wrap ((k : Int) - 1) = (k : Int) - 1 := IntWalk.i64_in _ (by omega)
      have HK := hd hk
      have HE1 := hd e1
      clear hF hel he2 hk e1 e2 e3
      go_upto_region 3 with (fail)
      refine (wpIn_wide (n := n + 1)).1 ?_
      gi_wp2
      refine hR.mono ?_
      rintro e w6 (⟨rfl, hJ6⟩ | ⟨rfl, hJ6⟩)
      · clear hR hy hJ q0 hbx
        gi_wp2
        go_wp2_with fail
        go_roundw
        case rel => exact ⟨i + 1, by omega, by have := HE1.out; congr 1; omega, hJ6⟩
        case measure => simp only [intOf]; omega
      · clear hR hy hJ q0 hbx
        gi_wp2
        go_wp2_with fail
        refine bodyPost_ret (v := .tuple #[]) (results_none rfl _ _ _) rfl ?_
        exact ⟨⟨_, rfl⟩, .inr hJ6⟩
    · obtain rfl : i = l.length := by omega
      have e1 : (l.length : Int) - 1 - (l.length : Int) = -1 := by omega
      rw [e1]
      go_wp2_with fail
      go_end0
      exact ⟨⟨_, rfl⟩, .inl hJ⟩
end Go.Proofs.YtbiadpkglcdihaaGreat

/- save.Newest: the walk. -/
namespace Go.Proofs.YtbiadpkglcdihaaGreat
open Go.RowKit Go.Sort

structure NwJ (w W : World) (fp : List Nat) (b : Nat) (vs : Value) (S : List Int) (p4 p5 p6 Bx : Nat) (rec : Loop) (dk : Dsk) : Prop where
  chg : Chg [b] w W
  dk : Dk W fp b dk
  k2 : Blk W w.heap.size #[.pointer (some ⟨b, 0, none⟩)] 34
  k4 : Blk W p4 #[.int .i64 0, .int .i64 0, .int .i64 0, .int .i64 0, .int .i64 0, .slice none 0 0, .slice none 0 0, .slice none 0 0] 32
  k5 : Blk W p5 #[.bool false] 4
  k6 : Blk W p6 #[.int .i64 0] 36
  row : OwI W w.heap.size vs S
  bx : Blk W Bx #[vs] 59
  lo : w.heap.size < p4 ∧ p4 < p5 ∧ p5 < p6 ∧ p6 < Bx
  dfr : W.heap[Bx + 1]? = some (.deferred (some []))
  lp : W.heap[Bx + 2]? = some (.loop rec)
theorem Chg.putSelf {W : World} {l : Nat} (o : Obj) : Chg [l] W (W.putObj l o) :=
  ⟨rfl, rfl, rfl, by simp, fun k _ hn => World.putObj_heap_other (by simpa using hn)⟩
theorem NwJ.put {w W : World} {fp : List Nat} {b : Nat} {vs : Value} {S : List Int} {p4 p5 p6 Bx : Nat} {rec : Loop} {dk : Dsk} (h : NwJ w W fp b vs S p4 p5 p6 Bx rec dk) (hf : ∀ k ∈ fp, k < w.heap.size) (rec' : Loop) : NwJ w (W.putObj (Bx + 2) (.loop rec')) fp b vs S p4 p5 p6 Bx rec' dk := by
  have hlo := h.lo
  refine ⟨?_, h.dk.chg (Chg.putSelf _) (fun k hk => by have := hf k hk; simp; omega), h.k2.put _ h.lp rfl, h.k4.put _ h.lp rfl, h.k5.put _ h.lp rfl, h.k6.put _ h.lp rfl, ownsRow_putObj h.row _ h.lp rfl, h.bx.put _ h.lp rfl, h.lo, (World.putObj_heap_other (by omega)).trans h.dfr, World.putObj_heap_same (Array.getElem?_eq_some_iff.1 h.lp).1⟩
  exact h.chg.trans (Chg.putSelf _) (by simp; omega)
theorem NwJ.step {w W W' : World} {fp : List Nat} {b : Nat} {vs : Value} {S : List Int} {p4 p5 p6 Bx : Nat} {rec : Loop} {dk d' : Dsk} (h : NwJ w W fp b vs S p4 p5 p6 Bx rec dk) (hb : b < w.heap.size) (hc : Chg [b] W W') (hd' : Dk W' fp b d') : NwJ w W' fp b vs S p4 p5 p6 Bx rec d' := by
  have hlo := h.lo
  have hne : ∀ k, w.heap.size ≤ k → k ∉ [b] := fun k hk hm => by simp at hm; omega
  have hlp := (Array.getElem?_eq_some_iff.1 h.lp).1
  exact ⟨h.chg.trans hc (fun x hx _ => hx), hd', h.k2.chg hc (hne _ (Nat.le_refl _)), h.k4.chg hc (hne _ (by omega)), h.k5.chg hc (hne _ (by omega)), h.k6.chg hc (hne _ (by omega)), ownsRow_chg h.row hc (fun k hk => hne k (World.ownsRow.lt h.row k hk).1), h.bx.chg hc (hne _ (by omega)), h.lo,
    (hc.block _ (by omega) (hne _ (by omega))).trans h.dfr, (hc.block _ hlp (hne _ (by omega))).trans h.lp⟩
/-- A round that ended the loop: the results are laid. -/
def NwX (w W : World) (fp : List Nat) (b p4 p5 p6 Bx : Nat) (rec : Loop) (r : Int) (ok : Bool) (X : Wld) (d' : Dsk) : Prop :=
  ∃ bv jv kv L, Chg [b] w W ∧ Dk W fp b d' ∧ Blk W p4 (wC X bv jv kv) 32 ∧ Blk W p5 #[.bool ok] 4 ∧ Blk W p6 #[.int .i64 r] 36 ∧ WlP W bv jv kv L X ∧ Apart [b] bv jv kv L X ∧
    (w.heap.size < p4 ∧ p4 < p5 ∧ p5 < p6 ∧ p6 < Bx) ∧ Apart [Bx + 1, Bx + 2] bv jv kv L X ∧ W.heap[Bx + 1]? = some (.deferred (some [])) ∧ W.heap[Bx + 2]? = some (.loop rec)
theorem NwX.put {w W : World} {fp : List Nat} {b p4 p5 p6 Bx : Nat} {rec : Loop} {r : Int} {ok : Bool} {X : Wld} {d' : Dsk} (h : NwX w W fp b p4 p5 p6 Bx rec r ok X d') (hf : ∀ k ∈ fp, k < w.heap.size) (rec' : Loop) : NwX w (W.putObj (Bx + 2) (.loop rec')) fp b p4 p5 p6 Bx rec' r ok X d' := by
  obtain ⟨bv, jv, kv, L, h1, h2, h3, h4, h5, h6, h7, h8, h11, h9, h10⟩ := h
  have hlp := (Array.getElem?_eq_some_iff.1 h10).1
  refine ⟨bv, jv, kv, L, h1.trans (Chg.putSelf _) (by simp; omega), h2.chg (Chg.putSelf _) (fun k hk => by have := hf k hk; simp; omega), h3.put _ h10 rfl, h4.put _ h10 rfl, h5.put _ h10 rfl, h6.chg (Chg.putSelf _) (h11.sub (by simp)), h7, h8, h11, (World.putObj_heap_other (by omega)).trans h9, World.putObj_heap_same hlp⟩
theorem NwJ.fin {w W : World} {fp : List Nat} {b : Nat} {vs : Value} {S : List Int} {p4 p5 p6 Bx : Nat} {rec : Loop} {dk : Dsk} (J : NwJ w W fp b vs S p4 p5 p6 Bx rec dk) (hf : ∀ k ∈ fp, k < w.heap.size) (bv jv kv : Value) (L : List BV) (X : Wld) (r : Int) (ok : Bool) (hx : WlP W bv jv kv L X) (ha : Apart [p4, p5, p6] bv jv kv L X) (hab : Apart [b] bv jv kv L X) (hal : Apart [Bx + 1, Bx + 2] bv jv kv L X) :
    NwX w (((W.setRow p4 (wC X bv jv kv)).setCell ⟨p5, 0, none⟩ (.bool ok)).setCell ⟨p6, 0, none⟩ (.int .i64 r)) fp b p4 p5 p6 Bx rec r ok X dk := by
  obtain ⟨l1, l2, l3, l4⟩ := J.lo
  have hc : Chg [p4, p5, p6] W (((W.setRow p4 (wC X bv jv kv)).setCell ⟨p5, 0, none⟩ (.bool ok)).setCell ⟨p6, 0, none⟩ (.int .i64 r)) := ((Chg.row (Chg.refl [p4, p5, p6] W) p4 _ (fun _ => by simp)).setCell _ _ (fun _ => by simp)).setCell _ _ (fun _ => by simp)
  have hc4 : Chg [p4] W (W.setRow p4 (wC X bv jv kv)) := Chg.row (Chg.refl [p4] W) p4 _ (fun _ => by simp)
  have b4 := J.k4.row (cs' := wC X bv jv kv)
  have b5 := J.k5.chg hc4 (by simp; omega)
  have b6 := J.k6.chg hc4 (by simp; omega)
  have c4 := (b4.other (a := ⟨p5, 0, none⟩) (by simp; omega) (.bool ok)).other (a := ⟨p6, 0, none⟩) (by simp; omega) (.int .i64 r)
  have c5 := (b5.set 0 (.bool ok)).other (a := ⟨p6, 0, none⟩) (by simp; omega) (.int .i64 r)
  have c6 := (b6.other (a := ⟨p5, 0, none⟩) (by simp; omega) (.bool ok)).set 0 (.int .i64 r)
  refine ⟨bv, jv, kv, L, J.chg.trans hc (by simp; omega), J.dk.chg hc (fun k hk => by have := hf k hk; simp; omega), c4, c5, c6, hx.chg hc ha, hab, J.lo, hal, ?_, ?_⟩
  · exact (hc.block _ (Array.getElem?_eq_some_iff.1 J.dfr).1 (by simp; omega)).trans J.dfr
  · exact (hc.block _ (Array.getElem?_eq_some_iff.1 J.lp).1 (by simp; omega)).trans J.lp
section
variable {P : Program} {n l : Nat} {Q : Exit → Act → World → Prop} {a : Act} {w : World} {ops : Array Oper} {rest : List Oper} {o : Oper}
theorem wpLoadRowIn (hgd : Region.wanted o (yielded ops a.tmps) = true) (ty : TypeId) (x : Operand) (ho : o.op = .load ty x) (g : Nat) (hx : a.eval x = .pointer (some ⟨g, 0, none⟩)) (t : TypeId) (cs : Array Value) (fr : Nat × Nat) (d : TypeDesc) (hg : w.heap[g]? = some (.cells cs t fr))
    (hu : P.underlying ty = some d) (hd : (match d with | .struct _ | .array _ _ => true | _ => false) = true) (hi : (P.info? ty).map (·.size) = some cs.size)
    (h : wpListIn (Fence.wide.inRound l) n P ops Q rest (a.put o.dst (.agg cs)) w) : wpListIn (Fence.wide.inRound l) n P ops Q (o :: rest) a w := by
  refine BigFrame.wpListIn_want hgd fun K hK => ?_
  refine ⟨fun _ _ => trivial, ?_⟩
  rw [Fence.inRound_round, Oper.semAt_some _ _ _ (by intro c hc; rw [ho] at hc; cases hc)]
  unfold execOp
  simp only [ho, hx, Instr.loadAt, Instr.sureAddr, Sem.run_bind, Sem.run_pure, Result.andThen_ok, run_loadVar_row w g t ty cs fr d hg hu hd hi]
  exact hK _ _ h
theorem wpStoreRowIn (hgd : Region.wanted o (yielded ops a.tmps) = true) (ty : TypeId) (x y : Operand) (ho : o.op = .store ty x y) (g : Nat) (cells : Array Value) (hx : a.eval x = .pointer (some ⟨g, 0, none⟩)) (hy : a.eval y = .agg cells)
    (t : TypeId) (old : Array Value) (hg : w.heap[g]? = some (.cells old t (0, 0))) (hi : (P.info? ty).map (·.size) = some cells.size) (hold : old.size = cells.size) (h1 : cells.all (·.oneCell') = true)
    (h : wpListIn (Fence.wide.inRound l) n P ops Q rest (a.put o.dst undef) (w.setRow g cells)) : wpListIn (Fence.wide.inRound l) n P ops Q (o :: rest) a w := by
  refine BigFrame.wpListIn_want hgd fun K hK => ?_
  refine ⟨fun _ _ => trivial, ?_⟩
  rw [Fence.inRound_round, Oper.semAt_some _ _ _ (by intro c hc; rw [ho] at hc; cases hc)]
  unfold execOp
  simp only [ho, hx, hy, Instr.storeAt, Instr.sureAddr, Sem.run_bind, Sem.run_pure, Result.andThen_ok, run_storeVar_row w g t ty old cells hg hi hold h1]
  exact hK _ _ h
end
theorem NwX.done {w W : World} {fp : List Nat} {b p4 p5 p6 Bx : Nat} {rec : Loop} {r : Int} {ok : Bool} {X : Wld} {d' : Dsk} (h : NwX w W fp b p4 p5 p6 Bx rec r ok X d') (hf : ∀ k ∈ fp, k < w.heap.size) : W.heap[Bx + 1]? = some (.deferred (some [])) ∧ ∃ bv jv kv L,
    Blk (W.putObj (Bx + 1) (.deferred none)) p4 (wC X bv jv kv) 32 ∧ Blk (W.putObj (Bx + 1) (.deferred none)) p5 #[.bool ok] 4 ∧ Blk (W.putObj (Bx + 1) (.deferred none)) p6 #[.int .i64 r] 36 ∧
    WlP (W.putObj (Bx + 1) (.deferred none)) bv jv kv L X ∧ Apart [b] bv jv kv L X ∧ Dk (W.putObj (Bx + 1) (.deferred none)) fp b d' ∧ Chg [b] w (W.putObj (Bx + 1) (.deferred none)) := by
  obtain ⟨bv, jv, kv, L, h1, h2, h3, h4, h5, h6, h7, h8, h11, h9, h10⟩ := h
  exact ⟨h9, bv, jv, kv, L, h3.put _ h9 rfl, h4.put _ h9 rfl, h5.put _ h9 rfl, h6.chg (Chg.putSelf _) (h11.sub (by simp)), h7, h2.chg (Chg.putSelf _) (fun k hk => by have := hf k hk; simp; omega), h1.trans (Chg.putSelf _) (by simp; omega)⟩
theorem load_cell1 {w : World} {g : Nat} {t : TypeId} {v : Value} (hg : Blk w g #[v] t) (ht : (Tryz.prog.underlying t).map (fun d => match d with | .struct _ | .array _ _ => true | _ => false) = some false) : (loadVar t ⟨g, 0, none⟩).run Tryz.prog w = .ok v w := by
  have q := hg.cell 0
  simp at q
  rcases hu : Tryz.prog.underlying t with _ | d
  · rw [hu] at ht; cases ht
  · rw [hu] at ht
    have hr := run_underlying hu
    cases d <;> simp at ht <;> simp [loadVar, isAgg, Sem.run_bind, hr, q, Result.andThen]
theorem results_cell3 {fn : Func} {p q r : Tmp} {t1 t2 t3 : TypeId} (h : fn.results = #[.cell p t1, .cell q t2, .cell r t3]) (tmps : Array Value) (w : World) (a1 a2 a3 : Addr) (v1 v2 v3 : Value)
    (hp : tmps.getD p undef = .pointer (some a1)) (hq : tmps.getD q undef = .pointer (some a2)) (hr : tmps.getD r undef = .pointer (some a3)) (h1 : (loadVar t1 a1).run Tryz.prog w = .ok v1 w)
    (h2 : (loadVar t2 a2).run Tryz.prog w = .ok v2 w) (h3 : (loadVar t3 a3).run Tryz.prog w = .ok v3 w) : (results fn tmps).run Tryz.prog w = .ok (.tuple #[v1, v2, v3]) w := by
  have hp' : tmps[p]?.getD undef = .pointer (some a1) := by simpa using hp
  have hq' : tmps[q]?.getD undef = .pointer (some a2) := by simpa using hq
  have hr' : tmps[r]?.getD undef = .pointer (some a3) := by simpa using hr
  simp [results, h, hp', hq', hr', asAddr, h1, h2, h3, Sem.run_bind, Result.andThen]
theorem NewIs.head {d : Dsk} {n : Nat} {L : List Nat} {r : Int} {ok : Bool} {X : Wld} {d' : Dsk} (h : NewIs d (n :: L) r ok X d') : NOk d n ∧ ∃ r0 X0, LoadIs d n r0 X0 ∧
    ((r0 = 9 ∧ X0 = WZ ∧ NewIs (opD d) L r ok X d') ∨ (r0 = 0 ∧ r = 0 ∧ ok = true ∧ X0 = X ∧ d' = opD d) ∨ (r0 ≠ 0 ∧ r0 ≠ 9 ∧ r = r0 ∧ ok = false ∧ X = WZ ∧ X0 = WZ ∧ d' = opD d)) := by
  cases h with
  | hit _ _ _ _ h1 h2 => exact ⟨h1, 0, X, h2, .inr (.inl ⟨rfl, rfl, rfl, rfl, rfl⟩)⟩
  | skip _ _ _ _ _ _ _ h1 h2 h3 => exact ⟨h1, 9, WZ, h2, .inl ⟨rfl, rfl, h3⟩⟩
  | err _ _ _ _ h1 h2 h3 h4 => exact ⟨h1, r, WZ, h4, .inr (.inr ⟨h2, h3, rfl, rfl, rfl, rfl, rfl⟩)⟩
attribute [local go_sem] Oper.semAt_some
set_option maxRecDepth 100000 in
set_option maxHeartbeats 4000000 in
theorem Newest_any {w : World} {fp : List Nat} {b : Nat} {d : Dsk} (h : Dk w fp b d) (ao : Option Addr) (cap : Nat) (ks : List Nat) (hlen : ks.length ≤ 1000) (hv : Fs w (.slice ao ks.length cap) (ks.map Int.ofNat)) (r : Int) (ok : Bool) (X : Wld) (d' : Dsk) (hN : NewIs d (ks.mergeSort (fun x y => decide (x ≤ y))).reverse r ok X d') :
    Calls Tryz.prog 27 #[.pointer (some ⟨b, 0, none⟩), .slice ao ks.length cap] w fun e w' => ∃ bv jv kv L, e = .returned (.tuple #[vW X bv jv kv, .bool ok, .int .i64 r]) ∧ WlP w' bv jv kv L X ∧ Apart [b] bv jv kv L X ∧ Dk w' fp b d' ∧ Chg [b] w w' := by
  obtain ⟨P, hP⟩ : ∃ P : Ending → World → Prop, P = fun e w' => ∃ bv jv kv L, e = .returned (.tuple #[vW X bv jv kv, .bool ok, .int .i64 r]) ∧ WlP w' bv jv kv L X ∧ Apart [b] bv jv kv L X ∧ Dk w' fp b d' ∧ Chg [b] w w' := ⟨_, rfl⟩
  rw [← hP]
  have HP := hd hP
  clear hP
  have hb : b ∈ fp := by obtain ⟨_, _, _, _, _, hh⟩ := h; exact hh.fpb
  have hbl := h.fpl b hb
  have HFL := hd h.fpl
  have HD := hd h
  have HNW := hd hN
  have HB := hd hb
  have HBL := hd hbl
  have hsrt : (ks.map Int.ofNat).mergeSort (fun x y => decide (x ≤ y)) = (ks.mergeSort (fun x y => decide (x ≤ y))).map Int.ofNat := (List.map_mergeSort (fun a _ b _ => by simp)).symm
  have hlS : (ks.mergeSort (fun x y => decide (x ≤ y))).length = ks.length := List.length_mergeSort _
  generalize ks.mergeSort (fun x y => decide (x ≤ y)) = S at *
  have hlk : (ks.map Int.ofNat).length = ks.length := List.length_map _
  rw [← hlk] at hv
  rw [← hlk]
  generalize ks.map Int.ofNat = l at *
  have HLS := hd (show S.length = l.length by omega)
  obtain ⟨M, hM⟩ : ∃ M, M = S.map Int.ofNat := ⟨_, rfl⟩
  rw [← hM] at hsrt
  have HM := hd hM.symm
  have HSR := hd hsrt
  clear hM
  have HV := hd hv
  have HLN := hd (show l.length ≤ 1000 by omega)
  clear h hb hbl hN hsrt hlS hlk hv hlen
  refine (callsIn_wide (n := 9)).1 ?_
  refine callsIn_of_wp_marks Tryz.func27 rfl trivial ?_
  simp only [Tryz.ntmps27, List.size_toArray, List.length_cons, List.length_nil, Nat.reduceAdd, Nat.reduceSub, Array.replicate_succ, Array.replicate_zero, List.push_toArray, List.append_toArray, List.nil_append, List.cons_append]
  refine wpIn_wide.2 ?_
  go_upto_region 1 with (fail)
  have k2 := (((Blk.new w #[.pointer (some ⟨b, 0, none⟩)] 34).alloc (.cells #[.int .i64 0, .int .i64 0, .int .i64 0, .int .i64 0, .int .i64 0, .slice none 0 0, .slice none 0 0, .slice none 0 0] 32)).alloc (.cells #[.bool false] 4)).alloc (.cells #[.int .i64 0] 36)
  have k4 := ((Blk.new (w.alloc (.cells #[.pointer (some ⟨b, 0, none⟩)] 34)) #[.int .i64 0, .int .i64 0, .int .i64 0, .int .i64 0, .int .i64 0, .slice none 0 0, .slice none 0 0, .slice none 0 0] 32).alloc (.cells #[.bool false] 4)).alloc (.cells #[.int .i64 0] 36)
  have k5 := (Blk.new ((w.alloc (.cells #[.pointer (some ⟨b, 0, none⟩)] 34)).alloc (.cells #[.int .i64 0, .int .i64 0, .int .i64 0, .int .i64 0, .int .i64 0, .slice none 0 0, .slice none 0 0, .slice none 0 0] 32)) #[.bool false] 4).alloc (.cells #[.int .i64 0] 36)
  have k6 := Blk.new (((w.alloc (.cells #[.pointer (some ⟨b, 0, none⟩)] 34)).alloc (.cells #[.int .i64 0, .int .i64 0, .int .i64 0, .int .i64 0, .int .i64 0, .slice none 0 0, .slice none 0 0, .slice none 0 0] 32)).alloc (.cells #[.bool false] 4)) #[.int .i64 0] 36
  have hc0 := ((((Chg.refl [] w).alloc (.cells #[.pointer (some ⟨b, 0, none⟩)] 34)).alloc (.cells #[.int .i64 0, .int .i64 0, .int .i64 0, .int .i64 0, .int .i64 0, .slice none 0 0, .slice none 0 0, .slice none 0 0] 32)).alloc (.cells #[.bool false] 4)).alloc (.cells #[.int .i64 0] 36)
  have hsz : ((((w.alloc (.cells #[.pointer (some ⟨b, 0, none⟩)] 34)).alloc (.cells #[.int .i64 0, .int .i64 0, .int .i64 0, .int .i64 0, .int .i64 0, .slice none 0 0, .slice none 0 0, .slice none 0 0] 32)).alloc (.cells #[.bool false] 4)).alloc (.cells #[.int .i64 0] 36)).heap.size = w.heap.size + 4 := by simp
  simp only [World.size_alloc] at k4 k5 k6
  generalize (((w.alloc (.cells #[.pointer (some ⟨b, 0, none⟩)] 34)).alloc (.cells #[.int .i64 0, .int .i64 0, .int .i64 0, .int .i64 0, .int .i64 0, .slice none 0 0, .slice none 0 0, .slice none 0 0] 32)).alloc (.cells #[.bool false] 4)).alloc (.cells #[.int .i64 0] 36) = w0 at *
  have hbx := Blk.new w0 #[.slice ao l.length cap] 59
  have hcb := (Chg.refl [] w0).alloc (.cells #[.slice ao l.length cap] 59)
  have hsv := SortedV_any (w0.alloc (.cells #[.slice ao l.length cap] 59)) w0.heap.size ao cap l (by have := HLN.out; omega) ((HV.out.chg hc0 (by simp)).chg hcb (by simp)) hbx
  rw [HSR.out] at hsv
  have HSZ := hd hsz
  clear hbx hsz
  obtain ⟨p6, hp6⟩ : ∃ p, p = w.heap.size + 1 + 1 + 1 := ⟨_, rfl⟩
  rw [← hp6] at k6 ⊢
  obtain ⟨p5, hp5⟩ : ∃ p, p = w.heap.size + 1 + 1 := ⟨_, rfl⟩
  rw [← hp5] at k5 ⊢
  obtain ⟨p4, hp4⟩ : ∃ p, p = w.heap.size + 1 := ⟨_, rfl⟩
  rw [← hp4] at k4 ⊢
  have HP4 : Hd (w.heap.size < p4 ∧ p4 < p5 ∧ p5 < p6 ∧ p6 < w.heap.size + 4) := hd (by omega)
  clear hp4 hp5 hp6
  go_step3
  go_wp2_with (first
    | (go_at_call 66; refine (Values_any _ _ _ _).mono ?_; rintro e w1 ⟨rfl, rfl⟩)
    | (go_at_call 65; refine hsv.mono ?_; rintro e w2 ⟨vs, rfl, ho2, hc2⟩))
  have HK2 := hd ((k2.k hcb).k hc2)
  have HK4 := hd ((k4.k hcb).k hc2)
  have HK5 := hd ((k5.k hcb).k hc2)
  have HK6 := hd ((k6.k hcb).k hc2)
  have hc2' := (hc0.k hcb).k hc2
  have HC2 := hd hc2'
  have hlo : w.heap.size + 4 < w2.heap.size := by have := hc2.size; have := HSZ.out; simp only [World.size_alloc] at *; omega
  have ho2' := ownsRow_mono ho2 (show w.heap.size ≤ _ by have := HSZ.out; simp only [World.size_alloc]; omega)
  obtain ⟨av, cv, rfl⟩ : ∃ av cv, vs = .slice av M.length cv := by
    rcases ho2.2 with ⟨rfl, hz⟩ | ⟨g, cp, cur, rfl, -⟩
    · exact ⟨none, 0, by rw [hz]⟩
    · exact ⟨_, _, rfl⟩
  have HO2 := hd ho2'
  have HLO := hd hlo
  clear k2 k4 k5 k6 hc0 hcb hc2 HSZ hsv ho2 hlo ho2' hc2'
  go_step3
  go_wp2_with (go_at_call 67; refine (Backward_any _ _ _ _).mono ?_; rintro e w3 ⟨rfl, rfl⟩)
  have hkx := Blk.new w2 #[.slice av M.length cv] 59
  have hcx := (Chg.refl [] w2).alloc (.cells #[.slice av M.length cv] 59)
  have hs3 : (w2.alloc (.cells #[.slice av M.length cv] 59)).heap.size = w2.heap.size + 1 := by simp
  generalize w2.alloc (.cells #[.slice av M.length cv] 59) = w3 at *
  obtain ⟨Bx, hBx⟩ : ∃ Bx, Bx = w2.heap.size := ⟨_, rfl⟩
  rw [← hBx] at hs3 hkx HLO ⊢
  have HKX := hd hkx
  have HCX := hd hcx
  have HS3 := hd hs3
  clear hkx hcx hs3 hBx
  refine (wpIn_wide (n := 8)).1 ?_
  refine range_outer (gf := 93) (lb := #[.pointer (some ⟨Bx, 0, none⟩)]) rfl (enters_of Tryz.func93 (by kernel_rfl) rfl) ?_
  intro fn REC hREC
  rw [HS3.out] at hREC ⊢
  refine callsIn_wide.2 ((backward1 (n := 5) (Bx + 2) Bx av cv M (fun i W => ∃ dk, NwJ w W fp b (.slice av M.length cv) M p4 p5 p6 Bx (REC .ready none) dk ∧ NewIs dk (S.reverse.drop i) r ok X d') (fun W => NwX w W fp b p4 p5 p6 Bx (REC .done (some .ret)) r ok X d') ?hlen ?hJr ?hY _ ?hW).mono ?_)
  case hlen => have := HLN.out; have := HLS.out; rw [← HM.out, List.length_map]; omega
  case hJr =>
    rintro i W ⟨dk, hJ, -⟩
    have := hJ.bx.cell 0
    simp at this
    exact ⟨OwI.fs hJ.row, this⟩
  case hW =>
    have hk : Chg [] w3 ((w3.alloc (.deferred (some []))).alloc (.loop (REC .ready none))) := ((Chg.refl [] w3).alloc _).alloc _
    refine ⟨d, ⟨?_, (HD.out.k (HC2.out.k HCX.out)).k hk, (HK2.out.k HCX.out).k hk, (HK4.out.k HCX.out).k hk, (HK5.out.k HCX.out).k hk, (HK6.out.k HCX.out).k hk, OwI.k (OwI.k HO2.out HCX.out) hk, HKX.out.k hk, by have := HLO.out; have := HP4.out; omega, ?_, ?_⟩, by simpa using HNW.out⟩
    · exact ((HC2.out.k HCX.out).k hk).mono (by simp)
    · rw [Below.heap_alloc _ _ _ (by simp [HS3.out])]
      have := World.alloc_heap_new w3 (.deferred (some []))
      rwa [HS3.out] at this
    · have := World.alloc_heap_new (w3.alloc (.deferred (some []))) (.loop (REC .ready none))
      rwa [World.size_alloc, HS3.out] at this
  case hY =>
    have HREC := hd hREC
    clear hREC
    intro i hi W ⟨dk, hJ, hN⟩
    have hSl : M.length = S.length := by rw [← HM.out, List.length_map]
    have hir : i < S.reverse.length := by rw [List.length_reverse]; omega
    rw [List.drop_eq_getElem_cons hir] at hN
    have hx : M[M.length - 1 - i]'(by omega) = ((S.reverse[i]'hir : Nat) : Int) := by
      have e : M[M.length - 1 - i]? = some ((S.reverse[i]'hir : Nat) : Int) := by
        rw [← HM.out, List.getElem?_map, List.length_map, ← List.getElem?_reverse (by omega), List.getElem?_eq_getElem hir]; rfl
      rw [List.getElem?_eq_getElem (by omega)] at e
      exact Option.some.inj e
    rw [hx]
    obtain ⟨⟨hn1, hn2, hn3⟩, r0, X0, hli, hcs⟩ := hN.head
    generalize S.reverse[i]'hir = k at *
    generalize hidx : M.length - 1 - i = ix
    have HCS := hd hcs
    have hld := fun W (hk : Dk W fp b dk) => Load_any hk k hn1 hn2 hn3 r0 X0 hli
    have HLD := hd hld
    clear hN hn1 hn2 hn3 hli hcs hld hx hidx hir hSl
    have hlp := hJ.lp
    have HJ := hd hJ
    have HRC := HREC.out
    rw [HRC] at hlp
    refine yield_at hlp rfl ?_
    have HLP := hd hlp
    clear hlp hJ HRC
    simp
    gi_wp2
    refine ⟨HLP.out, ?_⟩
    generalize hbz : recOf fn _ _ _ _ (Bx + 1) = RB
    have hRB : RB = REC := by rw [← hbz, HREC.out]
    clear hbz HREC HLP
    subst hRB
    have hJ2 := HJ.out.put HFL.out (RB .busy none)
    clear HJ
    generalize W.putObj (Bx + 2) (.loop (RB .busy none)) = W2 at *
    have q2 := hJ2.k2.cell 0
    simp at q2
    have HJ2 := hd hJ2
    have hld2 := HLD.out W2 hJ2.dk
    clear hJ2 HLD
    have hf17 : Fence.wide.fn 17 := trivial
    rcases HCS.out with ⟨rfl, hX0, hN2⟩ | ⟨rfl, hr0, hok, hX0, hdk⟩ | ⟨h0, h9, hr0, hok, hXZ, hX0, hdk⟩
    · have HX0 := hd hX0
      have HN2 := hd hN2
      clear hX0 hN2
      gi_wp2_with (first
        | (gi_at_call 17; refine (CallsIn.inRound _ (callsIn_wide.2 hld2)).mono ?_; rintro e W3 ⟨bv, jv, kv, LL, rfl, hp3, ha3, hd3, hc3⟩; rw [show vW X0 bv jv kv = .agg (wC X0 bv jv kv) from rfl]; have kA := Blk.new W3 #[.int .i64 0, .int .i64 0, .int .i64 0, .int .i64 0, .int .i64 0, .slice none 0 0, .slice none 0 0, .slice none 0 0] 32; have hall := wC_all hp3)
        | (refine wpStoreRowIn rfl _ _ _ rfl W3.heap.size (wC X0 bv jv kv) rfl rfl 32 _ kA (by kernel_rfl) rfl hall ?_; have hcx : Chg [] W3 ((W3.alloc (.cells #[.int .i64 0, .int .i64 0, .int .i64 0, .int .i64 0, .int .i64 0, .slice none 0 0, .slice none 0 0, .slice none 0 0] 32)).setRow W3.heap.size (wC X0 bv jv kv)) := Chg.row ((Chg.refl [] W3).alloc _) W3.heap.size _ (fun h => absurd h (Nat.lt_irrefl _)); have kB := kA.row (cs' := wC X0 bv jv kv); generalize (W3.alloc (.cells #[.int .i64 0, .int .i64 0, .int .i64 0, .int .i64 0, .int .i64 0, .slice none 0 0, .slice none 0 0, .slice none 0 0] 32)).setRow W3.heap.size (wC X0 bv jv kv) = W4 at *; have J4 := (HJ2.out.step HBL.out hc3 hd3).step HBL.out (hcx.mono (by simp)) (hd3.k hcx); have k4 := J4.k4; have hp4 := hp3.k hcx; have hl4 := J4.lo; have hz2 := HJ2.out.k6.lt; have HLP2 := hd (Array.getElem?_eq_some_iff.1 HJ2.out.lp).1; have HJ4 := hd J4; have HL4 := hd hl4; have HP4' := hd hp4; have HA4 := hd ha3; have HZ2 := hd hz2; clear J4 hl4 hp4 hcx hz2 ha3 hd3 hc3 hp3 kA))
      exact ⟨HJ4.out.lp, .inl ⟨rfl, _, HJ4.out.put HFL.out (RB .ready none), HN2.out⟩⟩
    · have HQ := hd (And.intro hr0 (And.intro hok (And.intro hX0 hdk)))
      clear hr0 hok hX0 hdk
      gi_wp2_with (first
        | (gi_at_call 17; refine (CallsIn.inRound _ (callsIn_wide.2 hld2)).mono ?_; rintro e W3 ⟨bv, jv, kv, LL, rfl, hp3, ha3, hd3, hc3⟩; rw [show vW X0 bv jv kv = .agg (wC X0 bv jv kv) from rfl]; have kA := Blk.new W3 #[.int .i64 0, .int .i64 0, .int .i64 0, .int .i64 0, .int .i64 0, .slice none 0 0, .slice none 0 0, .slice none 0 0] 32; have hall := wC_all hp3)
        | (refine wpStoreRowIn rfl _ _ _ rfl W3.heap.size (wC X0 bv jv kv) rfl rfl 32 _ kA (by kernel_rfl) rfl hall ?_; have hcx : Chg [] W3 ((W3.alloc (.cells #[.int .i64 0, .int .i64 0, .int .i64 0, .int .i64 0, .int .i64 0, .slice none 0 0, .slice none 0 0, .slice none 0 0] 32)).setRow W3.heap.size (wC X0 bv jv kv)) := Chg.row ((Chg.refl [] W3).alloc _) W3.heap.size _ (fun h => absurd h (Nat.lt_irrefl _)); have kB := kA.row (cs' := wC X0 bv jv kv); generalize (W3.alloc (.cells #[.int .i64 0, .int .i64 0, .int .i64 0, .int .i64 0, .int .i64 0, .slice none 0 0, .slice none 0 0, .slice none 0 0] 32)).setRow W3.heap.size (wC X0 bv jv kv) = W4 at *; have J4 := (HJ2.out.step HBL.out hc3 hd3).step HBL.out (hcx.mono (by simp)) (hd3.k hcx); have k4 := J4.k4; have hp4 := hp3.k hcx; have hl4 := J4.lo; have hz2 := HJ2.out.k6.lt; have HLP2 := hd (Array.getElem?_eq_some_iff.1 HJ2.out.lp).1; have HJ4 := hd J4; have HL4 := hd hl4; have HP4' := hd hp4; have HA4 := hd ha3; have HZ2 := hd hz2; clear J4 hl4 hp4 hcx hz2 ha3 hd3 hc3 hp3 kA)
        | (refine wpLoadRowIn rfl _ _ rfl W3.heap.size rfl 32 _ (0, 0) _ kB Tryz.underlying32 rfl (by kernel_rfl) ?_)
        | (refine wpStoreRowIn rfl _ _ _ rfl p4 (wC X0 bv jv kv) rfl rfl 32 _ k4 (by kernel_rfl) rfl hall ?_; have q5 := (HJ4.out.k5.chg (Chg.row (Chg.refl [p4] W4) p4 (wC X0 bv jv kv) (fun _ => by simp)) (by have := HL4.out; simp; omega)).cell 0; have q6 := (HJ4.out.k6.chg (Chg.row (Chg.refl [p4] W4) p4 (wC X0 bv jv kv) (fun _ => by simp)) (by have := HL4.out; simp; omega)).cell 0; have f5 := (HJ4.out.k5.chg (Chg.row (Chg.refl [p4] W4) p4 (wC X0 bv jv kv) (fun _ => by simp)) (by have := HL4.out; simp; omega)).free 0; have f6 := (HJ4.out.k6.chg (Chg.row (Chg.refl [p4] W4) p4 (wC X0 bv jv kv) (fun _ => by simp)) (by have := HL4.out; simp; omega)).free 0; have hne56 : p5 ≠ p6 := (by have := HL4.out; omega); simp at q5 q6))
      obtain ⟨rfl, rfl, rfl, rfl⟩ := HQ.out
      have hX := HJ4.out.fin HFL.out bv jv kv LL X0 0 true HP4'.out (HA4.out _ (by have := HL4.out; have := HZ2.out; simp; omega)) (HA4.out _ (by have := HBL.out; have := HJ4.out.lo; have := HZ2.out; simp; omega)) (HA4.out _ (by have := HLP2.out; simp; omega))
      exact ⟨let ⟨_, _, _, _, _, _, _, _, _, _, _, _, _, _, h⟩ := hX; h, .inr ⟨rfl, hX.put HFL.out _⟩⟩
    · have HQ := hd (And.intro hr0 (And.intro hok (And.intro hXZ hdk)))
      have g0 : (r0 == 0) = false := by rw [beq_eq_false_iff_ne]; exact h0
      have g9 : (r0 == 9) = false := by rw [beq_eq_false_iff_ne]; exact h9
      clear hr0 hok hX0 hdk hXZ h0 h9
      gi_wp2_with (first
        | (gi_at_call 17; refine (CallsIn.inRound _ (callsIn_wide.2 hld2)).mono ?_; rintro e W3 ⟨bv, jv, kv, LL, rfl, hp3, ha3, hd3, hc3⟩; rw [show vW X0 bv jv kv = .agg (wC X0 bv jv kv) from rfl]; have kA := Blk.new W3 #[.int .i64 0, .int .i64 0, .int .i64 0, .int .i64 0, .int .i64 0, .slice none 0 0, .slice none 0 0, .slice none 0 0] 32; have hall := wC_all hp3)
        | (refine wpStoreRowIn rfl _ _ _ rfl W3.heap.size (wC X0 bv jv kv) rfl rfl 32 _ kA (by kernel_rfl) rfl hall ?_; have hcx : Chg [] W3 ((W3.alloc (.cells #[.int .i64 0, .int .i64 0, .int .i64 0, .int .i64 0, .int .i64 0, .slice none 0 0, .slice none 0 0, .slice none 0 0] 32)).setRow W3.heap.size (wC X0 bv jv kv)) := Chg.row ((Chg.refl [] W3).alloc _) W3.heap.size _ (fun h => absurd h (Nat.lt_irrefl _)); have kB := kA.row (cs' := wC X0 bv jv kv); generalize (W3.alloc (.cells #[.int .i64 0, .int .i64 0, .int .i64 0, .int .i64 0, .int .i64 0, .slice none 0 0, .slice none 0 0, .slice none 0 0] 32)).setRow W3.heap.size (wC X0 bv jv kv) = W4 at *; have J4 := (HJ2.out.step HBL.out hc3 hd3).step HBL.out (hcx.mono (by simp)) (hd3.k hcx); have k4 := J4.k4; have hp4 := hp3.k hcx; have hl4 := J4.lo; have hz2 := HJ2.out.k6.lt; have HLP2 := hd (Array.getElem?_eq_some_iff.1 HJ2.out.lp).1; have HJ4 := hd J4; have HL4 := hd hl4; have HP4' := hd hp4; have HA4 := hd ha3; have HZ2 := hd hz2; clear J4 hl4 hp4 hcx hz2 ha3 hd3 hc3 hp3 kA)
        | (refine wpStoreRowIn rfl _ _ _ rfl p4 (wC WZ (.slice none 0 0) (.slice none 0 0) (.slice none 0 0)) rfl rfl 32 _ k4 (by kernel_rfl) rfl (by simp [wC, WZ, Value.oneCell']) ?_; have q5 := (HJ4.out.k5.chg (Chg.row (Chg.refl [p4] W4) p4 (wC WZ (.slice none 0 0) (.slice none 0 0) (.slice none 0 0)) (fun _ => by simp)) (by have := HL4.out; simp; omega)).cell 0; have q6 := (HJ4.out.k6.chg (Chg.row (Chg.refl [p4] W4) p4 (wC WZ (.slice none 0 0) (.slice none 0 0) (.slice none 0 0)) (fun _ => by simp)) (by have := HL4.out; simp; omega)).cell 0; have f5 := (HJ4.out.k5.chg (Chg.row (Chg.refl [p4] W4) p4 (wC WZ (.slice none 0 0) (.slice none 0 0) (.slice none 0 0)) (fun _ => by simp)) (by have := HL4.out; simp; omega)).free 0; have f6 := (HJ4.out.k6.chg (Chg.row (Chg.refl [p4] W4) p4 (wC WZ (.slice none 0 0) (.slice none 0 0) (.slice none 0 0)) (fun _ => by simp)) (by have := HL4.out; simp; omega)).free 0; have hne56 : p5 ≠ p6 := (by have := HL4.out; omega); simp at q5 q6))
      obtain ⟨rfl, rfl, rfl, rfl⟩ := HQ.out
      have hX := HJ4.out.fin HFL.out (.slice none 0 0) (.slice none 0 0) (.slice none 0 0) [] WZ r false (WZ_parts _) (WZ_apart _) (WZ_apart _) (WZ_apart _)
      exact ⟨let ⟨_, _, _, _, _, _, _, _, _, _, _, _, _, _, h⟩ := hX; h, .inr ⟨rfl, hX.put HFL.out _⟩⟩
  · rintro e W2 ⟨⟨v, rfl⟩, (⟨dk, hJ, hN⟩ | hX)⟩
    · have hd0 : S.reverse.drop M.length = [] := List.drop_of_length_le (by rw [List.length_reverse, ← HM.out, List.length_map]; omega)
      rw [hd0] at hN
      cases hN
      have hnb : (REC .ready none).state ≠ .busy := by rw [hREC]; simp [recOf]
      have hp : (REC .ready none).pending = none := by rw [hREC]; rfl
      have hend := run_endLoop (P := Tryz.prog) hJ.lp hnb
      rw [hp] at hend
      clear hREC hp hnb hd0
      refine ⟨none, _, hend, ?_⟩
      simp only
      clear hend
      have hF : ∀ rec', NwJ w (W2.putObj (Bx + 2) (.loop rec')) fp b (.slice av M.length cv) M p4 p5 p6 Bx rec' d' := fun rec' => hJ.put HFL.out rec'
      generalize hW3 : W2.putObj (Bx + 2) _ = W3
      obtain ⟨rc, hJ3⟩ : ∃ rc, NwJ w W3 fp b (.slice av M.length cv) M p4 p5 p6 Bx rc d' := by rw [← hW3]; exact ⟨_, hF _⟩
      clear hF hW3
      have k4 := hJ3.k4
      have hne : p4 < p5 ∧ p5 < p6 ∧ p6 < Bx := hJ3.lo.2
      have q5 := (hJ3.k5.chg (Chg.row (Chg.refl [p4] W3) p4 (wC WZ (.slice none 0 0) (.slice none 0 0) (.slice none 0 0)) (fun _ => by simp)) (by simp; omega)).cell 0
      have q6 := (hJ3.k6.chg (Chg.row (Chg.refl [p4] W3) p4 (wC WZ (.slice none 0 0) (.slice none 0 0) (.slice none 0 0)) (fun _ => by simp)) (by simp; omega)).cell 0
      have f5 := (hJ3.k5.chg (Chg.row (Chg.refl [p4] W3) p4 (wC WZ (.slice none 0 0) (.slice none 0 0) (.slice none 0 0)) (fun _ => by simp)) (by simp; omega)).free 0
      have f6 := (hJ3.k6.chg (Chg.row (Chg.refl [p4] W3) p4 (wC WZ (.slice none 0 0) (.slice none 0 0) (.slice none 0 0)) (fun _ => by simp)) (by simp; omega)).free 0
      have hne56 : p5 ≠ p6 := by omega
      simp at q5 q6
      have HX := hd (hJ3.fin HFL.out (.slice none 0 0) (.slice none 0 0) (.slice none 0 0) [] WZ 0 false (WZ_parts _) (WZ_apart _) (WZ_apart _) (WZ_apart _))
      clear hJ3 hJ hne
      go_wp2_with (refine wpList_store_row rfl _ _ _ rfl p4 (wC WZ (.slice none 0 0) (.slice none 0 0) (.slice none 0 0)) rfl rfl 32 _ k4 (by kernel_rfl) rfl (by simp [wC, WZ, Value.oneCell']) ?_)
      generalize ((W3.setRow p4 (wC WZ (.slice none 0 0) (.slice none 0 0) (.slice none 0 0))).setCell ⟨p5, 0, none⟩ (.bool false)).setCell ⟨p6, 0, none⟩ (.int .i64 0) = W4 at *
      obtain ⟨hdf, bv, jv, kv, L, e1, e2, e3, e4, e5, e6, e7⟩ := HX.out.done HFL.out
      rw [Exit.noGoto_ret]
      refine ⟨by simp, .inl ⟨_, _, rfl, run_takeDeferred (w := W4) hdf, ?_⟩⟩
      refine ⟨_, results_cell3 rfl _ _ ⟨p4, 0, none⟩ ⟨p5, 0, none⟩ ⟨p6, 0, none⟩ (.agg (wC WZ bv jv kv)) (.bool false) (.int .i64 0) rfl rfl rfl (run_loadVar_row _ p4 _ _ _ (0, 0) _ e1 Tryz.underlying32 rfl (by kernel_rfl)) (load_cell1 e2 (by kernel_rfl)) (load_cell1 e3 (by kernel_rfl)), ?_⟩
      rw [HP.out]
      exact ⟨bv, jv, kv, L, rfl, e4, e5, e6, e7⟩
    · have hnb : (REC (.done) (some Code.ret)).state ≠ .busy := by rw [hREC]; simp [recOf]
      have hp : (REC (.done) (some Code.ret)).pending = some Code.ret := by rw [hREC]; rfl
      obtain ⟨h10⟩ : Nonempty (W2.heap[Bx + 2]? = some (.loop (REC .done (some .ret)))) := let ⟨_, _, _, _, _, _, _, _, _, _, _, _, _, _, h⟩ := hX; ⟨h⟩
      have hend := run_endLoop (P := Tryz.prog) h10 hnb
      rw [hp] at hend
      clear hREC hp hnb h10
      refine ⟨some .ret, _, hend, ?_⟩
      simp only
      clear hend
      have hF : ∀ rec', NwX w (W2.putObj (Bx + 2) (.loop rec')) fp b p4 p5 p6 Bx rec' r ok X d' := fun rec' => hX.put HFL.out rec'
      generalize hW3 : W2.putObj (Bx + 2) _ = W4
      obtain ⟨rc, HX⟩ : ∃ rc, NwX w W4 fp b p4 p5 p6 Bx rc r ok X d' := by rw [← hW3]; exact ⟨_, hF _⟩
      clear hF hW3 hX
      obtain ⟨hdf, bv, jv, kv, L, e1, e2, e3, e4, e5, e6, e7⟩ := HX.done HFL.out
      have HE := hd hdf
      clear hdf
      refine wpIn_wide.2 ?_
      go_wp2_with fail
      rw [Exit.noGoto_ret]
      refine ⟨by simp, .inl ⟨_, _, rfl, run_takeDeferred (w := W4) HE.out, ?_⟩⟩
      refine ⟨_, results_cell3 rfl _ _ ⟨p4, 0, none⟩ ⟨p5, 0, none⟩ ⟨p6, 0, none⟩ (.agg (wC X bv jv kv)) (.bool ok) (.int .i64 r) rfl rfl rfl (run_loadVar_row _ p4 _ _ _ (0, 0) _ e1 Tryz.underlying32 rfl (by kernel_rfl)) (load_cell1 e2 (by kernel_rfl)) (load_cell1 e3 (by kernel_rfl)), ?_⟩
      rw [HP.out]
      exact ⟨bv, jv, kv, L, rfl, e4, e5, e6, e7⟩
theorem chk1_GW {X : Wld} (hG : GW X) (hC : X.contacts = []) {n : Nat} (hT : X.tick = (n : Int)) (hn : n < 128) (hL : (leW X).length ≤ 270000) {room : Int} {L : List (Nat × List UInt8 × Nat)} {d : Dsk} {i : Nat} (h : CkN room L d) (hm : (n, frameB X.tick (leW X), i) ∈ L) : LoadIs d n 0 X := by
  obtain ⟨h1, h2⟩ := h.bytes hm
  refine .inr (.inr ⟨h2, ?_, rfl, hG, hC, hT⟩)
  rw [h1, hT]
  exact oneB_frame _ _ (by omega) (by omega) (by omega)
end Go.Proofs.YtbiadpkglcdihaaGreat

/- A checkpoint for which there is no room, as plain data. -/
namespace Go.Proofs.YtbiadpkglcdihaaGreat
open Go.RowKit

variable {room : Int} {L : List (Nat × List UInt8 × Nat)} {d : Dsk}
theorem crash_cks {es : Nm} (m : Int) (kept : List Int) (hes : (d.changes.take (min (max m 0) d.changes.length).toNat).foldl turnD d.sure = es) (hL : es = L.map fun x => (chkB x.1, x.2.2)) (hf : ∀ x ∈ L, x.2.2 < d.files.length ∧ d.files.getD x.2.2 ([], 0) = (x.2.1, x.2.1.length))
    (hn : (L.map (·.1)).Nodup) (hs : ∀ x ∈ L, x.1 < 128) : Cks d.room (L.map fun x => (x.1, x.2.1, atN es x.2.2)) (crashD d m kept) := by
  unfold crashD
  rw [hes]
  refine ⟨⟨⟨rfl, rfl, rfl⟩, rfl, ?_, ?_, ?_, ?_⟩, rfl, rfl⟩
  · show movedN es = _
    unfold movedN
    conv => lhs; rw [hL]
    rw [List.map_map, List.map_map]
    conv => rhs; rw [hL]
    rw [← hL]
    rfl
  · intro y hy
    obtain ⟨x, hx, rfl⟩ := List.mem_map.1 hy
    have hfx := hf x hx
    have hnm : namedN es x.2.2 = true := named_of_mem (p := (chkB x.1, x.2.2)) (by rw [hL]; exact List.mem_map.2 ⟨x, hx, rfl⟩)
    refine ⟨?_, ?_⟩
    · show atN es x.2.2 < (keepF es (cutF d.files kept) (cutF d.files kept).length).length
      rw [keepF_length, cutF_length]
      exact atN_lt hfx.1 hnm
    · show (keepF es (cutF d.files kept) (cutF d.files kept).length).getD (atN es x.2.2) ([], 0) = _
      rw [keepF_at _ _ _ _ (by rw [cutF_length]; exact hfx.1) hnm, cutF_sure _ _ _ (by rw [hfx.2]), hfx.2]
  · rw [List.map_map]; exact hn
  · intro y hy
    obtain ⟨x, hx, rfl⟩ := List.mem_map.1 hy
    exact hs x hx
/-- No room: an error; what was there is there behind a crash. -/
theorem Cks.full (h : Cks room L d) (n : Nat) (b : List UInt8) (hr : room < (((L.map fun x => x.2.1.length).sum : Nat) : Int) + b.length) (hl : L.length < 64) :
    (putD d n b).1 = 6 ∧ (∃ es, Cks room (L.map fun x => (x.1, x.2.1, atN es x.2.2)) (crashD (putD d n b).2 0 [])) ∧ (putD d n b).2.ops ≤ d.ops + 7 := by
  have hq := h.n.q
  have ht := h.n.tmp
  have hsz := h.n.size
  have hlt := h.n.lt
  have hnm := h.n.names
  obtain ⟨rm, files, names, sure, ch, ops, down, fail, off⟩ := d
  obtain ⟨q1, q2, q3⟩ := hq
  have hroom := h.n.room
  have hsu := h.sure.symm
  have hch := h.ch
  have hfl := h.n.file
  simp only at q1 q2 q3 ht hsz hlt hnm hroom hsu hch hfl
  subst q1 q2 q3 hroom hsu hch
  have hlen : names.length < 64 := by rw [hnm, List.length_map]; exact hl
  have hop : ∀ f n s c o, opD ⟨rm, f, n, s, c, o, -1, -1, false⟩ = ⟨rm, f, n, s, c, o + 1, -1, -1, false⟩ := fun f n s c o => by unfold opD; simp
  have hoe : ∀ f n s c o, opE ⟨rm, f, n, s, c, o, -1, -1, false⟩ = 0 := fun f n s c o => opE_of rfl rfl rfl
  have hnput : nput names tmpB files.length = names ++ [(tmpB, files.length)] := by unfold nput; rw [ndel_none' ht]
  have c1 : createE ⟨rm, files, names, names, [], ops + 1, -1, -1, false⟩ tmpB = 0 := by
    unfold createE
    rw [hoe]
    simp only [ht]
    rw [if_neg (by simp), if_neg (by decide), if_neg (by simp), if_neg (by omega)]
  have s1 : createD ⟨rm, files, names, names, [], ops + 1, -1, -1, false⟩ tmpB = ⟨rm, files ++ [([], 0)], names ++ [(tmpB, files.length)], names, [([], tmpB, files.length)], ops + 1 + 1, -1, -1, false⟩ := by
    unfold createD
    rw [c1, if_neg (by simp), hop]
    unfold changeD
    simp only
    rw [turn_in _ _ _ tmp_nil, hnput]
    rfl
  have g1 : nget (names ++ [(tmpB, files.length)]) tmpB = some files.length := by rw [← hnput]; exact nget_put_same _ _ _
  have c2 : appendE ⟨rm, files ++ [([], 0)], names ++ [(tmpB, files.length)], names, [([], tmpB, files.length)], ops + 1 + 1, -1, -1, false⟩ tmpB b = 6 := by
    unfold appendE
    rw [hoe, if_neg (by simp)]
    simp only [g1]
    rw [if_neg (by simp), if_pos]
    unfold sizeD at hsz ⊢
    simp only [List.map_append, List.sum_append, List.map_cons, List.map_nil, List.sum_cons, List.sum_nil, getD_last, List.length_nil]
    simp only at hsz
    rw [sum_map_congr names (fun p hp => by rw [getD_app (hlt p hp)]), hsz]
    omega
  have he : putD ⟨rm, files, names, names, [], ops, -1, -1, false⟩ n b = (6, ⟨rm, files ++ [([], 0)], names ++ [(tmpB, files.length)], names, [([], tmpB, files.length)], ops + 1 + 1 + 1, -1, -1, false⟩) := by
    unfold putD
    rw [hoe, if_neg (by simp), hop, if_neg (by simp [ht])]
    unfold putS seqD
    simp only
    rw [c1, if_neg (by simp), s1]
    unfold seqD
    simp only
    rw [c2, if_pos (by simp)]
    unfold appendD
    rw [c2, if_pos (by simp), hop]
  rw [he]
  refine ⟨rfl, ⟨names, ?_⟩, by simp only; omega⟩
  exact crash_cks (d := ⟨rm, files ++ [([], 0)], names ++ [(tmpB, files.length)], names, [([], tmpB, files.length)], ops + 1 + 1 + 1, -1, -1, false⟩) 0 [] rfl hnm (fun x hx => ⟨by have := (hfl x hx).1; simp only [List.length_append]; omega, by simp only; rw [getD_app (hfl x hx).1]; exact (hfl x hx).2⟩) h.n.nd h.n.small
end Go.Proofs.YtbiadpkglcdihaaGreat

/- SaveFulls: for every input the law returns true. -/
namespace Go.Proofs.YtbiadpkglcdihaaGreat
open Go.RowKit

theorem DkN.newest {w0 w : World} {b : Nat} {d : Dsk} (h : DkN w0 w b d) (ao : Option Addr) (cap : Nat) (ks : List Nat) (hlen : ks.length ≤ 1000) (hv : Fs w (.slice ao ks.length cap) (ks.map Int.ofNat)) (r : Int) (ok : Bool) (X : Wld) (d' : Dsk) (hN : NewIs d (ks.mergeSort (fun x y => decide (x ≤ y))).reverse r ok X d') :
    Calls Tryz.prog 27 #[.pointer (some ⟨b, 0, none⟩), .slice ao ks.length cap] w fun e w' => ∃ bv jv kv L, e = .returned (.tuple #[vW X bv jv kv, .bool ok, .int .i64 r]) ∧ WlP w' bv jv kv L X ∧ Apart [b] bv jv kv L X ∧ DkN w0 w' b d' ∧ Chg [b] w w' := by
  obtain ⟨fp, h1, h2, h3⟩ := h
  have hb : b ∈ fp := by obtain ⟨_, _, _, _, _, hh⟩ := h1; exact hh.fpb
  exact (Newest_any h1 ao cap ks hlen hv r ok X d' hN).mono fun e w' ⟨bv, jv, kv, L, he, hp, ha, hd, hc⟩ => ⟨bv, jv, kv, L, he, hp, ha, .step h2 h3 (.same hd (hc.mono (fun x hx _ => by simp at hx; subst hx; exact hb))), hc⟩
end Go.Proofs.YtbiadpkglcdihaaGreat

/- SaveNewest: what the disk holds and what is told (plain). -/
namespace Go.Proofs.YtbiadpkglcdihaaGreat
open Go.RowKit

theorem new_list {T : List Nat} (Q : Dsk → Prop) (hop : ∀ d, Q d → Q (opD d)) (st : Nat → Nat) (XA : Nat → Wld) (hsm : ∀ n ∈ T, n ≤ 1000)
    (h1 : ∀ d n, Q d → n ∈ T → st n = 1 → LoadIs d n 0 (XA n)) (h2 : ∀ d n, Q d → n ∈ T → st n ≠ 1 → LoadIs d n 9 WZ) (hl : ∀ d n, Q d → n ∈ T → (bytesD d (chkB n)).length ≤ 140737488354000) :
    ∀ (S : List Nat) (d : Dsk), (∀ n ∈ S, n ∈ T) → Q d → d.ops + S.length < 1073741824 → ∃ d', NewIs d S 0 (S.find? fun n => st n == 1).isSome (((S.find? fun n => st n == 1).map XA).getD WZ) d' ∧ Q d' ∧ d'.ops ≤ d.ops + S.length
  | [], d, _, hq, _ => ⟨d, .nil d, hq, by simp⟩
  | n :: S, d, hS, hq, ho => by
    have hn := hS n (by simp)
    have hk : NOk d n := ⟨by have := hsm n hn; omega, by simp at ho; omega, hl d n hq hn⟩
    have hod : (opD d).ops = d.ops + 1 := rfl
    by_cases hs : st n = 1
    · rw [List.find?_cons_of_pos (by simpa using hs)]
      exact ⟨opD d, .hit d n S (XA n) hk (h1 d n hq hn hs), hop d hq, by rw [hod]; simp; omega⟩
    · rw [List.find?_cons_of_neg (by simpa using hs)]
      obtain ⟨d', g1, g2, g3⟩ := new_list Q hop st XA hsm h1 h2 hl S (opD d) (fun m hm => hS m (by simp [hm])) (hop d hq) (by rw [hod]; simp at ho ⊢; omega)
      exact ⟨d', .skip d n S 0 _ _ d' hk (h2 d n hq hn hs) g1, g2, by rw [hod] at g3; simp; omega⟩
theorem desc_find (st : Nat → Nat) : ∀ (S : List Nat), S.Pairwise (fun x y => y ≤ x) → (∀ m, S.find? (fun n => st n == 1) = some m → m ∈ S ∧ st m = 1 ∧ ∀ n ∈ S, st n = 1 → n ≤ m) ∧ (S.find? (fun n => st n == 1) = none → ∀ n ∈ S, st n ≠ 1)
  | [], _ => ⟨by simp, by simp⟩
  | x :: S, h => by
    rw [List.pairwise_cons] at h
    obtain ⟨g1, g2⟩ := desc_find st S h.2
    by_cases hs : st x = 1
    · rw [List.find?_cons_of_pos (by simpa using hs)]
      refine ⟨fun m hm => ?_, fun hm => by cases hm⟩
      obtain rfl := Option.some.inj hm
      refine ⟨by simp, hs, fun n hn _ => ?_⟩
      rcases List.mem_cons.1 hn with rfl | hn
      · exact Nat.le_refl _
      · exact h.1 n hn
    · rw [List.find?_cons_of_neg (by simpa using hs)]
      refine ⟨fun m hm => ?_, fun hm n hn => ?_⟩
      · obtain ⟨a1, a2, a3⟩ := g1 m hm
        refine ⟨by simp [a1], a2, fun n hn h1 => ?_⟩
        rcases List.mem_cons.1 hn with rfl | hn
        · exact absurd h1 hs
        · exact a3 n hn h1
      · rcases List.mem_cons.1 hn with rfl | hn
        · exact hs
        · exact g2 hm n hn
theorem desc_sorted (T : List Nat) : ((T.mergeSort (fun x y => decide (x ≤ y))).reverse).Pairwise (fun x y => y ≤ x) ∧ (∀ n, n ∈ (T.mergeSort (fun x y => decide (x ≤ y))).reverse ↔ n ∈ T) ∧ ((T.mergeSort (fun x y => decide (x ≤ y))).reverse).length = T.length := by
  refine ⟨?_, fun n => ?_, by rw [List.length_reverse, List.length_mergeSort]⟩
  · rw [List.pairwise_reverse]
    have := List.pairwise_mergeSort (le := fun (x y : Nat) => decide (x ≤ y)) (by simp; omega) (by simp; omega) T
    exact this.imp (fun h => by simpa using h)
  · rw [List.mem_reverse, List.mem_mergeSort]
/-- A bent checkpoint. -/
def Bent (F : List UInt8) (b : List UInt8) : Prop := ∃ (r : Nat) (M : UInt32), b = bendB F r M ∧ b ≠ F
theorem bent_load {X : Wld} {n : Nat} (hT : X.tick = (n : Int)) (hn : n < 128) (hL : (leW X).length ≤ 270000) {room : Int} {L : List (Nat × List UInt8 × Nat)} {d : Dsk} {b : List UInt8} {i : Nat} (h : CkN room L d) (hm : (n, b, i) ∈ L) (hb : Bent (frameB X.tick (leW X)) b) : LoadIs d n 9 WZ := by
  obtain ⟨h1, h2⟩ := h.bytes hm
  obtain ⟨r, M, rfl, hne⟩ := hb
  refine .inr (.inl ⟨h2, fun p => ?_, rfl, rfl⟩)
  rw [h1, hT]
  rw [hT] at hne
  rw [oneB_bent (by omega) (by omega) (by omega) hne]
  simp
theorem Bent.len {F b : List UInt8} (h : Bent F b) : b.length = F.length := by obtain ⟨r, M, rfl, -⟩ := h; exact bendB_length _ _ _
theorem Bent.of (F : List UInt8) (r : Nat) (M : UInt32) (h0 : M ≠ 0) (hr : r + 32 ≤ 8 * F.length) : Bent F (bendB F r M) := ⟨r, M, rfl, bend_ne F r M (fun i hi h => by omega) h0⟩
/-- One file is bent. -/
theorem CkN.bend {room : Int} {L : List (Nat × List UInt8 × Nat)} {d : Dsk} (h : CkN room L d) (hi : (L.map (·.2.2)).Nodup) {n : Nat} (hn : n ∈ L.map (·.1)) (r : Int) (M : UInt32) :
    CkN room (L.map fun x => if x.1 = n then (x.1, bendB x.2.1 r M, x.2.2) else x) (bendDsk d (chkB n) r M) ∧ (bendDsk d (chkB n) r M).ops = d.ops := by
  obtain ⟨y, hy, rfl⟩ := List.mem_map.1 hn
  have hg := h.get hy
  have hfy := h.file y hy
  have hidx : ∀ x ∈ L, x.2.2 = y.2.2 → x = y := by
    intro x hx e
    clear hg hfy hn h
    induction L with
    | nil => cases hx
    | cons a L ih =>
      rw [List.map_cons, List.nodup_cons] at hi
      rcases List.mem_cons.1 hx with hx1 | hx1 <;> rcases List.mem_cons.1 hy with hy1 | hy1
      · rw [hx1, hy1]
      · exact absurd (List.mem_map.2 ⟨y, hy1, by rw [← e, hx1]⟩) hi.1
      · exact absurd (List.mem_map.2 ⟨x, hx1, by rw [e, hy1]⟩) hi.1
      · exact ih hi.2 hy1 hx1
  have hfst : ∀ x ∈ L, x.1 = y.1 → x = y := by
    intro x hx e
    have hnd := h.nd
    clear hg hfy hn h hidx hi
    induction L with
    | nil => cases hx
    | cons a L ih =>
      rw [List.map_cons, List.nodup_cons] at hnd
      rcases List.mem_cons.1 hx with hx1 | hx1 <;> rcases List.mem_cons.1 hy with hy1 | hy1
      · rw [hx1, hy1]
      · exact absurd (List.mem_map.2 ⟨y, hy1, by rw [← e, hx1]⟩) hnd.1
      · exact absurd (List.mem_map.2 ⟨x, hx1, by rw [e, hy1]⟩) hnd.1
      · exact ih hy1 hx1 hnd.2
  have hb : bendDsk d (chkB y.1) r M = setF d y.2.2 (bendB y.2.1 r M, (bendB y.2.1 r M).length) := by
    unfold bendDsk
    rw [hg]
    simp only
    rw [hfy.2]
    simp only [bendB_length]
  rw [hb]
  refine ⟨⟨⟨h.q.off, h.q.down, h.q.fail⟩, h.room, ?_, ?_, ?_, ?_⟩, rfl⟩
  · show d.names = _
    rw [h.names, List.map_map]
    apply List.map_congr_left
    intro x hx
    simp only [Function.comp]
    split <;> rfl
  · intro z hz
    obtain ⟨x, hx, rfl⟩ := List.mem_map.1 hz
    have hfx := h.file x hx
    unfold setF
    simp only
    by_cases e : x.1 = y.1
    · obtain rfl := hfst x hx e
      rw [if_pos rfl]
      refine ⟨by simpa using hfx.1, ?_⟩
      simp [List.getD, hfx.1]
    · rw [if_neg e]
      have hne : x.2.2 ≠ y.2.2 := fun e2 => e (by rw [hidx x hx e2])
      refine ⟨by simpa using hfx.1, ?_⟩
      rw [List.getD_eq_getElem?_getD, List.getElem?_set_ne (fun e => hne e.symm), ← List.getD_eq_getElem?_getD]
      exact hfx.2
  · rw [List.map_map]
    have : (fun x : Nat × List UInt8 × Nat => x.1) ∘ (fun x => if x.1 = y.1 then (x.1, bendB x.2.1 r M, x.2.2) else x) = fun x => x.1 := by
      funext x; simp only [Function.comp]; split <;> rfl
    rw [this]
    exact h.nd
  · intro z hz
    obtain ⟨x, hx, rfl⟩ := List.mem_map.1 hz
    have := h.small x hx
    split <;> exact this
end Go.Proofs.YtbiadpkglcdihaaGreat
