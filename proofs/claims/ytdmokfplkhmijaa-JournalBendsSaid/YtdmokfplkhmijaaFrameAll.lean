/- frame.All: the records with which bytes begin. -/
import Derived.Test.YtdmokfplkhmijaaFrameMath
import Derived.Test.YtdmokfplkhmijaaRangeKit
import Derived.Deep.Cut
import Derived.LoopNIn
import Derived.LoopIn
namespace Go.Proofs.Ytdmokfplkhmijaa
open Go.RowKit

def scanF (most : Int) : Nat → List UInt8 → List (Int × List UInt8)
  | 0, _ => []
  | f + 1, l => match nextB l most with
    | none => []
    | some (no, p, q) => (no, p) :: scanF most f (l.drop q)
def recLen (rs : List (Int × List UInt8)) : Nat := (rs.map fun r => r.2.length + 20).sum
theorem recLen_app (a b : List (Int × List UInt8)) : recLen (a ++ b) = recLen a + recLen b := by simp [recLen]
def scanB (most : Int) (l : List UInt8) : List (Int × List UInt8) := scanF most (l.length + 1) l

abbrev RecV := Int × Value × List UInt8
def recCells (r : RecV) : List Value := [.int .i64 r.1, r.2.1]
def bare (r : RecV) : Int × List UInt8 := (r.1, r.2.2)
/-- v is a row of records of the call's own; their payloads are rows of bytes of its own. -/
def RecL (w : World) (base : Nat) (v : Value) (rs : List RecV) : Prop :=
  w.ownsRow base 80 2 v rs.length (rs.flatMap recCells) ∧ ∀ r ∈ rs, OwB w base r.2.1 r.2.2 ∧ ∃ ao n c, r.2.1 = .slice ao n c
theorem RecL.nil (w : World) (base : Nat) : RecL w base (.slice none 0 0) [] := ⟨World.ownsRow_nil _ _ _ _, by simp⟩
theorem RecL.k {w w' : World} {base : Nat} {v : Value} {rs : List RecV} (h : RecL w base v rs) (hc : Chg [] w w') : RecL w' base v rs :=
  ⟨ownsRow_k h.1 hc, fun r hr => ⟨(h.2 r hr).1.k hc, (h.2 r hr).2⟩⟩

theorem RecL.form {w : World} {base : Nat} {v : Value} {rs : List RecV} (h : RecL w base v rs) : ∃ ao c, v = .slice ao rs.length c := by
  rcases h.1.2 with ⟨rfl, h0⟩ | ⟨g, cap, cur, rfl, _⟩
  · exact ⟨none, 0, by rw [h0]⟩
  · exact ⟨_, _, rfl⟩

theorem each_any (ao : Option Addr) (n c : Nat) (most : Int) (w : World) :
    Calls Try.prog 74 #[.slice ao n c, .int .i64 most] w fun e w' => e = .returned (.func (.func 87) #[] #[.pointer (some ⟨w.heap.size, 0, none⟩), .pointer (some ⟨w.heap.size + 1, 0, none⟩)]) ∧
      w' = (w.alloc (.cells #[.slice ao n c] 30)).alloc (.cells #[.int .i64 most] 3) := by
  go_enter Try.func74, Try.ntmps74
  go_wp2_with fail
  go_ret
  exact ⟨rfl, rfl⟩

/-- What the loop in All keeps: the records so far, and where the last one ends. -/
structure AllJ (w W : World) (sl : Value) (most : Int) (rec : Loop) (pre : List RecV) : Prop where
  chg : Chg [] w W
  out : ∃ v, Blk W w.heap.size #[v] 42 ∧ RecL W w.heap.size v pre
  fin : Blk W (w.heap.size + 1) #[.int .i64 (recLen (pre.map bare) : Nat)] 3
  b2 : Blk W (w.heap.size + 2) #[sl] 30
  b3 : Blk W (w.heap.size + 3) #[.int .i64 most] 3
  dfr : W.heap[w.heap.size + 4]? = some (.deferred (some []))
  lp : W.heap[w.heap.size + 5]? = some (.loop rec)
theorem AllJ.k {w W W' : World} {sl : Value} {most : Int} {rec : Loop} {pre : List RecV} (h : AllJ w W sl most rec pre) (hc : Chg [] W W') : AllJ w W' sl most rec pre :=
  ⟨h.chg.k hc, by obtain ⟨v, h1, h2⟩ := h.out; exact ⟨v, h1.k hc, h2.k hc⟩, h.fin.k hc, h.b2.k hc, h.b3.k hc, (hc.block _ (Array.getElem?_eq_some_iff.1 h.dfr).1 (by simp)).trans h.dfr, (hc.block _ (Array.getElem?_eq_some_iff.1 h.lp).1 (by simp)).trans h.lp⟩

def NextOut (W : World) (r : Option (Int × List UInt8 × Nat)) (t5 t6 t7 : Value) (W' : World) : Prop :=
  Chg [] W W' ∧ ∃ b5, t5 = .pointer (some ⟨b5, 0, none⟩) ∧ match r with
    | none => t6 = .int .i64 0 ∧ t7 = .bool false
    | some (no, p, q) => ∃ ao c, t6 = .int .i64 (q : Nat) ∧ t7 = .bool true ∧ Blk W' b5 #[.int .i64 no, .slice ao p.length c] 80 ∧ OwB W' W.heap.size (.slice ao p.length c) p

set_option maxRecDepth 100000 in
set_option maxHeartbeats 4000000 in
theorem each1 {n : Nat} (w : World) (ao : Option Addr) (cap : Nat) (l : List UInt8) (most : Int) (rec : Loop) (hlen : l.length ≤ 140737488354000) (h0 : Bs w (.slice ao l.length cap) l)
    (hY : ∀ (pre : List RecV) (W : World) (no : Int) (pao : Option Addr) (p : List UInt8) (pc : Nat), AllJ w W (.slice ao l.length cap) most rec pre → OwB W w.heap.size (.slice pao p.length pc) p → recLen (pre.map bare) + (p.length + 20) ≤ l.length →
      YieldAt Fence.wide n Try.prog (w.heap.size + 5) #[.int .i64 ((recLen (pre.map bare) : Nat) + ((p.length + 20 : Nat) : Int)), .agg #[.int .i64 no, .slice pao p.length pc]] W
        fun e W' => e = .returned (.bool true) ∧ AllJ w W' (.slice ao l.length cap) most rec (pre ++ [(no, .slice pao p.length pc, p)]))
    (W0 : World) (hW : AllJ w W0 (.slice ao l.length cap) most rec []) :
    Calls Try.prog 87 #[.func (.yield (w.heap.size + 5)) #[] #[], .pointer (some ⟨w.heap.size + 2, 0, none⟩), .pointer (some ⟨w.heap.size + 3, 0, none⟩)] W0
      fun e W' => (∃ v, e = .returned v) ∧ ∃ pre, pre.map bare = scanB most l ∧ AllJ w W' (.slice ao l.length cap) most rec pre := by
  have HY := hd hY
  clear hY
  go_enter Try.func87, Try.ntmps87
  go_wp2_with fail
  go_loopw [4, 5, 6, 7] (fun t _ _ _ wr => ∃ (pre : List RecV) (f : Nat), l.length - recLen (pre.map bare) < f ∧ recLen (pre.map bare) ≤ l.length ∧ Hd (pre.map bare ++ scanF most f (l.drop (recLen (pre.map bare))) = scanB most l) ∧ t = .int .i64 (recLen (pre.map bare) : Nat) ∧ AllJ w wr (.slice ao l.length cap) most rec pre)
    (fun t _ _ _ _ => l.length - (intOf t).toNat)
  case atStart => exact ⟨[], l.length + 1, by simp [recLen], by simp [recLen], hd (by simp [scanB, recLen]), rfl, hW⟩
  case round =>
    obtain ⟨pre, f, hf, hle, hS, rfl, hJ⟩ := hrel
    generalize hat : recLen (pre.map bare) = at_ at *
    have Hat := hd hat
    clear hat
    have q2 := hJ.b2.cell 0
    have q3 := hJ.b3.cell 0
    simp at q2 q3
    have hl := (h0.k hJ.chg)
    obtain ⟨aoK, cK, hcut, hB, -⟩ := run_cutB hl (lo := some (.int .i64 (at_ : Int))) (hi := none) (.inr ⟨.i64, rfl⟩) (.inl ⟨rfl, rfl⟩) hle (Nat.le_refl _)
    rw [List.take_of_length_le (by rw [List.length_drop]; omega)] at hB
    have hNx : ∀ wx, Chg [] wr wx → Calls Try.prog 88 #[.slice aoK (l.length - at_) cK, .int .i64 most] wx (NextPost wx (nextB (l.drop at_) most)) := fun wx hx => Next_any _ (l.drop at_) most wx (hB.k hx) (by rw [List.length_drop]; omega)
    have Hcut := hd hcut
    have Q2 := hd q2
    have Q3 := hd q3
    have HJ := hd hJ
    clear hcut q2 q3 hB hl hJ
    refine wp_block ?_
    rcases hN : nextB (l.drop at_) most with _ | ⟨no, p, q⟩
    · rw [hN] at hNx
      have HN := hd hN
      have HNX := hd hNx
      clear hN hNx
      go_upto_region 1 with (fail)
      go_cut [5, 6, 7] from 8 (fun t5 t6 t7 wx => NextOut wr none t5 t6 t7 wx)
      case first =>
        refine anyH_start (n := 13) (L := #[false, false, false, false, false, false, false, false, false, false, false, false, false]) (by kernel_rfl) (by kernel_rfl) (S := (fun wx => Chg [] wr wx)) ((Chg.refl _ _).drew) (fun hHeld => ?_)
        refine anyH_take (i := 0) (d := 9) (L' := #[true, false, false, false, false, false, false, false, false, false, false, false, false]) (v := ?v2) rfl rfl (by kernel_rfl) (fun _ _ _ h => h) (by rfl) ?hy2 (by assumption) ?rest2
        case hy2 => (intro wx hSw; (try dsimp only at hSw); (have t0 := Chg.cellS hSw Q2.out; have t1 := Chg.cellS hSw Q3.out; have t2 := Hcut.out); go_simp; (try with_reducible rfl))
        simp only [Act.put, List.setIfInBounds_toArray, List.set_cons_zero, List.set_cons_succ]
        refine anyH_take (i := 1) (d := 10) (L' := #[true, true, false, false, false, false, false, false, false, false, false, false, false]) (v := ?v3) rfl rfl (by kernel_rfl) (fun _ _ _ h => h) (by rfl) ?hy3 (by assumption) ?rest3
        case hy3 => (intro wx hSw; (try dsimp only at hSw); (have t0 := Chg.cellS hSw Q2.out; have t1 := Chg.cellS hSw Q3.out; have t2 := Hcut.out); go_simp; (try with_reducible rfl))
        simp only [Act.put, List.setIfInBounds_toArray, List.set_cons_zero, List.set_cons_succ]
        refine anyH_take (i := 2) (d := 11) (L' := #[true, true, true, false, false, false, false, false, false, false, false, false, false]) (v := ?v4) rfl rfl (by kernel_rfl) (fun _ _ _ h => h) (by rfl) ?hy4 (by assumption) ?rest4
        case hy4 => (intro wx hSw; (try dsimp only at hSw); (have t0 := Chg.cellS hSw Q2.out; have t1 := Chg.cellS hSw Q3.out; have t2 := Hcut.out); go_simp; (try with_reducible rfl))
        simp only [Act.put, List.setIfInBounds_toArray, List.set_cons_zero, List.set_cons_succ]
        refine anyH_take (i := 3) (d := 12) (L' := #[true, true, true, true, false, false, false, false, false, false, false, false, false]) (v := ?v5) rfl rfl (by kernel_rfl) (fun _ _ _ h => h) (by rfl) ?hy5 (by assumption) ?rest5
        case hy5 => (intro wx hSw; (try dsimp only at hSw); (have t0 := Chg.cellS hSw Q2.out; have t1 := Chg.cellS hSw Q3.out; have t2 := Hcut.out); go_simp; (try with_reducible rfl))
        simp only [Act.put, List.setIfInBounds_toArray, List.set_cons_zero, List.set_cons_succ]
        refine anyH_run2 (i := 4) (j := 9) (L1 := #[true, true, true, true, true, false, false, false, false, false, false, false, false]) (L2 := #[true, true, true, true, false, false, false, false, false, true, false, false, false]) rfl rfl (by kernel_rfl) (by rfl) (by rfl) (fun KK hKK => ?_) (fun KK hKK => ?_)
        · go_simp
          (refine (HNX.out _ (by assumption)).mono ?_; rintro e w4 ⟨rfl, hc4⟩; have hm4 := Chg.k (a := wr) (by assumption) hc4; try go_simp)
          refine hKK.out _ _ (by assumption) (fun hHeld => ?_)
          clear hKK KK
          try simp only [Act.put, List.setIfInBounds_toArray, List.set_cons_zero, List.set_cons_succ]
          refine anyH_take (i := 5) (d := 8) (L' := #[true, true, true, true, true, true, false, false, false, false, false, false, false]) (v := ?v6) rfl rfl (by kernel_rfl) (fun _ _ _ h => h) (by rfl) ?hy6 (by assumption) ?rest6
          case hy6 => (intro wx hSw; (try dsimp only at hSw); (have t0 := Chg.cellS hSw Q2.out; have t1 := Chg.cellS hSw Q3.out; have t2 := Hcut.out); go_simp; (try with_reducible rfl))
          simp only [Act.put, List.setIfInBounds_toArray, List.set_cons_zero, List.set_cons_succ]
          refine anyH_take (i := 6) (d := 14) (L' := #[true, true, true, true, true, true, true, false, false, false, false, false, false]) (v := ?v7) rfl rfl (by kernel_rfl) (fun _ _ _ h => h) (by rfl) ?hy7 (by assumption) ?rest7
          case hy7 => (intro wx hSw; (try dsimp only at hSw); (have t0 := Chg.cellS hSw Q2.out; have t1 := Chg.cellS hSw Q3.out; have t2 := Hcut.out); go_simp; (try with_reducible rfl))
          simp only [Act.put, List.setIfInBounds_toArray, List.set_cons_zero, List.set_cons_succ]
          refine anyH_take (i := 7) (d := 15) (L' := #[true, true, true, true, true, true, true, true, false, false, false, false, false]) (v := ?v8) rfl rfl (by kernel_rfl) (fun _ _ _ h => h) (by rfl) ?hy8 (by assumption) ?rest8
          case hy8 => (intro wx hSw; (try dsimp only at hSw); (have t0 := Chg.cellS hSw Q2.out; have t1 := Chg.cellS hSw Q3.out; have t2 := Hcut.out); go_simp; (try with_reducible rfl))
          simp only [Act.put, List.setIfInBounds_toArray, List.set_cons_zero, List.set_cons_succ]
          refine anyH_take (i := 8) (d := 16) (L' := #[true, true, true, true, true, true, true, true, true, false, false, false, false]) (v := ?v9) rfl rfl (by kernel_rfl) (fun _ _ _ h => h) (by rfl) ?hy9 (by assumption) ?rest9
          case hy9 => (intro wx hSw; (try dsimp only at hSw); (have t0 := Chg.cellS hSw Q2.out; have t1 := Chg.cellS hSw Q3.out; have t2 := Hcut.out); go_simp; (try with_reducible rfl))
          simp only [Act.put, List.setIfInBounds_toArray, List.set_cons_zero, List.set_cons_succ]
          refine anyH_run (i := 9) (L' := #[true, true, true, true, true, true, true, true, true, true, false, false, false]) rfl (by kernel_rfl) (by rfl) (fun KK hKK => ?_)
          go_simp
          (first | (have hkA := Chg.refl [] w4; have hm9 := hm4.alloc (.cells #[.int .i64 0, .slice none 0 0] 80)) | (have hkB := Blk.new wr.drew #[.int .i64 0, .slice none 0 0] 80; have hm9 := ((Chg.refl [] wr).drew).alloc (.cells #[.int .i64 0, .slice none 0 0] 80)))
          refine hKK.out _ _ (by assumption) (fun hHeld => ?_)
          clear hKK KK
          try simp only [Act.put, List.setIfInBounds_toArray, List.set_cons_zero, List.set_cons_succ]
          refine anyH_run (i := 10) (L' := #[true, true, true, true, true, true, true, true, true, true, true, false, false]) rfl (by kernel_rfl) (by rfl) (fun KK hKK => ?_)
          go_simp
          (first | (have hkC := hkB.k hc4; have q0 := hkC.cell 0; have q1 := hkC.cell 1; have f0 := hkC.free 0; have f1 := hkC.free 1; simp at q0 q1 f0 f1; have hm10 := (hm4.setCell ⟨wr.heap.size, 0, none⟩ (.int .i64 0) (by simp)).setCell ⟨wr.heap.size, 1, none⟩ (.slice none 0 0) (by simp); go_simp) | (have hm10 := hm4.alloc (.cells #[.int .i64 0, .slice none 0 0] 80)))
          refine hKK.out _ _ (by assumption) (fun hHeld => ?_)
          clear hKK KK
          try simp only [Act.put, List.setIfInBounds_toArray, List.set_cons_zero, List.set_cons_succ]
          refine anyH_run (i := 11) (L' := #[true, true, true, true, true, true, true, true, true, true, true, true, false]) rfl (by kernel_rfl) (by rfl) (fun KK hKK => ?_)
          go_simp
          (skip)
          refine hKK.out _ _ (by assumption) (fun hHeld => ?_)
          clear hKK KK
          try simp only [Act.put, List.setIfInBounds_toArray, List.set_cons_zero, List.set_cons_succ]
          refine anyH_run (i := 12) (L' := #[true, true, true, true, true, true, true, true, true, true, true, true, true]) rfl (by kernel_rfl) (by rfl) (fun KK hKK => ?_)
          go_simp
          (skip)
          refine hKK.out _ _ (by assumption) (fun hHeld => ?_)
          clear hKK KK
          try simp only [Act.put, List.setIfInBounds_toArray, List.set_cons_zero, List.set_cons_succ]
          refine wpAnyH_done (by kernel_rfl) ?_ _
          (go_wp2_with fail; go_meet; exact ⟨by assumption, _, rfl, rfl, rfl⟩)
        · go_simp
          (first | (have hkA := Chg.refl [] w4; have hm9 := hm4.alloc (.cells #[.int .i64 0, .slice none 0 0] 80)) | (have hkB := Blk.new wr.drew #[.int .i64 0, .slice none 0 0] 80; have hm9 := ((Chg.refl [] wr).drew).alloc (.cells #[.int .i64 0, .slice none 0 0] 80)))
          refine hKK.out _ _ (by assumption) (fun hHeld => ?_)
          clear hKK KK
          try simp only [Act.put, List.setIfInBounds_toArray, List.set_cons_zero, List.set_cons_succ]
          refine anyH_run (i := 4) (L' := #[true, true, true, true, true, false, false, false, false, true, false, false, false]) rfl (by kernel_rfl) (by rfl) (fun KK hKK => ?_)
          go_simp
          (refine (HNX.out _ (by assumption)).mono ?_; rintro e w4 ⟨rfl, hc4⟩; have hm4 := Chg.k (a := wr) (by assumption) hc4; try go_simp)
          refine hKK.out _ _ (by assumption) (fun hHeld => ?_)
          clear hKK KK
          try simp only [Act.put, List.setIfInBounds_toArray, List.set_cons_zero, List.set_cons_succ]
          refine anyH_run (i := 5) (L' := #[true, true, true, true, true, true, false, false, false, true, false, false, false]) rfl (by kernel_rfl) (by rfl) (fun KK hKK => ?_)
          go_simp
          (skip)
          refine hKK.out _ _ (by assumption) (fun hHeld => ?_)
          clear hKK KK
          try simp only [Act.put, List.setIfInBounds_toArray, List.set_cons_zero, List.set_cons_succ]
          refine anyH_take (i := 6) (d := 14) (L' := #[true, true, true, true, true, true, true, false, false, true, false, false, false]) (v := ?v17) rfl rfl (by kernel_rfl) (fun _ _ _ h => h) (by rfl) ?hy17 (by assumption) ?rest17
          case hy17 => (intro wx hSw; (try dsimp only at hSw); (have t0 := Chg.cellS hSw Q2.out; have t1 := Chg.cellS hSw Q3.out; have t2 := Hcut.out); go_simp; (try with_reducible rfl))
          simp only [Act.put, List.setIfInBounds_toArray, List.set_cons_zero, List.set_cons_succ]
          refine anyH_take (i := 7) (d := 15) (L' := #[true, true, true, true, true, true, true, true, false, true, false, false, false]) (v := ?v18) rfl rfl (by kernel_rfl) (fun _ _ _ h => h) (by rfl) ?hy18 (by assumption) ?rest18
          case hy18 => (intro wx hSw; (try dsimp only at hSw); (have t0 := Chg.cellS hSw Q2.out; have t1 := Chg.cellS hSw Q3.out; have t2 := Hcut.out); go_simp; (try with_reducible rfl))
          simp only [Act.put, List.setIfInBounds_toArray, List.set_cons_zero, List.set_cons_succ]
          refine anyH_take (i := 8) (d := 16) (L' := #[true, true, true, true, true, true, true, true, true, true, false, false, false]) (v := ?v19) rfl rfl (by kernel_rfl) (fun _ _ _ h => h) (by rfl) ?hy19 (by assumption) ?rest19
          case hy19 => (intro wx hSw; (try dsimp only at hSw); (have t0 := Chg.cellS hSw Q2.out; have t1 := Chg.cellS hSw Q3.out; have t2 := Hcut.out); go_simp; (try with_reducible rfl))
          simp only [Act.put, List.setIfInBounds_toArray, List.set_cons_zero, List.set_cons_succ]
          refine anyH_run (i := 10) (L' := #[true, true, true, true, true, true, true, true, true, true, true, false, false]) rfl (by kernel_rfl) (by rfl) (fun KK hKK => ?_)
          go_simp
          (first | (have hkC := hkB.k hc4; have q0 := hkC.cell 0; have q1 := hkC.cell 1; have f0 := hkC.free 0; have f1 := hkC.free 1; simp at q0 q1 f0 f1; have hm10 := (hm4.setCell ⟨wr.heap.size, 0, none⟩ (.int .i64 0) (by simp)).setCell ⟨wr.heap.size, 1, none⟩ (.slice none 0 0) (by simp); go_simp) | (have hm10 := hm4.alloc (.cells #[.int .i64 0, .slice none 0 0] 80)))
          refine hKK.out _ _ (by assumption) (fun hHeld => ?_)
          clear hKK KK
          try simp only [Act.put, List.setIfInBounds_toArray, List.set_cons_zero, List.set_cons_succ]
          refine anyH_run (i := 11) (L' := #[true, true, true, true, true, true, true, true, true, true, true, true, false]) rfl (by kernel_rfl) (by rfl) (fun KK hKK => ?_)
          go_simp
          (skip)
          refine hKK.out _ _ (by assumption) (fun hHeld => ?_)
          clear hKK KK
          try simp only [Act.put, List.setIfInBounds_toArray, List.set_cons_zero, List.set_cons_succ]
          refine anyH_run (i := 12) (L' := #[true, true, true, true, true, true, true, true, true, true, true, true, true]) rfl (by kernel_rfl) (by rfl) (fun KK hKK => ?_)
          go_simp
          (skip)
          refine hKK.out _ _ (by assumption) (fun hHeld => ?_)
          clear hKK KK
          try simp only [Act.put, List.setIfInBounds_toArray, List.set_cons_zero, List.set_cons_succ]
          refine wpAnyH_done (by kernel_rfl) ?_ _
          (go_wp2_with fail; go_meet; exact ⟨by assumption, _, rfl, rfl, rfl⟩)
      case rest =>
        obtain ⟨hcx, b5, rfl, rfl, rfl⟩ := hcut
        have hJ := HJ.out.k hcx
        have hS' : pre.map bare = scanB most l := by
          have := hS.out
          obtain ⟨f', rfl⟩ : ∃ f', f = f' + 1 := ⟨f - 1, by omega⟩
          simp only [scanF] at this
          rw [HN.out] at this
          simpa using this
        go_wp2_with fail
        refine bodyPost_ret (results_none rfl _ _ _) rfl ?_
        exact ⟨⟨_, rfl⟩, pre, hS', hJ⟩
    · rw [hN] at hNx
      have HN := hd hN
      have HNX := hd hNx
      clear hN hNx
      go_upto_region 1 with (fail)
      go_cut [5, 6, 7] from 8 (fun t5 t6 t7 wx => NextOut wr (some (no, p, q)) t5 t6 t7 wx)
      case first =>
        refine anyH_start (n := 13) (L := #[false, false, false, false, false, false, false, false, false, false, false, false, false]) (by kernel_rfl) (by kernel_rfl) (S := (fun wx => Chg [] wr wx)) ((Chg.refl _ _).drew) (fun hHeld => ?_)
        refine anyH_take (i := 0) (d := 9) (L' := #[true, false, false, false, false, false, false, false, false, false, false, false, false]) (v := ?v25) rfl rfl (by kernel_rfl) (fun _ _ _ h => h) (by rfl) ?hy25 (by assumption) ?rest25
        case hy25 => (intro wx hSw; (try dsimp only at hSw); (have t0 := Chg.cellS hSw Q2.out; have t1 := Chg.cellS hSw Q3.out; have t2 := Hcut.out); go_simp; (try with_reducible rfl))
        simp only [Act.put, List.setIfInBounds_toArray, List.set_cons_zero, List.set_cons_succ]
        refine anyH_take (i := 1) (d := 10) (L' := #[true, true, false, false, false, false, false, false, false, false, false, false, false]) (v := ?v26) rfl rfl (by kernel_rfl) (fun _ _ _ h => h) (by rfl) ?hy26 (by assumption) ?rest26
        case hy26 => (intro wx hSw; (try dsimp only at hSw); (have t0 := Chg.cellS hSw Q2.out; have t1 := Chg.cellS hSw Q3.out; have t2 := Hcut.out); go_simp; (try with_reducible rfl))
        simp only [Act.put, List.setIfInBounds_toArray, List.set_cons_zero, List.set_cons_succ]
        refine anyH_take (i := 2) (d := 11) (L' := #[true, true, true, false, false, false, false, false, false, false, false, false, false]) (v := ?v27) rfl rfl (by kernel_rfl) (fun _ _ _ h => h) (by rfl) ?hy27 (by assumption) ?rest27
        case hy27 => (intro wx hSw; (try dsimp only at hSw); (have t0 := Chg.cellS hSw Q2.out; have t1 := Chg.cellS hSw Q3.out; have t2 := Hcut.out); go_simp; (try with_reducible rfl))
        simp only [Act.put, List.setIfInBounds_toArray, List.set_cons_zero, List.set_cons_succ]
        refine anyH_take (i := 3) (d := 12) (L' := #[true, true, true, true, false, false, false, false, false, false, false, false, false]) (v := ?v28) rfl rfl (by kernel_rfl) (fun _ _ _ h => h) (by rfl) ?hy28 (by assumption) ?rest28
        case hy28 => (intro wx hSw; (try dsimp only at hSw); (have t0 := Chg.cellS hSw Q2.out; have t1 := Chg.cellS hSw Q3.out; have t2 := Hcut.out); go_simp; (try with_reducible rfl))
        simp only [Act.put, List.setIfInBounds_toArray, List.set_cons_zero, List.set_cons_succ]
        refine anyH_run2 (i := 4) (j := 9) (L1 := #[true, true, true, true, true, false, false, false, false, false, false, false, false]) (L2 := #[true, true, true, true, false, false, false, false, false, true, false, false, false]) rfl rfl (by kernel_rfl) (by rfl) (by rfl) (fun KK hKK => ?_) (fun KK hKK => ?_)
        · go_simp
          (refine (HNX.out _ (by assumption)).mono ?_; rintro e w4 ⟨pao, pc, rfl, hO4, hc4⟩; have hm4 := Chg.k (a := wr) (by assumption) hc4; try go_simp)
          refine hKK.out _ _ (by assumption) (fun hHeld => ?_)
          clear hKK KK
          try simp only [Act.put, List.setIfInBounds_toArray, List.set_cons_zero, List.set_cons_succ]
          refine anyH_take (i := 5) (d := 8) (L' := #[true, true, true, true, true, true, false, false, false, false, false, false, false]) (v := ?v29) rfl rfl (by kernel_rfl) (fun _ _ _ h => h) (by rfl) ?hy29 (by assumption) ?rest29
          case hy29 => (intro wx hSw; (try dsimp only at hSw); (have t0 := Chg.cellS hSw Q2.out; have t1 := Chg.cellS hSw Q3.out; have t2 := Hcut.out); go_simp; (try with_reducible rfl))
          simp only [Act.put, List.setIfInBounds_toArray, List.set_cons_zero, List.set_cons_succ]
          refine anyH_take (i := 6) (d := 14) (L' := #[true, true, true, true, true, true, true, false, false, false, false, false, false]) (v := ?v30) rfl rfl (by kernel_rfl) (fun _ _ _ h => h) (by rfl) ?hy30 (by assumption) ?rest30
          case hy30 => (intro wx hSw; (try dsimp only at hSw); (have t0 := Chg.cellS hSw Q2.out; have t1 := Chg.cellS hSw Q3.out; have t2 := Hcut.out); go_simp; (try with_reducible rfl))
          simp only [Act.put, List.setIfInBounds_toArray, List.set_cons_zero, List.set_cons_succ]
          refine anyH_take (i := 7) (d := 15) (L' := #[true, true, true, true, true, true, true, true, false, false, false, false, false]) (v := ?v31) rfl rfl (by kernel_rfl) (fun _ _ _ h => h) (by rfl) ?hy31 (by assumption) ?rest31
          case hy31 => (intro wx hSw; (try dsimp only at hSw); (have t0 := Chg.cellS hSw Q2.out; have t1 := Chg.cellS hSw Q3.out; have t2 := Hcut.out); go_simp; (try with_reducible rfl))
          simp only [Act.put, List.setIfInBounds_toArray, List.set_cons_zero, List.set_cons_succ]
          refine anyH_take (i := 8) (d := 16) (L' := #[true, true, true, true, true, true, true, true, true, false, false, false, false]) (v := ?v32) rfl rfl (by kernel_rfl) (fun _ _ _ h => h) (by rfl) ?hy32 (by assumption) ?rest32
          case hy32 => (intro wx hSw; (try dsimp only at hSw); (have t0 := Chg.cellS hSw Q2.out; have t1 := Chg.cellS hSw Q3.out; have t2 := Hcut.out); go_simp; (try with_reducible rfl))
          simp only [Act.put, List.setIfInBounds_toArray, List.set_cons_zero, List.set_cons_succ]
          refine anyH_run (i := 9) (L' := #[true, true, true, true, true, true, true, true, true, true, false, false, false]) rfl (by kernel_rfl) (by rfl) (fun KK hKK => ?_)
          go_simp
          (first | (have hkA := Chg.refl [] w4; have hm9 := hm4.alloc (.cells #[.int .i64 0, .slice none 0 0] 80)) | (have hkB := Blk.new wr.drew #[.int .i64 0, .slice none 0 0] 80; have hm9 := ((Chg.refl [] wr).drew).alloc (.cells #[.int .i64 0, .slice none 0 0] 80)))
          refine hKK.out _ _ (by assumption) (fun hHeld => ?_)
          clear hKK KK
          try simp only [Act.put, List.setIfInBounds_toArray, List.set_cons_zero, List.set_cons_succ]
          refine anyH_run (i := 10) (L' := #[true, true, true, true, true, true, true, true, true, true, true, false, false]) rfl (by kernel_rfl) (by rfl) (fun KK hKK => ?_)
          go_simp
          (first | (have hkC := hkB.k hc4; have q0 := hkC.cell 0; have q1 := hkC.cell 1; have f0 := hkC.free 0; have f1 := hkC.free 1; simp at q0 q1 f0 f1; have hm10 := (hm4.setCell ⟨wr.heap.size, 0, none⟩ (.int .i64 no) (by simp)).setCell ⟨wr.heap.size, 1, none⟩ (.slice pao p.length pc) (by simp); go_simp) | (have hm10 := hm4.alloc (.cells #[.int .i64 no, .slice pao p.length pc] 80)))
          refine hKK.out _ _ (by assumption) (fun hHeld => ?_)
          clear hKK KK
          try simp only [Act.put, List.setIfInBounds_toArray, List.set_cons_zero, List.set_cons_succ]
          refine anyH_run (i := 11) (L' := #[true, true, true, true, true, true, true, true, true, true, true, true, false]) rfl (by kernel_rfl) (by rfl) (fun KK hKK => ?_)
          go_simp
          (skip)
          refine hKK.out _ _ (by assumption) (fun hHeld => ?_)
          clear hKK KK
          try simp only [Act.put, List.setIfInBounds_toArray, List.set_cons_zero, List.set_cons_succ]
          refine anyH_run (i := 12) (L' := #[true, true, true, true, true, true, true, true, true, true, true, true, true]) rfl (by kernel_rfl) (by rfl) (fun KK hKK => ?_)
          go_simp
          (skip)
          refine hKK.out _ _ (by assumption) (fun hHeld => ?_)
          clear hKK KK
          try simp only [Act.put, List.setIfInBounds_toArray, List.set_cons_zero, List.set_cons_succ]
          refine wpAnyH_done (by kernel_rfl) ?_ _
          (go_wp2_with fail; go_meet; first | (refine ⟨by assumption, _, rfl, pao, pc, rfl, rfl, hkC.set 0 _ |>.set 1 _, ?_⟩; have hap := hO4.apart hkC (by decide); exact OwB.mono (ownsRow_setCell_other (ownsRow_setCell_other hO4 (a := ⟨wr.heap.size, 0, none⟩) hap _) (a := ⟨wr.heap.size, 1, none⟩) hap _) (by simp)) | exact ⟨by assumption, _, rfl, pao, pc, rfl, rfl, Blk.new _ _ _, hO4.alloc _⟩)
        · go_simp
          (first | (have hkA := Chg.refl [] w4; have hm9 := hm4.alloc (.cells #[.int .i64 0, .slice none 0 0] 80)) | (have hkB := Blk.new wr.drew #[.int .i64 0, .slice none 0 0] 80; have hm9 := ((Chg.refl [] wr).drew).alloc (.cells #[.int .i64 0, .slice none 0 0] 80)))
          refine hKK.out _ _ (by assumption) (fun hHeld => ?_)
          clear hKK KK
          try simp only [Act.put, List.setIfInBounds_toArray, List.set_cons_zero, List.set_cons_succ]
          refine anyH_run (i := 4) (L' := #[true, true, true, true, true, false, false, false, false, true, false, false, false]) rfl (by kernel_rfl) (by rfl) (fun KK hKK => ?_)
          go_simp
          (refine (HNX.out _ (by assumption)).mono ?_; rintro e w4 ⟨pao, pc, rfl, hO4, hc4⟩; have hm4 := Chg.k (a := wr) (by assumption) hc4; try go_simp)
          refine hKK.out _ _ (by assumption) (fun hHeld => ?_)
          clear hKK KK
          try simp only [Act.put, List.setIfInBounds_toArray, List.set_cons_zero, List.set_cons_succ]
          refine anyH_run (i := 5) (L' := #[true, true, true, true, true, true, false, false, false, true, false, false, false]) rfl (by kernel_rfl) (by rfl) (fun KK hKK => ?_)
          go_simp
          (skip)
          refine hKK.out _ _ (by assumption) (fun hHeld => ?_)
          clear hKK KK
          try simp only [Act.put, List.setIfInBounds_toArray, List.set_cons_zero, List.set_cons_succ]
          refine anyH_take (i := 6) (d := 14) (L' := #[true, true, true, true, true, true, true, false, false, true, false, false, false]) (v := ?v40) rfl rfl (by kernel_rfl) (fun _ _ _ h => h) (by rfl) ?hy40 (by assumption) ?rest40
          case hy40 => (intro wx hSw; (try dsimp only at hSw); (have t0 := Chg.cellS hSw Q2.out; have t1 := Chg.cellS hSw Q3.out; have t2 := Hcut.out); go_simp; (try with_reducible rfl))
          simp only [Act.put, List.setIfInBounds_toArray, List.set_cons_zero, List.set_cons_succ]
          refine anyH_take (i := 7) (d := 15) (L' := #[true, true, true, true, true, true, true, true, false, true, false, false, false]) (v := ?v41) rfl rfl (by kernel_rfl) (fun _ _ _ h => h) (by rfl) ?hy41 (by assumption) ?rest41
          case hy41 => (intro wx hSw; (try dsimp only at hSw); (have t0 := Chg.cellS hSw Q2.out; have t1 := Chg.cellS hSw Q3.out; have t2 := Hcut.out); go_simp; (try with_reducible rfl))
          simp only [Act.put, List.setIfInBounds_toArray, List.set_cons_zero, List.set_cons_succ]
          refine anyH_take (i := 8) (d := 16) (L' := #[true, true, true, true, true, true, true, true, true, true, false, false, false]) (v := ?v42) rfl rfl (by kernel_rfl) (fun _ _ _ h => h) (by rfl) ?hy42 (by assumption) ?rest42
          case hy42 => (intro wx hSw; (try dsimp only at hSw); (have t0 := Chg.cellS hSw Q2.out; have t1 := Chg.cellS hSw Q3.out; have t2 := Hcut.out); go_simp; (try with_reducible rfl))
          simp only [Act.put, List.setIfInBounds_toArray, List.set_cons_zero, List.set_cons_succ]
          refine anyH_run (i := 10) (L' := #[true, true, true, true, true, true, true, true, true, true, true, false, false]) rfl (by kernel_rfl) (by rfl) (fun KK hKK => ?_)
          go_simp
          (first | (have hkC := hkB.k hc4; have q0 := hkC.cell 0; have q1 := hkC.cell 1; have f0 := hkC.free 0; have f1 := hkC.free 1; simp at q0 q1 f0 f1; have hm10 := (hm4.setCell ⟨wr.heap.size, 0, none⟩ (.int .i64 no) (by simp)).setCell ⟨wr.heap.size, 1, none⟩ (.slice pao p.length pc) (by simp); go_simp) | (have hm10 := hm4.alloc (.cells #[.int .i64 no, .slice pao p.length pc] 80)))
          refine hKK.out _ _ (by assumption) (fun hHeld => ?_)
          clear hKK KK
          try simp only [Act.put, List.setIfInBounds_toArray, List.set_cons_zero, List.set_cons_succ]
          refine anyH_run (i := 11) (L' := #[true, true, true, true, true, true, true, true, true, true, true, true, false]) rfl (by kernel_rfl) (by rfl) (fun KK hKK => ?_)
          go_simp
          (skip)
          refine hKK.out _ _ (by assumption) (fun hHeld => ?_)
          clear hKK KK
          try simp only [Act.put, List.setIfInBounds_toArray, List.set_cons_zero, List.set_cons_succ]
          refine anyH_run (i := 12) (L' := #[true, true, true, true, true, true, true, true, true, true, true, true, true]) rfl (by kernel_rfl) (by rfl) (fun KK hKK => ?_)
          go_simp
          (skip)
          refine hKK.out _ _ (by assumption) (fun hHeld => ?_)
          clear hKK KK
          try simp only [Act.put, List.setIfInBounds_toArray, List.set_cons_zero, List.set_cons_succ]
          refine wpAnyH_done (by kernel_rfl) ?_ _
          (go_wp2_with fail; go_meet; first | (refine ⟨by assumption, _, rfl, pao, pc, rfl, rfl, hkC.set 0 _ |>.set 1 _, ?_⟩; have hap := hO4.apart hkC (by decide); exact OwB.mono (ownsRow_setCell_other (ownsRow_setCell_other hO4 (a := ⟨wr.heap.size, 0, none⟩) hap _) (a := ⟨wr.heap.size, 1, none⟩) hap _) (by simp)) | exact ⟨by assumption, _, rfl, pao, pc, rfl, rfl, Blk.new _ _ _, hO4.alloc _⟩)
      case rest =>
        obtain ⟨hcx, b5, rfl, pao, pc, rfl, rfl, hk5, hO5⟩ := hcut
        have hJ := HJ.out.k hcx
        obtain ⟨hq, hm, hn0, hn1, hpl, ht, hqle⟩ := nextB_some HN.out
        have hO := hO5.mono HJ.out.chg.size
        have hyl : recLen (pre.map bare) + (p.length + 20) ≤ l.length := by rw [Hat.out]; rw [List.length_drop] at hqle; omega
        obtain ⟨fn, tmps, assign, body, hy, hR⟩ := HY.out pre _ no pao p pc hJ hO hyl
        rw [Hat.out, ← hq] at hy
        have q50 := hk5.cell 0
        have q51 := hk5.cell 1
        simp at q50 q51
        have Hq := hd hq
        have HyB : recLen (pre.map bare) + q ≤ l.length := by omega
        rw [Hat.out] at HyB
        have hS' : Hd ((pre ++ [((no, .slice pao p.length pc, p) : RecV)]).map bare ++ scanF most (f - 1) (l.drop (recLen ((pre ++ [((no, .slice pao p.length pc, p) : RecV)]).map bare))) = scanB most l) := by
          have h := hS.out
          obtain ⟨f', rfl⟩ : ∃ f', f = f' + 1 := ⟨f - 1, by omega⟩
          simp only [scanF] at h
          rw [HN.out] at h
          simp only [List.drop_drop] at h
          rw [List.map_append, recLen_app, Hat.out]
          refine hd ?_
          rw [← h]
          simp [bare, recLen, hq]
        have hat2 : recLen ((pre ++ [((no, .slice pao p.length pc, p) : RecV)]).map bare) = at_ + q := by
          rw [List.map_append, recLen_app, Hat.out]; simp [recLen, bare, hq]
        have HAT2 := hd hat2
        clear hat2 hq ht hqle hyl hk5 hO hO5 hcx
        go_upto_region 2 with (fail)
        refine (wpIn_wide (n := n + 1)).1 ?_
        gi_wp2
        refine hR.mono ?_
        rintro e w6 ⟨rfl, hJ6⟩
        clear hR hy HNX HJ hJ Hcut Q2 Q3 q50 q51
        gi_wp2
        go_wp2_with fail
        go_roundw
        case rel => exact ⟨pre ++ [(no, .slice pao p.length pc, p)], f - 1, by rw [HAT2.out]; have := Hq.out; omega, by rw [HAT2.out]; exact HyB, hS', by rw [HAT2.out]; go_num, hJ6⟩
        case measure => simp [intOf]; have := Hq.out; omega

/-- The slice as it is handed back: records and their payloads read so. -/
theorem rowRec : RowT Try.prog 42 80 2 32 := RowT.mk (z := .agg #[.int .i64 0, .slice none 0 0]) (by kernel_rfl) (by kernel_rfl) rfl (by decide)

theorem recLen_ge (rs : List (Int × List UInt8)) : 20 * rs.length ≤ recLen rs := by
  induction rs with
  | nil => simp [recLen]
  | cons r rs ih => simp only [recLen, List.map_cons, List.sum_cons, List.length_cons] at ih ⊢; omega
theorem scan_len (most : Int) : ∀ (f : Nat) (l : List UInt8), recLen (scanF most f l) ≤ l.length := by
  intro f
  induction f with
  | zero => intro l; simp [scanF, recLen]
  | succ f ih =>
    intro l
    simp only [scanF]
    rcases h : nextB l most with _ | ⟨no, p, q⟩
    · simp [recLen]
    · obtain ⟨hq, -, -, -, -, -, hqle⟩ := nextB_some h
      have := ih (l.drop q)
      rw [List.length_drop] at this
      simp only [recLen, List.map_cons, List.sum_cons] at this ⊢
      omega

theorem Blk.put {W : World} {b l : Nat} {cs : Array Value} {t : TypeId} {o : Obj} (o' : Obj) (h : Blk W b cs t) (hl : W.heap[l]? = some o) (ho : o.isCells = false) : Blk (W.putObj l o') b cs t := by
  refine (World.putObj_heap_other (fun e => ?_)).trans h
  subst e
  unfold Blk at h
  rw [h] at hl
  cases hl; cases ho
theorem RecL.put {W : World} {base : Nat} {v : Value} {rs : List RecV} {l : Nat} {o : Obj} (o' : Obj) (h : RecL W base v rs) (hl : W.heap[l]? = some o) (ho : o.isCells = false) : RecL (W.putObj l o') base v rs :=
  ⟨ownsRow_putObj h.1 o' hl ho, fun r hr => ⟨ownsRow_putObj (h.2 r hr).1 o' hl ho, (h.2 r hr).2⟩⟩
theorem Chg.put {w W : World} {l : Nat} (h : Chg [] w W) (o : Obj) (hl : w.heap.size ≤ l) : Chg [] w (W.putObj l o) :=
  ⟨h.os, h.tape, h.output, by simpa using h.size, fun k hk hn => (World.putObj_heap_other (by omega)).trans (h.block k hk hn)⟩

theorem ownsRow_ne {w : World} {base : Nat} {e : TypeId} {size n : Nat} {v : Value} {xs : List Value} (h : w.ownsRow base e size v n xs) {l : Nat} {o : Obj} (hl : w.heap[l]? = some o) (ho : o.isCells = false) : some l ≠ v.ownBlock := by
  intro he
  rcases h.2 with ⟨rfl, _⟩ | ⟨g, cap, cur, rfl, _, hg, _⟩
  · simp [Value.ownBlock] at he
  · simp only [Value.ownBlock, Option.some.injEq] at he
    subst he
    rw [hg] at hl
    cases hl; cases ho

theorem all_step {w W2 W4 : World} {sl : Value} {most : Int} {RB : LoopState → Option Code → Loop} {pre : List RecV} {vout : Value} {no : Int} {pao : Option Addr} {p : List UInt8} {pc : Nat} {ao18 : Option Addr} {c18 : Nat}
    (hA : AllJ w W2 sl most (RB .busy none) pre) (hO : OwB W2 w.heap.size (.slice pao p.length pc) p)
    (hr3 : (W2.alloc (.cells #[.int .i64 no, .slice pao p.length pc] 80)).ownsRow w.heap.size 80 2 vout pre.length (pre.flatMap recCells))
    (hb3v : Blk (W2.alloc (.cells #[.int .i64 no, .slice pao p.length pc] 80)) w.heap.size #[vout] 42)
    (hg4 : (W2.alloc (.cells #[.int .i64 no, .slice pao p.length pc] 80)).grownBy W4 vout.ownBlock)
    (hR4 : W4.ownsRow w.heap.size 80 2 (.slice ao18 (pre.length + 1) c18) (pre.length + 1) (pre.flatMap recCells ++ [.int .i64 no, .slice pao p.length pc])) :
    ((W4.setCell ⟨w.heap.size, 0, none⟩ (.slice ao18 (pre.length + 1) c18)).setCell ⟨w.heap.size + 1, 0, none⟩ (.int .i64 ((recLen (pre.map bare) : Nat) + ((p.length : Int) + 20)))).heap[w.heap.size + 5]? = some (.loop (RB .busy none)) ∧
    AllJ w (((W4.setCell ⟨w.heap.size, 0, none⟩ (.slice ao18 (pre.length + 1) c18)).setCell ⟨w.heap.size + 1, 0, none⟩ (.int .i64 ((recLen (pre.map bare) : Nat) + ((p.length : Int) + 20)))).putObj (w.heap.size + 5) (.loop (RB .ready none))) sl most (RB .ready none) (pre ++ [(no, .slice pao p.length pc, p)]) := by
  obtain ⟨hch, ⟨v0, hb6, hrow1, hrow2⟩, hb7, hb2, hb3, hdf, hlp⟩ := hA
  have hcA := (Chg.refl [] W2).alloc (.cells #[.int .i64 no, .slice pao p.length pc] 80)
  have hv0 : v0 = vout := by
    have := (hb6.k hcA).symm.trans hb3v
    simpa using this
  subst hv0
  replace hb7 := hb7.k hcA
  replace hb2 := hb2.k hcA
  replace hb3 := hb3.k hcA
  replace hdf := (hcA.block _ (Array.getElem?_eq_some_iff.1 hdf).1 (by simp)).trans hdf
  replace hlp := (hcA.block _ (Array.getElem?_eq_some_iff.1 hlp).1 (by simp)).trans hlp
  replace hch := hch.k hcA
  replace hO : OwB _ w.heap.size (.slice pao p.length pc) p := hO.k hcA
  replace hrow2 : ∀ r ∈ pre, OwB _ w.heap.size r.2.1 r.2.2 ∧ ∃ ao n c, r.2.1 = .slice ao n c := fun r hr => ⟨(hrow2 r hr).1.k hcA, (hrow2 r hr).2⟩
  clear hcA hrow1 hb6
  generalize W2.alloc (.cells #[.int .i64 no, .slice pao p.length pc] 80) = W3 at *
  -- behind append
  have hap : ∀ {b : Nat} {cs : Array Value} {t : TypeId}, Blk W3 b cs t → t ≠ 80 → Blk W4 b cs t := fun h ht => h.grown hg4 (ownsRow_apart hr3 h ht)
  replace hb3v := hap hb3v (by decide)
  replace hb7 := hap hb7 (by decide)
  replace hb2 := hap hb2 (by decide)
  replace hb3 := hap hb3 (by decide)
  replace hch := hch.grown hg4 (fun k hk hlt => by have := (World.ownsRow.lt hr3 k hk).1; omega)
  replace hdf := (hg4.block _ (Array.getElem?_eq_some_iff.1 hdf).1 (ownsRow_ne hr3 hdf rfl)).trans hdf
  replace hlp := (hg4.block _ (Array.getElem?_eq_some_iff.1 hlp).1 (ownsRow_ne hr3 hlp rfl)).trans hlp
  replace hO : OwB W4 w.heap.size (.slice pao p.length pc) p := ownsRow_grow hO hr3 (by decide) hg4
  replace hrow2 : ∀ r ∈ pre, OwB W4 w.heap.size r.2.1 r.2.2 ∧ ∃ ao n c, r.2.1 = .slice ao n c := fun r hr => ⟨ownsRow_grow (hrow2 r hr).1 hr3 (by decide) hg4, (hrow2 r hr).2⟩
  clear hr3 hg4 hap
  -- behind the two stores
  have hb7' : Blk (W4.setCell ⟨w.heap.size, 0, none⟩ (.slice ao18 (pre.length + 1) c18)) (w.heap.size + 1) _ _ := hb7.other (by simp) _
  have hs : ∀ {e : TypeId} {size n : Nat} {v : Value} {xs : List Value} (x : Int), W4.ownsRow w.heap.size e size v n xs → 42 ≠ e → 3 ≠ e →
      ((W4.setCell ⟨w.heap.size, 0, none⟩ (.slice ao18 (pre.length + 1) c18)).setCell ⟨w.heap.size + 1, 0, none⟩ (.int .i64 x)).ownsRow w.heap.size e size v n xs := fun x h h1 h2 =>
    ownsRow_set (ownsRow_set h hb3v h1 0 _) hb7' h2 0 _
  have hlp5 : ((W4.setCell ⟨w.heap.size, 0, none⟩ (.slice ao18 (pre.length + 1) c18)).setCell ⟨w.heap.size + 1, 0, none⟩ (.int .i64 ((recLen (pre.map bare) : Nat) + ((p.length : Int) + 20)))).heap[w.heap.size + 5]? = some (.loop (RB .busy none)) :=
    (heap_setCell_other _ _ _ _ (by simp)).trans ((heap_setCell_other _ _ _ _ (by simp)).trans hlp)
  have hdf5 : ((W4.setCell ⟨w.heap.size, 0, none⟩ (.slice ao18 (pre.length + 1) c18)).setCell ⟨w.heap.size + 1, 0, none⟩ (.int .i64 ((recLen (pre.map bare) : Nat) + ((p.length : Int) + 20)))).heap[w.heap.size + 4]? = some (.deferred (some [])) :=
    (heap_setCell_other _ _ _ _ (by simp)).trans ((heap_setCell_other _ _ _ _ (by simp)).trans hdf)
  refine ⟨hlp5, ((hch.setCell _ _ (by simp)).setCell _ _ (by simp)).put _ (by omega), ⟨.slice ao18 (pre.length + 1) c18, ?_, ?_⟩, ?_, ?_, ?_, ?_, World.putObj_heap_same (Array.getElem?_eq_some_iff.1 hlp5).1⟩
  · refine Blk.put _ ?_ hlp5 rfl
    exact (hb3v.set 0 _).other (by simp) _
  · refine ⟨?_, ?_⟩
    · have := ownsRow_putObj (hs ((recLen (pre.map bare) : Nat) + ((p.length : Int) + 20)) hR4 (by decide) (by decide)) (.loop (RB .ready none)) hlp5 rfl
      rw [List.length_append, List.flatMap_append]
      exact this
    · intro r hr
      rcases List.mem_append.1 hr with hr | hr
      · exact ⟨ownsRow_putObj (hs _ (hrow2 r hr).1 (by decide) (by decide)) (.loop (RB .ready none)) hlp5 rfl, (hrow2 r hr).2⟩
      · obtain rfl : r = (no, .slice pao p.length pc, p) := by simpa using hr
        exact ⟨ownsRow_putObj (hs _ hO (by decide) (by decide)) (.loop (RB .ready none)) hlp5 rfl, _, _, _, rfl⟩
  · refine Blk.put _ ?_ hlp5 rfl
    have := hb7'.set 0 (.int .i64 ((recLen (pre.map bare) : Nat) + ((p.length : Int) + 20)))
    rw [List.map_append, recLen_app]
    simpa [recLen, bare] using this
  · refine Blk.put _ ?_ hlp5 rfl
    exact (hb2.other (by simp) _).other (by simp) _
  · refine Blk.put _ ?_ hlp5 rfl
    exact (hb3.other (by simp) _).other (by simp) _
  · exact (World.putObj_heap_other (by omega)).trans hdf5

attribute [local go_sem] Oper.semAt_some
set_option maxRecDepth 100000 in
set_option maxHeartbeats 4000000 in
theorem All_any (ao : Option Addr) (cap : Nat) (l : List UInt8) (most : Int) (w : World) (h0 : Bs w (.slice ao l.length cap) l) (hlen : l.length ≤ 4000000000000) :
    Calls Try.prog 54 #[.slice ao l.length cap, .int .i64 most] w fun e w' => ∃ v rs, e = .returned (.tuple #[v, .int .i64 (recLen (rs.map bare) : Nat)]) ∧ rs.map bare = scanB most l ∧ RecL w' w.heap.size v rs ∧ Chg [] w w' := by
  refine (callsIn_wide (n := 9)).1 ?_
  refine callsIn_of_wp_marks Try.func54 rfl trivial ?_
  simp only [Try.ntmps54, List.size_toArray, List.length_cons, List.length_nil, Nat.reduceAdd, Nat.reduceSub, Array.replicate_succ, Array.replicate_zero, List.push_toArray, List.append_toArray, List.nil_append, List.cons_append]
  refine wpIn_wide.2 ?_
  go_wp2_with (go_at_call 74; refine (each_any _ _ _ _ _).mono ?_; rintro e w' ⟨rfl, rfl⟩)
  have b6 := ((((Blk.new w #[.slice none 0 0] 42).alloc (.cells #[.int .i64 0] 3)).alloc (.cells #[.slice ao l.length cap] 30)).alloc (.cells #[.int .i64 most] 3))
  have b7 := (((Blk.new (w.alloc (.cells #[.slice none 0 0] 42)) #[.int .i64 0] 3).alloc (.cells #[.slice ao l.length cap] 30)).alloc (.cells #[.int .i64 most] 3))
  have b2 := ((Blk.new ((w.alloc (.cells #[.slice none 0 0] 42)).alloc (.cells #[.int .i64 0] 3)) #[.slice ao l.length cap] 30).alloc (.cells #[.int .i64 most] 3))
  have b3 := Blk.new (((w.alloc (.cells #[.slice none 0 0] 42)).alloc (.cells #[.int .i64 0] 3)).alloc (.cells #[.slice ao l.length cap] 30)) #[.int .i64 most] 3
  have hcN := (((((Chg.refl [] w).alloc (.cells #[.slice none 0 0] 42)).alloc (.cells #[.int .i64 0] 3)).alloc (.cells #[.slice ao l.length cap] 30)).alloc (.cells #[.int .i64 most] 3))
  have hsz : ((((w.alloc (.cells #[.slice none 0 0] 42)).alloc (.cells #[.int .i64 0] 3)).alloc (.cells #[.slice ao l.length cap] 30)).alloc (.cells #[.int .i64 most] 3)).heap.size = w.heap.size + 4 := by simp
  generalize ((((w.alloc (.cells #[.slice none 0 0] 42)).alloc (.cells #[.int .i64 0] 3)).alloc (.cells #[.slice ao l.length cap] 30)).alloc (.cells #[.int .i64 most] 3)) = wN at *
  simp only [World.size_alloc, Nat.add_assoc, Nat.reduceAdd] at b7 b2 b3
  refine (wpIn_wide (n := 8)).1 ?_
  refine range_outer (gf := 87) (lb := #[.pointer (some ⟨w.heap.size + 2, 0, none⟩), .pointer (some ⟨w.heap.size + 3, 0, none⟩)]) rfl (enters_of Try.func87 (by kernel_rfl) rfl) ?_
  intro fn REC hREC
  rw [hsz] at hREC ⊢
  refine callsIn_wide.2 ((each1 (n := 5) w ao cap l most (REC .ready none) (by omega) h0 ?hY _ ?hW).mono ?_)
  case hW =>
    refine ⟨(hcN.alloc _).alloc _, ⟨_, (b6.alloc _).alloc _, RecL.nil _ _⟩, (b7.alloc _).alloc _, (b2.alloc _).alloc _, (b3.alloc _).alloc _, ?_, ?_⟩
    · rw [Below.heap_alloc _ _ _ (by simp [hsz])]
      have := World.alloc_heap_new wN (.deferred (some []))
      rwa [hsz] at this
    · have := World.alloc_heap_new (wN.alloc (.deferred (some []))) (.loop (REC .ready none))
      rwa [World.size_alloc, hsz] at this
  case hY =>
    clear b6 b7 b2 b3 hcN
    intro pre W no pao p pc hJ hO hle
    have hlp := hJ.lp
    have HREC := hd hREC
    rw [hREC] at hlp
    clear hREC
    refine yield_at hlp rfl ?_
    simp
    gi_wp2
    have hcA := (Chg.refl [] W).alloc (.cells #[.int .i64 no, .slice pao p.length pc] 80)
    have hk9 := Blk.new W #[.int .i64 no, .slice pao p.length pc] 80
    replace hJ := hJ.k hcA
    replace hO := hO.k hcA
    replace hlp := (hcA.block _ (Array.getElem?_eq_some_iff.1 hlp).1 (by simp)).trans hlp
    have hlp0 := hJ.lp
    have hW5 : w.heap.size + 5 < (W.alloc (.cells #[.int .i64 no, .slice pao p.length pc] 80)).heap.size := (Array.getElem?_eq_some_iff.1 hlp).1
    refine ⟨hlp, ?_⟩
    generalize W.alloc (.cells #[.int .i64 no, .slice pao p.length pc] 80) = W1 at *
    generalize hbz : recOf fn _ _ _ _ (w.heap.size + 4) = RB
    have hRB : RB = REC := by rw [← hbz, HREC.out]
    clear hbz HREC hlp
    subst hRB
    have hl5 : w.heap.size + 5 < W1.heap.size := hW5
    have hlp := hlp0
    obtain ⟨vout, hb6, hrow1, hrow2⟩ := hJ.out
    have hb7 := hJ.fin
    have hb2 := hJ.b2
    have hb3 := hJ.b3
    have hdf := hJ.dfr
    have hch := hJ.chg
    clear hJ
    replace hb6 := hb6.put (.loop (RB .busy none)) hlp rfl
    replace hb7 := hb7.put (.loop (RB .busy none)) hlp rfl
    replace hb2 := hb2.put (.loop (RB .busy none)) hlp rfl
    replace hb3 := hb3.put (.loop (RB .busy none)) hlp rfl
    replace hk9 := hk9.put (.loop (RB .busy none)) hlp rfl
    replace hdf := (World.putObj_heap_other (w := W1) (o := .loop (RB .busy none)) (show w.heap.size + 4 ≠ w.heap.size + 5 by omega)).trans hdf
    replace hch := hch.put (.loop (RB .busy none)) (show w.heap.size ≤ w.heap.size + 5 by omega)
    replace hrow1 := ownsRow_putObj hrow1 (.loop (RB .busy none)) hlp rfl
    replace hrow2 : ∀ r ∈ pre, OwB (W1.putObj (w.heap.size + 5) (.loop (RB .busy none))) w.heap.size r.2.1 r.2.2 ∧ ∃ ao n c, r.2.1 = .slice ao n c := fun r hr => ⟨ownsRow_putObj (hrow2 r hr).1 (.loop (RB .busy none)) hlp rfl, (hrow2 r hr).2⟩
    replace hO : OwB (W1.putObj (w.heap.size + 5) (.loop (RB .busy none))) w.heap.size (.slice pao p.length pc) p := ownsRow_putObj hO (.loop (RB .busy none)) hlp rfl
    have hl2 : (W1.putObj (w.heap.size + 5) (.loop (RB .busy none))).heap[w.heap.size + 5]? = some (.loop (RB .busy none)) := World.putObj_heap_same hl5
    clear hlp hlp0 hW5
    generalize W1.putObj (w.heap.size + 5) (.loop (RB .busy none)) = W2 at *
    have q6 := hb6.cell 0
    have q90 := hk9.cell 0
    have q91 := hk9.cell 1
    simp at q6 q90 q91
    have hpn : pre.length ≤ 200000000000 := by have := recLen_ge (pre.map bare); rw [List.length_map] at this; omega
    have hr3 := World.ownsRow.alloc hrow1 (.cells #[.int .i64 no, .slice pao p.length pc] 80)
    have hb63 := hb6.alloc (.cells #[.int .i64 no, .slice pao p.length pc] 80)
    have hb73 := hb7.alloc (.cells #[.int .i64 no, .slice pao p.length pc] 80)
    have hb23 := hb2.alloc (.cells #[.int .i64 no, .slice pao p.length pc] 80)
    have hb33 := hb3.alloc (.cells #[.int .i64 no, .slice pao p.length pc] 80)
    have hch3 := hch.alloc (.cells #[.int .i64 no, .slice pao p.length pc] 80)
    have hone := Rd.lit W2 2 1 [.int .i64 no, .slice pao p.length pc] _ 80 rfl rfl (by decide)
    have hA : Hd (AllJ w W2 (.slice ao l.length cap) most (RB .busy none) pre) := hd ⟨hch, ⟨vout, hb6, hrow1, hrow2⟩, hb7, hb2, hb3, hdf, hl2⟩
    have HO := hd hO
    clear hb6 hb7 hb2 hb3 hdf hl2 hrow1 hrow2 hO hk9 h0
    gi_wp2_with (gi_at_builtin; refine wpAppIn rowRec rfl _ _ rfl w.heap.size vout pre.length _ rfl hr3 _ 1 [.int .i64 no, .slice pao p.length pc] rfl hone (by simp [Value.oneCell']) (by omega) (by omega) hch3.size ?_; intro ao18 c18 W4 hR4 hg4 hm4; have hb64 := hb63.grown hg4 (ownsRow_apart hr3 hb63 (by decide)); have hb74 := hb73.grown hg4 (ownsRow_apart hr3 hb73 (by decide)); have q64 := hb64.cell 0; have f64 := hb64.free 0; have q74 := hb74.cell 0; have f74 := hb74.free 0; simp at q64 q74)
    obtain ⟨k1, k2⟩ := all_step hA.out HO.out (vout := vout) hr3 hb63 hg4 hR4
    exact ⟨k1, rfl, k2⟩
  · rintro e W2 ⟨⟨v, rfl⟩, rs, hrs, hJ⟩
    have hnb : (REC .ready none).state ≠ .busy := by rw [hREC]; simp [recOf]
    have hp : (REC .ready none).pending = none := by rw [hREC]; rfl
    have hend := run_endLoop (P := Try.prog) hJ.lp hnb
    rw [hp] at hend
    clear hREC hp hnb
    refine ⟨none, _, hend, ?_⟩
    simp only
    clear hend
    obtain ⟨vout, hb6, hrow⟩ := hJ.out
    have hF : ∀ o', Blk (W2.putObj (w.heap.size + 5) o') w.heap.size #[vout] 42 ∧ Blk (W2.putObj (w.heap.size + 5) o') (w.heap.size + 1) #[.int .i64 (recLen (rs.map bare) : Nat)] 3 ∧ RecL (W2.putObj (w.heap.size + 5) o') w.heap.size vout rs ∧ Chg [] w (W2.putObj (w.heap.size + 5) o') ∧ (W2.putObj (w.heap.size + 5) o').heap[w.heap.size + 4]? = some (.deferred (some [])) := fun o' =>
      ⟨hb6.put o' hJ.lp rfl, hJ.fin.put o' hJ.lp rfl, hrow.put o' hJ.lp rfl, hJ.chg.put o' (by omega), (World.putObj_heap_other (by omega)).trans hJ.dfr⟩
    generalize hW3 : W2.putObj (w.heap.size + 5) _ = W3
    have hF3 : Blk W3 w.heap.size #[vout] 42 ∧ Blk W3 (w.heap.size + 1) #[.int .i64 (recLen (rs.map bare) : Nat)] 3 ∧ RecL W3 w.heap.size vout rs ∧ Chg [] w W3 ∧ W3.heap[w.heap.size + 4]? = some (.deferred (some [])) := by rw [← hW3]; exact hF _
    obtain ⟨hb6, hb7, hrow, hch, hdf⟩ := hF3
    clear hF hW3 hJ b6 b7 b2 b3 hcN h0
    have q6 := hb6.cell 0
    have q7 := hb7.cell 0
    simp at q6 q7
    have HRS := hd hrs
    clear hrs
    go_upto_region 7 with (fail)
    go_quiet (fail)
    go_wp2_with fail
    refine ⟨by simp, .inl ⟨_, _, rfl, run_takeDeferred (w := W3.drewN _) hdf, ?_⟩⟩
    refine ⟨_, results_tmp2 rfl _ _ _, vout, rs, rfl, HRS.out, ?_, ?_⟩
    · exact (hrow.k ((Chg.refl [] W3).drewN _)).put _ (l := w.heap.size + 4) hdf rfl
    · exact (hch.drewN _).put _ (by omega)
end Go.Proofs.Ytdmokfplkhmijaa
