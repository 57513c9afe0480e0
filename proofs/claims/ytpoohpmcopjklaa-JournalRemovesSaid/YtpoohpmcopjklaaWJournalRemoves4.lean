/- Words and walks that JournalRemoves rests on, part 4. -/
import Derived.Test.YtpoohpmcopjklaaWJournalRemoves3
import Derived.Deep.Cut
import Derived.LoopNIn
import Derived.LoopIn
import Derived.Test.YtpoohpmcopjklaaWJournalRemoves2
import Derived.Test.YtpoohpmcopjklaaWJournalRemoves1
import Derived.Deep.QuietTactic
import Derived.BigQuiet
import Derived.StillTailTactics
import Derived.ProofKit
import Derived.OpenShut
import Derived.ChangeOld
import Derived.Carry
/- frame.All: the records with which bytes begin. -/
namespace Go.Proofs.Ytpoohpmcopjklaa
open Go.RowKit

def scanF (most : Int) : Nat → List UInt8 → List (Int × List UInt8)
  | 0, _ => []
  | f + 1, l => match nextB l most with
    | none => []
    | some (no, p, q) => (no, p) :: scanF most f (l.drop q)
def recLen (rs : List (Int × List UInt8)) : Nat := (rs.map fun r => r.2.length + 20).sum
theorem recLen_app (a b : List (Int × List UInt8)) : recLen (a ++ b) = recLen a + recLen b := by simp [recLen]
def scanB (most : Int) (l : List UInt8) : List (Int × List UInt8) := scanF most (l.length + 1) l

abbrev RecV := Int × Value × List UInt8
def recCells (r : RecV) : List Value := [.int .i64 r.1, r.2.1]
def bare (r : RecV) : Int × List UInt8 := (r.1, r.2.2)
/-- v is a row of records of the call's own; their payloads are rows of bytes of its own. -/
def RecL (w : World) (base : Nat) (v : Value) (rs : List RecV) : Prop :=
  w.ownsRow base 80 2 v rs.length (rs.flatMap recCells) ∧ ∀ r ∈ rs, OwB w base r.2.1 r.2.2 ∧ ∃ ao n c, r.2.1 = .slice ao n c
theorem RecL.nil (w : World) (base : Nat) : RecL w base (.slice none 0 0) [] := ⟨World.ownsRow_nil _ _ _ _, by simp⟩
theorem RecL.k {w w' : World} {base : Nat} {v : Value} {rs : List RecV} (h : RecL w base v rs) (hc : Chg [] w w') : RecL w' base v rs :=
  ⟨ownsRow_k h.1 hc, fun r hr => ⟨(h.2 r hr).1.k hc, (h.2 r hr).2⟩⟩

theorem RecL.form {w : World} {base : Nat} {v : Value} {rs : List RecV} (h : RecL w base v rs) : ∃ ao c, v = .slice ao rs.length c := by
  rcases h.1.2 with ⟨rfl, h0⟩ | ⟨g, cap, cur, rfl, _⟩
  · exact ⟨none, 0, by rw [h0]⟩
  · exact ⟨_, _, rfl⟩

theorem each_any (ao : Option Addr) (n c : Nat) (most : Int) (w : World) :
    Calls Try.prog 74 #[.slice ao n c, .int .i64 most] w fun e w' => e = .returned (.func (.func 87) #[] #[.pointer (some ⟨w.heap.size, 0, none⟩), .pointer (some ⟨w.heap.size + 1, 0, none⟩)]) ∧
      w' = (w.alloc (.cells #[.slice ao n c] 30)).alloc (.cells #[.int .i64 most] 3) := by
  go_enter Try.func74, Try.ntmps74
  go_wp2_with fail
  go_ret
  exact ⟨rfl, rfl⟩

/-- What the loop in All keeps: the records so far, and where the last one ends. -/
structure AllJ (w W : World) (sl : Value) (most : Int) (rec : Loop) (pre : List RecV) : Prop where
  chg : Chg [] w W
  out : ∃ v, Blk W w.heap.size #[v] 42 ∧ RecL W w.heap.size v pre
  fin : Blk W (w.heap.size + 1) #[.int .i64 (recLen (pre.map bare) : Nat)] 3
  b2 : Blk W (w.heap.size + 2) #[sl] 30
  b3 : Blk W (w.heap.size + 3) #[.int .i64 most] 3
  dfr : W.heap[w.heap.size + 4]? = some (.deferred (some []))
  lp : W.heap[w.heap.size + 5]? = some (.loop rec)
theorem AllJ.k {w W W' : World} {sl : Value} {most : Int} {rec : Loop} {pre : List RecV} (h : AllJ w W sl most rec pre) (hc : Chg [] W W') : AllJ w W' sl most rec pre :=
  ⟨h.chg.k hc, by obtain ⟨v, h1, h2⟩ := h.out; exact ⟨v, h1.k hc, h2.k hc⟩, h.fin.k hc, h.b2.k hc, h.b3.k hc, (hc.block _ (Array.getElem?_eq_some_iff.1 h.dfr).1 (by simp)).trans h.dfr, (hc.block _ (Array.getElem?_eq_some_iff.1 h.lp).1 (by simp)).trans h.lp⟩

def NextOut (W : World) (r : Option (Int × List UInt8 × Nat)) (t5 t6 t7 : Value) (W' : World) : Prop :=
  Chg [] W W' ∧ ∃ b5, t5 = .pointer (some ⟨b5, 0, none⟩) ∧ match r with
    | none => t6 = .int .i64 0 ∧ t7 = .bool false
    | some (no, p, q) => ∃ ao c, t6 = .int .i64 (q : Nat) ∧ t7 = .bool true ∧ Blk W' b5 #[.int .i64 no, .slice ao p.length c] 80 ∧ OwB W' W.heap.size (.slice ao p.length c) p

set_option maxRecDepth 100000 in
set_option maxHeartbeats 4000000 in
theorem each1 {n : Nat} (w : World) (ao : Option Addr) (cap : Nat) (l : List UInt8) (most : Int) (rec : Loop) (hlen : l.length ≤ 140737488354000) (h0 : Bs w (.slice ao l.length cap) l)
    (hY : ∀ (pre : List RecV) (W : World) (no : Int) (pao : Option Addr) (p : List UInt8) (pc : Nat), AllJ w W (.slice ao l.length cap) most rec pre → OwB W w.heap.size (.slice pao p.length pc) p → recLen (pre.map bare) + (p.length + 20) ≤ l.length →
      YieldAt Fence.wide n Try.prog (w.heap.size + 5) #[.int .i64 ((recLen (pre.map bare) : Nat) + ((p.length + 20 : Nat) : Int)), .agg #[.int .i64 no, .slice pao p.length pc]] W
        fun e W' => e = .returned (.bool true) ∧ AllJ w W' (.slice ao l.length cap) most rec (pre ++ [(no, .slice pao p.length pc, p)]))
    (W0 : World) (hW : AllJ w W0 (.slice ao l.length cap) most rec []) :
    Calls Try.prog 87 #[.func (.yield (w.heap.size + 5)) #[] #[], .pointer (some ⟨w.heap.size + 2, 0, none⟩), .pointer (some ⟨w.heap.size + 3, 0, none⟩)] W0
      fun e W' => (∃ v, e = .returned v) ∧ ∃ pre, pre.map bare = scanB most l ∧ AllJ w W' (.slice ao l.length cap) most rec pre := by
  have HY := hd hY
  clear hY
  go_enter Try.func87, Try.ntmps87
  go_wp2_with fail
  go_loopw [4, 5, 6, 7] (fun t _ _ _ wr => ∃ (pre : List RecV) (f : Nat), l.length - recLen (pre.map bare) < f ∧ recLen (pre.map bare) ≤ l.length ∧ Hd (pre.map bare ++ scanF most f (l.drop (recLen (pre.map bare))) = scanB most l) ∧ t = .int .i64 (recLen (pre.map bare) : Nat) ∧ AllJ w wr (.slice ao l.length cap) most rec pre)
    (fun t _ _ _ _ => l.length - (intOf t).toNat)
  case atStart => exact ⟨[], l.length + 1, by simp [recLen], by simp [recLen], hd (by simp [scanB, recLen]), rfl, hW⟩
  case round =>
    obtain ⟨pre, f, hf, hle, hS, rfl, hJ⟩ := hrel
    generalize hat : recLen (pre.map bare) = at_ at *
    have Hat := hd hat
    clear hat
    have q2 := hJ.b2.cell 0
    have q3 := hJ.b3.cell 0
    simp at q2 q3
    have hl := (h0.k hJ.chg)
    obtain ⟨aoK, cK, hcut, hB, -⟩ := run_cutB hl (lo := some (.int .i64 (at_ : Int))) (hi := none) (.inr ⟨.i64, rfl⟩) (.inl ⟨rfl, rfl⟩) hle (Nat.le_refl _)
    rw [List.take_of_length_le (by rw [List.length_drop]; omega)] at hB
    have hNx : ∀ wx, Chg [] wr wx → Calls Try.prog 88 #[.slice aoK (l.length - at_) cK, .int .i64 most] wx (NextPost wx (nextB (l.drop at_) most)) := fun wx hx => Next_any _ (l.drop at_) most wx (hB.k hx) (by rw [List.length_drop]; omega)
    have Hcut := hd hcut
    have Q2 := hd q2
    have Q3 := hd q3
    have HJ := hd hJ
    clear hcut q2 q3 hB hl hJ
    refine wp_block ?_
    rcases hN : nextB (l.drop at_) most with _ | ⟨no, p, q⟩
    · rw [hN] at hNx
      have HN := hd hN
      have HNX := hd hNx
      clear hN hNx
      go_upto_region 1 with (fail)
      go_cut [5, 6, 7] from 8 (fun t5 t6 t7 wx => NextOut wr none t5 t6 t7 wx)
      case first =>
        refine anyH_start (n := 13) (L := #[false, false, false, false, false, false, false, false, false, false, false, false, false]) (by kernel_rfl) (by kernel_rfl) (S := (fun wx => Chg [] wr wx)) ((Chg.refl _ _).drew) (fun hHeld => ?_)
        refine anyH_take (i := 0) (d := 9) (L' := #[true, false, false, false, false, false, false, false, false, false, false, false, false]) (v := ?v2) rfl rfl (by kernel_rfl) (fun _ _ _ h => h) (by rfl) ?hy2 (by assumption) ?rest2
        case hy2 => (intro wx hSw; (try dsimp only at hSw); (have t0 := Chg.cellS hSw Q2.out; have t1 := Chg.cellS hSw Q3.out; have t2 := Hcut.out); go_simp; (try with_reducible rfl))
        simp only [Act.put, List.setIfInBounds_toArray, List.set_cons_zero, List.set_cons_succ]
        refine anyH_take (i := 1) (d := 10) (L' := #[true, true, false, false, false, false, false, false, false, false, false, false, false]) (v := ?v3) rfl rfl (by kernel_rfl) (fun _ _ _ h => h) (by rfl) ?hy3 (by assumption) ?rest3
        case hy3 => (intro wx hSw; (try dsimp only at hSw); (have t0 := Chg.cellS hSw Q2.out; have t1 := Chg.cellS hSw Q3.out; have t2 := Hcut.out); go_simp; (try with_reducible rfl))
        simp only [Act.put, List.setIfInBounds_toArray, List.set_cons_zero, List.set_cons_succ]
        refine anyH_take (i := 2) (d := 11) (L' := #[true, true, true, false, false, false, false, false, false, false, false, false, false]) (v := ?v4) rfl rfl (by kernel_rfl) (fun _ _ _ h => h) (by rfl) ?hy4 (by assumption) ?rest4
        case hy4 => (intro wx hSw; (try dsimp only at hSw); (have t0 := Chg.cellS hSw Q2.out; have t1 := Chg.cellS hSw Q3.out; have t2 := Hcut.out); go_simp; (try with_reducible rfl))
        simp only [Act.put, List.setIfInBounds_toArray, List.set_cons_zero, List.set_cons_succ]
        refine anyH_take (i := 3) (d := 12) (L' := #[true, true, true, true, false, false, false, false, false, false, false, false, false]) (v := ?v5) rfl rfl (by kernel_rfl) (fun _ _ _ h => h) (by rfl) ?hy5 (by assumption) ?rest5
        case hy5 => (intro wx hSw; (try dsimp only at hSw); (have t0 := Chg.cellS hSw Q2.out; have t1 := Chg.cellS hSw Q3.out; have t2 := Hcut.out); go_simp; (try with_reducible rfl))
        simp only [Act.put, List.setIfInBounds_toArray, List.set_cons_zero, List.set_cons_succ]
        refine anyH_run2 (i := 4) (j := 9) (L1 := #[true, true, true, true, true, false, false, false, false, false, false, false, false]) (L2 := #[true, true, true, true, false, false, false, false, false, true, false, false, false]) rfl rfl (by kernel_rfl) (by rfl) (by rfl) (fun KK hKK => ?_) (fun KK hKK => ?_)
        · go_simp
          (refine (HNX.out _ (by assumption)).mono ?_; rintro e w4 ⟨rfl, hc4⟩; have hm4 := Chg.k (a := wr) (by assumption) hc4; try go_simp)
          refine hKK.out _ _ (by assumption) (fun hHeld => ?_)
          clear hKK KK
          try simp only [Act.put, List.setIfInBounds_toArray, List.set_cons_zero, List.set_cons_succ]
          refine anyH_take (i := 5) (d := 8) (L' := #[true, true, true, true, true, true, false, false, false, false, false, false, false]) (v := ?v6) rfl rfl (by kernel_rfl) (fun _ _ _ h => h) (by rfl) ?hy6 (by assumption) ?rest6
          case hy6 => (intro wx hSw; (try dsimp only at hSw); (have t0 := Chg.cellS hSw Q2.out; have t1 := Chg.cellS hSw Q3.out; have t2 := Hcut.out); go_simp; (try with_reducible rfl))
          simp only [Act.put, List.setIfInBounds_toArray, List.set_cons_zero, List.set_cons_succ]
          refine anyH_take (i := 6) (d := 14) (L' := #[true, true, true, true, true, true, true, false, false, false, false, false, false]) (v := ?v7) rfl rfl (by kernel_rfl) (fun _ _ _ h => h) (by rfl) ?hy7 (by assumption) ?rest7
          case hy7 => (intro wx hSw; (try dsimp only at hSw); (have t0 := Chg.cellS hSw Q2.out; have t1 := Chg.cellS hSw Q3.out; have t2 := Hcut.out); go_simp; (try with_reducible rfl))
          simp only [Act.put, List.setIfInBounds_toArray, List.set_cons_zero, List.set_cons_succ]
          refine anyH_take (i := 7) (d := 15) (L' := #[true, true, true, true, true, true, true, true, false, false, false, false, false]) (v := ?v8) rfl rfl (by kernel_rfl) (fun _ _ _ h => h) (by rfl) ?hy8 (by assumption) ?rest8
          case hy8 => (intro wx hSw; (try dsimp only at hSw); (have t0 := Chg.cellS hSw Q2.out; have t1 := Chg.cellS hSw Q3.out; have t2 := Hcut.out); go_simp; (try with_reducible rfl))
          simp only [Act.put, List.setIfInBounds_toArray, List.set_cons_zero, List.set_cons_succ]
          refine anyH_take (i := 8) (d := 16) (L' := #[true, true, true, true, true, true, true, true, true, false, false, false, false]) (v := ?v9) rfl rfl (by kernel_rfl) (fun _ _ _ h => h) (by rfl) ?hy9 (by assumption) ?rest9
          case hy9 => (intro wx hSw; (try dsimp only at hSw); (have t0 := Chg.cellS hSw Q2.out; have t1 := Chg.cellS hSw Q3.out; have t2 := Hcut.out); go_simp; (try with_reducible rfl))
          simp only [Act.put, List.setIfInBounds_toArray, List.set_cons_zero, List.set_cons_succ]
          refine anyH_run (i := 9) (L' := #[true, true, true, true, true, true, true, true, true, true, false, false, false]) rfl (by kernel_rfl) (by rfl) (fun KK hKK => ?_)
          go_simp
          (first | (have hkA := Chg.refl [] w4; have hm9 := hm4.alloc (.cells #[.int .i64 0, .slice none 0 0] 80)) | (have hkB := Blk.new wr.drew #[.int .i64 0, .slice none 0 0] 80; have hm9 := ((Chg.refl [] wr).drew).alloc (.cells #[.int .i64 0, .slice none 0 0] 80)))
          refine hKK.out _ _ (by assumption) (fun hHeld => ?_)
          clear hKK KK
          try simp only [Act.put, List.setIfInBounds_toArray, List.set_cons_zero, List.set_cons_succ]
          refine anyH_run (i := 10) (L' := #[true, true, true, true, true, true, true, true, true, true, true, false, false]) rfl (by kernel_rfl) (by rfl) (fun KK hKK => ?_)
          go_simp
          (first | (have hkC := hkB.k hc4; have q0 := hkC.cell 0; have q1 := hkC.cell 1; have f0 := hkC.free 0; have f1 := hkC.free 1; simp at q0 q1 f0 f1; have hm10 := (hm4.setCell ⟨wr.heap.size, 0, none⟩ (.int .i64 0) (by simp)).setCell ⟨wr.heap.size, 1, none⟩ (.slice none 0 0) (by simp); go_simp) | (have hm10 := hm4.alloc (.cells #[.int .i64 0, .slice none 0 0] 80)))
          refine hKK.out _ _ (by assumption) (fun hHeld => ?_)
          clear hKK KK
          try simp only [Act.put, List.setIfInBounds_toArray, List.set_cons_zero, List.set_cons_succ]
          refine anyH_run (i := 11) (L' := #[true, true, true, true, true, true, true, true, true, true, true, true, false]) rfl (by kernel_rfl) (by rfl) (fun KK hKK => ?_)
          go_simp
          (skip)
          refine hKK.out _ _ (by assumption) (fun hHeld => ?_)
          clear hKK KK
          try simp only [Act.put, List.setIfInBounds_toArray, List.set_cons_zero, List.set_cons_succ]
          refine anyH_run (i := 12) (L' := #[true, true, true, true, true, true, true, true, true, true, true, true, true]) rfl (by kernel_rfl) (by rfl) (fun KK hKK => ?_)
          go_simp
          (skip)
          refine hKK.out _ _ (by assumption) (fun hHeld => ?_)
          clear hKK KK
          try simp only [Act.put, List.setIfInBounds_toArray, List.set_cons_zero, List.set_cons_succ]
          refine wpAnyH_done (by kernel_rfl) ?_ _
          (go_wp2_with fail; go_meet; exact ⟨by assumption, _, rfl, rfl, rfl⟩)
        · go_simp
          (first | (have hkA := Chg.refl [] w4; have hm9 := hm4.alloc (.cells #[.int .i64 0, .slice none 0 0] 80)) | (have hkB := Blk.new wr.drew #[.int .i64 0, .slice none 0 0] 80; have hm9 := ((Chg.refl [] wr).drew).alloc (.cells #[.int .i64 0, .slice none 0 0] 80)))
          refine hKK.out _ _ (by assumption) (fun hHeld => ?_)
          clear hKK KK
          try simp only [Act.put, List.setIfInBounds_toArray, List.set_cons_zero, List.set_cons_succ]
          refine anyH_run (i := 4) (L' := #[true, true, true, true, true, false, false, false, false, true, false, false, false]) rfl (by kernel_rfl) (by rfl) (fun KK hKK => ?_)
          go_simp
          (refine (HNX.out _ (by assumption)).mono ?_; rintro e w4 ⟨rfl, hc4⟩; have hm4 := Chg.k (a := wr) (by assumption) hc4; try go_simp)
          refine hKK.out _ _ (by assumption) (fun hHeld => ?_)
          clear hKK KK
          try simp only [Act.put, List.setIfInBounds_toArray, List.set_cons_zero, List.set_cons_succ]
          refine anyH_run (i := 5) (L' := #[true, true, true, true, true, true, false, false, false, true, false, false, false]) rfl (by kernel_rfl) (by rfl) (fun KK hKK => ?_)
          go_simp
          (skip)
          refine hKK.out _ _ (by assumption) (fun hHeld => ?_)
          clear hKK KK
          try simp only [Act.put, List.setIfInBounds_toArray, List.set_cons_zero, List.set_cons_succ]
          refine anyH_take (i := 6) (d := 14) (L' := #[true, true, true, true, true, true, true, false, false, true, false, false, false]) (v := ?v17) rfl rfl (by kernel_rfl) (fun _ _ _ h => h) (by rfl) ?hy17 (by assumption) ?rest17
          case hy17 => (intro wx hSw; (try dsimp only at hSw); (have t0 := Chg.cellS hSw Q2.out; have t1 := Chg.cellS hSw Q3.out; have t2 := Hcut.out); go_simp; (try with_reducible rfl))
          simp only [Act.put, List.setIfInBounds_toArray, List.set_cons_zero, List.set_cons_succ]
          refine anyH_take (i := 7) (d := 15) (L' := #[true, true, true, true, true, true, true, true, false, true, false, false, false]) (v := ?v18) rfl rfl (by kernel_rfl) (fun _ _ _ h => h) (by rfl) ?hy18 (by assumption) ?rest18
          case hy18 => (intro wx hSw; (try dsimp only at hSw); (have t0 := Chg.cellS hSw Q2.out; have t1 := Chg.cellS hSw Q3.out; have t2 := Hcut.out); go_simp; (try with_reducible rfl))
          simp only [Act.put, List.setIfInBounds_toArray, List.set_cons_zero, List.set_cons_succ]
          refine anyH_take (i := 8) (d := 16) (L' := #[true, true, true, true, true, true, true, true, true, true, false, false, false]) (v := ?v19) rfl rfl (by kernel_rfl) (fun _ _ _ h => h) (by rfl) ?hy19 (by assumption) ?rest19
          case hy19 => (intro wx hSw; (try dsimp only at hSw); (have t0 := Chg.cellS hSw Q2.out; have t1 := Chg.cellS hSw Q3.out; have t2 := Hcut.out); go_simp; (try with_reducible rfl))
          simp only [Act.put, List.setIfInBounds_toArray, List.set_cons_zero, List.set_cons_succ]
          refine anyH_run (i := 10) (L' := #[true, true, true, true, true, true, true, true, true, true, true, false, false]) rfl (by kernel_rfl) (by rfl) (fun KK hKK => ?_)
          go_simp
          (first | (have hkC := hkB.k hc4; have q0 := hkC.cell 0; have q1 := hkC.cell 1; have f0 := hkC.free 0; have f1 := hkC.free 1; simp at q0 q1 f0 f1; have hm10 := (hm4.setCell ⟨wr.heap.size, 0, none⟩ (.int .i64 0) (by simp)).setCell ⟨wr.heap.size, 1, none⟩ (.slice none 0 0) (by simp); go_simp) | (have hm10 := hm4.alloc (.cells #[.int .i64 0, .slice none 0 0] 80)))
          refine hKK.out _ _ (by assumption) (fun hHeld => ?_)
          clear hKK KK
          try simp only [Act.put, List.setIfInBounds_toArray, List.set_cons_zero, List.set_cons_succ]
          refine anyH_run (i := 11) (L' := #[true, true, true, true, true, true, true, true, true, true, true, true, false]) rfl (by kernel_rfl) (by rfl) (fun KK hKK => ?_)
          go_simp
          (skip)
          refine hKK.out _ _ (by assumption) (fun hHeld => ?_)
          clear hKK KK
          try simp only [Act.put, List.setIfInBounds_toArray, List.set_cons_zero, List.set_cons_succ]
          refine anyH_run (i := 12) (L' := #[true, true, true, true, true, true, true, true, true, true, true, true, true]) rfl (by kernel_rfl) (by rfl) (fun KK hKK => ?_)
          go_simp
          (skip)
          refine hKK.out _ _ (by assumption) (fun hHeld => ?_)
          clear hKK KK
          try simp only [Act.put, List.setIfInBounds_toArray, List.set_cons_zero, List.set_cons_succ]
          refine wpAnyH_done (by kernel_rfl) ?_ _
          (go_wp2_with fail; go_meet; exact ⟨by assumption, _, rfl, rfl, rfl⟩)
      case rest =>
        obtain ⟨hcx, b5, rfl, rfl, rfl⟩ := hcut
        have hJ := HJ.out.k hcx
        have hS' : pre.map bare = scanB most l := by
          have := hS.out
          obtain ⟨f', rfl⟩ : ∃ f', f = f' + 1 := ⟨f - 1, by omega⟩
          simp only [scanF] at this
          rw [HN.out] at this
          simpa using this
        go_wp2_with fail
        refine bodyPost_ret (results_none rfl _ _ _) rfl ?_
        exact ⟨⟨_, rfl⟩, pre, hS', hJ⟩
    · rw [hN] at hNx
      have HN := hd hN
      have HNX := hd hNx
      clear hN hNx
      go_upto_region 1 with (fail)
      go_cut [5, 6, 7] from 8 (fun t5 t6 t7 wx => NextOut wr (some (no, p, q)) t5 t6 t7 wx)
      case first =>
        refine anyH_start (n := 13) (L := #[false, false, false, false, false, false, false, false, false, false, false, false, false]) (by kernel_rfl) (by kernel_rfl) (S := (fun wx => Chg [] wr wx)) ((Chg.refl _ _).drew) (fun hHeld => ?_)
        refine anyH_take (i := 0) (d := 9) (L' := #[true, false, false, false, false, false, false, false, false, false, false, false, false]) (v := ?v25) rfl rfl (by kernel_rfl) (fun _ _ _ h => h) (by rfl) ?hy25 (by assumption) ?rest25
        case hy25 => (intro wx hSw; (try dsimp only at hSw); (have t0 := Chg.cellS hSw Q2.out; have t1 := Chg.cellS hSw Q3.out; have t2 := Hcut.out); go_simp; (try with_reducible rfl))
        simp only [Act.put, List.setIfInBounds_toArray, List.set_cons_zero, List.set_cons_succ]
        refine anyH_take (i := 1) (d := 10) (L' := #[true, true, false, false, false, false, false, false, false, false, false, false, false]) (v := ?v26) rfl rfl (by kernel_rfl) (fun _ _ _ h => h) (by rfl) ?hy26 (by assumption) ?rest26
        case hy26 => (intro wx hSw; (try dsimp only at hSw); (have t0 := Chg.cellS hSw Q2.out; have t1 := Chg.cellS hSw Q3.out; have t2 := Hcut.out); go_simp; (try with_reducible rfl))
        simp only [Act.put, List.setIfInBounds_toArray, List.set_cons_zero, List.set_cons_succ]
        refine anyH_take (i := 2) (d := 11) (L' := #[true, true, true, false, false, false, false, false, false, false, false, false, false]) (v := ?v27) rfl rfl (by kernel_rfl) (fun _ _ _ h => h) (by rfl) ?hy27 (by assumption) ?rest27
        case hy27 => (intro wx hSw; (try dsimp only at hSw); (have t0 := Chg.cellS hSw Q2.out; have t1 := Chg.cellS hSw Q3.out; have t2 := Hcut.out); go_simp; (try with_reducible rfl))
        simp only [Act.put, List.setIfInBounds_toArray, List.set_cons_zero, List.set_cons_succ]
        refine anyH_take (i := 3) (d := 12) (L' := #[true, true, true, true, false, false, false, false, false, false, false, false, false]) (v := ?v28) rfl rfl (by kernel_rfl) (fun _ _ _ h => h) (by rfl) ?hy28 (by assumption) ?rest28
        case hy28 => (intro wx hSw; (try dsimp only at hSw); (have t0 := Chg.cellS hSw Q2.out; have t1 := Chg.cellS hSw Q3.out; have t2 := Hcut.out); go_simp; (try with_reducible rfl))
        simp only [Act.put, List.setIfInBounds_toArray, List.set_cons_zero, List.set_cons_succ]
        refine anyH_run2 (i := 4) (j := 9) (L1 := #[true, true, true, true, true, false, false, false, false, false, false, false, false]) (L2 := #[true, true, true, true, false, false, false, false, false, true, false, false, false]) rfl rfl (by kernel_rfl) (by rfl) (by rfl) (fun KK hKK => ?_) (fun KK hKK => ?_)
        · go_simp
          (refine (HNX.out _ (by assumption)).mono ?_; rintro e w4 ⟨pao, pc, rfl, hO4, hc4⟩; have hm4 := Chg.k (a := wr) (by assumption) hc4; try go_simp)
          refine hKK.out _ _ (by assumption) (fun hHeld => ?_)
          clear hKK KK
          try simp only [Act.put, List.setIfInBounds_toArray, List.set_cons_zero, List.set_cons_succ]
          refine anyH_take (i := 5) (d := 8) (L' := #[true, true, true, true, true, true, false, false, false, false, false, false, false]) (v := ?v29) rfl rfl (by kernel_rfl) (fun _ _ _ h => h) (by rfl) ?hy29 (by assumption) ?rest29
          case hy29 => (intro wx hSw; (try dsimp only at hSw); (have t0 := Chg.cellS hSw Q2.out; have t1 := Chg.cellS hSw Q3.out; have t2 := Hcut.out); go_simp; (try with_reducible rfl))
          simp only [Act.put, List.setIfInBounds_toArray, List.set_cons_zero, List.set_cons_succ]
          refine anyH_take (i := 6) (d := 14) (L' := #[true, true, true, true, true, true, true, false, false, false, false, false, false]) (v := ?v30) rfl rfl (by kernel_rfl) (fun _ _ _ h => h) (by rfl) ?hy30 (by assumption) ?rest30
          case hy30 => (intro wx hSw; (try dsimp only at hSw); (have t0 := Chg.cellS hSw Q2.out; have t1 := Chg.cellS hSw Q3.out; have t2 := Hcut.out); go_simp; (try with_reducible rfl))
          simp only [Act.put, List.setIfInBounds_toArray, List.set_cons_zero, List.set_cons_succ]
          refine anyH_take (i := 7) (d := 15) (L' := #[true, true, true, true, true, true, true, true, false, false, false, false, false]) (v := ?v31) rfl rfl (by kernel_rfl) (fun _ _ _ h => h) (by rfl) ?hy31 (by assumption) ?rest31
          case hy31 => (intro wx hSw; (try dsimp only at hSw); (have t0 := Chg.cellS hSw Q2.out; have t1 := Chg.cellS hSw Q3.out; have t2 := Hcut.out); go_simp; (try with_reducible rfl))
          simp only [Act.put, List.setIfInBounds_toArray, List.set_cons_zero, List.set_cons_succ]
          refine anyH_take (i := 8) (d := 16) (L' := #[true, true, true, true, true, true, true, true, true, false, false, false, false]) (v := ?v32) rfl rfl (by kernel_rfl) (fun _ _ _ h => h) (by rfl) ?hy32 (by assumption) ?rest32
          case hy32 => (intro wx hSw; (try dsimp only at hSw); (have t0 := Chg.cellS hSw Q2.out; have t1 := Chg.cellS hSw Q3.out; have t2 := Hcut.out); go_simp; (try with_reducible rfl))
          simp only [Act.put, List.setIfInBounds_toArray, List.set_cons_zero, List.set_cons_succ]
          refine anyH_run (i := 9) (L' := #[true, true, true, true, true, true, true, true, true, true, false, false, false]) rfl (by kernel_rfl) (by rfl) (fun KK hKK => ?_)
          go_simp
          (first | (have hkA := Chg.refl [] w4; have hm9 := hm4.alloc (.cells #[.int .i64 0, .slice none 0 0] 80)) | (have hkB := Blk.new wr.drew #[.int .i64 0, .slice none 0 0] 80; have hm9 := ((Chg.refl [] wr).drew).alloc (.cells #[.int .i64 0, .slice none 0 0] 80)))
          refine hKK.out _ _ (by assumption) (fun hHeld => ?_)
          clear hKK KK
          try simp only [Act.put, List.setIfInBounds_toArray, List.set_cons_zero, List.set_cons_succ]
          refine anyH_run (i := 10) (L' := #[true, true, true, true, true, true, true, true, true, true, true, false, false]) rfl (by kernel_rfl) (by rfl) (fun KK hKK => ?_)
          go_simp
          (first | (have hkC := hkB.k hc4; have q0 := hkC.cell 0; have q1 := hkC.cell 1; have f0 := hkC.free 0; have f1 := hkC.free 1; simp at q0 q1 f0 f1; have hm10 := (hm4.setCell ⟨wr.heap.size, 0, none⟩ (.int .i64 no) (by simp)).setCell ⟨wr.heap.size, 1, none⟩ (.slice pao p.length pc) (by simp); go_simp) | (have hm10 := hm4.alloc (.cells #[.int .i64 no, .slice pao p.length pc] 80)))
          refine hKK.out _ _ (by assumption) (fun hHeld => ?_)
          clear hKK KK
          try simp only [Act.put, List.setIfInBounds_toArray, List.set_cons_zero, List.set_cons_succ]
          refine anyH_run (i := 11) (L' := #[true, true, true, true, true, true, true, true, true, true, true, true, false]) rfl (by kernel_rfl) (by rfl) (fun KK hKK => ?_)
          go_simp
          (skip)
          refine hKK.out _ _ (by assumption) (fun hHeld => ?_)
          clear hKK KK
          try simp only [Act.put, List.setIfInBounds_toArray, List.set_cons_zero, List.set_cons_succ]
          refine anyH_run (i := 12) (L' := #[true, true, true, true, true, true, true, true, true, true, true, true, true]) rfl (by kernel_rfl) (by rfl) (fun KK hKK => ?_)
          go_simp
          (skip)
          refine hKK.out _ _ (by assumption) (fun hHeld => ?_)
          clear hKK KK
          try simp only [Act.put, List.setIfInBounds_toArray, List.set_cons_zero, List.set_cons_succ]
          refine wpAnyH_done (by kernel_rfl) ?_ _
          (go_wp2_with fail; go_meet; first | (refine ⟨by assumption, _, rfl, pao, pc, rfl, rfl, hkC.set 0 _ |>.set 1 _, ?_⟩; have hap := hO4.apart hkC (by decide); exact OwB.mono (ownsRow_setCell_other (ownsRow_setCell_other hO4 (a := ⟨wr.heap.size, 0, none⟩) hap _) (a := ⟨wr.heap.size, 1, none⟩) hap _) (by simp)) | exact ⟨by assumption, _, rfl, pao, pc, rfl, rfl, Blk.new _ _ _, hO4.alloc _⟩)
        · go_simp
          (first | (have hkA := Chg.refl [] w4; have hm9 := hm4.alloc (.cells #[.int .i64 0, .slice none 0 0] 80)) | (have hkB := Blk.new wr.drew #[.int .i64 0, .slice none 0 0] 80; have hm9 := ((Chg.refl [] wr).drew).alloc (.cells #[.int .i64 0, .slice none 0 0] 80)))
          refine hKK.out _ _ (by assumption) (fun hHeld => ?_)
          clear hKK KK
          try simp only [Act.put, List.setIfInBounds_toArray, List.set_cons_zero, List.set_cons_succ]
          refine anyH_run (i := 4) (L' := #[true, true, true, true, true, false, false, false, false, true, false, false, false]) rfl (by kernel_rfl) (by rfl) (fun KK hKK => ?_)
          go_simp
          (refine (HNX.out _ (by assumption)).mono ?_; rintro e w4 ⟨pao, pc, rfl, hO4, hc4⟩; have hm4 := Chg.k (a := wr) (by assumption) hc4; try go_simp)
          refine hKK.out _ _ (by assumption) (fun hHeld => ?_)
          clear hKK KK
          try simp only [Act.put, List.setIfInBounds_toArray, List.set_cons_zero, List.set_cons_succ]
          refine anyH_run (i := 5) (L' := #[true, true, true, true, true, true, false, false, false, true, false, false, false]) rfl (by kernel_rfl) (by rfl) (fun KK hKK => ?_)
          go_simp
          (skip)
          refine hKK.out _ _ (by assumption) (fun hHeld => ?_)
          clear hKK KK
          try simp only [Act.put, List.setIfInBounds_toArray, List.set_cons_zero, List.set_cons_succ]
          refine anyH_take (i := 6) (d := 14) (L' := #[true, true, true, true, true, true, true, false, false, true, false, false, false]) (v := ?v40) rfl rfl (by kernel_rfl) (fun _ _ _ h => h) (by rfl) ?hy40 (by assumption) ?rest40
          case hy40 => (intro wx hSw; (try dsimp only at hSw); (have t0 := Chg.cellS hSw Q2.out; have t1 := Chg.cellS hSw Q3.out; have t2 := Hcut.out); go_simp; (try with_reducible rfl))
          simp only [Act.put, List.setIfInBounds_toArray, List.set_cons_zero, List.set_cons_succ]
          refine anyH_take (i := 7) (d := 15) (L' := #[true, true, true, true, true, true, true, true, false, true, false, false, false]) (v := ?v41) rfl rfl (by kernel_rfl) (fun _ _ _ h => h) (by rfl) ?hy41 (by assumption) ?rest41
          case hy41 => (intro wx hSw; (try dsimp only at hSw); (have t0 := Chg.cellS hSw Q2.out; have t1 := Chg.cellS hSw Q3.out; have t2 := Hcut.out); go_simp; (try with_reducible rfl))
          simp only [Act.put, List.setIfInBounds_toArray, List.set_cons_zero, List.set_cons_succ]
          refine anyH_take (i := 8) (d := 16) (L' := #[true, true, true, true, true, true, true, true, true, true, false, false, false]) (v := ?v42) rfl rfl (by kernel_rfl) (fun _ _ _ h => h) (by rfl) ?hy42 (by assumption) ?rest42
          case hy42 => (intro wx hSw; (try dsimp only at hSw); (have t0 := Chg.cellS hSw Q2.out; have t1 := Chg.cellS hSw Q3.out; have t2 := Hcut.out); go_simp; (try with_reducible rfl))
          simp only [Act.put, List.setIfInBounds_toArray, List.set_cons_zero, List.set_cons_succ]
          refine anyH_run (i := 10) (L' := #[true, true, true, true, true, true, true, true, true, true, true, false, false]) rfl (by kernel_rfl) (by rfl) (fun KK hKK => ?_)
          go_simp
          (first | (have hkC := hkB.k hc4; have q0 := hkC.cell 0; have q1 := hkC.cell 1; have f0 := hkC.free 0; have f1 := hkC.free 1; simp at q0 q1 f0 f1; have hm10 := (hm4.setCell ⟨wr.heap.size, 0, none⟩ (.int .i64 no) (by simp)).setCell ⟨wr.heap.size, 1, none⟩ (.slice pao p.length pc) (by simp); go_simp) | (have hm10 := hm4.alloc (.cells #[.int .i64 no, .slice pao p.length pc] 80)))
          refine hKK.out _ _ (by assumption) (fun hHeld => ?_)
          clear hKK KK
          try simp only [Act.put, List.setIfInBounds_toArray, List.set_cons_zero, List.set_cons_succ]
          refine anyH_run (i := 11) (L' := #[true, true, true, true, true, true, true, true, true, true, true, true, false]) rfl (by kernel_rfl) (by rfl) (fun KK hKK => ?_)
          go_simp
          (skip)
          refine hKK.out _ _ (by assumption) (fun hHeld => ?_)
          clear hKK KK
          try simp only [Act.put, List.setIfInBounds_toArray, List.set_cons_zero, List.set_cons_succ]
          refine anyH_run (i := 12) (L' := #[true, true, true, true, true, true, true, true, true, true, true, true, true]) rfl (by kernel_rfl) (by rfl) (fun KK hKK => ?_)
          go_simp
          (skip)
          refine hKK.out _ _ (by assumption) (fun hHeld => ?_)
          clear hKK KK
          try simp only [Act.put, List.setIfInBounds_toArray, List.set_cons_zero, List.set_cons_succ]
          refine wpAnyH_done (by kernel_rfl) ?_ _
          (go_wp2_with fail; go_meet; first | (refine ⟨by assumption, _, rfl, pao, pc, rfl, rfl, hkC.set 0 _ |>.set 1 _, ?_⟩; have hap := hO4.apart hkC (by decide); exact OwB.mono (ownsRow_setCell_other (ownsRow_setCell_other hO4 (a := ⟨wr.heap.size, 0, none⟩) hap _) (a := ⟨wr.heap.size, 1, none⟩) hap _) (by simp)) | exact ⟨by assumption, _, rfl, pao, pc, rfl, rfl, Blk.new _ _ _, hO4.alloc _⟩)
      case rest =>
        obtain ⟨hcx, b5, rfl, pao, pc, rfl, rfl, hk5, hO5⟩ := hcut
        have hJ := HJ.out.k hcx
        obtain ⟨hq, hm, hn0, hn1, hpl, ht, hqle⟩ := nextB_some HN.out
        have hO := hO5.mono HJ.out.chg.size
        have hyl : recLen (pre.map bare) + (p.length + 20) ≤ l.length := by rw [Hat.out]; rw [List.length_drop] at hqle; omega
        obtain ⟨fn, tmps, assign, body, hy, hR⟩ := HY.out pre _ no pao p pc hJ hO hyl
        rw [Hat.out, ← hq] at hy
        have q50 := hk5.cell 0
        have q51 := hk5.cell 1
        simp at q50 q51
        have Hq := hd hq
        have HyB : recLen (pre.map bare) + q ≤ l.length := by omega
        rw [Hat.out] at HyB
        have hS' : Hd ((pre ++ [((no, .slice pao p.length pc, p) : RecV)]).map bare ++ scanF most (f - 1) (l.drop (recLen ((pre ++ [((no, .slice pao p.length pc, p) : RecV)]).map bare))) = scanB most l) := by
          have h := hS.out
          obtain ⟨f', rfl⟩ : ∃ f', f = f' + 1 := ⟨f - 1, by omega⟩
          simp only [scanF] at h
          rw [HN.out] at h
          simp only [List.drop_drop] at h
          rw [List.map_append, recLen_app, Hat.out]
          refine hd ?_
          rw [← h]
          simp [bare, recLen, hq]
        have hat2 : recLen ((pre ++ [((no, .slice pao p.length pc, p) : RecV)]).map bare) = at_ + q := by
          rw [List.map_append, recLen_app, Hat.out]; simp [recLen, bare, hq]
        have HAT2 := hd hat2
        clear hat2 hq ht hqle hyl hk5 hO hO5 hcx
        go_upto_region 2 with (fail)
        refine (wpIn_wide (n := n + 1)).1 ?_
        gi_wp2
        refine hR.mono ?_
        rintro e w6 ⟨rfl, hJ6⟩
        clear hR hy HNX HJ hJ Hcut Q2 Q3 q50 q51
        gi_wp2
        go_wp2_with fail
        go_roundw
        case rel => exact ⟨pre ++ [(no, .slice pao p.length pc, p)], f - 1, by rw [HAT2.out]; have := Hq.out; omega, by rw [HAT2.out]; exact HyB, hS', by rw [HAT2.out]; go_num, hJ6⟩
        case measure => simp [intOf]; have := Hq.out; omega

/-- The slice as it is handed back: records and their payloads read so. -/
theorem rowRec : RowT Try.prog 42 80 2 32 := RowT.mk (z := .agg #[.int .i64 0, .slice none 0 0]) (by kernel_rfl) (by kernel_rfl) rfl (by decide)

theorem recLen_ge (rs : List (Int × List UInt8)) : 20 * rs.length ≤ recLen rs := by
  induction rs with
  | nil => simp [recLen]
  | cons r rs ih => simp only [recLen, List.map_cons, List.sum_cons, List.length_cons] at ih ⊢; omega
theorem scan_len (most : Int) : ∀ (f : Nat) (l : List UInt8), recLen (scanF most f l) ≤ l.length := by
  intro f
  induction f with
  | zero => intro l; simp [scanF, recLen]
  | succ f ih =>
    intro l
    simp only [scanF]
    rcases h : nextB l most with _ | ⟨no, p, q⟩
    · simp [recLen]
    · obtain ⟨hq, -, -, -, -, -, hqle⟩ := nextB_some h
      have := ih (l.drop q)
      rw [List.length_drop] at this
      simp only [recLen, List.map_cons, List.sum_cons] at this ⊢
      omega

theorem Blk.put {W : World} {b l : Nat} {cs : Array Value} {t : TypeId} {o : Obj} (o' : Obj) (h : Blk W b cs t) (hl : W.heap[l]? = some o) (ho : o.isCells = false) : Blk (W.putObj l o') b cs t := by
  refine (World.putObj_heap_other (fun e => ?_)).trans h
  subst e
  unfold Blk at h
  rw [h] at hl
  cases hl; cases ho
theorem RecL.put {W : World} {base : Nat} {v : Value} {rs : List RecV} {l : Nat} {o : Obj} (o' : Obj) (h : RecL W base v rs) (hl : W.heap[l]? = some o) (ho : o.isCells = false) : RecL (W.putObj l o') base v rs :=
  ⟨ownsRow_putObj h.1 o' hl ho, fun r hr => ⟨ownsRow_putObj (h.2 r hr).1 o' hl ho, (h.2 r hr).2⟩⟩
theorem Chg.put {w W : World} {l : Nat} (h : Chg [] w W) (o : Obj) (hl : w.heap.size ≤ l) : Chg [] w (W.putObj l o) :=
  ⟨h.os, h.tape, h.output, by simpa using h.size, fun k hk hn => (World.putObj_heap_other (by omega)).trans (h.block k hk hn)⟩

theorem ownsRow_ne {w : World} {base : Nat} {e : TypeId} {size n : Nat} {v : Value} {xs : List Value} (h : w.ownsRow base e size v n xs) {l : Nat} {o : Obj} (hl : w.heap[l]? = some o) (ho : o.isCells = false) : some l ≠ v.ownBlock := by
  intro he
  rcases h.2 with ⟨rfl, _⟩ | ⟨g, cap, cur, rfl, _, hg, _⟩
  · simp [Value.ownBlock] at he
  · simp only [Value.ownBlock, Option.some.injEq] at he
    subst he
    rw [hg] at hl
    cases hl; cases ho

theorem all_step {w W2 W4 : World} {sl : Value} {most : Int} {RB : LoopState → Option Code → Loop} {pre : List RecV} {vout : Value} {no : Int} {pao : Option Addr} {p : List UInt8} {pc : Nat} {ao18 : Option Addr} {c18 : Nat}
    (hA : AllJ w W2 sl most (RB .busy none) pre) (hO : OwB W2 w.heap.size (.slice pao p.length pc) p)
    (hr3 : (W2.alloc (.cells #[.int .i64 no, .slice pao p.length pc] 80)).ownsRow w.heap.size 80 2 vout pre.length (pre.flatMap recCells))
    (hb3v : Blk (W2.alloc (.cells #[.int .i64 no, .slice pao p.length pc] 80)) w.heap.size #[vout] 42)
    (hg4 : (W2.alloc (.cells #[.int .i64 no, .slice pao p.length pc] 80)).grownBy W4 vout.ownBlock)
    (hR4 : W4.ownsRow w.heap.size 80 2 (.slice ao18 (pre.length + 1) c18) (pre.length + 1) (pre.flatMap recCells ++ [.int .i64 no, .slice pao p.length pc])) :
    ((W4.setCell ⟨w.heap.size, 0, none⟩ (.slice ao18 (pre.length + 1) c18)).setCell ⟨w.heap.size + 1, 0, none⟩ (.int .i64 ((recLen (pre.map bare) : Nat) + ((p.length : Int) + 20)))).heap[w.heap.size + 5]? = some (.loop (RB .busy none)) ∧
    AllJ w (((W4.setCell ⟨w.heap.size, 0, none⟩ (.slice ao18 (pre.length + 1) c18)).setCell ⟨w.heap.size + 1, 0, none⟩ (.int .i64 ((recLen (pre.map bare) : Nat) + ((p.length : Int) + 20)))).putObj (w.heap.size + 5) (.loop (RB .ready none))) sl most (RB .ready none) (pre ++ [(no, .slice pao p.length pc, p)]) := by
  obtain ⟨hch, ⟨v0, hb6, hrow1, hrow2⟩, hb7, hb2, hb3, hdf, hlp⟩ := hA
  have hcA := (Chg.refl [] W2).alloc (.cells #[.int .i64 no, .slice pao p.length pc] 80)
  have hv0 : v0 = vout := by
    have := (hb6.k hcA).symm.trans hb3v
    simpa using this
  subst hv0
  replace hb7 := hb7.k hcA
  replace hb2 := hb2.k hcA
  replace hb3 := hb3.k hcA
  replace hdf := (hcA.block _ (Array.getElem?_eq_some_iff.1 hdf).1 (by simp)).trans hdf
  replace hlp := (hcA.block _ (Array.getElem?_eq_some_iff.1 hlp).1 (by simp)).trans hlp
  replace hch := hch.k hcA
  replace hO : OwB _ w.heap.size (.slice pao p.length pc) p := hO.k hcA
  replace hrow2 : ∀ r ∈ pre, OwB _ w.heap.size r.2.1 r.2.2 ∧ ∃ ao n c, r.2.1 = .slice ao n c := fun r hr => ⟨(hrow2 r hr).1.k hcA, (hrow2 r hr).2⟩
  clear hcA hrow1 hb6
  generalize W2.alloc (.cells #[.int .i64 no, .slice pao p.length pc] 80) = W3 at *
  -- behind append
  have hap : ∀ {b : Nat} {cs : Array Value} {t : TypeId}, Blk W3 b cs t → t ≠ 80 → Blk W4 b cs t := fun h ht => h.grown hg4 (ownsRow_apart hr3 h ht)
  replace hb3v := hap hb3v (by decide)
  replace hb7 := hap hb7 (by decide)
  replace hb2 := hap hb2 (by decide)
  replace hb3 := hap hb3 (by decide)
  replace hch := hch.grown hg4 (fun k hk hlt => by have := (World.ownsRow.lt hr3 k hk).1; omega)
  replace hdf := (hg4.block _ (Array.getElem?_eq_some_iff.1 hdf).1 (ownsRow_ne hr3 hdf rfl)).trans hdf
  replace hlp := (hg4.block _ (Array.getElem?_eq_some_iff.1 hlp).1 (ownsRow_ne hr3 hlp rfl)).trans hlp
  replace hO : OwB W4 w.heap.size (.slice pao p.length pc) p := ownsRow_grow hO hr3 (by decide) hg4
  replace hrow2 : ∀ r ∈ pre, OwB W4 w.heap.size r.2.1 r.2.2 ∧ ∃ ao n c, r.2.1 = .slice ao n c := fun r hr => ⟨ownsRow_grow (hrow2 r hr).1 hr3 (by decide) hg4, (hrow2 r hr).2⟩
  clear hr3 hg4 hap
  -- behind the two stores
  have hb7' : Blk (W4.setCell ⟨w.heap.size, 0, none⟩ (.slice ao18 (pre.length + 1) c18)) (w.heap.size + 1) _ _ := hb7.other (by simp) _
  have hs : ∀ {e : TypeId} {size n : Nat} {v : Value} {xs : List Value} (x : Int), W4.ownsRow w.heap.size e size v n xs → 42 ≠ e → 3 ≠ e →
      ((W4.setCell ⟨w.heap.size, 0, none⟩ (.slice ao18 (pre.length + 1) c18)).setCell ⟨w.heap.size + 1, 0, none⟩ (.int .i64 x)).ownsRow w.heap.size e size v n xs := fun x h h1 h2 =>
    ownsRow_set (ownsRow_set h hb3v h1 0 _) hb7' h2 0 _
  have hlp5 : ((W4.setCell ⟨w.heap.size, 0, none⟩ (.slice ao18 (pre.length + 1) c18)).setCell ⟨w.heap.size + 1, 0, none⟩ (.int .i64 ((recLen (pre.map bare) : Nat) + ((p.length : Int) + 20)))).heap[w.heap.size + 5]? = some (.loop (RB .busy none)) :=
    (heap_setCell_other _ _ _ _ (by simp)).trans ((heap_setCell_other _ _ _ _ (by simp)).trans hlp)
  have hdf5 : ((W4.setCell ⟨w.heap.size, 0, none⟩ (.slice ao18 (pre.length + 1) c18)).setCell ⟨w.heap.size + 1, 0, none⟩ (.int .i64 ((recLen (pre.map bare) : Nat) + ((p.length : Int) + 20)))).heap[w.heap.size + 4]? = some (.deferred (some [])) :=
    (heap_setCell_other _ _ _ _ (by simp)).trans ((heap_setCell_other _ _ _ _ (by simp)).trans hdf)
  refine ⟨hlp5, ((hch.setCell _ _ (by simp)).setCell _ _ (by simp)).put _ (by omega), ⟨.slice ao18 (pre.length + 1) c18, ?_, ?_⟩, ?_, ?_, ?_, ?_, World.putObj_heap_same (Array.getElem?_eq_some_iff.1 hlp5).1⟩
  · refine Blk.put _ ?_ hlp5 rfl
    exact (hb3v.set 0 _).other (by simp) _
  · refine ⟨?_, ?_⟩
    · have := ownsRow_putObj (hs ((recLen (pre.map bare) : Nat) + ((p.length : Int) + 20)) hR4 (by decide) (by decide)) (.loop (RB .ready none)) hlp5 rfl
      rw [List.length_append, List.flatMap_append]
      exact this
    · intro r hr
      rcases List.mem_append.1 hr with hr | hr
      · exact ⟨ownsRow_putObj (hs _ (hrow2 r hr).1 (by decide) (by decide)) (.loop (RB .ready none)) hlp5 rfl, (hrow2 r hr).2⟩
      · obtain rfl : r = (no, .slice pao p.length pc, p) := by simpa using hr
        exact ⟨ownsRow_putObj (hs _ hO (by decide) (by decide)) (.loop (RB .ready none)) hlp5 rfl, _, _, _, rfl⟩
  · refine Blk.put _ ?_ hlp5 rfl
    have := hb7'.set 0 (.int .i64 ((recLen (pre.map bare) : Nat) + ((p.length : Int) + 20)))
    rw [List.map_append, recLen_app]
    simpa [recLen, bare] using this
  · refine Blk.put _ ?_ hlp5 rfl
    exact (hb2.other (by simp) _).other (by simp) _
  · refine Blk.put _ ?_ hlp5 rfl
    exact (hb3.other (by simp) _).other (by simp) _
  · exact (World.putObj_heap_other (by omega)).trans hdf5

attribute [local go_sem] Oper.semAt_some
set_option maxRecDepth 100000 in
set_option maxHeartbeats 4000000 in
theorem All_any (ao : Option Addr) (cap : Nat) (l : List UInt8) (most : Int) (w : World) (h0 : Bs w (.slice ao l.length cap) l) (hlen : l.length ≤ 4000000000000) :
    Calls Try.prog 54 #[.slice ao l.length cap, .int .i64 most] w fun e w' => ∃ v rs, e = .returned (.tuple #[v, .int .i64 (recLen (rs.map bare) : Nat)]) ∧ rs.map bare = scanB most l ∧ RecL w' w.heap.size v rs ∧ Chg [] w w' := by
  refine (callsIn_wide (n := 9)).1 ?_
  refine callsIn_of_wp_marks Try.func54 rfl trivial ?_
  simp only [Try.ntmps54, List.size_toArray, List.length_cons, List.length_nil, Nat.reduceAdd, Nat.reduceSub, Array.replicate_succ, Array.replicate_zero, List.push_toArray, List.append_toArray, List.nil_append, List.cons_append]
  refine wpIn_wide.2 ?_
  go_wp2_with (go_at_call 74; refine (each_any _ _ _ _ _).mono ?_; rintro e w' ⟨rfl, rfl⟩)
  have b6 := ((((Blk.new w #[.slice none 0 0] 42).alloc (.cells #[.int .i64 0] 3)).alloc (.cells #[.slice ao l.length cap] 30)).alloc (.cells #[.int .i64 most] 3))
  have b7 := (((Blk.new (w.alloc (.cells #[.slice none 0 0] 42)) #[.int .i64 0] 3).alloc (.cells #[.slice ao l.length cap] 30)).alloc (.cells #[.int .i64 most] 3))
  have b2 := ((Blk.new ((w.alloc (.cells #[.slice none 0 0] 42)).alloc (.cells #[.int .i64 0] 3)) #[.slice ao l.length cap] 30).alloc (.cells #[.int .i64 most] 3))
  have b3 := Blk.new (((w.alloc (.cells #[.slice none 0 0] 42)).alloc (.cells #[.int .i64 0] 3)).alloc (.cells #[.slice ao l.length cap] 30)) #[.int .i64 most] 3
  have hcN := (((((Chg.refl [] w).alloc (.cells #[.slice none 0 0] 42)).alloc (.cells #[.int .i64 0] 3)).alloc (.cells #[.slice ao l.length cap] 30)).alloc (.cells #[.int .i64 most] 3))
  have hsz : ((((w.alloc (.cells #[.slice none 0 0] 42)).alloc (.cells #[.int .i64 0] 3)).alloc (.cells #[.slice ao l.length cap] 30)).alloc (.cells #[.int .i64 most] 3)).heap.size = w.heap.size + 4 := by simp
  generalize ((((w.alloc (.cells #[.slice none 0 0] 42)).alloc (.cells #[.int .i64 0] 3)).alloc (.cells #[.slice ao l.length cap] 30)).alloc (.cells #[.int .i64 most] 3)) = wN at *
  simp only [World.size_alloc, Nat.add_assoc, Nat.reduceAdd] at b7 b2 b3
  refine (wpIn_wide (n := 8)).1 ?_
  refine range_outer (gf := 87) (lb := #[.pointer (some ⟨w.heap.size + 2, 0, none⟩), .pointer (some ⟨w.heap.size + 3, 0, none⟩)]) rfl (enters_of Try.func87 (by kernel_rfl) rfl) ?_
  intro fn REC hREC
  rw [hsz] at hREC ⊢
  refine callsIn_wide.2 ((each1 (n := 5) w ao cap l most (REC .ready none) (by omega) h0 ?hY _ ?hW).mono ?_)
  case hW =>
    refine ⟨(hcN.alloc _).alloc _, ⟨_, (b6.alloc _).alloc _, RecL.nil _ _⟩, (b7.alloc _).alloc _, (b2.alloc _).alloc _, (b3.alloc _).alloc _, ?_, ?_⟩
    · rw [Below.heap_alloc _ _ _ (by simp [hsz])]
      have := World.alloc_heap_new wN (.deferred (some []))
      rwa [hsz] at this
    · have := World.alloc_heap_new (wN.alloc (.deferred (some []))) (.loop (REC .ready none))
      rwa [World.size_alloc, hsz] at this
  case hY =>
    clear b6 b7 b2 b3 hcN
    intro pre W no pao p pc hJ hO hle
    have hlp := hJ.lp
    have HREC := hd hREC
    rw [hREC] at hlp
    clear hREC
    refine yield_at hlp rfl ?_
    simp
    gi_wp2
    have hcA := (Chg.refl [] W).alloc (.cells #[.int .i64 no, .slice pao p.length pc] 80)
    have hk9 := Blk.new W #[.int .i64 no, .slice pao p.length pc] 80
    replace hJ := hJ.k hcA
    replace hO := hO.k hcA
    replace hlp := (hcA.block _ (Array.getElem?_eq_some_iff.1 hlp).1 (by simp)).trans hlp
    have hlp0 := hJ.lp
    have hW5 : w.heap.size + 5 < (W.alloc (.cells #[.int .i64 no, .slice pao p.length pc] 80)).heap.size := (Array.getElem?_eq_some_iff.1 hlp).1
    refine ⟨hlp, ?_⟩
    generalize W.alloc (.cells #[.int .i64 no, .slice pao p.length pc] 80) = W1 at *
    generalize hbz : recOf fn _ _ _ _ (w.heap.size + 4) = RB
    have hRB : RB = REC := by rw [← hbz, HREC.out]
    clear hbz HREC hlp
    subst hRB
    have hl5 : w.heap.size + 5 < W1.heap.size := hW5
    have hlp := hlp0
    obtain ⟨vout, hb6, hrow1, hrow2⟩ := hJ.out
    have hb7 := hJ.fin
    have hb2 := hJ.b2
    have hb3 := hJ.b3
    have hdf := hJ.dfr
    have hch := hJ.chg
    clear hJ
    replace hb6 := hb6.put (.loop (RB .busy none)) hlp rfl
    replace hb7 := hb7.put (.loop (RB .busy none)) hlp rfl
    replace hb2 := hb2.put (.loop (RB .busy none)) hlp rfl
    replace hb3 := hb3.put (.loop (RB .busy none)) hlp rfl
    replace hk9 := hk9.put (.loop (RB .busy none)) hlp rfl
    replace hdf := (World.putObj_heap_other (w := W1) (o := .loop (RB .busy none)) (show w.heap.size + 4 ≠ w.heap.size + 5 by omega)).trans hdf
    replace hch := hch.put (.loop (RB .busy none)) (show w.heap.size ≤ w.heap.size + 5 by omega)
    replace hrow1 := ownsRow_putObj hrow1 (.loop (RB .busy none)) hlp rfl
    replace hrow2 : ∀ r ∈ pre, OwB (W1.putObj (w.heap.size + 5) (.loop (RB .busy none))) w.heap.size r.2.1 r.2.2 ∧ ∃ ao n c, r.2.1 = .slice ao n c := fun r hr => ⟨ownsRow_putObj (hrow2 r hr).1 (.loop (RB .busy none)) hlp rfl, (hrow2 r hr).2⟩
    replace hO : OwB (W1.putObj (w.heap.size + 5) (.loop (RB .busy none))) w.heap.size (.slice pao p.length pc) p := ownsRow_putObj hO (.loop (RB .busy none)) hlp rfl
    have hl2 : (W1.putObj (w.heap.size + 5) (.loop (RB .busy none))).heap[w.heap.size + 5]? = some (.loop (RB .busy none)) := World.putObj_heap_same hl5
    clear hlp hlp0 hW5
    generalize W1.putObj (w.heap.size + 5) (.loop (RB .busy none)) = W2 at *
    have q6 := hb6.cell 0
    have q90 := hk9.cell 0
    have q91 := hk9.cell 1
    simp at q6 q90 q91
    have hpn : pre.length ≤ 200000000000 := by have := recLen_ge (pre.map bare); rw [List.length_map] at this; omega
    have hr3 := World.ownsRow.alloc hrow1 (.cells #[.int .i64 no, .slice pao p.length pc] 80)
    have hb63 := hb6.alloc (.cells #[.int .i64 no, .slice pao p.length pc] 80)
    have hb73 := hb7.alloc (.cells #[.int .i64 no, .slice pao p.length pc] 80)
    have hb23 := hb2.alloc (.cells #[.int .i64 no, .slice pao p.length pc] 80)
    have hb33 := hb3.alloc (.cells #[.int .i64 no, .slice pao p.length pc] 80)
    have hch3 := hch.alloc (.cells #[.int .i64 no, .slice pao p.length pc] 80)
    have hone := Rd.lit W2 2 1 [.int .i64 no, .slice pao p.length pc] _ 80 rfl rfl (by decide)
    have hA : Hd (AllJ w W2 (.slice ao l.length cap) most (RB .busy none) pre) := hd ⟨hch, ⟨vout, hb6, hrow1, hrow2⟩, hb7, hb2, hb3, hdf, hl2⟩
    have HO := hd hO
    clear hb6 hb7 hb2 hb3 hdf hl2 hrow1 hrow2 hO hk9 h0
    gi_wp2_with (gi_at_builtin; refine wpAppIn rowRec rfl _ _ rfl w.heap.size vout pre.length _ rfl hr3 _ 1 [.int .i64 no, .slice pao p.length pc] rfl hone (by simp [Value.oneCell']) (by omega) (by omega) hch3.size ?_; intro ao18 c18 W4 hR4 hg4 hm4; have hb64 := hb63.grown hg4 (ownsRow_apart hr3 hb63 (by decide)); have hb74 := hb73.grown hg4 (ownsRow_apart hr3 hb73 (by decide)); have q64 := hb64.cell 0; have f64 := hb64.free 0; have q74 := hb74.cell 0; have f74 := hb74.free 0; simp at q64 q74)
    obtain ⟨k1, k2⟩ := all_step hA.out HO.out (vout := vout) hr3 hb63 hg4 hR4
    exact ⟨k1, rfl, k2⟩
  · rintro e W2 ⟨⟨v, rfl⟩, rs, hrs, hJ⟩
    have hnb : (REC .ready none).state ≠ .busy := by rw [hREC]; simp [recOf]
    have hp : (REC .ready none).pending = none := by rw [hREC]; rfl
    have hend := run_endLoop (P := Try.prog) hJ.lp hnb
    rw [hp] at hend
    clear hREC hp hnb
    refine ⟨none, _, hend, ?_⟩
    simp only
    clear hend
    obtain ⟨vout, hb6, hrow⟩ := hJ.out
    have hF : ∀ o', Blk (W2.putObj (w.heap.size + 5) o') w.heap.size #[vout] 42 ∧ Blk (W2.putObj (w.heap.size + 5) o') (w.heap.size + 1) #[.int .i64 (recLen (rs.map bare) : Nat)] 3 ∧ RecL (W2.putObj (w.heap.size + 5) o') w.heap.size vout rs ∧ Chg [] w (W2.putObj (w.heap.size + 5) o') ∧ (W2.putObj (w.heap.size + 5) o').heap[w.heap.size + 4]? = some (.deferred (some [])) := fun o' =>
      ⟨hb6.put o' hJ.lp rfl, hJ.fin.put o' hJ.lp rfl, hrow.put o' hJ.lp rfl, hJ.chg.put o' (by omega), (World.putObj_heap_other (by omega)).trans hJ.dfr⟩
    generalize hW3 : W2.putObj (w.heap.size + 5) _ = W3
    have hF3 : Blk W3 w.heap.size #[vout] 42 ∧ Blk W3 (w.heap.size + 1) #[.int .i64 (recLen (rs.map bare) : Nat)] 3 ∧ RecL W3 w.heap.size vout rs ∧ Chg [] w W3 ∧ W3.heap[w.heap.size + 4]? = some (.deferred (some [])) := by rw [← hW3]; exact hF _
    obtain ⟨hb6, hb7, hrow, hch, hdf⟩ := hF3
    clear hF hW3 hJ b6 b7 b2 b3 hcN h0
    have q6 := hb6.cell 0
    have q7 := hb7.cell 0
    simp at q6 q7
    have HRS := hd hrs
    clear hrs
    go_upto_region 7 with (fail)
    go_quiet (fail)
    go_wp2_with fail
    refine ⟨by simp, .inl ⟨_, _, rfl, run_takeDeferred (w := W3.drewN _) hdf, ?_⟩⟩
    refine ⟨_, results_tmp2 rfl _ _ _, vout, rs, rfl, HRS.out, ?_, ?_⟩
    · exact (hrow.k ((Chg.refl [] W3).drewN _)).put _ (l := w.heap.size + 4) hdf rfl
    · exact (hch.drewN _).put _ (by omega)
end Go.Proofs.Ytpoohpmcopjklaa

/- journal.Scan. -/
namespace Go.Proofs.Ytpoohpmcopjklaa
open Go.RowKit

variable {w w' : World} {fp : List Nat} {b : Nat} {d : Dsk}

theorem RecL.mono {w : World} {base base' : Nat} {v : Value} {rs : List RecV} (h : RecL w base v rs) (hb : base' ≤ base) : RecL w base' v rs :=
  ⟨ownsRow_mono h.1 hb, fun r hr => ⟨(h.2 r hr).1.mono hb, (h.2 r hr).2⟩⟩
def ScanOut (w : World) (fp : List Nat) (b : Nat) (d : Dsk) (s : List UInt8) (e : Ending) (w' : World) : Prop :=
  Dk w' fp b (opD d) ∧ Chg [b] w w' ∧
    ((syncE d s ≠ 0 ∧ e = .returned (.tuple #[.slice none 0 0, .bool false, .int .i64 (syncE d s)])) ∨
     (syncE d s = 0 ∧ ∃ v rs, e = .returned (.tuple #[v, .bool (decide (recLen (rs.map bare) = (bytesD d s).length)), .int .i64 0]) ∧ rs.map bare = scanB 16384 (bytesD d s) ∧ RecL w' w.heap.size v rs))

set_option maxHeartbeats 1000000 in
theorem Scan_any (h : Dk w fp b d) (seq : Nat) (hseq : seq ≤ 4611686018427387904) (hops : d.ops < 1073741000) (hlen : (bytesD d (segB seq)).length ≤ 4000000000000) :
    Calls Try.prog 23 #[.pointer (some ⟨b, 0, none⟩), .int .i64 (seq : Int)] w (ScanOut w fp b d (segB seq)) := by
  have H := hd h
  have h17 : (segB seq).length ≤ 140737488355328 := by rw [segB_length]; decide
  clear h
  obtain ⟨CE, hCE⟩ : ∃ x, syncE d (segB seq) = x := ⟨_, rfl⟩
  obtain ⟨L, hL⟩ : ∃ x, bytesD d (segB seq) = x := ⟨_, rfl⟩
  have hbad : ∀ (e : Ending) (w' : World), CE ≠ 0 → Dk w' fp b (opD d) → Chg [b] w w' → e = .returned (.tuple #[.slice none 0 0, .bool false, .int .i64 CE]) → ScanOut w fp b d (segB seq) e w' := by
    intro e w' hne h1 h2 he
    unfold ScanOut
    rw [hCE]
    exact ⟨h1, h2, .inl ⟨hne, he⟩⟩
  have hgood : ∀ (e : Ending) (w' : World), CE = 0 → Dk w' fp b (opD d) → Chg [b] w w' → ∀ v rs, rs.map bare = scanB 16384 L → RecL w' w.heap.size v rs → e = .returned (.tuple #[v, .bool (decide (recLen (rs.map bare) = L.length)), .int .i64 0]) → ScanOut w fp b d (segB seq) e w' := by
    intro e w' hz h1 h2 v rs h3 h4 he
    unfold ScanOut
    rw [hCE, hL]
    exact ⟨h1, h2, .inr ⟨hz, v, rs, he, h3, h4⟩⟩
  rw [hL] at hlen
  have HBAD := hd hbad
  have HGOOD := hd hgood
  clear hbad hgood
  go_enter Try.func23, Try.ntmps23
  go_wp2_with fail
  refine (Segment_any w seq hseq).mono ?_
  rintro e w1 ⟨rfl, hc1⟩
  have hz1 := hc1.size
  go_wp2_with fail
  refine (Read_any (H.out.k hc1) (segB seq) h17 (by omega)).mono ?_
  rintro e w2 ⟨ao, n, c, rfl, hb2, hd2, hc2⟩
  rw [hCE, hL] at hb2
  rw [hCE]
  have hcw := (hc1.mono (S' := [b]) (by simp)).trans hc2 (by simp)
  have H2 := hd hd2
  have HC := hd hcw
  have hz2 := hc2.size
  clear hd2 hc1 hc2 hcw hCE hL
  by_cases hz : CE = 0
  case neg =>
    have hz' : (CE == 0) = false := by simpa using hz
    have HZ := hd hz
    clear hz hb2
    go_wp2_with fail
    refine bodyPost_ret (v := .tuple #[.slice none 0 0, .bool false, .int .i64 CE]) ?_ rfl ?_
    · simp only [results]; go_simp
    · exact HBAD.out _ _ HZ.out H2.out HC.out rfl
  rw [if_pos hz] at hb2
  subst hz
  obtain ⟨ao', c', e⟩ := hb2.form
  simp only [Value.slice.injEq] at e
  obtain ⟨rfl, rfl, rfl⟩ := e
  have hbs := hb2.bs
  clear hb2
  go_wp2_with fail
  refine (All_any ao c L 16384 w2 hbs (by omega)).mono ?_
  rintro e w3 ⟨v, rs, rfl, hrs, hrl, hc3⟩
  have H3 := hd (H2.out.k hc3)
  have HC3 := hd (HC.out.trans hc3 (by simp))
  have HRL := hd (hrl.mono (show w.heap.size ≤ w2.heap.size by omega))
  have HRS := hd hrs
  clear hrl hc3 hrs hbs
  by_cases hq : recLen (rs.map bare) = L.length
  · have hq' : ((recLen (rs.map bare) : Nat) : Int) = (L.length : Int) := by rw [hq]
    have HQ := hd hq
    clear hq
    go_wp2_with fail
    refine bodyPost_ret (v := .tuple #[v, .bool true, .int .i64 0]) ?_ rfl ?_
    · simp only [results]; go_simp
    · exact HGOOD.out _ _ (by trivial) H3.out HC3.out v rs HRS.out HRL.out (by rw [HQ.out]; simp)
  · have hq' : (((recLen (rs.map bare) : Nat) : Int) == (L.length : Int)) = false := by simp; omega
    have HQ := hd hq
    clear hq
    go_wp2_with fail
    refine bodyPost_ret (v := .tuple #[v, .bool false, .int .i64 0]) ?_ rfl ?_
    · simp only [results]; go_simp
    · exact HGOOD.out _ _ (by trivial) H3.out HC3.out v rs HRS.out HRL.out (by rw [decide_eq_false HQ.out])
end Go.Proofs.Ytpoohpmcopjklaa

/- crc.Bend: bits turned round. -/
namespace Go.Proofs.Ytpoohpmcopjklaa
open Go.RowKit

def bendStep (at_ : Int) (mask : UInt32) (l : List UInt8) (k : Nat) : List UInt8 :=
  if mask >>> UInt32.ofNat k &&& 1 = 1 ∧ 0 ≤ at_ + k ∧ (at_ + k) / 8 < l.length then l.set ((at_ + k) / 8).toNat (l.getD ((at_ + k) / 8).toNat 0 ^^^ ((1 : UInt8) <<< UInt8.ofNat ((at_ + k) % 8).toNat)) else l
def bendB (l : List UInt8) (at_ : Int) (mask : UInt32) : List UInt8 := (List.range 32).foldl (bendStep at_ mask) l
@[simp] theorem bendStep_length (at_ : Int) (mask : UInt32) (l : List UInt8) (k : Nat) : (bendStep at_ mask l k).length = l.length := by
  unfold bendStep; split <;> simp
theorem bendFold_length (at_ : Int) (mask : UInt32) (ks : List Nat) (l : List UInt8) : (ks.foldl (bendStep at_ mask) l).length = l.length := by
  induction ks generalizing l with
  | nil => rfl
  | cons k ks ih => rw [List.foldl_cons, ih, bendStep_length]
theorem bendB_length (l : List UInt8) (at_ : Int) (mask : UInt32) : (bendB l at_ mask).length = l.length := bendFold_length _ _ _ _
theorem range_snoc (n : Nat) : List.range (n + 1) = List.range n ++ [n] := List.range_succ

theorem u32_div_k (a : UInt32) (j : Nat) (hj : j < 32) : n32 a / 2 ^ j = n32 (a >>> UInt32.ofNat j) := by
  unfold n32; rw [UInt32.toNat_shiftRight]
  simp [Nat.mod_eq_of_lt (show j < 2 ^ 32 by omega), Nat.mod_eq_of_lt hj, Nat.shiftRight_eq_div_pow]

section
attribute [local go_sem] u32_and_1 and7 u8_xor'
set_option maxHeartbeats 800000 in
theorem Bend_any (v : Value) (l : List UInt8) (at_ : Int) (mask : UInt32) (w : World) (hl : Bs w v l) (h1 : -4611686018427387904 ≤ at_) (h2 : at_ ≤ 4611686018427387904) (hlen : l.length ≤ 140737488355000) :
    Calls Try.prog 22 #[v, .int .i64 at_, .int .u32 (n32 mask)] w fun e w' => ∃ ao c, e = .returned (.slice ao l.length c) ∧ OwB w' w.heap.size (.slice ao l.length c) (bendB l at_ mask) ∧ Chg [] w w' := by
  go_enter Try.func22, Try.ntmps22
  go_wp2_with (refine wpAppB rfl _ _ rfl w.heap.size (.slice none 0 0) _ rfl (OwB.nil _ _) _ _ rfl hl (by simp; omega) (Nat.le_refl _) ?_; intro ao c w1 k1 k2 k3)
  simp only [List.length_nil, Nat.zero_add, List.nil_append] at k1
  go_loopw [8, 9, 12] (fun _ _ i wr => ∃ k : Nat, k ≤ 32 ∧ i = .int .i64 k ∧ OwB wr w.heap.size (.slice ao l.length c) ((List.range k).foldl (bendStep at_ mask) l) ∧ Chg [] w wr)
    (fun _ _ i _ => 32 - (intOf i).toNat)
  case atStart => exact ⟨0, by omega, rfl, by simpa using k1, (Chg.refl _ _).grown k2 (by simp [Value.ownBlock])⟩
  case round =>
    obtain ⟨k, hk, rfl, how, hch⟩ := hrel
    by_cases hlt : k < 32
    · have hsh : bits .and .u32 (n32 mask / 2 ^ k) 1 = n32 (mask >>> UInt32.ofNat k &&& 1) := by
        rw [u32_div_k mask k hlt]; exact u32_and_1 _
      have hS : (List.range (k + 1)).foldl (bendStep at_ mask) l = bendStep at_ mask ((List.range k).foldl (bendStep at_ mask) l) k := by rw [range_snoc, List.foldl_append]; rfl
      have hL : ((List.range k).foldl (bendStep at_ mask) l).length = l.length := bendFold_length _ _ _ _
      have HS := hd hS
      have HL := hd hL
      clear hS hL
      generalize (List.range k).foldl (bendStep at_ mask) l = cur at *
      by_cases hd : mask >>> UInt32.ofNat k &&& 1 = 1 ∧ 0 ≤ at_ + k ∧ (at_ + k) / 8 < l.length
      · obtain ⟨d1, d2, d3⟩ := hd
        obtain ⟨i, hi⟩ := Int.eq_ofNat_of_zero_le d2
        have d1' : (n32 (mask >>> UInt32.ofNat k &&& 1) == 1) = true := by rw [n32_eq1, d1]; rfl
        have hI := hd hi
        have hi8 : i / 8 < l.length := by omega
        have hx := List.getElem?_eq_getElem (show i / 8 < cur.length by rw [HL.out]; exact hi8)
        have hcl : i / 8 < cur.length := by rw [HL.out]; exact hi8
        obtain ⟨g, rfl, -, hg1, hg2⟩ := how.addr (by omega)
        have hcell := how.cell (i / 8) hcl
        have hfree := how.free (i / 8)
        have hii : (i : Int) / 8 < l.length := by omega
        have hset := fun y => how.set (i / 8) (cur[i / 8] ^^^ y)
        generalize hX : cur[i / 8] = x at *
        have HX := hd hX
        clear hX hi8 d3
        have hbit := u8_bit (i % 8) (by omega) .i64
        have hcast : ((i % 8 : Nat) : Int) = (i : Int) % 8 := by omega
        rw [hcast] at hbit
        clear hcast
        go_wp2_with fail
        go_region
        go_wp2
        go_roundw
        case rel =>
          refine ⟨k + 1, by omega, by go_num, ?_, ?_⟩
          · have hb : bendStep at_ mask cur k = cur.set (i / 8) (x ^^^ 1 <<< UInt8.ofNat (i % 8)) := by
              unfold bendStep
              rw [if_pos ⟨d1, d2, by rw [HL.out]; omega⟩, hI.out]
              rw [show ((i : Int) / 8).toNat = i / 8 by omega, show ((i : Int) % 8).toNat = i % 8 by omega, List.getD, hx]
              rfl
            rw [HS.out, hb]
            have hv := hset (1 <<< UInt8.ofNat (i % 8))
            rw [← u8_xor', ← u8_bitv (i % 8) (by omega)] at hv
            exact hv
          · exact hch.drew.setCell _ _ (fun h => by simp at h; omega)
        case measure => simp [intOf]; omega
      · have hno : bendStep at_ mask cur k = cur := by unfold bendStep; rw [if_neg (by rw [HL.out]; exact hd)]
        rw [hno] at HS
        clear hno
        by_cases d1 : mask >>> UInt32.ofNat k &&& 1 = 1
        · have d1' : (n32 (mask >>> UInt32.ofNat k &&& 1) == 1) = true := by rw [n32_eq1, d1]; rfl
          by_cases d2 : 0 ≤ at_ + k
          · have d3 : ¬ (at_ + k) / 8 < l.length := fun h => hd ⟨d1, d2, h⟩
            clear hd
            go_wp2
            all_goals
              go_roundw
              case rel => exact ⟨k + 1, by omega, by go_num, by rw [HS.out]; exact how, hch⟩
              case measure => simp [intOf]; omega
          · clear hd
            go_wp2
            all_goals
              go_roundw
              case rel => exact ⟨k + 1, by omega, by go_num, by rw [HS.out]; exact how, hch⟩
              case measure => simp [intOf]; omega
        · have d1' : (n32 (mask >>> UInt32.ofNat k &&& 1) == 1) = false := by rw [n32_eq1]; simpa using d1
          clear hd d1
          go_wp2
          all_goals
            go_roundw
            case rel => exact ⟨k + 1, by omega, by go_num, by rw [HS.out]; exact how, hch⟩
            case measure => simp [intOf]; omega
    · have hkn : k = 32 := by omega
      subst hkn
      go_wp2
      go_ret
      exact ⟨ao, c, rfl, how, hch⟩
end
end Go.Proofs.Ytpoohpmcopjklaa

/- Disk.Bend. -/
namespace Go.Proofs.Ytpoohpmcopjklaa
open Go.RowKit

variable {w w' : World} {fp : List Nat} {b : Nat} {fv cv : Value} {nb sb : Nat} {hs : List HF} {d : Dsk}

def bendDsk (d : Dsk) (s : List UInt8) (at_ : Int) (mask : UInt32) : Dsk :=
  match nget d.names s with
  | none => d
  | some i => setF d i (bendB (d.files.getD i ([], 0)).1 at_ mask, (d.files.getD i ([], 0)).2)

set_option maxHeartbeats 1000000 in
theorem DBend_any (h : Dk w fp b d) (s : List UInt8) (hsl : s.length ≤ 140737488355328) (at_ : Int) (mask : UInt32) (ha1 : -4611686018427387904 ≤ at_) (ha2 : at_ ≤ 4611686018427387904) :
    Calls Try.prog 21 #[.pointer (some ⟨b, 0, none⟩), .string (strB s), .int .i64 at_, .int .u32 (n32 mask)] w fun e w' => e = .returned (.bool (nget d.names s).isSome) ∧ DkOut w fp b (bendDsk d s at_ mask) w' := by
  obtain ⟨fv, cv, nb, sb, hs, h1⟩ := h
  obtain ⟨CD, hCD⟩ : ∃ x, bendDsk d s at_ mask = x := ⟨_, rfl⟩
  rw [hCD]
  unfold bendDsk at hCD
  have hfind := find_any h1 s hsl
  have H1 := hd h1
  clear h1
  go_enter Try.func21, Try.ntmps21
  rcases hi : nget d.names s with _ | i
  · rw [hi] at hfind hCD
    subst hCD
    go_wp2_with fail
    refine (hfind).mono ?_
    rintro e w2 ⟨rfl, rfl⟩
    go_wp2_with fail
    go_ret
    exact ⟨rfl, DkOut.same ⟨_, _, _, _, _, H1.out⟩ (Chg.refl _ _)⟩
  · rw [hi] at hfind hCD
    have HI := hd hi
    have HCD := hd hCD
    clear hCD hi
    go_wp2_with fail
    refine (hfind).mono ?_
    rintro e w2 ⟨rfl, g, c, rfl, hlt, rfl⟩
    clear hfind
    obtain ⟨ao, c', hv, q0, q1, hfi⟩ := H1.out.file hlt
    have hby := H1.out.bytes _ (List.getElem_mem hlt)
    rw [hv] at hby
    have hgf := H1.out.good.files _ (List.mem_of_getElem? hfi)
    have hcd : setF d i (bendB hs[i].2.1 at_ mask, hs[i].2.2) = CD := by
      rw [← HCD.out]
      show _ = setF d i (bendB (d.files.getD i ([], 0)).1 at_ mask, (d.files.getD i ([], 0)).2)
      rw [show d.files.getD i ([], 0) = hs[i].2 from files_get H1.out hlt]
    have hgood : GoodD (setF d i (bendB hs[i].2.1 at_ mask, hs[i].2.2)) := H1.out.good.putF i _ (by simp only [bendB_length]; exact hgf)
    have HBS := hd (fun (w4 : World) (v' : Value) (hc : Chg [] w2 w4) (hv : OwB w4 0 v' (bendB hs[i].2.1 at_ mask)) (hm : ∀ k, v'.ownBlock = some k → w2.heap.size ≤ k) => H1.out.byteSet hlt (hc.mono (by simp)) hv (.inr hm) hgood)
    rw [hcd] at HBS
    have hbs := hby.bs
    have hjlt : i * 2 < hs.length * 2 := by omega
    have HCX := hd (fileCells_get hs i hlt).1
    have HFN := hd (H1.out.fpf g rfl)
    have HRF := hd H1.out.files
    have hll := hgf.2.2
    have HLEN := hd (bendB_length hs[i].2.1 at_ mask)
    clear hfi hgf hcd hgood q1 hby
    go_wp2_with fail
    refine (Bend_any _ _ at_ mask _ hbs ha1 ha2 (by omega)).mono ?_
    rintro e w3 ⟨ao3, c3, rfl, hb3, hc3⟩
    have hrow4 := ownsRow_k HRF.out hc3
    have q4 := World.ownsRow.cellAt hrow4 (i * 2) hjlt
    rw [HCX.out] at q4
    have f4 := World.ownsRow.frozenAt hrow4 (i * 2)
    have hfin := HBS.out w3 _ hc3 (hb3.mono (Nat.zero_le _)) (fun k hk => (hb3.lo k hk).1)
    have hch : Chg fp w2 (w3.setCell ⟨g, i * 2, none⟩ (.slice ao3 hs[i].2.1.length c3)) := (hc3.mono (by simp)).setCell _ _ (fun _ => HFN.out)
    have hgr : Gr fp w2 ((Value.slice ao3 hs[i].2.1.length c3).ownBlock.toList ++ fp) := fun k hk => by
      rcases List.mem_append.1 hk with hk | hk
      · exact .inr (hb3.lo k (by simpa using hk)).1
      · exact .inl hk
    have FIN := hd (DkOut.mk ⟨_, _, _, _, _, hfin⟩ hch hgr)
    clear hfin hch hgr hb3 hrow4 hc3 hbs
    go_wp2_with fail
    go_ret
    exact ⟨rfl, FIN.out⟩
end Go.Proofs.Ytpoohpmcopjklaa

/- Records one behind the other, and what is read of them. -/
namespace Go.Proofs.Ytpoohpmcopjklaa
open Go.RowKit

def catF (rl : List (Int × List UInt8)) : List UInt8 := rl.flatMap fun r => frameB r.1 r.2
def FineR (rl : List (Int × List UInt8)) : Prop := ∀ r ∈ rl, 0 ≤ r.1 ∧ r.1 ≤ 9223372036854775807 ∧ r.2.length ≤ 200000
theorem catF_length (rl : List (Int × List UInt8)) : (catF rl).length = recLen rl := by
  induction rl with
  | nil => rfl
  | cons r rl ih =>
    have : catF (r :: rl) = frameB r.1 r.2 ++ catF rl := rfl
    rw [this, List.length_append, ih, frameB_length]; rfl
theorem catF_app (a b : List (Int × List UInt8)) : catF (a ++ b) = catF a ++ catF b := by simp [catF]
theorem nextB_nil (most : Int) : nextB [] most = none := by unfold nextB; rw [if_pos (by simp)]
theorem nextB_few (l : List UInt8) (most : Int) (h : l.length < 16) : nextB l most = none := by unfold nextB; rw [if_pos h]
theorem scan_cat (most : Int) (t : List UInt8) (ht : nextB t most = none) : ∀ (rl : List (Int × List UInt8)), FineR rl → (∀ r ∈ rl, (r.2.length : Int) ≤ most) → ∀ f, rl.length < f → scanF most f (catF rl ++ t) = rl := by
  intro rl
  induction rl with
  | nil =>
    intro _ _ f hf
    obtain ⟨f', rfl⟩ : ∃ f', f = f' + 1 := ⟨f - 1, by simp at hf; omega⟩
    simp only [scanF]
    rw [show catF [] ++ t = t from rfl, ht]
  | cons r rl ih =>
    intro h1 h2 f hf
    obtain ⟨f', rfl⟩ : ∃ f', f = f' + 1 := ⟨f - 1, by simp at hf; omega⟩
    obtain ⟨a, b, c⟩ := h1 r (by simp)
    have hy := nextB_yes r.1 r.2 (catF rl ++ t) most a b (by omega) (h2 r (by simp))
    have e : catF (r :: rl) ++ t = frameB r.1 r.2 ++ (catF rl ++ t) := by
      rw [show catF (r :: rl) = frameB r.1 r.2 ++ catF rl from rfl, List.append_assoc]
    simp only [scanF]
    rw [e, hy]
    simp only
    rw [← frameB_length r.1 r.2, List.drop_left, ih (fun x hx => h1 x (by simp [hx])) (fun x hx => h2 x (by simp [hx])) f' (by simp at hf; omega)]
theorem scanB_cat (most : Int) (t : List UInt8) (ht : nextB t most = none) (rl : List (Int × List UInt8)) (h1 : FineR rl) (h2 : ∀ r ∈ rl, (r.2.length : Int) ≤ most) : scanB most (catF rl ++ t) = rl := by
  refine scan_cat most t ht rl h1 h2 _ ?_
  rw [List.length_append, catF_length]
  have := recLen_ge rl
  omega
theorem recLen_take_mono (rl : List (Int × List UInt8)) {i j : Nat} (h : i ≤ j) : recLen (rl.take i) ≤ recLen (rl.take j) := by
  have : rl.take i = (rl.take j).take i := by rw [List.take_take, Nat.min_eq_left h]
  rw [this]
  conv => rhs; rw [← List.take_append_drop i (rl.take j), recLen_app]
  omega
theorem recLen_take_le (rl : List (Int × List UInt8)) (i : Nat) : recLen (rl.take i) ≤ recLen rl := by
  conv => rhs; rw [← List.take_append_drop i rl, recLen_app]
  omega
/-- A cut row of records: whole ones, and a part that is none. -/
theorem cut_cat (most : Int) : ∀ (rl : List (Int × List UInt8)) (k : Nat), FineR rl → k ≤ recLen rl →
    ∃ m t, m ≤ rl.length ∧ recLen (rl.take m) ≤ k ∧ (m < rl.length → k < recLen (rl.take (m + 1))) ∧ (catF rl).take k = catF (rl.take m) ++ t ∧ nextB t most = none := by
  intro rl
  induction rl with
  | nil => intro k _ _; exact ⟨0, [], Nat.le_refl _, by simp [recLen], by simp, by simp [catF], nextB_nil _⟩
  | cons r rl ih =>
    intro k h1 hk
    obtain ⟨a, b, c⟩ := h1 r (by simp)
    have e : catF (r :: rl) = frameB r.1 r.2 ++ catF rl := rfl
    have hl := frameB_length r.1 r.2
    have hr : recLen (r :: rl) = r.2.length + 20 + recLen rl := by simp [recLen]
    by_cases hlt : k < r.2.length + 20
    · refine ⟨0, (frameB r.1 r.2).take k, by simp, by simp [recLen], fun _ => by simp [recLen]; omega, ?_, nextB_cut r.1 r.2 most k a b (by omega) hlt⟩
      rw [e, List.take_append_of_le_length (by omega)]; simp [catF]
    · obtain ⟨m, t, i1, i2, i3, i4, i5⟩ := ih (k - (r.2.length + 20)) (fun x hx => h1 x (by simp [hx])) (by omega)
      refine ⟨m + 1, t, by simpa using i1, ?_, fun h => ?_, ?_, i5⟩
      · simp only [List.take_succ_cons]
        have : recLen (r :: rl.take m) = r.2.length + 20 + recLen (rl.take m) := by simp [recLen]
        omega
      · have := i3 (by simpa using h)
        simp only [List.take_succ_cons]
        have e2 : recLen (r :: rl.take (m + 1)) = r.2.length + 20 + recLen (rl.take (m + 1)) := by simp [recLen]
        omega
      · rw [e, List.take_append, List.take_of_length_le (by omega), hl, i4, List.take_succ_cons]
        rw [show catF (r :: rl.take m) = frameB r.1 r.2 ++ catF (rl.take m) from rfl, List.append_assoc]

def numsR (ps : List (Int × List UInt8)) : List (Int × List UInt8) := ps.map fun x => (x.1 % 4611686018427387904, x.2)
theorem numsR_take (ps : List (Int × List UInt8)) (k : Nat) : (numsR ps).take k = numsR (ps.take k) := by simp [numsR, List.map_take]
theorem numsR_snoc (ps : List (Int × List UInt8)) (k : Nat) (h : k < ps.length) : (numsR ps).take (k + 1) = (numsR ps).take k ++ [(ps[k].1 % 4611686018427387904, ps[k].2)] := by
  rw [List.take_succ_eq_append_getElem (by simpa [numsR] using h)]; simp [numsR]
/-- Where the first k records end. -/
def endsR (rl : List (Int × List UInt8)) (k : Nat) : List Int := (List.range k).map fun i => ((recLen (rl.take (i + 1)) : Nat) : Int)
theorem endsR_length (rl : List (Int × List UInt8)) (k : Nat) : (endsR rl k).length = k := by simp [endsR]
theorem endsR_snoc (rl : List (Int × List UInt8)) (k : Nat) : endsR rl (k + 1) = endsR rl k ++ [((recLen (rl.take (k + 1)) : Nat) : Int)] := by simp [endsR, List.range_succ]
theorem flatten_get2 (css : List (List Value)) (i j : Nat) (hi : i < css.length) (hj : j < 2) (h : ∀ c ∈ css, c.length = 2) : css.flatten[i * 2 + j]? = css[i][j]? := by
  induction css generalizing i with
  | nil => simp at hi
  | cons c css ih =>
    have h0 : c.length = 2 := h c (by simp)
    cases i with
    | zero => simp only [List.flatten_cons, Nat.zero_mul, Nat.zero_add, List.getElem_cons_zero]; rw [List.getElem?_append_left (by omega)]
    | succ i =>
      simp only [List.flatten_cons, List.getElem_cons_succ]
      rw [List.getElem?_append_right (by omega), h0, show (i + 1) * 2 + j - 2 = i * 2 + j by omega]
      exact ih i (by simpa using hi) (fun x hx => h x (by simp [hx]))
/-- The cells of record i, and its payload. -/
theorem RecL.at {w : World} {base : Nat} {v : Value} {rs : List RecV} (h : RecL w base v rs) (hl : 0 < rs.length) : ∃ b cap, v = .slice (some ⟨b, 0, none⟩) rs.length cap ∧
    ∀ i (hi : i < rs.length), ∃ ao c, rs[i].2.1 = .slice ao rs[i].2.2.length c ∧ w.cell? ⟨b, i * 2, none⟩ = some (.int .i64 rs[i].1) ∧ w.cell? ⟨b, i * 2 + 1, none⟩ = some (.slice ao rs[i].2.2.length c) ∧ Bs w (.slice ao rs[i].2.2.length c) rs[i].2.2 := by
  rcases h.1.2 with ⟨rfl, h0⟩ | ⟨g, cap, cur, rfl, _⟩
  · omega
  refine ⟨g, cap, rfl, fun i hi => ?_⟩
  obtain ⟨hb, ao, n, c, hv⟩ := h.2 rs[i] (List.getElem_mem hi)
  have hn : n = rs[i].2.2.length := by
    rw [hv] at hb
    rcases hb.2 with ⟨he, h0⟩ | ⟨_, _, _, he, _⟩
    · injection he with _ hl _; rw [hl, h0]
    · injection he
  subst hn
  have hget : ∀ j, j < 2 → (rs.flatMap recCells)[i * 2 + j]? = (recCells rs[i])[j]? := by
    intro j hj
    have := flatten_get2 (rs.map recCells) i j (by simpa using hi) hj (by intro c hc; obtain ⟨r, -, rfl⟩ := List.mem_map.1 hc; rfl)
    rw [List.flatMap_def]; simpa using this
  have hc := World.ownsRow.cells h.1 (g := g) rfl
  have c0 := hc (i * 2) (.int .i64 rs[i].1) (by have := hget 0 (by decide); simpa [recCells] using this)
  have c1 := hc (i * 2 + 1) rs[i].2.1 (by have := hget 1 (by decide); simpa [recCells] using this)
  have e : ∀ k, (⟨g, 0, none⟩ : Addr).add k = ⟨g, k, none⟩ := by intro k; unfold Addr.add; split <;> simp_all
  rw [e] at c0 c1
  rw [hv] at c1
  refine ⟨ao, c, hv, c0, c1, ?_⟩
  have := hb.bs
  rwa [hv] at this
end Go.Proofs.Ytpoohpmcopjklaa

/- A disk with one segment, as plain data. -/
namespace Go.Proofs.Ytpoohpmcopjklaa
open Go.RowKit

/-- The disk holds one file, s, that reads as L. -/
structure Jd (room : Int) (s : List UInt8) (L : List UInt8) (d : Dsk) : Prop where
  off : d.off = false
  down : d.down = -1
  fail : d.fail = -1
  room : d.room = room
  names : d.names = [(s, 0)]
  files : ∃ n, d.files = [(L, n)]

theorem Jd.opE {room : Int} {s L : List UInt8} {d : Dsk} (h : Jd room s L d) : opE d = 0 := opE_of h.off h.down h.fail
theorem Jd.op {room : Int} {s L : List UInt8} {d : Dsk} (h : Jd room s L d) : Jd room s L (opD d) :=
  ⟨by simp [opD, h.off, h.down], h.down, h.fail, h.room, h.names, h.files⟩
theorem Jd.get {room : Int} {s L : List UInt8} {d : Dsk} (h : Jd room s L d) : nget d.names s = some 0 := by rw [h.names]; unfold nget; simp
theorem Jd.bytes {room : Int} {s L : List UInt8} {d : Dsk} (h : Jd room s L d) : bytesD d s = L := by
  unfold bytesD; rw [h.get]
  obtain ⟨n, hn⟩ := h.files
  rw [hn]; rfl
theorem Jd.size {room : Int} {s L : List UInt8} {d : Dsk} (h : Jd room s L d) : sizeD d = L.length := by
  unfold sizeD
  obtain ⟨n, hn⟩ := h.files
  rw [h.names, hn]; simp
theorem Jd.syncE {room : Int} {s L : List UInt8} {d : Dsk} (h : Jd room s L d) : syncE d s = 0 := by
  unfold Go.Proofs.Ytpoohpmcopjklaa.syncE; rw [h.opE, h.get]; simp
theorem Jd.sync {room : Int} {s L : List UInt8} {d : Dsk} (h : Jd room s L d) : Jd room s L (syncD d s) := by
  unfold syncD
  rw [h.syncE, h.get]
  obtain ⟨n, hn⟩ := h.files
  have ho := h.op
  refine ⟨ho.off, ho.down, ho.fail, ho.room, ho.names, ⟨L.length, ?_⟩⟩
  simp only [ne_eq, not_true_eq_false, if_false, setF, opD, hn]
  simp
theorem Jd.appendE {room : Int} {s L : List UInt8} {d : Dsk} (h : Jd room s L d) (l : List UInt8) (hr : (L.length : Int) + l.length ≤ room) : appendE d s l = 0 := by
  unfold Go.Proofs.Ytpoohpmcopjklaa.appendE
  rw [h.opE, h.get, h.size, h.room]
  simp
  omega
theorem Jd.append {room : Int} {s L : List UInt8} {d : Dsk} (h : Jd room s L d) (l : List UInt8) (hr : (L.length : Int) + l.length ≤ room) : Jd room s (L ++ l) (appendD d s l) := by
  unfold appendD
  rw [h.appendE l hr, h.get]
  obtain ⟨n, hn⟩ := h.files
  have ho := h.op
  refine ⟨ho.off, ho.down, ho.fail, ho.room, ho.names, ⟨n, ?_⟩⟩
  simp only [ne_eq, not_true_eq_false, if_false, setF, opD, hn]
  simp
theorem Jd.writeE {room : Int} {s L : List UInt8} {d : Dsk} (h : Jd room s L d) (l : List UInt8) (hr : (L.length : Int) + l.length ≤ room) : writeE d s l = 0 := by
  unfold Go.Proofs.Ytpoohpmcopjklaa.writeE
  rw [if_pos (h.appendE l hr), (h.append l hr).syncE]
theorem Jd.write {room : Int} {s L : List UInt8} {d : Dsk} (h : Jd room s L d) (l : List UInt8) (hr : (L.length : Int) + l.length ≤ room) : Jd room s (L ++ l) (writeD d s l) := by
  unfold writeD
  rw [if_pos (h.appendE l hr)]
  exact (h.append l hr).sync
theorem ops_writeD (d : Dsk) (s l : List UInt8) : (writeD d s l).ops ≤ d.ops + 2 := by
  unfold writeD
  split
  · rw [ops_sync, ops_append]; omega
  · rw [ops_append]; omega
theorem Jd.bend {room : Int} {s L : List UInt8} {d : Dsk} (h : Jd room s L d) (at_ : Int) (mask : UInt32) : Jd room s (bendB L at_ mask) (bendDsk d s at_ mask) := by
  unfold bendDsk
  rw [h.get]
  obtain ⟨n, hn⟩ := h.files
  refine ⟨h.off, h.down, h.fail, h.room, h.names, ⟨n, ?_⟩⟩
  simp only [setF, hn]
  simp
theorem new_createE (room : Int) {s : List UInt8} (hs : nameD s = true) : createE (newD room) s = 0 := by
  unfold createE
  rw [opE_of rfl rfl rfl]
  simp [hs, newD, nget_nil]
theorem new_create (room : Int) {s : List UInt8} (hs : nameD s = true) (h0 : 0 ≤ room) : Jd room s [] (createD (newD room) s) := by
  have hne : s ≠ [] := by rintro rfl; simp [nameD] at hs
  unfold createD
  rw [new_createE room hs]
  refine ⟨by simp [changeD, opD, newD], rfl, rfl, ?_, ?_, ⟨0, ?_⟩⟩
  · simp [changeD, opD, newD]; omega
  · simp [changeD, opD, newD, turnD, nput, ndel, hne]
  · simp [changeD, opD, newD]
theorem new_beginE (room : Int) {s : List UInt8} (hs : nameD s = true) (h0 : 0 ≤ room) : beginE (newD room) s = 0 := by
  unfold beginE
  rw [if_pos (new_createE room hs)]
  exact (new_create room hs h0).opE
theorem new_begin (room : Int) {s : List UInt8} (hs : nameD s = true) (h0 : 0 ≤ room) : Jd room s [] (beginD (newD room) s) := by
  unfold beginD
  rw [if_pos (new_createE room hs)]
  have h := new_create room hs h0
  unfold dirSyncD
  rw [h.opE]
  have ho := h.op
  exact ⟨ho.off, ho.down, ho.fail, ho.room, ho.names, ho.files⟩
theorem ops_begin (room : Int) {s : List UInt8} (hs : nameD s = true) (h0 : 0 ≤ room) : (beginD (newD room) s).ops = 2 := by
  unfold beginD
  rw [if_pos (new_createE room hs)]
  unfold dirSyncD
  rw [(new_create room hs h0).opE]
  show (createD (newD room) s).ops + 1 = 2
  unfold createD
  rw [new_createE room hs]
  rfl
end Go.Proofs.Ytpoohpmcopjklaa

/- From a row's reading of its arguments to the words of these walks. -/
namespace Go.Proofs.Ytpoohpmcopjklaa
open Go.RowKit

def Row8 (k : IntKind) (w : World) (a : Option Addr) (len cap : Nat) (zs : List Int) : Prop :=
  (a = none ∧ len = 0 ∧ cap = 0 ∧ zs = []) ∨
  ∃ x, a = some x ∧ len ≤ cap ∧ cap ≤ maxLen ∧ zs.length = cap ∧ (∀ i, i < zs.length → w.cell? (x.add i) = some (.int k (zs.getD i 0))) ∧ ∀ n ∈ zs, (Lit.int k n).wf = true

theorem spot_none {w : World} {x : Addr} {v : Value} (h : w.cell? x = some v) : x.spot = none := by
  unfold World.cell? at h
  split at h
  · cases hs : x.spot with
    | none => rfl
    | some s => rw [hs] at h; simp at h
  · simp at h

theorem Row8.rd {k : IntKind} {w : World} {a : Option Addr} {len cap : Nat} {zs : List Int} (h : Row8 k w a len cap zs) : Rd w 1 (.slice a len cap) len ((zs.take len).map (Value.int k)) := by
  rcases h with ⟨rfl, rfl, rfl, rfl⟩ | ⟨x, rfl, hl, hm, hz, hc, -⟩
  · exact ⟨rfl, none, 0, 0, 0, rfl, Nat.le_refl _, by simp [maxLen], fun _ => ⟨rfl, rfl⟩, fun h => absurd h (by omega), fun j u hu => by simp at hu⟩
  · refine ⟨by simp; omega, some x, cap, x.block, x.off, rfl, hl, hm, fun h => by simp at h, fun hp => ?_, fun j u hu => ?_⟩
    · have h0 := hc 0 (by omega)
      have hs := spot_none h0
      have e : x.spot = none := by
        cases x; simpa [Addr.add] using hs
      cases x; simp at e; subst e; rfl
    · have hj : j < len := by
        have := (List.getElem?_eq_some_iff.1 hu).1
        simp at this; omega
      have h1 := hc j (by omega)
      have h0 := hc 0 (by omega)
      have hs : x.spot = none := by
        have := spot_none h0
        cases x; simpa [Addr.add] using this
      have e : x.add j = ⟨x.block, x.off + j, none⟩ := by
        cases x; simp at hs; subst hs; unfold Addr.add; split <;> simp_all
      rw [e] at h1
      rw [h1]
      rw [List.getElem?_map, List.getElem?_take, if_pos hj, List.getElem?_eq_getElem (by omega)] at hu
      simp only [Option.map_some, Option.some.injEq] at hu
      rw [← hu, List.getD_eq_getElem?_getD, List.getElem?_eq_getElem (by omega)]
      rfl

theorem n8_of (z : Int) (h0 : 0 ≤ z) (h1 : z < 256) : n8 (UInt8.ofNat z.toNat) = z := by
  unfold n8
  rw [UInt8.toNat_ofNat', Nat.mod_eq_of_lt (show z.toNat < 2 ^ 8 by omega)]
  omega
theorem wf_u8 {z : Int} (h : (Lit.int .u8 z).wf = true) : 0 ≤ z ∧ z < 256 := by
  simp [Lit.wf, IntKind.min, IntKind.max, IntKind.signed, IntKind.bits] at h
  omega
theorem wf_i64 {z : Int} (h : (Lit.int .i64 z).wf = true) : -9223372036854775808 ≤ z ∧ z ≤ 9223372036854775807 := by
  simp [Lit.wf, IntKind.min, IntKind.max, IntKind.signed, IntKind.bits] at h
  omega
theorem wf_u32 {z : Int} (h : (Lit.int .u32 z).wf = true) : 0 ≤ z ∧ z < 4294967296 := by
  simp [Lit.wf, IntKind.min, IntKind.max, IntKind.signed, IntKind.bits] at h
  omega
theorem wf_u16 {z : Int} (h : (Lit.int .u16 z).wf = true) : 0 ≤ z ∧ z < 65536 := by
  simp [Lit.wf, IntKind.min, IntKind.max, IntKind.signed, IntKind.bits] at h
  omega
theorem Row8.wf {k : IntKind} {w : World} {a : Option Addr} {len cap : Nat} {zs : List Int} (h : Row8 k w a len cap zs) : ∀ n ∈ zs, (Lit.int k n).wf = true := by
  rcases h with ⟨_, _, _, rfl⟩ | ⟨x, _, _, _, _, _, hw⟩
  · simp
  · exact hw
theorem Row8.len {k : IntKind} {w : World} {a : Option Addr} {len cap : Nat} {zs : List Int} (h : Row8 k w a len cap zs) : (zs.take len).length = len := by
  have := h.rd.1; simpa using this

theorem Row8.le {k : IntKind} {w : World} {a : Option Addr} {len cap : Nat} {zs : List Int} (h : Row8 k w a len cap zs) : len ≤ cap := by
  rcases h with ⟨_, rfl, rfl, _⟩ | ⟨x, _, h, _⟩
  · exact Nat.le_refl _
  · exact h
/-- A slice of bytes that came in. -/
theorem Row8.bs {w : World} {a : Option Addr} {len cap : Nat} {zs : List Int} (h : Row8 .u8 w a len cap zs) : ∃ l : List UInt8, l.length = len ∧ Bs w (.slice a len cap) l := by
  refine ⟨(zs.take len).map fun z => UInt8.ofNat z.toNat, by rw [List.length_map]; exact h.len, ?_⟩
  have hr := h.rd
  unfold Bs
  rw [List.length_map, h.len, List.map_map]
  have e : (zs.take len).map (vb ∘ fun z => UInt8.ofNat z.toNat) = (zs.take len).map (Value.int .u8) := by
    apply List.map_congr_left
    intro z hz
    have hb := wf_u8 (h.wf z (List.mem_of_mem_take hz))
    show Value.int .u8 (n8 _) = _
    rw [n8_of z hb.1 hb.2]
  rw [e]
  exact hr
/-- A slice of ints that came in. -/
theorem Row8.fs {w : World} {a : Option Addr} {len cap : Nat} {zs : List Int} (h : Row8 .i64 w a len cap zs) : Fs w (.slice a len cap) (zs.take len) ∧ (zs.take len).length = len ∧ ∀ z ∈ zs.take len, -9223372036854775808 ≤ z ∧ z ≤ 9223372036854775807 := by
  refine ⟨?_, h.len, fun z hz => wf_i64 (h.wf z (List.mem_of_mem_take hz))⟩
  unfold Fs; rw [h.len]; exact h.rd
theorem u32_of {z : Int} (h : (Lit.int .u32 z).wf = true) : ∃ x : UInt32, z = n32 x := by
  have hb := wf_u32 h
  refine ⟨UInt32.ofNat z.toNat, ?_⟩
  unfold n32
  rw [UInt32.toNat_ofNat', Nat.mod_eq_of_lt (show z.toNat < 2 ^ 32 by omega)]
  omega
theorem u8_of {z : Int} (h : (Lit.int .u8 z).wf = true) : ∃ x : UInt8, z = n8 x := by
  have hb := wf_u8 h
  exact ⟨UInt8.ofNat z.toNat, (n8_of z hb.1 hb.2).symm⟩
theorem u16_of {z : Int} (h : (Lit.int .u16 z).wf = true) : ∃ x : UInt16, z = n16 x := by
  have hb := wf_u16 h
  refine ⟨UInt16.ofNat z.toNat, ?_⟩
  unfold n16
  rw [UInt16.toNat_ofNat', Nat.mod_eq_of_lt (show z.toNat < 2 ^ 16 by omega)]
  omega

section
open Go.ChangeShapes Go.WideShapes
variable {H : Type} {enc : TypeId × Value → H} {P : Program} {w : World} {base : Nat} {spare : Nat → Bool} {held : Bool}
theorem okWide_arr {t e : TypeId} {n : Nat} {r : Reach} {b0 : Nat} {v : Value} (ht : P.underlying t = some (.array n e)) (h : Value.okWide P w r b0 t v) : ∃ cs, v = .agg cs ∧ cs.size = P.cellsOf t := by
  simp only [Value.okWide, ht] at h
  obtain ⟨cs, h1, h2, _⟩ := h
  exact ⟨cs, h1, h2⟩
theorem open_arr4 {t e : TypeId} {r : Reach} {b0 : Nat} {v : Value} {d : DataW H} {ps : List MemPlace} (ht : P.underlying t = some (.array 4 e)) (he : P.underlying e = some (.int .u8)) (hC : P.cellsOf e = 1) (hCt : P.cellsOf t = 4)
    (hv : Value.okWide P w r b0 t v) (h : DataW.Trod enc P w base spare held t v d ps) :
    ∃ x0 x1 x2 x3 : UInt8, v = .agg #[.int .u8 (n8 x0), .int .u8 (n8 x1), .int .u8 (n8 x2), .int .u8 (n8 x3)] := by
  obtain ⟨cs, rfl, hsz⟩ := okWide_arr ht hv
  obtain ⟨fuel, hf⟩ := h
  obtain ⟨xs, m, _, hx, hl, hn, hg⟩ := DataW.trod_array ht hf
  simp only [Value.cells] at hl hg
  have one : ∀ i, i < 4 → ∃ x : UInt8, cs.toList[i]? = some (.int .u8 (n8 x)) := by
    intro i hi
    have h1 := hg i hi
    rw [hC, Nat.mul_one] at h1
    have hxi : i < xs.length := by omega
    rw [List.getElem?_eq_getElem hxi] at h1
    obtain ⟨n, hn', _, hw⟩ := DataW.trod_int he h1
    have hb := wf_u8 hw
    refine ⟨UInt8.ofNat n.toNat, ?_⟩
    rw [n8_of n hb.1 hb.2]
    have : (cs.toList.drop i).take 1 = [.int .u8 n] := hn'
    have h2 := congrArg (fun l => l[0]?) this
    simpa using h2
  obtain ⟨x0, e0⟩ := one 0 (by decide)
  obtain ⟨x1, e1⟩ := one 1 (by decide)
  obtain ⟨x2, e2⟩ := one 2 (by decide)
  obtain ⟨x3, e3⟩ := one 3 (by decide)
  refine ⟨x0, x1, x2, x3, ?_⟩
  have hlen : cs.toList.length = 4 := by rw [hl, hCt]
  congr 1
  apply Array.toList_inj.1
  apply List.ext_getElem?
  intro i
  rcases Nat.lt_or_ge i 4 with hi | hi
  · have : i = 0 ∨ i = 1 ∨ i = 2 ∨ i = 3 := by omega
    rcases this with rfl | rfl | rfl | rfl
    · rw [e0]; rfl
    · rw [e1]; rfl
    · rw [e2]; rfl
    · rw [e3]; rfl
  · rw [List.getElem?_eq_none (by omega), List.getElem?_eq_none (by simpa using hi)]
end
end Go.Proofs.Ytpoohpmcopjklaa

/- Reading arguments with depth: structs and slices of structs. -/
namespace Go.Proofs.Ytpoohpmcopjklaa
open Go.RowKit Go.ChangeShapes Go.WideShapes

/-- v is a slice whose elements, of 'size' cells each, read as l. -/
def Rds {α : Type} (E : World → α → List Value → Prop) (size : Nat) (w : World) (v : Value) (l : List α) : Prop :=
  ∃ css : List (List Value), css.length = l.length ∧ (∀ i (h : i < l.length) (h' : i < css.length), E w l[i] css[i] ∧ css[i].length = size) ∧ Rd w size v l.length css.flatten
theorem Rds.form {α : Type} {E : World → α → List Value → Prop} {size : Nat} {w : World} {v : Value} {l : List α} (h : Rds E size w v l) : ∃ ao c, v = .slice ao l.length c := by
  obtain ⟨_, _, _, _, ao, cap, b, off, rfl, _⟩ := h
  exact ⟨ao, cap, rfl⟩
theorem Rds.k {α : Type} {E : World → α → List Value → Prop} {size : Nat} {w w' : World} {v : Value} {l : List α} (h : Rds E size w v l) (hE : ∀ a c, E w a c → E w' a c) (hc : Chg [] w w') : Rds E size w' v l := by
  obtain ⟨css, h1, h2, h3⟩ := h
  exact ⟨css, h1, fun i h h' => ⟨hE _ _ (h2 i h h').1, (h2 i h h').2⟩, Rd.keep h3 hc (by simp)⟩
theorem flatten_get {css : List (List Value)} {size : Nat} (h : ∀ i (h' : i < css.length), css[i].length = size) (i j : Nat) (hi : i < css.length) (hj : j < size) : css.flatten[i * size + j]? = css[i][j]? := by
  induction css generalizing i with
  | nil => simp at hi
  | cons c css ih =>
    have h0 : c.length = size := h 0 (by simp)
    cases i with
    | zero => simp only [List.flatten_cons, Nat.zero_mul, Nat.zero_add, List.getElem_cons_zero]; rw [List.getElem?_append_left (by omega)]
    | succ i =>
      simp only [List.flatten_cons, List.getElem_cons_succ]
      rw [List.getElem?_append_right (by rw [h0]; rw [Nat.succ_mul]; omega), h0, show (i + 1) * size + j - size = i * size + j by rw [Nat.succ_mul]; omega]
      exact ih (fun k hk => h (k + 1) (by simpa using hk)) i (by simpa using hi)
theorem flatten_len {css : List (List Value)} {size : Nat} (h : ∀ c ∈ css, c.length = size) : css.flatten.length = css.length * size := by
  induction css with
  | nil => simp
  | cons c css ih => simp only [List.flatten_cons, List.length_append, List.length_cons]; rw [h c (by simp), ih (fun x hx => h x (by simp [hx])), Nat.succ_mul]; omega
/-- The cells of element i. -/
theorem Rds.at {α : Type} {E : World → α → List Value → Prop} {size : Nat} {w : World} {v : Value} {l : List α} (h : Rds E size w v l) (hl : 0 < l.length) : ∃ b off cap, v = .slice (some ⟨b, off, none⟩) l.length cap ∧ l.length ≤ cap ∧ cap ≤ maxLen ∧
    ∀ i (hi : i < l.length), ∃ c, E w l[i] c ∧ c.length = size ∧ ∀ j, j < size → w.cell? ⟨b, off + i * size + j, none⟩ = c[j]? := by
  obtain ⟨css, h1, h2, h0, ao, cap, b, off, rfl, h3, h4, h5, h6, h7⟩ := h
  obtain rfl := h6 hl
  refine ⟨b, off, cap, rfl, h3, h4, fun i hi => ⟨css[i]'(by omega), (h2 i hi (by omega)).1, (h2 i hi (by omega)).2, fun j hj => ?_⟩⟩
  have hg := flatten_get (size := size) (fun i h' => (h2 i (by omega) h').2) i j (by omega) hj
  have hlen : j < (css[i]'(by omega)).length := by rw [(h2 i hi (by omega)).2]; exact hj
  rw [List.getElem?_eq_getElem hlen] at hg ⊢
  rw [Nat.add_assoc]
  exact h7 _ _ hg

section
variable {H : Type} {enc : TypeId × Value → H} {P : Program} {w : World} {base : Nat} {spare : Nat → Bool} {held : Bool}
/-- A slice that is read, whatever its elements. -/
theorem trod_rdsW {α : Type} {t e : TypeId} {size fuel : Nat} {cs : List Value} {x : DataW H × List MemPlace} (E : World → α → List Value → Prop) (Pw : DataW H → Prop) (ht : P.underlying t = some (.slice e)) (hC : P.cellsOf e = size) (hpos : 0 < size)
    (hP : ∀ es sp, x.1 = .slice es sp → ∀ y ∈ es, Pw y)
    (hE : ∀ n cs x, DataW.trod enc P w base spare held n e cs = some x → Pw x.1 → cs.length = size → ∃ a : α, E w a cs) (h : DataW.trod enc P w base spare held fuel t cs = some x) : ∃ v l, cs = [v] ∧ Rds E size w v l ∧ ((x.1 = .nil ∧ l = []) ∨ ∃ es sp, x.1 = .slice es sp ∧ es.length = l.length) := by
  rcases DataW.trod_slice ht h with ⟨rfl, rfl⟩ | ⟨a, len, cap, elems, rest, n, _, rfl, rfl, hb, hl, hm, hlen, hel, -, -⟩
  · exact ⟨_, [], rfl, ⟨[], rfl, by simp, by simp, none, 0, 0, 0, rfl, by simp, by simp [maxLen], by simp, by simp, by simp⟩, .inl ⟨rfl, rfl⟩⟩
  · have each : ∀ i, i < len → ∃ c, w.cells? base (a.add (i * size)) size = some c ∧ ∃ y : α, E w y c := by
      intro i hi
      have h1 := hel i hi
      rw [hC, List.getElem?_eq_getElem (by omega), Option.bind_eq_some_iff] at h1
      obtain ⟨c, hc, hy⟩ := h1
      exact ⟨c, hc, hE n c _ hy (hP _ _ rfl _ (List.mem_map.2 ⟨_, List.getElem_mem (by omega), rfl⟩)) (World.cells?_some hc).2.1⟩
    have hsp : 0 < len → a.spot = none := by
      intro hp
      obtain ⟨c, hc, -⟩ := each 0 hp
      have h0 := (World.cells?_some hc).2.2
      rw [Nat.zero_mul] at h0
      have hcl := (World.cells?_some hc).2.1
      have h00 := h0 0 (by omega)
      have := spot_none (h00.trans (List.getElem?_eq_getElem (by omega)))
      cases a; simpa [Addr.add] using this
    obtain ⟨f, hf⟩ : ∃ f : Nat → List Value × Option α, ∀ i, i < len → w.cells? base (a.add (i * size)) size = some (f i).1 ∧ ∃ y, (f i).2 = some y ∧ E w y (f i).1 := by
      refine ⟨fun i => if hi : i < len then (Classical.choose (each i hi), some (Classical.choose (Classical.choose_spec (each i hi)).2)) else ([], none), fun i hi => ?_⟩
      simp only [dif_pos hi]
      exact ⟨(Classical.choose_spec (each i hi)).1, _, rfl, Classical.choose_spec (Classical.choose_spec (each i hi)).2⟩
    obtain ⟨g, hg⟩ : ∃ l : List α, l.length = len ∧ ∀ i (h : i < l.length), (f i).2 = some l[i] := by
      have : ∀ k, k ≤ len → ∃ l : List α, l.length = k ∧ ∀ i (h : i < l.length), (f i).2 = some l[i] := by
        intro k
        induction k with
        | zero => intro _; exact ⟨[], rfl, by simp⟩
        | succ k ih =>
          intro hk
          obtain ⟨l, hl1, hl2⟩ := ih (by omega)
          obtain ⟨-, y, hy, -⟩ := hf k (by omega)
          refine ⟨l ++ [y], by simp [hl1], fun i hi => ?_⟩
          by_cases hik : i < l.length
          · rw [List.getElem_append_left hik]; exact hl2 i hik
          · have : i = k := by simp at hi; omega
            subst this
            rw [List.getElem_append_right (by omega)]
            simpa using hy
      exact this len (Nat.le_refl _)
    obtain ⟨hgl, hg⟩ := hg
    have hcl : ∀ i, i < len → (f i).1.length = size := fun i hi => (World.cells?_some (hf i hi).1).2.1
    refine ⟨_, g, rfl, ⟨(List.range len).map fun i => (f i).1, by simp [hgl], fun i hi h' => ?_, ?_, some a, cap, a.block, a.off, by rw [hgl], by omega, hm, by simp, fun hp => ?_, fun j u hu => ?_⟩, .inr ⟨_, _, rfl, by simp [hlen, hgl]⟩⟩
    · simp only [List.getElem_map, List.getElem_range]
      obtain ⟨-, y, hy, hE'⟩ := hf i (by omega)
      have := hg i hi
      rw [hy] at this
      simp only [Option.some.injEq] at this
      subst this
      exact ⟨hE', hcl i (by omega)⟩
    · rw [flatten_len (size := size) (by intro c hc; obtain ⟨i, hi, rfl⟩ := List.mem_map.1 hc; exact hcl i (by simpa using hi)), hgl]; simp
    · have := hsp (by omega)
      cases a; simp at this; subst this; rfl
    · have hj : j < len * size := by
        have h1 := (List.getElem?_eq_some_iff.1 hu).1
        rw [flatten_len (size := size) (by intro c hc; obtain ⟨i, hi, rfl⟩ := List.mem_map.1 hc; exact hcl i (by simpa using hi))] at h1
        simpa using h1
      have hi : j / size < len := (Nat.div_lt_iff_lt_mul hpos).2 hj
      have hr : j % size < size := Nat.mod_lt _ hpos
      have hjd : j = j / size * size + j % size := by rw [Nat.mul_comm]; exact (Nat.div_add_mod j size).symm
      have hfl := flatten_get (css := (List.range len).map fun i => (f i).1) (size := size) (fun i h' => by simp at h' ⊢; exact hcl i h') (j / size) (j % size) (by simpa using hi) hr
      rw [← hjd, hu] at hfl
      simp only [List.getElem_map, List.getElem_range] at hfl
      have h0 := (World.cells?_some (hf _ hi).1).2.2 (j % size) hr
      rw [← hfl] at h0
      have hsp' := hsp (Nat.lt_of_le_of_lt (Nat.zero_le _) hi)
      have e : ∀ k1 k2, (a.add k1).add k2 = ⟨a.block, a.off + (k1 + k2), none⟩ := by
        intro k1 k2
        obtain ⟨b, o, s⟩ := a
        simp at hsp'
        subst hsp'
        unfold Addr.add
        by_cases h1 : k1 = 0 <;> by_cases h2 : k2 = 0 <;> simp [h1, h2, Nat.add_assoc]
      rw [e, ← hjd] at h0
      exact h0
theorem trod_i64 {t : TypeId} {fuel : Nat} {cs : List Value} {x : DataW H × List MemPlace} (ht : P.underlying t = some (.int .i64)) (h : DataW.trod enc P w base spare held fuel t cs = some x) : ∃ n, cs = [.int .i64 n] ∧ -9223372036854775808 ≤ n ∧ n ≤ 9223372036854775807 := by
  obtain ⟨n, rfl, _, hw⟩ := DataW.trod_int ht h
  exact ⟨n, rfl, wf_i64 hw⟩
def EByte (_ : World) (x : UInt8) (c : List Value) : Prop := c = [vb x]
theorem rds_bs {v : Value} {l : List UInt8} (h : Rds EByte 1 w v l) : Bs w v l := by
  obtain ⟨css, h1, h2, h3⟩ := h
  have : css.flatten = l.map vb := by
    have hcss : css = l.map fun x => [vb x] := by
      apply List.ext_getElem
      · simp [h1]
      · intro i a b
        simp only [List.getElem_map]
        exact (h2 i (by simpa using b) a).1
    rw [hcss]
    clear h1 h2 h3 hcss
    induction l with
    | nil => rfl
    | cons x l ih => simp only [List.map_cons, List.flatten_cons, ih]; rfl
  unfold Bs
  rw [← this]; exact h3
/-- A slice that is read, whatever its elements. -/
theorem trod_rds {α : Type} {t e : TypeId} {size fuel : Nat} {cs : List Value} {x : DataW H × List MemPlace} (E : World → α → List Value → Prop) (ht : P.underlying t = some (.slice e)) (hC : P.cellsOf e = size) (hpos : 0 < size)
    (hE : ∀ n cs x, DataW.trod enc P w base spare held n e cs = some x → cs.length = size → ∃ a : α, E w a cs) (h : DataW.trod enc P w base spare held fuel t cs = some x) : ∃ v l, cs = [v] ∧ Rds E size w v l := by
  obtain ⟨v, l, h1, h2, -⟩ := trod_rdsW E (fun _ => True) ht hC hpos (fun _ _ _ _ _ => trivial) (fun n cs x hx _ hl => hE n cs x hx hl) h
  exact ⟨v, l, h1, h2⟩
end
/-- A slice of bytes that is read. -/
theorem trod_bytes {H : Type} {enc : TypeId × Value → H} {w : World} {base : Nat} {spare : Nat → Bool} {held : Bool} {fuel : Nat} {cs : List Value} {x : DataW H × List MemPlace} (h : DataW.trod enc Try.prog w base spare held fuel 30 cs = some x) : ∃ v l, cs = [v] ∧ Bs w v l := by
  obtain ⟨v, l, h1, h2⟩ := trod_rds (size := 1) EByte undBytes (by kernel_rfl) (by decide) (fun n cs x hx _ => by
    obtain ⟨z, rfl, _, hw⟩ := DataW.trod_int undByte hx
    have hb := wf_u8 hw
    exact ⟨UInt8.ofNat z.toNat, by unfold EByte vb; rw [n8_of z hb.1 hb.2]⟩) h
  exact ⟨v, l, h1, rds_bs h2⟩
/-- .. with how long it is. -/
theorem trod_bytesW {H : Type} {enc : TypeId × Value → H} {w : World} {base : Nat} {spare : Nat → Bool} {held : Bool} {fuel : Nat} {cs : List Value} {x : DataW H × List MemPlace} (h : DataW.trod enc Try.prog w base spare held fuel 30 cs = some x)
    (hw : ∀ m ∈ x.1.weights Try.prog 30, m ≤ reachBytes) : ∃ v l, cs = [v] ∧ Bs w v l ∧ l.length ≤ 140737488351232 := by
  obtain ⟨v, l, h1, h2, h3⟩ := trod_rdsW (size := 1) EByte (fun _ => True) undBytes (by kernel_rfl) (by decide) (fun _ _ _ _ _ => trivial) (fun n cs x hx _ _ => by
    obtain ⟨z, rfl, _, hw⟩ := DataW.trod_int undByte hx
    have hb := wf_u8 hw
    exact ⟨UInt8.ofNat z.toNat, by unfold EByte vb; rw [n8_of z hb.1 hb.2]⟩) h
  refine ⟨v, l, h1, rds_bs h2, ?_⟩
  rcases h3 with ⟨-, rfl⟩ | ⟨es, sp, he, hl⟩
  · simp
  · have := hw ((es.length + sp.length) * Try.prog.bytesOf 5) (by rw [he]; simp [DataW.weights])
    rw [show Try.prog.bytesOf 5 = 1 by kernel_rfl] at this
    have hr : reachBytes = 140737488351232 := by decide
    omega
end Go.Proofs.Ytpoohpmcopjklaa

/- bagatellelaw19.Part as it is read. -/
namespace Go.Proofs.Ytpoohpmcopjklaa
open Go.RowKit Go.ChangeShapes Go.WideShapes

/-- A part's cells: its number, its bytes. -/
def EPart (w : World) (x : Int × List UInt8) (c : List Value) : Prop := ∃ v, c = [.int .i64 x.1, v] ∧ Bs w v x.2 ∧ -9223372036854775808 ≤ x.1 ∧ x.1 ≤ 9223372036854775807 ∧ x.2.length ≤ 140737488351232
theorem EPart.k {w w' : World} {x : Int × List UInt8} {c : List Value} (h : EPart w x c) (hc : Chg [] w w') : EPart w' x c := by
  obtain ⟨v, h1, h2, h3⟩ := h
  exact ⟨v, h1, h2.k hc, h3⟩
section
variable {H : Type} {enc : TypeId × Value → H} {w : World} {base : Nat} {spare : Nat → Bool} {held : Bool}
theorem trod_part19 {fuel : Nat} {cs : List Value} {x : DataW H × List MemPlace} (h : DataW.trod enc Try.prog w base spare held fuel 32 cs = some x) (hw : ∀ m ∈ x.1.weights Try.prog 32, m ≤ reachBytes) : ∃ y, EPart w y cs := by
  obtain ⟨y0, y1, n, rfl, hl, h0, h1⟩ := trod_struct2 Try.underlying32 h
  rw [show Try.prog.cellsOf 32 = 2 by kernel_rfl] at hl
  simp only [show Try.prog.cellsOf 3 = 1 by kernel_rfl, show Try.prog.cellsOf 30 = 1 by kernel_rfl] at h0 h1
  obtain ⟨a, ha, lo, hi⟩ := trod_i64 (by kernel_rfl) h0
  obtain ⟨v, l, hv, hb, hll⟩ := trod_bytesW h1 (fun m hm => hw m (by
    simp only [DataW.weights, Try.underlying32, List.map_cons, List.map_nil, DataW.weightsEach, List.mem_append]
    exact .inr (.inl hm)))
  match cs, hl with
  | [c0, c1], _ =>
    simp at ha hv
    subst ha; subst hv
    exact ⟨(a, l), c1, rfl, hb, lo, hi, hll⟩
theorem open_parts19 {v : Value} {d : DataW H} {ps : List MemPlace} (h : DataW.Trod enc Try.prog w base spare held 22 v d ps) (hs : v.cells = #[v]) (hw : ∀ m ∈ d.weights Try.prog 22, m ≤ reachBytes) : ∃ l, Rds EPart 2 w v l := by
  obtain ⟨fuel, hf⟩ := h
  obtain ⟨u, l, hc, hr, -⟩ := trod_rdsW (size := 2) EPart (fun y => ∀ m ∈ y.weights Try.prog 32, m ≤ reachBytes) Try.underlying22 (by kernel_rfl) (by decide)
    (fun es sp he y hy m hm => hw m (by
      have he2 : d = .slice es sp := he
      rw [he2]
      simp only [DataW.weights, Try.underlying22, List.mem_cons, List.mem_append]
      refine .inr (.inl ?_)
      clear he2 he
      induction es with
      | nil => cases hy
      | cons e es ih =>
        simp only [DataW.weightsAll, List.mem_append]
        rcases List.mem_cons.1 hy with rfl | hy
        · exact .inl hm
        · exact .inr (ih hy)))
    (fun n cs x hx hp _ => trod_part19 hx hp) hf
  rw [hs] at hc
  obtain rfl : v = u := by simpa using hc
  exact ⟨l, hr⟩
end
end Go.Proofs.Ytpoohpmcopjklaa

/- disk.New. -/
namespace Go.Proofs.Ytpoohpmcopjklaa
open Go.RowKit

theorem GoodD.new {room : Int} (hr : room ≤ 9223372036854775807) : GoodD (newD room) := by
  refine ⟨⟨by simp [newD]; omega, by simp [newD]; omega⟩, ?_, ?_, ?_, ?_, ?_, ⟨by simp [newD], by simp [newD]⟩, by simp [newD], by simp [newD], by simp [newD], ?_⟩ <;> simp [newD]
def newCells (w : World) (r : Int) : Array Value := #[.int .i64 r, .slice none 0 0, .map (some w.heap.size), .map (some (w.heap.size + 1)), .slice none 0 0, .int .i64 0, .int .i64 (-1), .int .i64 (-1), .bool false]
def newW (w : World) (r : Int) : World := ((w.alloc (.map #[] 0)).alloc (.map #[] 0)).alloc (.cells (newCells w r) 85)
theorem newW_dk (w : World) (room : Int) (hr : room ≤ 9223372036854775807) : Dk (newW w (max room 0)) [w.heap.size, w.heap.size + 1, w.heap.size + 2] (w.heap.size + 2) (newD room) := by
  have h1 := MapAt.new w
  have h2 := MapAt.new (w.alloc (.map #[] 0))
  have e1 : (w.alloc (.map #[] 0)).heap.size = w.heap.size + 1 := by simp
  have e2 : ((w.alloc (.map #[] 0)).alloc (.map #[] 0)).heap.size = w.heap.size + 2 := by simp
  have h3 := Blk.new ((w.alloc (.map #[] 0)).alloc (.map #[] 0)) (newCells w (max room 0)) 85
  rw [e1] at h2
  rw [e2] at h3
  refine ⟨.slice none 0 0, .slice none 0 0, w.heap.size, w.heap.size + 1, [], ?_⟩
  exact
  { box := h3
    names := (h1.alloc _).alloc _
    sure := h2.alloc _
    files := World.ownsRow_nil _ _ _ _
    same := rfl
    changes := World.ownsRow_nil _ _ _ _
    bytes := by simp
    apart := List.Pairwise.nil
    ne := by omega
    fpb := by simp
    fpn := by simp
    fps := by simp
    fpf := by simp [Value.ownBlock]
    fpc := by simp [Value.ownBlock]
    fph := by simp
    fpl := by
      intro k hk
      have e : (newW w (max room 0)).heap.size = w.heap.size + 3 := by simp [newW]
      rw [e]
      simp at hk
      omega
    good := GoodD.new hr }
theorem newW_chg (w : World) (r : Int) : Chg [] w (newW w r) := (((Chg.refl [] w).alloc _).alloc _).alloc _

def NewOut (w : World) (d : Dsk) (e : Ending) (w' : World) : Prop := ∃ b fp, e = .returned (.pointer (some ⟨b, 0, none⟩)) ∧ Dk w' fp b d ∧ Chg [] w w' ∧ ∀ k ∈ fp, w.heap.size ≤ k
set_option maxHeartbeats 400000 in
theorem DNew_any (w : World) (room : Int) (hr : room ≤ 9223372036854775807) : Calls Try.prog 14 #[.int .i64 room] w (NewOut w (newD room)) := by
  have hd0 := newW_dk w room hr
  have hc0 := newW_chg w (max room 0)
  have hfp : ∀ k ∈ [w.heap.size, w.heap.size + 1, w.heap.size + 2], w.heap.size ≤ k := by
    intro k hk
    simp at hk
    omega
  have hfin : NewOut w (newD room) (.returned (.pointer (some ⟨w.heap.size + 2, 0, none⟩))) (newW w (max room 0)) := ⟨_, _, rfl, hd0, hc0, hfp⟩
  clear hd0 hc0 hfp
  have hmm := @run_makeMap Try.prog
  by_cases h0 : room < 0
  · have hm : max room 0 = 0 := by omega
    rw [hm] at hfin
    go_enter Try.func14, Try.ntmps14
    go_wp2_with fail
    refine bodyPost_ret (v := .pointer (some ⟨w.heap.size + 2, 0, none⟩)) ?_ rfl hfin
    simp only [results]; go_simp
  · have hm : max room 0 = room := by omega
    rw [hm] at hfin
    go_enter Try.func14, Try.ntmps14
    go_wp2_with fail
    refine bodyPost_ret (v := .pointer (some ⟨w.heap.size + 2, 0, none⟩)) ?_ rfl hfin
    simp only [results]; go_simp
end Go.Proofs.Ytpoohpmcopjklaa
