/- Words and walks that Apart rests on: RegKit, Vec, ShapeMath, LawKit, ReadKit, Flat, Shape, PackT, PackP. -/
import Derived.Test.YtpadflhffiiglaaGreatWApart1
import Derived.OrdersHeld
import Derived.Deep.RegionHeld
import Derived.Test.YtpadflhffiiglaaGreatWApart2
import Derived.Deep.Cut
import Derived.ProofKit
import Derived.OpenShut
import Derived.ChangeOld
import Derived.WalkMore
import Derived.Laws.StructEq
/- A region that draws its order, met by one order: laws on listed operations, with every computed part a literal. -/
namespace Go.Proofs.YtpadflhffiiglaaGreat
open Go.RowKit

def listAt {α : Type} : List α → Nat → Option α
  | [], _ => none
  | x :: _, 0 => some x
  | _ :: l, n + 1 => listAt l n
theorem listAt_eq {α : Type} (l : List α) : ∀ i, l.toArray[i]? = listAt l i := by
  intro i
  rw [List.getElem?_toArray]
  induction l generalizing i with
  | nil => rfl
  | cons x l ih => cases i with
    | zero => rfl
    | succ i => simpa [listAt] using ih i
def takeOk (ops : Array Oper) (L : Array Bool) (i : Nat) (L' : Array Bool) : Bool :=
  Region.noSelect ops && (Region.free .any ops L i && ((Region.ready .any ops L).contains i && decide (L.setIfInBounds i true = L')))
def runOk (ops : Array Oper) (L : Array Bool) (i : Nat) (L' : Array Bool) : Bool :=
  decide (Region.ready .any ops L = [i]) && decide (L.setIfInBounds i true = L')
def startOk (ops : Array Oper) (n : Nat) (L : Array Bool) : Bool := decide (ops.size = n) && decide (Array.replicate n false = L)
section
variable {P : Program} {l : List Oper} {Q : Exit → Act → World → Prop} {S : World → Prop} {n : Nat} {L L' : Array Bool} {a : Act} {w : World} {i : Nat} {o : Oper}

theorem anyH_start {id : Nat} (hok : startOk l.toArray n L = true) (hm : P.follows .mixedOrders = true) (hS : S w.drew) (h : S w.drew → wpAnyH P .any l.toArray Q S n L a w.drew) : (Code.region id l.toArray true).wp P Q a w := by
  simp only [startOk, Bool.and_eq_true, decide_eq_true_eq] at hok
  obtain ⟨rfl, rfl⟩ := hok
  exact wp_region_held_drew hm hS h
theorem anyH_take {d : Tmp} {v : Value} (hi : listAt l i = some o) (hd : o.dst = some d) (hok : takeOk l.toArray L i L' = true) (hQ : ∀ c a w, Q (.panic c) (a.put (some d) v) w → Q (.panic c) a w)
    (hw : Region.wanted o (yielded l.toArray a.tmps) = true) (hy : ∀ w, S w → (execOp a.eval o).run P w = .ok (.value v) w) (hS : S w) (h : wpAnyH P .any l.toArray Q S n L' (a.put (some d) v) w) : wpAnyH P .any l.toArray Q S (n + 1) L a w := by
  simp only [takeOk, Bool.and_eq_true, decide_eq_true_eq] at hok
  obtain ⟨h1, h2, h3, rfl⟩ := hok
  refine wpAnyH_take (i := i) (oi := o) (v := v) (by rw [listAt_eq]; exact hi) h1 h2 h3 (by rw [hd]; exact hQ) (.inl ⟨hw, hy⟩) hS ?_
  rw [hd]; exact h
theorem anyH_run (hi : listAt l i = some o) (hok : runOk l.toArray L i L' = true) (hw : Region.wanted o (yielded l.toArray a.tmps) = true)
    (h : ∀ K : Act → World → Prop, Shut (∀ a w, S w → (S w → wpAnyH P .any l.toArray Q S n L' a w) → K a w) → Oper.wp P o a w K Q) : wpAnyH P .any l.toArray Q S (n + 1) L a w := by
  simp only [runOk, Bool.and_eq_true, decide_eq_true_eq] at hok
  obtain ⟨h1, rfl⟩ := hok
  refine wpAnyH_ready (rs := [i]) h1 (by simp) (AllReadyH.cons (o := o) (by rw [listAt_eq]; exact hi) (fun K hK => ?_) AllReadyH.nil)
  rw [if_pos hw]
  exact h K hK
def runOk2 (ops : Array Oper) (L : Array Bool) (i j : Nat) (L1 L2 : Array Bool) : Bool :=
  decide (Region.ready .any ops L = [i, j]) && (decide (L.setIfInBounds i true = L1) && decide (L.setIfInBounds j true = L2))
/-- Two operations can come up: both ways. -/
theorem anyH_run2 {j : Nat} {o2 : Oper} {L1 L2 : Array Bool} (hi : listAt l i = some o) (hj : listAt l j = some o2) (hok : runOk2 l.toArray L i j L1 L2 = true) (hw : Region.wanted o (yielded l.toArray a.tmps) = true) (hw2 : Region.wanted o2 (yielded l.toArray a.tmps) = true)
    (h : ∀ K : Act → World → Prop, Shut (∀ a w, S w → (S w → wpAnyH P .any l.toArray Q S n L1 a w) → K a w) → Oper.wp P o a w K Q)
    (h2 : ∀ K : Act → World → Prop, Shut (∀ a w, S w → (S w → wpAnyH P .any l.toArray Q S n L2 a w) → K a w) → Oper.wp P o2 a w K Q) : wpAnyH P .any l.toArray Q S (n + 1) L a w := by
  simp only [runOk2, Bool.and_eq_true, decide_eq_true_eq] at hok
  obtain ⟨h1, rfl, rfl⟩ := hok
  refine wpAnyH_ready (rs := [i, j]) h1 (by simp) (AllReadyH.cons (o := o) (by rw [listAt_eq]; exact hi) (fun K hK => ?_) (AllReadyH.cons (o := o2) (by rw [listAt_eq]; exact hj) (fun K hK => ?_) AllReadyH.nil))
  · rw [if_pos hw]; exact h K hK
  · rw [if_pos hw2]; exact h2 K hK
def runOk3 (ops : Array Oper) (L : Array Bool) (i j k : Nat) (L1 L2 L3 : Array Bool) : Bool :=
  decide (Region.ready .any ops L = [i, j, k]) && (decide (L.setIfInBounds i true = L1) && (decide (L.setIfInBounds j true = L2) && decide (L.setIfInBounds k true = L3)))
/-- Three operations can come up: all ways. -/
theorem anyH_run3 {j k : Nat} {o2 o3 : Oper} {L1 L2 L3 : Array Bool} (hi : listAt l i = some o) (hj : listAt l j = some o2) (hk : listAt l k = some o3) (hok : runOk3 l.toArray L i j k L1 L2 L3 = true) (hw : Region.wanted o (yielded l.toArray a.tmps) = true) (hw2 : Region.wanted o2 (yielded l.toArray a.tmps) = true) (hw3 : Region.wanted o3 (yielded l.toArray a.tmps) = true)
    (h : ∀ K : Act → World → Prop, Shut (∀ a w, S w → (S w → wpAnyH P .any l.toArray Q S n L1 a w) → K a w) → Oper.wp P o a w K Q)
    (h2 : ∀ K : Act → World → Prop, Shut (∀ a w, S w → (S w → wpAnyH P .any l.toArray Q S n L2 a w) → K a w) → Oper.wp P o2 a w K Q)
    (h3 : ∀ K : Act → World → Prop, Shut (∀ a w, S w → (S w → wpAnyH P .any l.toArray Q S n L3 a w) → K a w) → Oper.wp P o3 a w K Q) : wpAnyH P .any l.toArray Q S (n + 1) L a w := by
  simp only [runOk3, Bool.and_eq_true, decide_eq_true_eq] at hok
  obtain ⟨h1, rfl, rfl, rfl⟩ := hok
  refine wpAnyH_ready (rs := [i, j, k]) h1 (by simp) (AllReadyH.cons (o := o) (by rw [listAt_eq]; exact hi) (fun K hK => ?_) (AllReadyH.cons (o := o2) (by rw [listAt_eq]; exact hj) (fun K hK => ?_) (AllReadyH.cons (o := o3) (by rw [listAt_eq]; exact hk) (fun K hK => ?_) AllReadyH.nil)))
  · rw [if_pos hw]; exact h K hK
  · rw [if_pos hw2]; exact h2 K hK
  · rw [if_pos hw3]; exact h3 K hK
end
end Go.Proofs.YtpadflhffiiglaaGreat

/- Package vec: differences, areas. -/
namespace Go.Proofs.YtpadflhffiiglaaGreat
open Go.RowKit

abbrev V2 := Int × Int
def vV (a : V2) : Value := .agg #[.int .i64 a.1, .int .i64 a.2]
def IV (a : V2) : Prop := I64 a.1 ∧ I64 a.2
def subV (a b : V2) : V2 := (subF a.1 b.1, subF a.2 b.2)
def crossV (a b : V2) : Int := subF (mulF a.1 b.2) (mulF a.2 b.1)
theorem subV_i (a b : V2) : IV (subV a b) := ⟨(subF_s _ _).i, (subF_s _ _).i⟩
theorem crossV_s (a b : V2) : S64 (crossV a b) := subF_s _ _
/-- Two boxes of two cells each, just laid. -/
theorem two_boxes (w : World) (t1 t2 : TypeId) (a b c d : Value) : ∀ wx, Chg [] ((w.alloc (.cells #[a, b] t1)).alloc (.cells #[c, d] t2)) wx →
    wx.cell? ⟨w.heap.size, 0, none⟩ = some a ∧ wx.cell? ⟨w.heap.size, 1, none⟩ = some b ∧ wx.cell? ⟨w.heap.size + 1, 0, none⟩ = some c ∧ wx.cell? ⟨w.heap.size + 1, 1, none⟩ = some d := by
  intro wx hx
  have k1 := (Blk.new w #[a, b] t1).alloc (.cells #[c, d] t2)
  have k2 := Blk.new (w.alloc (.cells #[a, b] t1)) #[c, d] t2
  rw [show (w.alloc (.cells #[a, b] t1)).heap.size = w.heap.size + 1 by simp] at k2
  exact ⟨hx.cellS (k1.cell 0), hx.cellS (k1.cell 1), hx.cellS (k2.cell 0), hx.cellS (k2.cell 1)⟩

set_option maxHeartbeats 4000000 in
theorem Cross_any (a b : V2) (ha : IV a) (hb : IV b) (w : World) : Calls Tryz.prog 136 #[vV a, vV b] w fun e w' => e = .returned (.int .i64 (crossV a b)) ∧ Chg [] w w' := by
  obtain ⟨ax, ay⟩ := a
  obtain ⟨bx, bY⟩ := b
  obtain ⟨h1, h2⟩ := ha
  obtain ⟨h3, h4⟩ := hb
  have hc1 := fun W => Mul_any ax bY h1 h4 W
  have hc2 := fun W => Mul_any ay bx h2 h3 W
  have hc3 := fun W => FSub_any (mulF ax bY) (mulF ay bx) (mulF_s _ _).i (mulF_s _ _).i W
  unfold crossV vV
  simp only at h1 h2 h3 h4 ⊢
  generalize subF (mulF ax bY) (mulF ay bx) = z at *
  generalize mulF ax bY = p at *
  generalize mulF ay bx = q at *
  go_enter Tryz.func136, Tryz.ntmps136
  go_upto_region 1 with (fail)
  have HQ := hd (two_boxes w 27 27 (.int .i64 ax) (.int .i64 ay) (.int .i64 bx) (.int .i64 bY))
  have HC := hd (((Chg.refl [] w).alloc (.cells #[.int .i64 ax, .int .i64 ay] 27)).alloc (.cells #[.int .i64 bx, .int .i64 bY] 27))
  generalize (w.alloc (.cells #[.int .i64 ax, .int .i64 ay] 27)).alloc (.cells #[.int .i64 bx, .int .i64 bY] 27) = w0 at *
  refine anyH_start (n := 12) (L := #[false, false, false, false, false, false, false, false, false, false, false, false]) (by kernel_rfl) (by kernel_rfl) (S := (fun wx => Chg [] w0 wx)) ((Chg.refl _ _).drew) (fun hHeld => ?_)
  refine anyH_take (i := 0) (d := 5) (L' := #[true, false, false, false, false, false, false, false, false, false, false, false]) (v := ?v2) rfl rfl (by kernel_rfl) (fun _ _ _ h => h) (by rfl) ?hy2 (by assumption) ?rest2
  case hy2 => (intro wx hSw; (try dsimp only at hSw); (obtain ⟨t0, t1, t2, t3⟩ := HQ.out _ hSw); go_simp; (try with_reducible rfl))
  simp only [Act.put, List.setIfInBounds_toArray, List.set_cons_zero, List.set_cons_succ]
  refine anyH_take (i := 1) (d := 6) (L' := #[true, true, false, false, false, false, false, false, false, false, false, false]) (v := ?v3) rfl rfl (by kernel_rfl) (fun _ _ _ h => h) (by rfl) ?hy3 (by assumption) ?rest3
  case hy3 => (intro wx hSw; (try dsimp only at hSw); (obtain ⟨t0, t1, t2, t3⟩ := HQ.out _ hSw); go_simp; (try with_reducible rfl))
  simp only [Act.put, List.setIfInBounds_toArray, List.set_cons_zero, List.set_cons_succ]
  refine anyH_take (i := 2) (d := 7) (L' := #[true, true, true, false, false, false, false, false, false, false, false, false]) (v := ?v4) rfl rfl (by kernel_rfl) (fun _ _ _ h => h) (by rfl) ?hy4 (by assumption) ?rest4
  case hy4 => (intro wx hSw; (try dsimp only at hSw); (obtain ⟨t0, t1, t2, t3⟩ := HQ.out _ hSw); go_simp; (try with_reducible rfl))
  simp only [Act.put, List.setIfInBounds_toArray, List.set_cons_zero, List.set_cons_succ]
  refine anyH_take (i := 3) (d := 8) (L' := #[true, true, true, true, false, false, false, false, false, false, false, false]) (v := ?v5) rfl rfl (by kernel_rfl) (fun _ _ _ h => h) (by rfl) ?hy5 (by assumption) ?rest5
  case hy5 => (intro wx hSw; (try dsimp only at hSw); (obtain ⟨t0, t1, t2, t3⟩ := HQ.out _ hSw); go_simp; (try with_reducible rfl))
  simp only [Act.put, List.setIfInBounds_toArray, List.set_cons_zero, List.set_cons_succ]
  refine anyH_take (i := 5) (d := 10) (L' := #[true, true, true, true, false, true, false, false, false, false, false, false]) (v := ?v6) rfl rfl (by kernel_rfl) (fun _ _ _ h => h) (by rfl) ?hy6 (by assumption) ?rest6
  case hy6 => (intro wx hSw; (try dsimp only at hSw); (obtain ⟨t0, t1, t2, t3⟩ := HQ.out _ hSw); go_simp; (try with_reducible rfl))
  simp only [Act.put, List.setIfInBounds_toArray, List.set_cons_zero, List.set_cons_succ]
  refine anyH_take (i := 6) (d := 11) (L' := #[true, true, true, true, false, true, true, false, false, false, false, false]) (v := ?v7) rfl rfl (by kernel_rfl) (fun _ _ _ h => h) (by rfl) ?hy7 (by assumption) ?rest7
  case hy7 => (intro wx hSw; (try dsimp only at hSw); (obtain ⟨t0, t1, t2, t3⟩ := HQ.out _ hSw); go_simp; (try with_reducible rfl))
  simp only [Act.put, List.setIfInBounds_toArray, List.set_cons_zero, List.set_cons_succ]
  refine anyH_take (i := 7) (d := 12) (L' := #[true, true, true, true, false, true, true, true, false, false, false, false]) (v := ?v8) rfl rfl (by kernel_rfl) (fun _ _ _ h => h) (by rfl) ?hy8 (by assumption) ?rest8
  case hy8 => (intro wx hSw; (try dsimp only at hSw); (obtain ⟨t0, t1, t2, t3⟩ := HQ.out _ hSw); go_simp; (try with_reducible rfl))
  simp only [Act.put, List.setIfInBounds_toArray, List.set_cons_zero, List.set_cons_succ]
  refine anyH_take (i := 8) (d := 13) (L' := #[true, true, true, true, false, true, true, true, true, false, false, false]) (v := ?v9) rfl rfl (by kernel_rfl) (fun _ _ _ h => h) (by rfl) ?hy9 (by assumption) ?rest9
  case hy9 => (intro wx hSw; (try dsimp only at hSw); (obtain ⟨t0, t1, t2, t3⟩ := HQ.out _ hSw); go_simp; (try with_reducible rfl))
  simp only [Act.put, List.setIfInBounds_toArray, List.set_cons_zero, List.set_cons_succ]
  refine anyH_run (i := 4) (L' := #[true, true, true, true, true, true, true, true, true, false, false, false]) rfl (by kernel_rfl) (by rfl) (fun KK hKK => ?_)
  go_simp
  (refine (hc1 _).mono ?_; rintro e w4 ⟨rfl, rfl⟩; (try go_simp))
  refine hKK.out _ _ (by assumption) (fun hHeld => ?_)
  clear hKK KK
  try simp only [Act.put, List.setIfInBounds_toArray, List.set_cons_zero, List.set_cons_succ]
  refine anyH_run (i := 9) (L' := #[true, true, true, true, true, true, true, true, true, true, false, false]) rfl (by kernel_rfl) (by rfl) (fun KK hKK => ?_)
  go_simp
  (refine (hc2 _).mono ?_; rintro e w4 ⟨rfl, rfl⟩; (try go_simp))
  refine hKK.out _ _ (by assumption) (fun hHeld => ?_)
  clear hKK KK
  try simp only [Act.put, List.setIfInBounds_toArray, List.set_cons_zero, List.set_cons_succ]
  refine anyH_run (i := 10) (L' := #[true, true, true, true, true, true, true, true, true, true, true, false]) rfl (by kernel_rfl) (by rfl) (fun KK hKK => ?_)
  go_simp
  (refine (hc3 _).mono ?_; rintro e w4 ⟨rfl, rfl⟩; (try go_simp))
  refine hKK.out _ _ (by assumption) (fun hHeld => ?_)
  clear hKK KK
  try simp only [Act.put, List.setIfInBounds_toArray, List.set_cons_zero, List.set_cons_succ]
  refine anyH_run (i := 11) (L' := #[true, true, true, true, true, true, true, true, true, true, true, true]) rfl (by kernel_rfl) (by rfl) (fun KK hKK => ?_)
  go_simp
  (skip)
  refine hKK.out _ _ (by assumption) (fun hHeld => ?_)
  clear hKK KK
  try simp only [Act.put, List.setIfInBounds_toArray, List.set_cons_zero, List.set_cons_succ]
  refine wpAnyH_done (by kernel_rfl) ?_ _
  skip
  go_wp2_with fail
  go_ret
  exact ⟨rfl, HC.out.drew⟩
set_option maxHeartbeats 4000000 in
theorem VSub_any (a b : V2) (ha : IV a) (hb : IV b) (w : World) : Calls Tryz.prog 114 #[vV a, vV b] w fun e w' => e = .returned (vV (subV a b)) ∧ Chg [] w w' := by
  obtain ⟨ax, ay⟩ := a
  obtain ⟨bx, bY⟩ := b
  obtain ⟨h1, h2⟩ := ha
  obtain ⟨h3, h4⟩ := hb
  have hc1 := fun W => FSub_any ax bx h1 h3 W
  have hc2 := fun W => FSub_any ay bY h2 h4 W
  unfold subV vV
  simp only at h1 h2 h3 h4 ⊢
  generalize subF ax bx = p at *
  generalize subF ay bY = q at *
  go_enter Tryz.func114, Tryz.ntmps114
  go_upto_region 1 with (fail)
  have HQ' := hd (two_boxes w 27 27 (.int .i64 ax) (.int .i64 ay) (.int .i64 bx) (.int .i64 bY))
  have HC' := hd (((Chg.refl [] w).alloc (.cells #[.int .i64 ax, .int .i64 ay] 27)).alloc (.cells #[.int .i64 bx, .int .i64 bY] 27))
  have hz : ((w.alloc (.cells #[.int .i64 ax, .int .i64 ay] 27)).alloc (.cells #[.int .i64 bx, .int .i64 bY] 27)).heap.size = w.heap.size + 1 + 1 := by simp
  generalize (w.alloc (.cells #[.int .i64 ax, .int .i64 ay] 27)).alloc (.cells #[.int .i64 bx, .int .i64 bY] 27) = w1 at *
  have K3 := hd (Blk.new w1 #[.int .i64 0, .int .i64 0] 27)
  have hn := (Chg.refl [] w1).alloc (.cells #[.int .i64 0, .int .i64 0] 27)
  have hT := HQ'.out w1 (Chg.refl _ _)
  rw [hz] at K3
  clear hz
  generalize w1.alloc (.cells #[.int .i64 0, .int .i64 0] 27) = w0 at *
  have HC := hd (HC'.out.k hn)
  have HQ : Hd (∀ wx, Chg [w.heap.size + 1 + 1] w0 wx → wx.cell? ⟨w.heap.size, 0, none⟩ = some (.int .i64 ax) ∧ wx.cell? ⟨w.heap.size, 1, none⟩ = some (.int .i64 ay) ∧ wx.cell? ⟨w.heap.size + 1, 0, none⟩ = some (.int .i64 bx) ∧ wx.cell? ⟨w.heap.size + 1, 1, none⟩ = some (.int .i64 bY)) :=
    hd fun wx hx => ⟨hx.cellT (hn.cellS hT.1) (by simp; omega), hx.cellT (hn.cellS hT.2.1) (by simp; omega), hx.cellT (hn.cellS hT.2.2.1) (by simp), hx.cellT (hn.cellS hT.2.2.2) (by simp)⟩
  clear HC' HQ' hn hT w1
  refine anyH_start (n := 12) (L := #[false, false, false, false, false, false, false, false, false, false, false, false]) (by kernel_rfl) (by kernel_rfl) (S := (fun wx => Chg [w.heap.size + 1 + 1] w0 wx)) ((Chg.refl _ _).drew) (fun hHeld => ?_)
  refine anyH_take (i := 0) (d := 5) (L' := #[true, false, false, false, false, false, false, false, false, false, false, false]) (v := ?v16) rfl rfl (by kernel_rfl) (fun _ _ _ h => h) (by rfl) ?hy16 (by assumption) ?rest16
  case hy16 => (intro wx hSw; (try dsimp only at hSw); (obtain ⟨t0, t1, t2, t3⟩ := HQ.out _ hSw); go_simp; (try with_reducible rfl))
  simp only [Act.put, List.setIfInBounds_toArray, List.set_cons_zero, List.set_cons_succ]
  refine anyH_take (i := 1) (d := 6) (L' := #[true, true, false, false, false, false, false, false, false, false, false, false]) (v := ?v17) rfl rfl (by kernel_rfl) (fun _ _ _ h => h) (by rfl) ?hy17 (by assumption) ?rest17
  case hy17 => (intro wx hSw; (try dsimp only at hSw); (obtain ⟨t0, t1, t2, t3⟩ := HQ.out _ hSw); go_simp; (try with_reducible rfl))
  simp only [Act.put, List.setIfInBounds_toArray, List.set_cons_zero, List.set_cons_succ]
  refine anyH_take (i := 2) (d := 7) (L' := #[true, true, true, false, false, false, false, false, false, false, false, false]) (v := ?v18) rfl rfl (by kernel_rfl) (fun _ _ _ h => h) (by rfl) ?hy18 (by assumption) ?rest18
  case hy18 => (intro wx hSw; (try dsimp only at hSw); (obtain ⟨t0, t1, t2, t3⟩ := HQ.out _ hSw); go_simp; (try with_reducible rfl))
  simp only [Act.put, List.setIfInBounds_toArray, List.set_cons_zero, List.set_cons_succ]
  refine anyH_take (i := 3) (d := 8) (L' := #[true, true, true, true, false, false, false, false, false, false, false, false]) (v := ?v19) rfl rfl (by kernel_rfl) (fun _ _ _ h => h) (by rfl) ?hy19 (by assumption) ?rest19
  case hy19 => (intro wx hSw; (try dsimp only at hSw); (obtain ⟨t0, t1, t2, t3⟩ := HQ.out _ hSw); go_simp; (try with_reducible rfl))
  simp only [Act.put, List.setIfInBounds_toArray, List.set_cons_zero, List.set_cons_succ]
  refine anyH_take (i := 5) (d := 10) (L' := #[true, true, true, true, false, true, false, false, false, false, false, false]) (v := ?v20) rfl rfl (by kernel_rfl) (fun _ _ _ h => h) (by rfl) ?hy20 (by assumption) ?rest20
  case hy20 => (intro wx hSw; (try dsimp only at hSw); (obtain ⟨t0, t1, t2, t3⟩ := HQ.out _ hSw); go_simp; (try with_reducible rfl))
  simp only [Act.put, List.setIfInBounds_toArray, List.set_cons_zero, List.set_cons_succ]
  refine anyH_take (i := 6) (d := 11) (L' := #[true, true, true, true, false, true, true, false, false, false, false, false]) (v := ?v21) rfl rfl (by kernel_rfl) (fun _ _ _ h => h) (by rfl) ?hy21 (by assumption) ?rest21
  case hy21 => (intro wx hSw; (try dsimp only at hSw); (obtain ⟨t0, t1, t2, t3⟩ := HQ.out _ hSw); go_simp; (try with_reducible rfl))
  simp only [Act.put, List.setIfInBounds_toArray, List.set_cons_zero, List.set_cons_succ]
  refine anyH_take (i := 7) (d := 12) (L' := #[true, true, true, true, false, true, true, true, false, false, false, false]) (v := ?v22) rfl rfl (by kernel_rfl) (fun _ _ _ h => h) (by rfl) ?hy22 (by assumption) ?rest22
  case hy22 => (intro wx hSw; (try dsimp only at hSw); (obtain ⟨t0, t1, t2, t3⟩ := HQ.out _ hSw); go_simp; (try with_reducible rfl))
  simp only [Act.put, List.setIfInBounds_toArray, List.set_cons_zero, List.set_cons_succ]
  refine anyH_take (i := 8) (d := 13) (L' := #[true, true, true, true, false, true, true, true, true, false, false, false]) (v := ?v23) rfl rfl (by kernel_rfl) (fun _ _ _ h => h) (by rfl) ?hy23 (by assumption) ?rest23
  case hy23 => (intro wx hSw; (try dsimp only at hSw); (obtain ⟨t0, t1, t2, t3⟩ := HQ.out _ hSw); go_simp; (try with_reducible rfl))
  simp only [Act.put, List.setIfInBounds_toArray, List.set_cons_zero, List.set_cons_succ]
  refine anyH_run (i := 4) (L' := #[true, true, true, true, true, true, true, true, true, false, false, false]) rfl (by kernel_rfl) (by rfl) (fun KK hKK => ?_)
  go_simp
  (refine (hc1 _).mono ?_; rintro e w4 ⟨rfl, rfl⟩; (try go_simp))
  refine hKK.out _ _ (by assumption) (fun hHeld => ?_)
  clear hKK KK
  try simp only [Act.put, List.setIfInBounds_toArray, List.set_cons_zero, List.set_cons_succ]
  refine anyH_run (i := 9) (L' := #[true, true, true, true, true, true, true, true, true, true, false, false]) rfl (by kernel_rfl) (by rfl) (fun KK hKK => ?_)
  go_simp
  (refine (hc2 _).mono ?_; rintro e w4 ⟨rfl, rfl⟩; (try go_simp))
  refine hKK.out _ _ (by assumption) (fun hHeld => ?_)
  clear hKK KK
  try simp only [Act.put, List.setIfInBounds_toArray, List.set_cons_zero, List.set_cons_succ]
  refine anyH_run (i := 10) (L' := #[true, true, true, true, true, true, true, true, true, true, true, false]) rfl (by kernel_rfl) (by rfl) (fun KK hKK => ?_)
  go_simp
  (skip)
  refine hKK.out _ _ (by assumption) (fun hHeld => ?_)
  clear hKK KK
  try simp only [Act.put, List.setIfInBounds_toArray, List.set_cons_zero, List.set_cons_succ]
  refine anyH_run (i := 11) (L' := #[true, true, true, true, true, true, true, true, true, true, true, true]) rfl (by kernel_rfl) (by rfl) (fun KK hKK => ?_)
  (have K5 := K3.out; have p0 := K5.cell 0; have p1 := K5.cell 1; have f0 := K5.free 0; have f1 := K5.free 1; simp at p0 p1; have hS6 := (((Chg.refl [w.heap.size + 1 + 1] w0).setCell ⟨w.heap.size + 1 + 1, 0, none⟩ (.int .i64 p) (by simp)).setCell ⟨w.heap.size + 1 + 1, 1, none⟩ (.int .i64 q) (by simp)).drew; have K6 := ((K5.set 0 (.int .i64 p)).set 1 (.int .i64 q)).k (Chg.refl [] _).drew; go_simp)
  refine hKK.out _ _ (by assumption) (fun hHeld => ?_)
  clear hKK KK
  try simp only [Act.put, List.setIfInBounds_toArray, List.set_cons_zero, List.set_cons_succ]
  refine wpAnyH_done (by kernel_rfl) ?_ _
  go_wp2_with fail; have r0 := K6.cell 0; have r1 := K6.cell 1; have HS6 := hd hS6; clear hS6 hHeld K6 K5 f0 f1 p0 p1; generalize ((w0.setCell ⟨w.heap.size + 1 + 1, 0, none⟩ (.int .i64 p)).setCell ⟨w.heap.size + 1 + 1, 1, none⟩ (.int .i64 q)).drew = w6 at *; simp at r0 r1; refine bodyPost_ret (v := .agg #[.int .i64 p, .int .i64 q]) (by simp only [results]; go_simp) rfl ⟨rfl, HC.out.trans HS6.out (fun x hx hlt => by simp at hx; omega)⟩
end Go.Proofs.YtpadflhffiiglaaGreat

/- Shapes, as plain data. -/
namespace Go.Proofs.YtpadflhffiiglaaGreat

structure Shp where
  kind : Int
  r : Int
  p : List V2
def nearV (a : V2) (most : Int) : Bool := decide (absF a.1 ≤ most) && decide (absF a.2 ≤ most)
def cornerB (p : List V2) (i j : Nat) : Bool :=
  decide (j = i) || decide (j = (i + 1) % p.length) || decide (0 < crossV (subV (p.getD ((i + 1) % p.length) (0, 0)) (p.getD i (0, 0))) (subV (p.getD j (0, 0)) (p.getD i (0, 0))))
def convexB (p : List V2) : Bool := (List.range p.length).all fun i => (List.range p.length).all fun j => cornerB p i j
def rightS (s : Shp) : Bool :=
  if s.kind = 1 then decide (s.p.length = 0) && decide (16777216 ≤ s.r) && decide (s.r ≤ 274877906944)
  else if s.kind ≠ 2 ∨ s.r ≠ 0 ∨ s.p.length < 3 ∨ 8 < s.p.length then false
  else (s.p.all fun a => nearV a 274877906944) && convexB s.p
theorem convex_no {p : List V2} {i j : Nat} (hi : i < p.length) (hj : j < p.length) (h : cornerB p i j = false) : convexB p = false := by
  cases hc : convexB p with
  | false => rfl
  | true =>
    unfold convexB at hc
    rw [List.all_eq_true] at hc
    have h1 := hc i (List.mem_range.2 hi)
    rw [List.all_eq_true] at h1
    rw [h1 j (List.mem_range.2 hj)] at h
    cases h
theorem convex_yes {p : List V2} (h : ∀ i < p.length, ∀ j < p.length, cornerB p i j = true) : convexB p = true := by
  unfold convexB
  rw [List.all_eq_true]
  intro i hi
  rw [List.all_eq_true]
  intro j hj
  exact h i (List.mem_range.1 hi) j (List.mem_range.1 hj)
/-- Of a triangle there is one corner more, and no other. -/
theorem corner_three {p : List V2} (hp : p.length = 3) {i j : Nat} (hi : i < 3) (hj : j < 3) (h1 : j ≠ i) (h2 : j ≠ (i + 1) % 3) (h : ∀ k < j + 1, cornerB p i k = true) : ∀ k < 3, cornerB p i k = true := by
  intro k hk
  by_cases hkj : k < j + 1
  · exact h k hkj
  · unfold cornerB
    rw [hp]
    have : k = i ∨ k = (i + 1) % 3 := by omega
    rcases this with e | e <;> simp [e]
def cV (a : V2) : List Value := [.int .i64 a.1, .int .i64 a.2]
theorem cV_len (a : V2) : (cV a).length = 2 := rfl
theorem cV_one (a : V2) : ∀ v ∈ cV a, v.oneCell' = true := by intro v hv; simp [cV] at hv; rcases hv with rfl | rfl <;> rfl
end Go.Proofs.YtpadflhffiiglaaGreat

/- From a row's reading of its arguments to the words of these walks. -/
namespace Go.Proofs.YtpadflhffiiglaaGreat
open Go.RowKit

def Row8 (k : IntKind) (w : World) (a : Option Addr) (len cap : Nat) (zs : List Int) : Prop :=
  (a = none ∧ len = 0 ∧ cap = 0 ∧ zs = []) ∨
  ∃ x, a = some x ∧ len ≤ cap ∧ cap ≤ maxLen ∧ zs.length = cap ∧ (∀ i, i < zs.length → w.cell? (x.add i) = some (.int k (zs.getD i 0))) ∧ ∀ n ∈ zs, (Lit.int k n).wf = true

theorem spot_none {w : World} {x : Addr} {v : Value} (h : w.cell? x = some v) : x.spot = none := by
  unfold World.cell? at h
  split at h
  · cases hs : x.spot with
    | none => rfl
    | some s => rw [hs] at h; simp at h
  · simp at h

theorem Row8.rd {k : IntKind} {w : World} {a : Option Addr} {len cap : Nat} {zs : List Int} (h : Row8 k w a len cap zs) : Rd w 1 (.slice a len cap) len ((zs.take len).map (Value.int k)) := by
  rcases h with ⟨rfl, rfl, rfl, rfl⟩ | ⟨x, rfl, hl, hm, hz, hc, -⟩
  · exact ⟨rfl, none, 0, 0, 0, rfl, Nat.le_refl _, by simp [maxLen], fun _ => ⟨rfl, rfl⟩, fun h => absurd h (by omega), fun j u hu => by simp at hu⟩
  · refine ⟨by simp; omega, some x, cap, x.block, x.off, rfl, hl, hm, fun h => by simp at h, fun hp => ?_, fun j u hu => ?_⟩
    · have h0 := hc 0 (by omega)
      have hs := spot_none h0
      have e : x.spot = none := by
        cases x; simpa [Addr.add] using hs
      cases x; simp at e; subst e; rfl
    · have hj : j < len := by
        have := (List.getElem?_eq_some_iff.1 hu).1
        simp at this; omega
      have h1 := hc j (by omega)
      have h0 := hc 0 (by omega)
      have hs : x.spot = none := by
        have := spot_none h0
        cases x; simpa [Addr.add] using this
      have e : x.add j = ⟨x.block, x.off + j, none⟩ := by
        cases x; simp at hs; subst hs; unfold Addr.add; split <;> simp_all
      rw [e] at h1
      rw [h1]
      rw [List.getElem?_map, List.getElem?_take, if_pos hj, List.getElem?_eq_getElem (by omega)] at hu
      simp only [Option.map_some, Option.some.injEq] at hu
      rw [← hu, List.getD_eq_getElem?_getD, List.getElem?_eq_getElem (by omega)]
      rfl

theorem n8_of (z : Int) (h0 : 0 ≤ z) (h1 : z < 256) : n8 (UInt8.ofNat z.toNat) = z := by
  unfold n8
  rw [UInt8.toNat_ofNat', Nat.mod_eq_of_lt (show z.toNat < 2 ^ 8 by omega)]
  omega
theorem wf_u8 {z : Int} (h : (Lit.int .u8 z).wf = true) : 0 ≤ z ∧ z < 256 := by
  simp [Lit.wf, IntKind.min, IntKind.max, IntKind.signed, IntKind.bits] at h
  omega
theorem wf_i64 {z : Int} (h : (Lit.int .i64 z).wf = true) : -9223372036854775808 ≤ z ∧ z ≤ 9223372036854775807 := by
  simp [Lit.wf, IntKind.min, IntKind.max, IntKind.signed, IntKind.bits] at h
  omega
theorem Row8.wf {k : IntKind} {w : World} {a : Option Addr} {len cap : Nat} {zs : List Int} (h : Row8 k w a len cap zs) : ∀ n ∈ zs, (Lit.int k n).wf = true := by
  rcases h with ⟨_, _, _, rfl⟩ | ⟨x, _, _, _, _, _, hw⟩
  · simp
  · exact hw
theorem Row8.len {k : IntKind} {w : World} {a : Option Addr} {len cap : Nat} {zs : List Int} (h : Row8 k w a len cap zs) : (zs.take len).length = len := by
  have := h.rd.1; simpa using this

theorem Row8.le {k : IntKind} {w : World} {a : Option Addr} {len cap : Nat} {zs : List Int} (h : Row8 k w a len cap zs) : len ≤ cap := by
  rcases h with ⟨_, rfl, rfl, _⟩ | ⟨x, _, h, _⟩
  · exact Nat.le_refl _
  · exact h
/-- A slice of bytes that came in. -/
theorem Row8.bs {w : World} {a : Option Addr} {len cap : Nat} {zs : List Int} (h : Row8 .u8 w a len cap zs) : ∃ l : List UInt8, l.length = len ∧ Bs w (.slice a len cap) l := by
  refine ⟨(zs.take len).map fun z => UInt8.ofNat z.toNat, by rw [List.length_map]; exact h.len, ?_⟩
  have hr := h.rd
  unfold Bs
  rw [List.length_map, h.len, List.map_map]
  have e : (zs.take len).map (vb ∘ fun z => UInt8.ofNat z.toNat) = (zs.take len).map (Value.int .u8) := by
    apply List.map_congr_left
    intro z hz
    have hb := wf_u8 (h.wf z (List.mem_of_mem_take hz))
    show Value.int .u8 (n8 _) = _
    rw [n8_of z hb.1 hb.2]
  rw [e]
  exact hr
/-- A slice of ints that came in. -/
theorem Row8.fs {w : World} {a : Option Addr} {len cap : Nat} {zs : List Int} (h : Row8 .i64 w a len cap zs) : Fs w (.slice a len cap) (zs.take len) ∧ (zs.take len).length = len ∧ ∀ z ∈ zs.take len, -9223372036854775808 ≤ z ∧ z ≤ 9223372036854775807 := by
  refine ⟨?_, h.len, fun z hz => wf_i64 (h.wf z (List.mem_of_mem_take hz))⟩
  unfold Fs; rw [h.len]; exact h.rd
theorem u8_of {z : Int} (h : (Lit.int .u8 z).wf = true) : ∃ x : UInt8, z = n8 x := by
  have hb := wf_u8 h
  exact ⟨UInt8.ofNat z.toNat, (n8_of z hb.1 hb.2).symm⟩
section
open Go.ChangeShapes Go.WideShapes
variable {H : Type} {enc : TypeId × Value → H} {P : Program} {w : World} {base : Nat} {spare : Nat → Bool} {held : Bool}
end
end Go.Proofs.YtpadflhffiiglaaGreat

/- Reading arguments with depth: structs and slices of structs. -/
namespace Go.Proofs.YtpadflhffiiglaaGreat
open Go.RowKit Go.ChangeShapes Go.WideShapes

/-- v is a slice whose elements, of 'size' cells each, read as l. -/
def Rds {α : Type} (E : World → α → List Value → Prop) (size : Nat) (w : World) (v : Value) (l : List α) : Prop :=
  ∃ css : List (List Value), css.length = l.length ∧ (∀ i (h : i < l.length) (h' : i < css.length), E w l[i] css[i] ∧ css[i].length = size) ∧ Rd w size v l.length css.flatten
theorem Rds.form {α : Type} {E : World → α → List Value → Prop} {size : Nat} {w : World} {v : Value} {l : List α} (h : Rds E size w v l) : ∃ ao c, v = .slice ao l.length c := by
  obtain ⟨_, _, _, _, ao, cap, b, off, rfl, _⟩ := h
  exact ⟨ao, cap, rfl⟩
theorem Rds.k {α : Type} {E : World → α → List Value → Prop} {size : Nat} {w w' : World} {v : Value} {l : List α} (h : Rds E size w v l) (hE : ∀ a c, E w a c → E w' a c) (hc : Chg [] w w') : Rds E size w' v l := by
  obtain ⟨css, h1, h2, h3⟩ := h
  exact ⟨css, h1, fun i h h' => ⟨hE _ _ (h2 i h h').1, (h2 i h h').2⟩, Rd.keep h3 hc (by simp)⟩
theorem flatten_get {css : List (List Value)} {size : Nat} (h : ∀ i (h' : i < css.length), css[i].length = size) (i j : Nat) (hi : i < css.length) (hj : j < size) : css.flatten[i * size + j]? = css[i][j]? := by
  induction css generalizing i with
  | nil => simp at hi
  | cons c css ih =>
    have h0 : c.length = size := h 0 (by simp)
    cases i with
    | zero => simp only [List.flatten_cons, Nat.zero_mul, Nat.zero_add, List.getElem_cons_zero]; rw [List.getElem?_append_left (by omega)]
    | succ i =>
      simp only [List.flatten_cons, List.getElem_cons_succ]
      rw [List.getElem?_append_right (by rw [h0]; rw [Nat.succ_mul]; omega), h0, show (i + 1) * size + j - size = i * size + j by rw [Nat.succ_mul]; omega]
      exact ih (fun k hk => h (k + 1) (by simpa using hk)) i (by simpa using hi)
theorem flatten_len {css : List (List Value)} {size : Nat} (h : ∀ c ∈ css, c.length = size) : css.flatten.length = css.length * size := by
  induction css with
  | nil => simp
  | cons c css ih => simp only [List.flatten_cons, List.length_append, List.length_cons]; rw [h c (by simp), ih (fun x hx => h x (by simp [hx])), Nat.succ_mul]; omega
/-- The cells of element i. -/
theorem Rds.at {α : Type} {E : World → α → List Value → Prop} {size : Nat} {w : World} {v : Value} {l : List α} (h : Rds E size w v l) (hl : 0 < l.length) : ∃ b off cap, v = .slice (some ⟨b, off, none⟩) l.length cap ∧ l.length ≤ cap ∧ cap ≤ maxLen ∧
    ∀ i (hi : i < l.length), ∃ c, E w l[i] c ∧ c.length = size ∧ ∀ j, j < size → w.cell? ⟨b, off + i * size + j, none⟩ = c[j]? := by
  obtain ⟨css, h1, h2, h0, ao, cap, b, off, rfl, h3, h4, h5, h6, h7⟩ := h
  obtain rfl := h6 hl
  refine ⟨b, off, cap, rfl, h3, h4, fun i hi => ⟨css[i]'(by omega), (h2 i hi (by omega)).1, (h2 i hi (by omega)).2, fun j hj => ?_⟩⟩
  have hg := flatten_get (size := size) (fun i h' => (h2 i (by omega) h').2) i j (by omega) hj
  have hlen : j < (css[i]'(by omega)).length := by rw [(h2 i hi (by omega)).2]; exact hj
  rw [List.getElem?_eq_getElem hlen] at hg ⊢
  rw [Nat.add_assoc]
  exact h7 _ _ hg

section
variable {H : Type} {enc : TypeId × Value → H} {P : Program} {w : World} {base : Nat} {spare : Nat → Bool} {held : Bool}
/-- A slice that is read, whatever its elements. -/
theorem trod_rdsW {α : Type} {t e : TypeId} {size fuel : Nat} {cs : List Value} {x : DataW H × List MemPlace} (E : World → α → List Value → Prop) (Pw : DataW H → Prop) (ht : P.underlying t = some (.slice e)) (hC : P.cellsOf e = size) (hpos : 0 < size)
    (hP : ∀ es sp, x.1 = .slice es sp → ∀ y ∈ es, Pw y)
    (hE : ∀ n cs x, DataW.trod enc P w base spare held n e cs = some x → Pw x.1 → cs.length = size → ∃ a : α, E w a cs) (h : DataW.trod enc P w base spare held fuel t cs = some x) : ∃ v l, cs = [v] ∧ Rds E size w v l ∧ ((x.1 = .nil ∧ l = []) ∨ ∃ es sp, x.1 = .slice es sp ∧ es.length = l.length) := by
  rcases DataW.trod_slice ht h with ⟨rfl, rfl⟩ | ⟨a, len, cap, elems, rest, n, _, rfl, rfl, hb, hl, hm, hlen, hel, -, -⟩
  · exact ⟨_, [], rfl, ⟨[], rfl, by simp, by simp, none, 0, 0, 0, rfl, by simp, by simp [maxLen], by simp, by simp, by simp⟩, .inl ⟨rfl, rfl⟩⟩
  · have each : ∀ i, i < len → ∃ c, w.cells? base (a.add (i * size)) size = some c ∧ ∃ y : α, E w y c := by
      intro i hi
      have h1 := hel i hi
      rw [hC, List.getElem?_eq_getElem (by omega), Option.bind_eq_some_iff] at h1
      obtain ⟨c, hc, hy⟩ := h1
      exact ⟨c, hc, hE n c _ hy (hP _ _ rfl _ (List.mem_map.2 ⟨_, List.getElem_mem (by omega), rfl⟩)) (World.cells?_some hc).2.1⟩
    have hsp : 0 < len → a.spot = none := by
      intro hp
      obtain ⟨c, hc, -⟩ := each 0 hp
      have h0 := (World.cells?_some hc).2.2
      rw [Nat.zero_mul] at h0
      have hcl := (World.cells?_some hc).2.1
      have h00 := h0 0 (by omega)
      have := spot_none (h00.trans (List.getElem?_eq_getElem (by omega)))
      cases a; simpa [Addr.add] using this
    obtain ⟨f, hf⟩ : ∃ f : Nat → List Value × Option α, ∀ i, i < len → w.cells? base (a.add (i * size)) size = some (f i).1 ∧ ∃ y, (f i).2 = some y ∧ E w y (f i).1 := by
      refine ⟨fun i => if hi : i < len then (Classical.choose (each i hi), some (Classical.choose (Classical.choose_spec (each i hi)).2)) else ([], none), fun i hi => ?_⟩
      simp only [dif_pos hi]
      exact ⟨(Classical.choose_spec (each i hi)).1, _, rfl, Classical.choose_spec (Classical.choose_spec (each i hi)).2⟩
    obtain ⟨g, hg⟩ : ∃ l : List α, l.length = len ∧ ∀ i (h : i < l.length), (f i).2 = some l[i] := by
      have : ∀ k, k ≤ len → ∃ l : List α, l.length = k ∧ ∀ i (h : i < l.length), (f i).2 = some l[i] := by
        intro k
        induction k with
        | zero => intro _; exact ⟨[], rfl, by simp⟩
        | succ k ih =>
          intro hk
          obtain ⟨l, hl1, hl2⟩ := ih (by omega)
          obtain ⟨-, y, hy, -⟩ := hf k (by omega)
          refine ⟨l ++ [y], by simp [hl1], fun i hi => ?_⟩
          by_cases hik : i < l.length
          · rw [List.getElem_append_left hik]; exact hl2 i hik
          · have : i = k := by simp at hi; omega
            subst this
            rw [List.getElem_append_right (by omega)]
            simpa using hy
      exact this len (Nat.le_refl _)
    obtain ⟨hgl, hg⟩ := hg
    have hcl : ∀ i, i < len → (f i).1.length = size := fun i hi => (World.cells?_some (hf i hi).1).2.1
    refine ⟨_, g, rfl, ⟨(List.range len).map fun i => (f i).1, by simp [hgl], fun i hi h' => ?_, ?_, some a, cap, a.block, a.off, by rw [hgl], by omega, hm, by simp, fun hp => ?_, fun j u hu => ?_⟩, .inr ⟨_, _, rfl, by simp [hlen, hgl]⟩⟩
    · simp only [List.getElem_map, List.getElem_range]
      obtain ⟨-, y, hy, hE'⟩ := hf i (by omega)
      have := hg i hi
      rw [hy] at this
      simp only [Option.some.injEq] at this
      subst this
      exact ⟨hE', hcl i (by omega)⟩
    · rw [flatten_len (size := size) (by intro c hc; obtain ⟨i, hi, rfl⟩ := List.mem_map.1 hc; exact hcl i (by simpa using hi)), hgl]; simp
    · have := hsp (by omega)
      cases a; simp at this; subst this; rfl
    · have hj : j < len * size := by
        have h1 := (List.getElem?_eq_some_iff.1 hu).1
        rw [flatten_len (size := size) (by intro c hc; obtain ⟨i, hi, rfl⟩ := List.mem_map.1 hc; exact hcl i (by simpa using hi))] at h1
        simpa using h1
      have hi : j / size < len := (Nat.div_lt_iff_lt_mul hpos).2 hj
      have hr : j % size < size := Nat.mod_lt _ hpos
      have hjd : j = j / size * size + j % size := by rw [Nat.mul_comm]; exact (Nat.div_add_mod j size).symm
      have hfl := flatten_get (css := (List.range len).map fun i => (f i).1) (size := size) (fun i h' => by simp at h' ⊢; exact hcl i h') (j / size) (j % size) (by simpa using hi) hr
      rw [← hjd, hu] at hfl
      simp only [List.getElem_map, List.getElem_range] at hfl
      have h0 := (World.cells?_some (hf _ hi).1).2.2 (j % size) hr
      rw [← hfl] at h0
      have hsp' := hsp (Nat.lt_of_le_of_lt (Nat.zero_le _) hi)
      have e : ∀ k1 k2, (a.add k1).add k2 = ⟨a.block, a.off + (k1 + k2), none⟩ := by
        intro k1 k2
        obtain ⟨b, o, s⟩ := a
        simp at hsp'
        subst hsp'
        unfold Addr.add
        by_cases h1 : k1 = 0 <;> by_cases h2 : k2 = 0 <;> simp [h1, h2, Nat.add_assoc]
      rw [e, ← hjd] at h0
      exact h0
theorem trod_i64 {t : TypeId} {fuel : Nat} {cs : List Value} {x : DataW H × List MemPlace} (ht : P.underlying t = some (.int .i64)) (h : DataW.trod enc P w base spare held fuel t cs = some x) : ∃ n, cs = [.int .i64 n] ∧ -9223372036854775808 ≤ n ∧ n ≤ 9223372036854775807 := by
  obtain ⟨n, rfl, _, hw⟩ := DataW.trod_int ht h
  exact ⟨n, rfl, wf_i64 hw⟩
/-- A slice that is read, whatever its elements. -/
theorem trod_rds {α : Type} {t e : TypeId} {size fuel : Nat} {cs : List Value} {x : DataW H × List MemPlace} (E : World → α → List Value → Prop) (ht : P.underlying t = some (.slice e)) (hC : P.cellsOf e = size) (hpos : 0 < size)
    (hE : ∀ n cs x, DataW.trod enc P w base spare held n e cs = some x → cs.length = size → ∃ a : α, E w a cs) (h : DataW.trod enc P w base spare held fuel t cs = some x) : ∃ v l, cs = [v] ∧ Rds E size w v l := by
  obtain ⟨v, l, h1, h2, -⟩ := trod_rdsW E (fun _ => True) ht hC hpos (fun _ _ _ _ _ => trivial) (fun n cs x hx _ hl => hE n cs x hx hl) h
  exact ⟨v, l, h1, h2⟩
end
end Go.Proofs.YtpadflhffiiglaaGreat

/- Records laid one behind the other. -/
namespace Go.Proofs.YtpadflhffiiglaaGreat
open Go.RowKit

section
variable {α : Type} (enc : α → List Value) (k : Nat)
theorem flat_len (hk : ∀ x, (enc x).length = k) : ∀ l : List α, (l.flatMap enc).length = l.length * k
  | [] => by simp
  | x :: l => by rw [List.flatMap_cons, List.length_append, hk, flat_len hk l, List.length_cons, Nat.succ_mul, Nat.add_comm]
theorem flat_get (hk : ∀ x, (enc x).length = k) (l : List α) (i j : Nat) (hi : i < l.length) (hj : j < k) : (l.flatMap enc)[i * k + j]? = (enc l[i])[j]? := by
  rw [List.flatMap_def, flatten_get (size := k) (fun i h => by rw [List.getElem_map]; exact hk _) i j (by simpa using hi) hj, List.getElem_map]
theorem flat_one (h1 : ∀ x, ∀ v ∈ enc x, v.oneCell' = true) (l : List α) : ∀ v ∈ l.flatMap enc, v.oneCell' = true := by
  intro v hv
  obtain ⟨x, -, hx⟩ := List.mem_flatMap.1 hv
  exact h1 x v hx
end
theorem flat_set {α : Type} (enc : α → List Value) (k : Nat) (hk : ∀ x, (enc x).length = k) (l : List α) (i : Nat) (hi : i < l.length) (x : α) (j : Nat) :
    ((l.set i x).flatMap enc)[j]? = if i * k ≤ j ∧ j < i * k + k then (enc x)[j - i * k]? else (l.flatMap enc)[j]? := by
  have hl := flat_len enc k hk l
  have hl2 := flat_len enc k hk (l.set i x)
  rw [List.length_set] at hl2
  rcases Nat.eq_zero_or_pos k with rfl | hk0
  · rw [List.getElem?_eq_none (by rw [hl2]; omega), if_neg (by omega), List.getElem?_eq_none (by rw [hl]; omega)]
  by_cases hj : j < l.length * k
  · have h1 : j / k < l.length := (Nat.div_lt_iff_lt_mul hk0).2 hj
    have h2 : j % k < k := Nat.mod_lt _ hk0
    have e : j / k * k + j % k = j := by rw [Nat.mul_comm]; exact Nat.div_add_mod j k
    have a1 := flat_get enc k hk (l.set i x) (j / k) (j % k) (by simpa using h1) h2
    have a2 := flat_get enc k hk l (j / k) (j % k) h1 h2
    rw [e] at a1 a2
    rw [a1, a2]
    by_cases hij : j / k = i
    · have hc : i * k ≤ j ∧ j < i * k + k := by rw [← hij]; omega
      have hx : j - i * k = j % k := by rw [← hij]; omega
      rw [if_pos hc, hx]
      congr 1
      simp [hij]
    · have hc : ¬ (i * k ≤ j ∧ j < i * k + k) := by
        rintro ⟨c1, c2⟩
        exact hij (Nat.div_eq_of_lt_le c1 (by rw [Nat.succ_mul]; exact c2))
      rw [if_neg hc]
      congr 1
      rw [List.getElem_set_ne (fun h => hij h.symm)]
  · rw [List.getElem?_eq_none (by rw [hl2]; omega), if_neg, List.getElem?_eq_none (by rw [hl]; omega)]
    rintro ⟨-, c2⟩
    have : i * k + k ≤ l.length * k := by rw [← Nat.succ_mul]; exact Nat.mul_le_mul_right _ hi
    omega
theorem flat_cut {α : Type} (enc : α → List Value) (k : Nat) (hk : ∀ x, (enc x).length = k) (l : List α) (p n : Nat) : ((l.flatMap enc).drop (p * k)).take (n * k) = ((l.drop p).take n).flatMap enc := by
  have e : ∀ (l : List α) (p : Nat), (l.drop p).flatMap enc = (l.flatMap enc).drop (p * k) := by
    intro l
    induction l with
    | nil => simp
    | cons x l ih =>
      intro p
      cases p with
      | zero => simp
      | succ p => rw [List.drop_succ_cons, ih p, List.flatMap_cons, List.drop_append, hk, List.drop_of_length_le (l := enc x) (by rw [hk, Nat.succ_mul]; omega), List.nil_append, Nat.succ_mul, Nat.add_sub_cancel]
  have f : ∀ (l : List α) (n : Nat), (l.take n).flatMap enc = (l.flatMap enc).take (n * k) := by
    intro l
    induction l with
    | nil => simp
    | cons x l ih =>
      intro n
      cases n with
      | zero => simp
      | succ n => rw [List.take_succ_cons, List.flatMap_cons, ih n, List.flatMap_cons, List.take_append, hk, List.take_of_length_le (l := enc x) (by rw [hk, Nat.succ_mul]; omega), Nat.succ_mul, Nat.add_sub_cancel]
  rw [← e, ← f]
end Go.Proofs.YtpadflhffiiglaaGreat

/- Package shape: which shapes may be; which are the same. -/
namespace Go.Proofs.YtpadflhffiiglaaGreat
open Go.RowKit

/-- Places that are read. -/
def VsS (w : World) (v : Value) (l : List V2) : Prop := Rd w 2 v l.length (l.flatMap cV)
theorem VsS.k {w w' : World} {v : Value} {l : List V2} (h : VsS w v l) (hc : Chg [] w w') : VsS w' v l := Rd.keep h hc (by simp)
theorem VsS.form {w : World} {v : Value} {l : List V2} (h : VsS w v l) : ∃ ao c, v = .slice ao l.length c ∧ (0 < l.length → ∃ b off, ao = some ⟨b, off, none⟩) := by
  obtain ⟨_, ao, cap, b, off, rfl, -, -, -, h5, -⟩ := h
  exact ⟨ao, cap, rfl, fun hp => ⟨b, off, h5 hp⟩⟩
theorem VsS.at {w : World} {b off n c : Nat} {l : List V2} (h : VsS w (.slice (some ⟨b, off, none⟩) n c) l) (i : Nat) (hi : i < l.length) :
    w.cell? ⟨b, off + i * 2, none⟩ = some (.int .i64 l[i].1) ∧ w.cell? ⟨b, off + i * 2 + 1, none⟩ = some (.int .i64 l[i].2) := by
  obtain ⟨h0, ao, cap, b', off', he, h2, h3, h4, h5, h6⟩ := h
  have h5 := h5 (by omega)
  simp only [Value.slice.injEq] at he
  obtain ⟨rfl, -, -⟩ := he
  simp only [Option.some.injEq, Addr.mk.injEq, and_true] at h5
  obtain ⟨rfl, rfl⟩ := h5
  have g := fun j hj => flat_get cV 2 cV_len l i j hi hj
  refine ⟨h6 (i * 2) _ (g 0 (by decide)), ?_⟩
  rw [Nat.add_assoc]; exact h6 (i * 2 + 1) _ (g 1 (by decide))
theorem VsS.len {w : World} {v : Value} {l : List V2} (h : VsS w v l) : l.length ≤ 9223372036854775807 := by
  obtain ⟨_, ao, cap, b, off, _, h1, h2, _⟩ := h
  unfold maxLen at h2; omega

set_option maxHeartbeats 1000000 in
theorem SWithin_any (a : V2) (ha : IV a) (w : World) : Calls Tryz.prog 135 #[vV a] w fun e w' => e = .returned (.bool (nearV a 274877906944)) ∧ Chg [] w w' := by
  obtain ⟨x, y⟩ := a
  obtain ⟨h1, h2⟩ := ha
  have hc1 := fun W => Abs_any x h1 W
  have hc2 := fun W => Abs_any y h2 W
  have hb1 := absF_s h1
  have hb2 := absF_s h2
  unfold nearV vV
  simp only at h1 h2 ⊢
  generalize absF x = p at *
  generalize absF y = q at *
  have hcb := (Chg.refl [] w).alloc (.cells #[.int .i64 x, .int .i64 y] 27)
  by_cases k1 : p ≤ 274877906944 <;> by_cases k2 : q ≤ 274877906944 <;> (
    go_enter Tryz.func135, Tryz.ntmps135
    go_wp2_with (first
      | (go_at_call 93; ((with_reducible refine (hc1 _).mono ?_); rintro e w' ⟨rfl, rfl⟩))
      | (go_at_call 93; ((with_reducible refine (hc2 _).mono ?_); rintro e w' ⟨rfl, rfl⟩)))
    go_ret
    exact ⟨by simp [k1, k2], hcb⟩)
@[go_sem] theorem eqVV (a b c d : Int) (w : World) : (Op.equalIn 10000 27 (.agg #[.int .i64 a, .int .i64 b]) (.agg #[.int .i64 c, .int .i64 d])).run Tryz.prog w = .ok (a == c && b == d) w := by
  have u3 := Tryz.underlying25
  have a3 := Tryz.isAgg25
  have z3 := Tryz.sizeOf25
  have hS : Tryz.prog.underlying 27 = some (.struct (Tryz.prog.fieldsOf 27)) := by kernel_rfl
  have hp : Tryz.prog.stoodInHeld 27 = false := by kernel_rfl
  rw [show (10000 : Nat) = 9999 + 1 from rfl, run_equalIn_agg w 9999 27 _ _ hS hp]
  simp only [Program.fieldsOf, Tryz.underlying27]
  go_simp
  by_cases h1 : a = c <;> by_cases h2 : b = d <;> simp [h1, h2]
theorem vv_eq (a b : V2) : (a.1 == b.1 && a.2 == b.2) = decide (a = b) := by
  rw [Bool.eq_iff_iff]
  simp only [Bool.and_eq_true, beq_iff_eq, decide_eq_true_eq]
  exact ⟨fun h => Prod.ext h.1 h.2, fun h => by rw [h]; exact ⟨rfl, rfl⟩⟩
set_option maxHeartbeats 4000000 in
theorem EqualV_any (w : World) (v1 v2 : Value) (l1 l2 : List V2) (h1 : VsS w v1 l1) (h2 : VsS w v2 l2) :
    Calls Tryz.prog 96 #[v1, v2] w fun e w' => e = .returned (.bool (decide (l1 = l2))) ∧ Chg [] w w' := by
  have hl1 := h1.len
  have hl2 := h2.len
  obtain ⟨ao1, c1, rfl, hao1⟩ := h1.form
  obtain ⟨ao2, c2, rfl, hao2⟩ := h2.form
  have H1 := hd h1
  have H2 := hd h2
  have HA1 := hd hao1
  have HA2 := hd hao2
  clear h1 h2 hao1 hao2
  by_cases hlen : l1.length = l2.length
  · have HL := hd hlen
    rw [hlen]
    obtain ⟨n, hn⟩ : ∃ n, l2.length = n := ⟨_, rfl⟩
    rw [hn] at HL hl2 ⊢
    have HN := hd hn
    clear hn hlen hl1
    go_enter Tryz.func96, Tryz.ntmps96
    go_wp2_with fail
    go_loopw [13] (fun i wr => ∃ j : Nat, i = .int .i64 (j : Int) ∧ j ≤ n ∧ Hd (l1.take j = l2.take j) ∧ Hd (Chg [] w wr)) (fun i _ => n - (intOf i).toNat)
    case atStart => exact ⟨0, rfl, Nat.zero_le _, hd rfl, hd (Chg.refl _ _)⟩
    case round =>
      obtain ⟨j, rfl, hj, ht, hc⟩ := hrel
      by_cases hjl : j < n
      · have hj1 : j < l1.length := by rw [HL.out]; exact hjl
        have hj2 : j < l2.length := by rw [HN.out]; exact hjl
        obtain ⟨b1, o1, rfl⟩ := HA1.out (by omega)
        obtain ⟨b2, o2, rfl⟩ := HA2.out (by omega)
        obtain ⟨p0, p1⟩ := (H1.out.k hc.out).at j hj1
        obtain ⟨q0, q1⟩ := (H2.out.k hc.out).at j hj2
        have hs1 := List.take_succ_eq_append_getElem hj1
        have hs2 := List.take_succ_eq_append_getElem hj2
        have hne : l1[j] ≠ l2[j] → l1 ≠ l2 := fun h e => h (by simp [e])
        generalize l1[j] = x at *
        generalize l2[j] = y at *
        have HS1 := hd hs1
        have HS2 := hd hs2
        have HNE := hd hne
        have hv := vv_eq x y
        have HQ : Hd (∀ wx, Chg [] wr wx → wx.cell? ⟨b1, o1 + j * 2, none⟩ = some (.int .i64 x.1) ∧ wx.cell? ⟨b1, o1 + j * 2 + 1, none⟩ = some (.int .i64 x.2) ∧ wx.cell? ⟨b2, o2 + j * 2, none⟩ = some (.int .i64 y.1) ∧ wx.cell? ⟨b2, o2 + j * 2 + 1, none⟩ = some (.int .i64 y.2)) :=
          hd fun wx hx => ⟨hx.cellS p0, hx.cellS p1, hx.cellS q0, hx.cellS q1⟩
        clear p0 p1 q0 q1 hs1 hs2 hne
        by_cases hxy : x = y
        · subst hxy
          have HT : Hd (l1.take (j + 1) = l2.take (j + 1)) := hd (by rw [HS1.out, HS2.out, ht.out])
          clear hv
          go_upto_region 6 with (fail)
          refine anyH_start (n := 9) (L := #[false, false, false, false, false, false, false, false, false]) (by kernel_rfl) (by kernel_rfl) (S := (fun wx => Chg [] wr wx)) ((Chg.refl _ _).drew) (fun hHeld => ?_)
          refine anyH_take (i := 0) (d := 16) (L' := #[true, false, false, false, false, false, false, false, false]) (v := ?v2) rfl rfl (by kernel_rfl) (fun _ _ _ h => h) (by rfl) ?hy2 (by assumption) ?rest2
          case hy2 => (intro wx hSw; (try dsimp only at hSw); (obtain ⟨t0, t1, t2, t3⟩ := HQ.out _ hSw); go_simp; (try with_reducible rfl))
          simp only [Act.put, List.setIfInBounds_toArray, List.set_cons_zero, List.set_cons_succ]
          refine anyH_take (i := 1) (d := 17) (L' := #[true, true, false, false, false, false, false, false, false]) (v := ?v3) rfl rfl (by kernel_rfl) (fun _ _ _ h => h) (by rfl) ?hy3 (by assumption) ?rest3
          case hy3 => (intro wx hSw; (try dsimp only at hSw); (obtain ⟨t0, t1, t2, t3⟩ := HQ.out _ hSw); go_simp; (try with_reducible rfl))
          simp only [Act.put, List.setIfInBounds_toArray, List.set_cons_zero, List.set_cons_succ]
          refine anyH_take (i := 2) (d := 18) (L' := #[true, true, true, false, false, false, false, false, false]) (v := ?v4) rfl rfl (by kernel_rfl) (fun _ _ _ h => h) (by rfl) ?hy4 (by assumption) ?rest4
          case hy4 => (intro wx hSw; (try dsimp only at hSw); (obtain ⟨t0, t1, t2, t3⟩ := HQ.out _ hSw); go_simp; (try with_reducible rfl))
          simp only [Act.put, List.setIfInBounds_toArray, List.set_cons_zero, List.set_cons_succ]
          refine anyH_take (i := 3) (d := 19) (L' := #[true, true, true, true, false, false, false, false, false]) (v := ?v5) rfl rfl (by kernel_rfl) (fun _ _ _ h => h) (by rfl) ?hy5 (by assumption) ?rest5
          case hy5 => (intro wx hSw; (try dsimp only at hSw); (obtain ⟨t0, t1, t2, t3⟩ := HQ.out _ hSw); go_simp; (try with_reducible rfl))
          simp only [Act.put, List.setIfInBounds_toArray, List.set_cons_zero, List.set_cons_succ]
          refine anyH_take (i := 4) (d := 20) (L' := #[true, true, true, true, true, false, false, false, false]) (v := ?v6) rfl rfl (by kernel_rfl) (fun _ _ _ h => h) (by rfl) ?hy6 (by assumption) ?rest6
          case hy6 => (intro wx hSw; (try dsimp only at hSw); (obtain ⟨t0, t1, t2, t3⟩ := HQ.out _ hSw); go_simp; (try with_reducible rfl))
          simp only [Act.put, List.setIfInBounds_toArray, List.set_cons_zero, List.set_cons_succ]
          refine anyH_take (i := 5) (d := 21) (L' := #[true, true, true, true, true, true, false, false, false]) (v := ?v7) rfl rfl (by kernel_rfl) (fun _ _ _ h => h) (by rfl) ?hy7 (by assumption) ?rest7
          case hy7 => (intro wx hSw; (try dsimp only at hSw); (obtain ⟨t0, t1, t2, t3⟩ := HQ.out _ hSw); go_simp; (try with_reducible rfl))
          simp only [Act.put, List.setIfInBounds_toArray, List.set_cons_zero, List.set_cons_succ]
          refine anyH_take (i := 6) (d := 22) (L' := #[true, true, true, true, true, true, true, false, false]) (v := ?v8) rfl rfl (by kernel_rfl) (fun _ _ _ h => h) (by rfl) ?hy8 (by assumption) ?rest8
          case hy8 => (intro wx hSw; (try dsimp only at hSw); (obtain ⟨t0, t1, t2, t3⟩ := HQ.out _ hSw); go_simp; (try with_reducible rfl))
          simp only [Act.put, List.setIfInBounds_toArray, List.set_cons_zero, List.set_cons_succ]
          refine anyH_take (i := 7) (d := 23) (L' := #[true, true, true, true, true, true, true, true, false]) (v := ?v9) rfl rfl (by kernel_rfl) (fun _ _ _ h => h) (by rfl) ?hy9 (by assumption) ?rest9
          case hy9 => (intro wx hSw; (try dsimp only at hSw); (obtain ⟨t0, t1, t2, t3⟩ := HQ.out _ hSw); go_simp; (try with_reducible rfl))
          simp only [Act.put, List.setIfInBounds_toArray, List.set_cons_zero, List.set_cons_succ]
          refine anyH_take (i := 8) (d := 24) (L' := #[true, true, true, true, true, true, true, true, true]) (v := ?v10) rfl rfl (by kernel_rfl) (fun _ _ _ h => h) (by rfl) ?hy10 (by assumption) ?rest10
          case hy10 => (intro wx hSw; (try dsimp only at hSw); (obtain ⟨t0, t1, t2, t3⟩ := HQ.out _ hSw); go_simp; (try with_reducible rfl))
          simp only [Act.put, List.setIfInBounds_toArray, List.set_cons_zero, List.set_cons_succ]
          refine wpAnyH_done (by kernel_rfl) ?_ _
          skip
          go_wp2_with fail
          go_roundw
          case rel => exact ⟨j + 1, by go_num, by omega, HT, hd hc.out.drew⟩
          case measure => simp [intOf]; omega
        · have HD := hd (HNE.out hxy)
          clear hv
          by_cases e1 : x.1 = y.1
          · have E1 := hd e1
            have E2 : Hd (¬ x.2 = y.2) := hd fun e2 => hxy (Prod.ext e1 e2)
            clear e1 hxy
            go_upto_region 6 with (fail)
            refine anyH_start (n := 9) (L := #[false, false, false, false, false, false, false, false, false]) (by kernel_rfl) (by kernel_rfl) (S := (fun wx => Chg [] wr wx)) ((Chg.refl _ _).drew) (fun hHeld => ?_)
            refine anyH_take (i := 0) (d := 16) (L' := #[true, false, false, false, false, false, false, false, false]) (v := ?v13) rfl rfl (by kernel_rfl) (fun _ _ _ h => h) (by rfl) ?hy13 (by assumption) ?rest13
            case hy13 => (intro wx hSw; (try dsimp only at hSw); (obtain ⟨t0, t1, t2, t3⟩ := HQ.out _ hSw); go_simp; (try with_reducible rfl))
            simp only [Act.put, List.setIfInBounds_toArray, List.set_cons_zero, List.set_cons_succ]
            refine anyH_take (i := 1) (d := 17) (L' := #[true, true, false, false, false, false, false, false, false]) (v := ?v14) rfl rfl (by kernel_rfl) (fun _ _ _ h => h) (by rfl) ?hy14 (by assumption) ?rest14
            case hy14 => (intro wx hSw; (try dsimp only at hSw); (obtain ⟨t0, t1, t2, t3⟩ := HQ.out _ hSw); go_simp; (try with_reducible rfl))
            simp only [Act.put, List.setIfInBounds_toArray, List.set_cons_zero, List.set_cons_succ]
            refine anyH_take (i := 2) (d := 18) (L' := #[true, true, true, false, false, false, false, false, false]) (v := ?v15) rfl rfl (by kernel_rfl) (fun _ _ _ h => h) (by rfl) ?hy15 (by assumption) ?rest15
            case hy15 => (intro wx hSw; (try dsimp only at hSw); (obtain ⟨t0, t1, t2, t3⟩ := HQ.out _ hSw); go_simp; (try with_reducible rfl))
            simp only [Act.put, List.setIfInBounds_toArray, List.set_cons_zero, List.set_cons_succ]
            refine anyH_take (i := 3) (d := 19) (L' := #[true, true, true, true, false, false, false, false, false]) (v := ?v16) rfl rfl (by kernel_rfl) (fun _ _ _ h => h) (by rfl) ?hy16 (by assumption) ?rest16
            case hy16 => (intro wx hSw; (try dsimp only at hSw); (obtain ⟨t0, t1, t2, t3⟩ := HQ.out _ hSw); go_simp; (try with_reducible rfl))
            simp only [Act.put, List.setIfInBounds_toArray, List.set_cons_zero, List.set_cons_succ]
            refine anyH_take (i := 4) (d := 20) (L' := #[true, true, true, true, true, false, false, false, false]) (v := ?v17) rfl rfl (by kernel_rfl) (fun _ _ _ h => h) (by rfl) ?hy17 (by assumption) ?rest17
            case hy17 => (intro wx hSw; (try dsimp only at hSw); (obtain ⟨t0, t1, t2, t3⟩ := HQ.out _ hSw); go_simp; (try with_reducible rfl))
            simp only [Act.put, List.setIfInBounds_toArray, List.set_cons_zero, List.set_cons_succ]
            refine anyH_take (i := 5) (d := 21) (L' := #[true, true, true, true, true, true, false, false, false]) (v := ?v18) rfl rfl (by kernel_rfl) (fun _ _ _ h => h) (by rfl) ?hy18 (by assumption) ?rest18
            case hy18 => (intro wx hSw; (try dsimp only at hSw); (obtain ⟨t0, t1, t2, t3⟩ := HQ.out _ hSw); go_simp; (try with_reducible rfl))
            simp only [Act.put, List.setIfInBounds_toArray, List.set_cons_zero, List.set_cons_succ]
            refine anyH_take (i := 6) (d := 22) (L' := #[true, true, true, true, true, true, true, false, false]) (v := ?v19) rfl rfl (by kernel_rfl) (fun _ _ _ h => h) (by rfl) ?hy19 (by assumption) ?rest19
            case hy19 => (intro wx hSw; (try dsimp only at hSw); (obtain ⟨t0, t1, t2, t3⟩ := HQ.out _ hSw); go_simp; (try with_reducible rfl))
            simp only [Act.put, List.setIfInBounds_toArray, List.set_cons_zero, List.set_cons_succ]
            refine anyH_take (i := 7) (d := 23) (L' := #[true, true, true, true, true, true, true, true, false]) (v := ?v20) rfl rfl (by kernel_rfl) (fun _ _ _ h => h) (by rfl) ?hy20 (by assumption) ?rest20
            case hy20 => (intro wx hSw; (try dsimp only at hSw); (obtain ⟨t0, t1, t2, t3⟩ := HQ.out _ hSw); go_simp; (try with_reducible rfl))
            simp only [Act.put, List.setIfInBounds_toArray, List.set_cons_zero, List.set_cons_succ]
            refine anyH_take (i := 8) (d := 24) (L' := #[true, true, true, true, true, true, true, true, true]) (v := ?v21) rfl rfl (by kernel_rfl) (fun _ _ _ h => h) (by rfl) ?hy21 (by assumption) ?rest21
            case hy21 => (intro wx hSw; (try dsimp only at hSw); (have k1 := E1.out; have k2 := E2.out); go_simp; (try with_reducible rfl))
            simp only [Act.put, List.setIfInBounds_toArray, List.set_cons_zero, List.set_cons_succ]
            refine wpAnyH_done (by kernel_rfl) ?_ _
            skip
            go_wp2_with fail
            go_ret
            exact ⟨ret_of (congrArg Value.bool (decide_eq_false HD.out).symm), hc.out.drew⟩
          · have E1 := hd e1
            clear e1 hxy
            go_upto_region 6 with (fail)
            refine anyH_start (n := 9) (L := #[false, false, false, false, false, false, false, false, false]) (by kernel_rfl) (by kernel_rfl) (S := (fun wx => Chg [] wr wx)) ((Chg.refl _ _).drew) (fun hHeld => ?_)
            refine anyH_take (i := 0) (d := 16) (L' := #[true, false, false, false, false, false, false, false, false]) (v := ?v24) rfl rfl (by kernel_rfl) (fun _ _ _ h => h) (by rfl) ?hy24 (by assumption) ?rest24
            case hy24 => (intro wx hSw; (try dsimp only at hSw); (obtain ⟨t0, t1, t2, t3⟩ := HQ.out _ hSw); go_simp; (try with_reducible rfl))
            simp only [Act.put, List.setIfInBounds_toArray, List.set_cons_zero, List.set_cons_succ]
            refine anyH_take (i := 1) (d := 17) (L' := #[true, true, false, false, false, false, false, false, false]) (v := ?v25) rfl rfl (by kernel_rfl) (fun _ _ _ h => h) (by rfl) ?hy25 (by assumption) ?rest25
            case hy25 => (intro wx hSw; (try dsimp only at hSw); (obtain ⟨t0, t1, t2, t3⟩ := HQ.out _ hSw); go_simp; (try with_reducible rfl))
            simp only [Act.put, List.setIfInBounds_toArray, List.set_cons_zero, List.set_cons_succ]
            refine anyH_take (i := 2) (d := 18) (L' := #[true, true, true, false, false, false, false, false, false]) (v := ?v26) rfl rfl (by kernel_rfl) (fun _ _ _ h => h) (by rfl) ?hy26 (by assumption) ?rest26
            case hy26 => (intro wx hSw; (try dsimp only at hSw); (obtain ⟨t0, t1, t2, t3⟩ := HQ.out _ hSw); go_simp; (try with_reducible rfl))
            simp only [Act.put, List.setIfInBounds_toArray, List.set_cons_zero, List.set_cons_succ]
            refine anyH_take (i := 3) (d := 19) (L' := #[true, true, true, true, false, false, false, false, false]) (v := ?v27) rfl rfl (by kernel_rfl) (fun _ _ _ h => h) (by rfl) ?hy27 (by assumption) ?rest27
            case hy27 => (intro wx hSw; (try dsimp only at hSw); (obtain ⟨t0, t1, t2, t3⟩ := HQ.out _ hSw); go_simp; (try with_reducible rfl))
            simp only [Act.put, List.setIfInBounds_toArray, List.set_cons_zero, List.set_cons_succ]
            refine anyH_take (i := 4) (d := 20) (L' := #[true, true, true, true, true, false, false, false, false]) (v := ?v28) rfl rfl (by kernel_rfl) (fun _ _ _ h => h) (by rfl) ?hy28 (by assumption) ?rest28
            case hy28 => (intro wx hSw; (try dsimp only at hSw); (obtain ⟨t0, t1, t2, t3⟩ := HQ.out _ hSw); go_simp; (try with_reducible rfl))
            simp only [Act.put, List.setIfInBounds_toArray, List.set_cons_zero, List.set_cons_succ]
            refine anyH_take (i := 5) (d := 21) (L' := #[true, true, true, true, true, true, false, false, false]) (v := ?v29) rfl rfl (by kernel_rfl) (fun _ _ _ h => h) (by rfl) ?hy29 (by assumption) ?rest29
            case hy29 => (intro wx hSw; (try dsimp only at hSw); (obtain ⟨t0, t1, t2, t3⟩ := HQ.out _ hSw); go_simp; (try with_reducible rfl))
            simp only [Act.put, List.setIfInBounds_toArray, List.set_cons_zero, List.set_cons_succ]
            refine anyH_take (i := 6) (d := 22) (L' := #[true, true, true, true, true, true, true, false, false]) (v := ?v30) rfl rfl (by kernel_rfl) (fun _ _ _ h => h) (by rfl) ?hy30 (by assumption) ?rest30
            case hy30 => (intro wx hSw; (try dsimp only at hSw); (obtain ⟨t0, t1, t2, t3⟩ := HQ.out _ hSw); go_simp; (try with_reducible rfl))
            simp only [Act.put, List.setIfInBounds_toArray, List.set_cons_zero, List.set_cons_succ]
            refine anyH_take (i := 7) (d := 23) (L' := #[true, true, true, true, true, true, true, true, false]) (v := ?v31) rfl rfl (by kernel_rfl) (fun _ _ _ h => h) (by rfl) ?hy31 (by assumption) ?rest31
            case hy31 => (intro wx hSw; (try dsimp only at hSw); (obtain ⟨t0, t1, t2, t3⟩ := HQ.out _ hSw); go_simp; (try with_reducible rfl))
            simp only [Act.put, List.setIfInBounds_toArray, List.set_cons_zero, List.set_cons_succ]
            refine anyH_take (i := 8) (d := 24) (L' := #[true, true, true, true, true, true, true, true, true]) (v := ?v32) rfl rfl (by kernel_rfl) (fun _ _ _ h => h) (by rfl) ?hy32 (by assumption) ?rest32
            case hy32 => (intro wx hSw; (try dsimp only at hSw); (have k1 := E1.out); go_simp; (try with_reducible rfl))
            simp only [Act.put, List.setIfInBounds_toArray, List.set_cons_zero, List.set_cons_succ]
            refine wpAnyH_done (by kernel_rfl) ?_ _
            skip
            go_wp2_with fail
            go_ret
            exact ⟨ret_of (congrArg Value.bool (decide_eq_false HD.out).symm), hc.out.drew⟩
      · obtain rfl : j = n := by omega
        have he : l1 = l2 := by
          have := ht.out
          rwa [List.take_of_length_le (by rw [HL.out]; exact Nat.le_refl _), List.take_of_length_le (by rw [HN.out]; exact Nat.le_refl _)] at this
        have HE := hd he
        clear he
        go_wp2_with fail
        go_ret
        exact ⟨ret_of (congrArg Value.bool (decide_eq_true HE.out).symm), hc.out⟩
  · have hne : ¬ l1 = l2 := fun e => hlen (by rw [e])
    have HE := hd hne
    have hq : ((l1.length : Int) == (l2.length : Int)) = false := by rw [beq_eq_false_iff_ne]; omega
    clear hne
    go_enter Tryz.func96, Tryz.ntmps96
    go_wp2_with fail
    go_ret
    exact ⟨ret_of (congrArg Value.bool (decide_eq_false HE.out).symm), Chg.refl _ _⟩
end Go.Proofs.YtpadflhffiiglaaGreat

/- A writer in a block of any record type (pack.Writer, codec.writer): what its methods lay behind its bytes. -/
namespace Go.Proofs.YtpadflhffiiglaaGreat
open Go.RowKit

/-- The writer at block b (of type t) has written l; its row is the call's own, from base on. -/
def WrT (t : TypeId) (w : World) (base b : Nat) (l : List UInt8) : Prop := ∃ v, Blk w b #[v] t ∧ OwB w base v l
/-- Every block but b and but the rows of bytes is as it was. -/
def Kp (b : Nat) (w w' : World) : Prop := ∀ k cs t, Blk w k cs t → t ≠ 5 → k ≠ b → Blk w' k cs t
theorem Kp.refl (b : Nat) (w : World) : Kp b w w := fun _ _ _ h _ _ => h
theorem Kp.trans {b : Nat} {u v w : World} (h : Kp b u v) (k : Kp b v w) : Kp b u w := fun _ _ _ hb ht hn => k _ _ _ (h _ _ _ hb ht hn) ht hn
theorem Kp.chg {b : Nat} {w w' : World} (h : Chg [] w w') : Kp b w w' := fun _ _ _ hb _ _ => hb.k h
/-- What a writer's method leaves as it was. -/
structure Fr (base b : Nat) (w w' : World) : Prop where
  below : Below base w w'
  kp : Kp b w w'
theorem Fr.refl (base b : Nat) (w : World) : Fr base b w w := ⟨Below.refl _ _, Kp.refl _ _⟩
theorem Fr.trans {base b : Nat} {u v w : World} (h : Fr base b u v) (k : Fr base b v w) : Fr base b u w := ⟨h.below.trans k.below, h.kp.trans k.kp⟩
theorem Fr.chg {base b : Nat} {w w' : World} (h : Chg [] w w') (hb : base ≤ w.heap.size) : Fr base b w w' := ⟨h.below hb (by simp), Kp.chg h⟩
theorem WrT.k {t : TypeId} {w w' : World} {base b : Nat} {l : List UInt8} (h : WrT t w base b l) (hc : Chg [] w w') : WrT t w' base b l :=
  let ⟨v, h1, h2⟩ := h; ⟨v, h1.k hc, h2.k hc⟩
theorem WrT.lt {t : TypeId} {w : World} {base b : Nat} {l : List UInt8} (h : WrT t w base b l) : b < w.heap.size := let ⟨_, h1, _⟩ := h; h1.lt

set_option maxHeartbeats 800000 in
theorem WTNum_any (t : TypeId) (ht : t ≠ 5) (n x : Int) (base b : Nat) (l : List UInt8) (w : World) (hw : WrT t w base b l) (hb : base ≤ b) (h0 : 0 ≤ n) (hn : n ≤ 8) (hl : l.length ≤ 140737488355000) :
    Calls Tryz.prog 26 #[.pointer (some ⟨b, 0, none⟩), .int .i64 n, .int .i64 x] w fun e w' =>
      e = .returned (.pointer (some ⟨b, 0, none⟩)) ∧ WrT t w' base b (l ++ leB n.toNat x) ∧ Fr base b w w' := by
  go_enter Tryz.func26, Tryz.ntmps26
  go_wp2
  go_loopw [2, 8] (fun tt i wr => ∃ k : Nat, ∃ y : Int, k ≤ n.toNat ∧ i = .int .i64 k ∧ tt = .int .i64 y ∧ y = x / 256 ^ k ∧ WrT t wr base b (l ++ leB k x) ∧ Fr base b w wr)
    (fun _ i _ => n.toNat - (intOf i).toNat)
  case atStart => exact ⟨0, x, by omega, rfl, rfl, by simp, by simpa [leB] using hw, Fr.refl _ _ _⟩
  case round =>
    obtain ⟨k, y, hk, rfl, rfl, hy, ⟨v, hblk, hown⟩, hbel⟩ := hrel
    have Hy := hd hy; clear hy
    have hc := hblk.cell 0
    have hf := hblk.free 0
    simp at hc
    have hsz := hblk.lt
    by_cases hlt : k < n.toNat
    · have hT := hd (leB_snoc k x)
      rw [← Hy.out] at hT
      have hone := OwB.one wr base (UInt8.ofInt y) (y % 256) (n8_ofInt y).symm (by omega)
      have hlen : (l ++ leB k x).length = l.length + k := by simp
      have Hlen := hd hlen; clear hlen
      go_wp2_with (at_builtin; refine wpAppB rfl _ _ rfl base _ _ rfl (hown.alloc _) _ _ rfl hone.bs (by rw [Hlen.out]; simp; omega) (by simp; omega) ?_; intro ao1 c1 w1 hown1 hg1 hm1; have hb1 := (hblk.alloc (.cells #[.int .u8 (y % 256)] 5)).grown hg1 (hown.apart hblk ht); have hc1 := hb1.cell 0; have hf1 := hb1.free 0; simp at hc1)
      go_roundw
      case rel =>
        have hne1 := hown1.apart hb1 ht
        refine ⟨k + 1, y / 256, by omega, by go_num, by go_num, ?_, ⟨_, hb1.set 0 _, ?_⟩, ?_, ?_⟩
        · rw [Hy.out, Int.ediv_ediv_of_nonneg (Int.pow_nonneg (by omega)), show (256 : Int) ^ k * 256 = 256 ^ (k + 1) by rw [Int.pow_succ]]
        · have := ownsRow_setCell_other hown1 (a := ⟨b, 0, none⟩) hne1
          rw [hT.out, ← List.append_assoc]
          unfold OwB
          simpa [Nat.add_assoc] using this _
        · exact ((hbel.below.alloc (by omega) _).grown hg1 (by simp; omega) (fun k hk => (hown.lo k hk).1)).setCell (by simpa using hb) _
        · intro j cs t' hj ht' hjb
          have hj1 := hbel.kp j cs t' hj ht' hjb
          exact ((hj1.alloc _).grown hg1 (hown.apart hj1 ht')).other (fun e => hjb (by simpa using e)) _
      case measure => simp [intOf]; omega
    · have hkn : k = n.toNat := by omega
      subst hkn
      go_wp2
      go_ret
      exact ⟨rfl, ⟨v, hblk, hown⟩, hbel⟩

theorem WTBytes_any (t : TypeId) (base b : Nat) (l : List UInt8) (w : World) (hw : WrT t w base b l) (hl : l.length ≤ 140737488355328) :
    Calls Tryz.prog 30 #[.pointer (some ⟨b, 0, none⟩)] w fun e w' => ∃ ao c, e = .returned (.slice ao l.length c) ∧ OwB w' w.heap.size (.slice ao l.length c) l ∧ Chg [] w w' := by
  obtain ⟨v, hb, hown⟩ := hw
  have c0 := hb.cell 0
  simp at c0
  go_enter Tryz.func30, Tryz.ntmps30
  go_wp2_with (refine wpAppB rfl _ _ rfl w.heap.size (.slice none 0 0) _ rfl (OwB.nil _ _) _ _ rfl hown.bs (by simpa using hl) (Nat.le_refl _) ?_; intro ao c w1 h1 h2 h3)
  go_ret
  simp only [List.length_nil, Nat.zero_add, List.nil_append] at h1 ⊢
  exact ⟨ao, c, rfl, h1, (Chg.refl _ _).grown h2 (by simp [Value.ownBlock])⟩

set_option maxHeartbeats 800000 in
theorem WTF_any (t : TypeId) (ht : t ≠ 5) (base b : Nat) (l : List UInt8) (v : Value) (zs : List Int) (w : World) (hw : WrT t w base b l) (hb : base ≤ b) (hz : ∀ w', Fr base b w w' → Fs w' v zs) (hl : l.length + 8 * zs.length ≤ 140737488355000) :
    Calls Tryz.prog 28 #[.pointer (some ⟨b, 0, none⟩), v] w fun e w' =>
      e = .returned (.pointer (some ⟨b, 0, none⟩)) ∧ WrT t w' base b (l ++ leF zs) ∧ Fr base b w w' := by
  obtain ⟨ao, cap, b', off, rfl, hcap, hbig, -, hao, -⟩ := (hz w (Fr.refl _ _ _)).open
  by_cases h0 : zs = []
  · subst h0
    clear hz hao
    go_enter Tryz.func28, Tryz.ntmps28
    go_wp2
    refine wp_loop_once ?_
    go_wp2
    go_ret
    exact ⟨rfl, by simpa [leF] using hw, Fr.refl _ _ _⟩
  have hpos : 0 < zs.length := List.length_pos_iff.2 h0
  obtain rfl := hao hpos
  clear h0 hao
  go_enter Tryz.func28, Tryz.ntmps28
  go_wp2
  go_loopw [6, 9] (fun _ i wr => ∃ k : Nat, k ≤ zs.length ∧ i = .int .i64 k ∧ WrT t wr base b (l ++ leF (zs.take k)) ∧ Fr base b w wr)
    (fun _ i _ => zs.length - (intOf i).toNat)
  case atStart => exact ⟨0, by omega, rfl, by simpa [leF] using hw, Fr.refl _ _ _⟩
  case round =>
    obtain ⟨k, hk, rfl, hwr, hbel⟩ := hrel
    by_cases hlt : k < zs.length
    · have hcell : wr.cell? ⟨b', off + k, none⟩ = some (.int .i64 zs[k]) := (hz wr hbel).cell k hlt
      have hS := hd (leF_snoc zs k hlt)
      have hlen : (l ++ leF (zs.take k)).length ≤ 140737488355000 := by rw [List.length_append, leF_length, List.length_take]; omega
      generalize zs[k] = x at *
      clear hz
      go_wp2_with fail
      refine (WTNum_any t ht 8 x base b _ _ hwr hb (by omega) (by omega) hlen).mono ?_
      rintro e w1 ⟨rfl, h1, h2⟩
      go_wp2_with fail
      go_roundw
      case rel => exact ⟨k + 1, by omega, by go_num, by rw [hS.out, ← List.append_assoc]; exact h1, hbel.trans h2⟩
      case measure => simp [intOf]; omega
    · have hkn : k = zs.length := by omega
      subst hkn
      go_wp2
      go_ret
      exact ⟨rfl, by simpa using hwr, hbel⟩
end Go.Proofs.YtpadflhffiiglaaGreat

/- Writer.V: places. -/
namespace Go.Proofs.YtpadflhffiiglaaGreat
open Go.RowKit

def fV (l : List V2) : List Int := l.flatMap fun p => [p.1, p.2]
theorem fV_length (l : List V2) : (fV l).length = 2 * l.length := by
  induction l with
  | nil => rfl
  | cons x l ih => unfold fV at *; rw [List.flatMap_cons, List.length_append, ih]; simp; omega
theorem fV_snoc (l : List V2) (k : Nat) (h : k < l.length) : leF (fV (l.take (k + 1))) = leF (fV (l.take k)) ++ leF [l[k].1, l[k].2] := by
  unfold leF fV; rw [List.take_succ_eq_append_getElem h, List.flatMap_append, List.flatMap_append]; simp
/-- Numbers that stand in a block that no writer turns. -/
theorem Fs.fr {base b : Nat} {w : World} {l : List Int} {cs : Array Value} {e : TypeId} {g n : Nat} (hb : Blk w g cs e) (he : e ≠ 5) (hg : g ≠ b) (hcs : cs = (l.map (Value.int .i64)).toArray) (hn : n = l.length) (hl : l.length ≤ 140737488355328) :
    ∀ w', Fr base b w w' → Fs w' (.slice (some ⟨g, 0, none⟩) n n) l := by
  intro w' hf
  have h1 := hf.kp g cs e hb he hg
  subst hcs; subst hn
  refine ⟨by simp, _, _, g, 0, rfl, Nat.le_refl _, by unfold maxLen; omega, by simp, by simp, fun j u hu => ?_⟩
  rw [Nat.zero_add, h1.cell]
  simpa using hu
theorem VsS.fr {base b : Nat} {w : World} {l : List V2} {cs : Array Value} {e : TypeId} {g n : Nat} (hb : Blk w g cs e) (he : e ≠ 5) (hg : g ≠ b) (hcs : cs = (l.flatMap cV).toArray) (hn : n = l.length) (hl : l.length ≤ 140737488355328) :
    ∀ w', Fr base b w w' → VsS w' (.slice (some ⟨g, 0, none⟩) n n) l := by
  intro w' hf
  have h1 := hf.kp g cs e hb he hg
  subst hcs; subst hn
  have hlen : (l.flatMap cV).length = l.length * 2 := flat_len cV 2 cV_len l
  refine ⟨hlen, _, _, g, 0, rfl, Nat.le_refl _, by unfold maxLen; omega, by simp, by simp, fun j u hu => ?_⟩
  rw [Nat.zero_add, h1.cell]
  simpa using hu
theorem VsS.ofBelow {base b : Nat} {w : World} {v : Value} {l : List V2} (h : VsS w v l) (hv : 0 < l.length → ∀ k, v.ownBlock = some k → k < base) : ∀ w', Fr base b w w' → VsS w' v l := by
  intro w' hf
  obtain ⟨h0, ao, cap, b', off', rfl, h2, h3, h4, h5, h6⟩ := h
  refine ⟨h0, ao, cap, b', off', rfl, h2, h3, h4, h5, fun j u hu => ?_⟩
  by_cases hp : 0 < l.length
  · obtain rfl := h5 hp
    exact (hf.below.cell (p := ⟨b', off' + j, none⟩) (hv hp b' rfl)).trans (h6 j u hu)
  · have : l = [] := List.length_eq_zero_iff.mp (by omega)
    subst this
    simp at hu

set_option maxHeartbeats 800000 in
theorem WTV_any (t : TypeId) (ht : t ≠ 5) (base b : Nat) (l : List UInt8) (v : Value) (zs : List V2) (w : World) (hw : WrT t w base b l) (hb : base ≤ b) (hz : ∀ w', Fr base b w w' → VsS w' v zs) (hl : l.length + 16 * zs.length ≤ 140737488355000) :
    Calls Tryz.prog 27 #[.pointer (some ⟨b, 0, none⟩), v] w fun e w' =>
      e = .returned (.pointer (some ⟨b, 0, none⟩)) ∧ WrT t w' base b (l ++ leF (fV zs)) ∧ Fr base b w w' := by
  obtain ⟨ao, cap, rfl, hao⟩ := (hz w (Fr.refl _ _ _)).form
  by_cases h0 : zs = []
  · subst h0
    clear hz hao
    go_enter Tryz.func27, Tryz.ntmps27
    go_wp2
    refine wp_loop_once ?_
    go_wp2
    go_ret
    exact ⟨rfl, by simpa [leF, fV] using hw, Fr.refl _ _ _⟩
  have hpos : 0 < zs.length := List.length_pos_iff.2 h0
  obtain ⟨b', off, rfl⟩ := hao hpos
  clear h0 hao
  go_enter Tryz.func27, Tryz.ntmps27
  go_wp2
  go_loopw [6, 9] (fun _ i wr => ∃ k : Nat, k ≤ zs.length ∧ i = .int .i64 k ∧ WrT t wr base b (l ++ leF (fV (zs.take k))) ∧ Fr base b w wr)
    (fun _ i _ => zs.length - (intOf i).toNat)
  case atStart => exact ⟨0, by omega, rfl, by simpa [leF, fV] using hw, Fr.refl _ _ _⟩
  case round =>
    obtain ⟨k, hk, rfl, hwr, hbel⟩ := hrel
    by_cases hlt : k < zs.length
    · obtain ⟨q0, q1⟩ := (hz wr hbel).at k hlt
      have hS := hd (fV_snoc zs k hlt)
      have hlen : (l ++ leF (fV (zs.take k))).length + 16 ≤ 140737488355000 := by rw [List.length_append, leF_length, fV_length, List.length_take]; omega
      have hblt := hwr.lt
      generalize zs[k].1 = x at *
      generalize zs[k].2 = y at *
      clear hz
      go_wp2_with fail
      have hcc := ((Chg.refl [] wr).alloc (.cells #[.int .i64 x, .int .i64 y] 27)).alloc (.cells #[.int .i64 x, .int .i64 y] 25)
      have hnb := Blk.new (wr.alloc (.cells #[.int .i64 x, .int .i64 y] 27)) #[.int .i64 x, .int .i64 y] 25
      rw [show (wr.alloc (.cells #[.int .i64 x, .int .i64 y] 27)).heap.size = wr.heap.size + 1 by simp] at hnb
      refine (WTF_any t ht base b _ _ [x, y] _ (hwr.k hcc) hb (Fs.fr hnb (by decide) (by omega) rfl rfl (by simp)) (by simpa using hlen)).mono ?_
      rintro e w1 ⟨rfl, h1, h2⟩
      go_wp2_with fail
      go_roundw
      case rel => exact ⟨k + 1, by omega, by go_num, by rw [hS.out, ← List.append_assoc]; exact h1, (hbel.trans (Fr.chg hcc (by omega))).trans h2⟩
      case measure => simp [intOf]; omega
    · have hkn : k = zs.length := by omega
      subst hkn
      go_wp2
      go_ret
      exact ⟨rfl, by simpa using hwr, hbel⟩
end Go.Proofs.YtpadflhffiiglaaGreat
