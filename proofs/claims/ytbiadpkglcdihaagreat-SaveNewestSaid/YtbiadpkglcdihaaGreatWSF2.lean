/- Words and walks that SF rests on: RegKit, Disk, DiskOp, DiskTurn, DiskChange, DiskName, DiskRen. -/
import Derived.Test.YtbiadpkglcdihaaGreatWSF1
import Derived.OrdersHeld
import Derived.Deep.RegionHeld
import Derived.Laws.OwnMore
import Derived.Deep.Cut
/- A region that draws its order, met by one order: laws on listed operations, with every computed part a literal. -/
namespace Go.Proofs.YtbiadpkglcdihaaGreat
open Go.RowKit

def listAt {α : Type} : List α → Nat → Option α
  | [], _ => none
  | x :: _, 0 => some x
  | _ :: l, n + 1 => listAt l n
theorem listAt_eq {α : Type} (l : List α) : ∀ i, l.toArray[i]? = listAt l i := by
  intro i
  rw [List.getElem?_toArray]
  induction l generalizing i with
  | nil => rfl
  | cons x l ih => cases i with
    | zero => rfl
    | succ i => simpa [listAt] using ih i
def takeOk (ops : Array Oper) (L : Array Bool) (i : Nat) (L' : Array Bool) : Bool :=
  Region.noSelect ops && (Region.free .any ops L i && ((Region.ready .any ops L).contains i && decide (L.setIfInBounds i true = L')))
def runOk (ops : Array Oper) (L : Array Bool) (i : Nat) (L' : Array Bool) : Bool :=
  decide (Region.ready .any ops L = [i]) && decide (L.setIfInBounds i true = L')
def startOk (ops : Array Oper) (n : Nat) (L : Array Bool) : Bool := decide (ops.size = n) && decide (Array.replicate n false = L)
section
variable {P : Program} {l : List Oper} {Q : Exit → Act → World → Prop} {S : World → Prop} {n : Nat} {L L' : Array Bool} {a : Act} {w : World} {i : Nat} {o : Oper}

theorem anyH_start {id : Nat} (hok : startOk l.toArray n L = true) (hm : P.follows .mixedOrders = true) (hS : S w.drew) (h : S w.drew → wpAnyH P .any l.toArray Q S n L a w.drew) : (Code.region id l.toArray true).wp P Q a w := by
  simp only [startOk, Bool.and_eq_true, decide_eq_true_eq] at hok
  obtain ⟨rfl, rfl⟩ := hok
  exact wp_region_held_drew hm hS h
theorem anyH_take {d : Tmp} {v : Value} (hi : listAt l i = some o) (hd : o.dst = some d) (hok : takeOk l.toArray L i L' = true) (hQ : ∀ c a w, Q (.panic c) (a.put (some d) v) w → Q (.panic c) a w)
    (hw : Region.wanted o (yielded l.toArray a.tmps) = true) (hy : ∀ w, S w → (execOp a.eval o).run P w = .ok (.value v) w) (hS : S w) (h : wpAnyH P .any l.toArray Q S n L' (a.put (some d) v) w) : wpAnyH P .any l.toArray Q S (n + 1) L a w := by
  simp only [takeOk, Bool.and_eq_true, decide_eq_true_eq] at hok
  obtain ⟨h1, h2, h3, rfl⟩ := hok
  refine wpAnyH_take (i := i) (oi := o) (v := v) (by rw [listAt_eq]; exact hi) h1 h2 h3 (by rw [hd]; exact hQ) (.inl ⟨hw, hy⟩) hS ?_
  rw [hd]; exact h
theorem anyH_skip {d : Tmp} (hi : listAt l i = some o) (hd : o.dst = some d) (hok : takeOk l.toArray L i L' = true) (hQ : ∀ c a w, Q (.panic c) (a.put (some d) undef) w → Q (.panic c) a w)
    (hw : Region.wanted o (yielded l.toArray a.tmps) = false) (hS : S w) (h : wpAnyH P .any l.toArray Q S n L' (a.put (some d) undef) w) : wpAnyH P .any l.toArray Q S (n + 1) L a w := by
  simp only [takeOk, Bool.and_eq_true, decide_eq_true_eq] at hok
  obtain ⟨h1, h2, h3, rfl⟩ := hok
  refine wpAnyH_take (i := i) (oi := o) (v := undef) (by rw [listAt_eq]; exact hi) h1 h2 h3 (by rw [hd]; exact hQ) (.inr ⟨hw, rfl⟩) hS ?_
  rw [hd]; exact h
theorem anyH_run (hi : listAt l i = some o) (hok : runOk l.toArray L i L' = true) (hw : Region.wanted o (yielded l.toArray a.tmps) = true)
    (h : ∀ K : Act → World → Prop, Shut (∀ a w, S w → (S w → wpAnyH P .any l.toArray Q S n L' a w) → K a w) → Oper.wp P o a w K Q) : wpAnyH P .any l.toArray Q S (n + 1) L a w := by
  simp only [runOk, Bool.and_eq_true, decide_eq_true_eq] at hok
  obtain ⟨h1, rfl⟩ := hok
  refine wpAnyH_ready (rs := [i]) h1 (by simp) (AllReadyH.cons (o := o) (by rw [listAt_eq]; exact hi) (fun K hK => ?_) AllReadyH.nil)
  rw [if_pos hw]
  exact h K hK
def runOk2 (ops : Array Oper) (L : Array Bool) (i j : Nat) (L1 L2 : Array Bool) : Bool :=
  decide (Region.ready .any ops L = [i, j]) && (decide (L.setIfInBounds i true = L1) && decide (L.setIfInBounds j true = L2))
/-- Two operations can come up: both ways. -/
theorem anyH_run2 {j : Nat} {o2 : Oper} {L1 L2 : Array Bool} (hi : listAt l i = some o) (hj : listAt l j = some o2) (hok : runOk2 l.toArray L i j L1 L2 = true) (hw : Region.wanted o (yielded l.toArray a.tmps) = true) (hw2 : Region.wanted o2 (yielded l.toArray a.tmps) = true)
    (h : ∀ K : Act → World → Prop, Shut (∀ a w, S w → (S w → wpAnyH P .any l.toArray Q S n L1 a w) → K a w) → Oper.wp P o a w K Q)
    (h2 : ∀ K : Act → World → Prop, Shut (∀ a w, S w → (S w → wpAnyH P .any l.toArray Q S n L2 a w) → K a w) → Oper.wp P o2 a w K Q) : wpAnyH P .any l.toArray Q S (n + 1) L a w := by
  simp only [runOk2, Bool.and_eq_true, decide_eq_true_eq] at hok
  obtain ⟨h1, rfl, rfl⟩ := hok
  refine wpAnyH_ready (rs := [i, j]) h1 (by simp) (AllReadyH.cons (o := o) (by rw [listAt_eq]; exact hi) (fun K hK => ?_) (AllReadyH.cons (o := o2) (by rw [listAt_eq]; exact hj) (fun K hK => ?_) AllReadyH.nil))
  · rw [if_pos hw]; exact h K hK
  · rw [if_pos hw2]; exact h2 K hK
def runOk3 (ops : Array Oper) (L : Array Bool) (i j k : Nat) (L1 L2 L3 : Array Bool) : Bool :=
  decide (Region.ready .any ops L = [i, j, k]) && (decide (L.setIfInBounds i true = L1) && (decide (L.setIfInBounds j true = L2) && decide (L.setIfInBounds k true = L3)))
/-- Three operations can come up: all ways. -/
theorem anyH_run3 {j k : Nat} {o2 o3 : Oper} {L1 L2 L3 : Array Bool} (hi : listAt l i = some o) (hj : listAt l j = some o2) (hk : listAt l k = some o3) (hok : runOk3 l.toArray L i j k L1 L2 L3 = true) (hw : Region.wanted o (yielded l.toArray a.tmps) = true) (hw2 : Region.wanted o2 (yielded l.toArray a.tmps) = true) (hw3 : Region.wanted o3 (yielded l.toArray a.tmps) = true)
    (h : ∀ K : Act → World → Prop, Shut (∀ a w, S w → (S w → wpAnyH P .any l.toArray Q S n L1 a w) → K a w) → Oper.wp P o a w K Q)
    (h2 : ∀ K : Act → World → Prop, Shut (∀ a w, S w → (S w → wpAnyH P .any l.toArray Q S n L2 a w) → K a w) → Oper.wp P o2 a w K Q)
    (h3 : ∀ K : Act → World → Prop, Shut (∀ a w, S w → (S w → wpAnyH P .any l.toArray Q S n L3 a w) → K a w) → Oper.wp P o3 a w K Q) : wpAnyH P .any l.toArray Q S (n + 1) L a w := by
  simp only [runOk3, Bool.and_eq_true, decide_eq_true_eq] at hok
  obtain ⟨h1, rfl, rfl, rfl⟩ := hok
  refine wpAnyH_ready (rs := [i, j, k]) h1 (by simp) (AllReadyH.cons (o := o) (by rw [listAt_eq]; exact hi) (fun K hK => ?_) (AllReadyH.cons (o := o2) (by rw [listAt_eq]; exact hj) (fun K hK => ?_) (AllReadyH.cons (o := o3) (by rw [listAt_eq]; exact hk) (fun K hK => ?_) AllReadyH.nil)))
  · rw [if_pos hw]; exact h K hK
  · rw [if_pos hw2]; exact h2 K hK
  · rw [if_pos hw3]; exact h3 K hK
/-! What is listed, told by the bits of a number: short texts. -/
def btzL : Nat → Nat → List Bool
  | 0, _ => []
  | k + 1, m => (m % 2 == 1) :: btzL k (m / 2)
def btz (k m : Nat) : Array Bool := (btzL k m).toArray
def takesOk (ops : Array Oper) (N : Nat) : Nat → List Nat → Bool
  | _, [] => true
  | m, i :: is => takeOk ops (btz N m) i (btz N (m + 2 ^ i)) && takesOk ops N (m + 2 ^ i) is
/-- One operation after the other is taken. -/
def Takes (P : Program) (l : List Oper) (Q : Exit → Act → World → Prop) (S : World → Prop) (N : Nat) : Nat → List Nat → Nat → Act → World → Prop
  | n, [], m, a, w => wpAnyH P .any l.toArray Q S n (btz N m) a w
  | 0, _ :: _, _, _, _ => False
  | n + 1, i :: is, m, a, w => ∃ o d v, listAt l i = some o ∧ o.dst = some d ∧ Region.wanted o (yielded l.toArray a.tmps) = true ∧ (∀ w, S w → (execOp a.eval o).run P w = .ok (.value v) w) ∧ Takes P l Q S N n is (m + 2 ^ i) (a.put (some d) v) w
theorem rg {id N : Nat} (hok : startOk l.toArray N (btz N 0) = true) (hm : P.follows .mixedOrders = true) (hS : S w.drew) (h : S w.drew → wpAnyH P .any l.toArray Q S N (btz N 0) a w.drew) : (Code.region id l.toArray true).wp P Q a w := anyH_start hok hm hS h
theorem tks {N : Nat} (is : List Nat) : ∀ {n m : Nat} {a : Act}, takesOk l.toArray N m is = true → (∀ c d a v w, Q (.panic c) (a.put (some d) v) w → Q (.panic c) a w) → S w → Takes P l Q S N n is m a w → wpAnyH P .any l.toArray Q S n (btz N m) a w := by
  induction is with
  | nil => intro n m a _ _ _ h; cases n <;> exact h
  | cons i is ih =>
    intro n m a hok hQ hS h
    cases n with
    | zero => exact h.elim
    | succ n =>
      obtain ⟨o, d, v, hi, hd, hw, hy, hr⟩ := h
      rw [takesOk, Bool.and_eq_true] at hok
      exact anyH_take hi hd hok.1 (fun c a w => hQ c d a v w) hw hy hS (ih hok.2 hQ hS hr)
theorem tkc {N i m : Nat} {is : List Nat} {o : Oper} {d : Tmp} {v : Value} {t : List Value} {df : List Deferred} (hi : listAt l i = some o) (hd : o.dst = some d) (hw : Region.wanted o (yielded l.toArray t.toArray) = true)
    (hy : ∀ w, S w → (execOp (Act.eval ⟨t.toArray, df⟩) o).run P w = .ok (.value v) w) (h : Takes P l Q S N n is (m + 2 ^ i) ⟨(t.set d v).toArray, df⟩ w) : Takes P l Q S N (n + 1) (i :: is) m ⟨t.toArray, df⟩ w :=
  ⟨o, d, v, hi, hd, hw, hy, by simpa only [Act.put, List.setIfInBounds_toArray] using h⟩
theorem tk0 {N m : Nat} (h : wpAnyH P .any l.toArray Q S n (btz N m) a w) : Takes P l Q S N n [] m a w := by cases n <;> exact h
theorem rn (i : Nat) {N m : Nat} (hi : listAt l i = some o) (hok : runOk l.toArray (btz N m) i (btz N (m + 2 ^ i)) = true) (hw : Region.wanted o (yielded l.toArray a.tmps) = true)
    (h : ∀ K : Act → World → Prop, Shut (∀ a w, S w → (S w → wpAnyH P .any l.toArray Q S n (btz N (m + 2 ^ i)) a w) → K a w) → Oper.wp P o a w K Q) : wpAnyH P .any l.toArray Q S (n + 1) (btz N m) a w := anyH_run hi hok hw h
theorem rn2 (i j : Nat) {o2 : Oper} {N m : Nat} (hi : listAt l i = some o) (hj : listAt l j = some o2) (hok : runOk2 l.toArray (btz N m) i j (btz N (m + 2 ^ i)) (btz N (m + 2 ^ j)) = true) (hw : Region.wanted o (yielded l.toArray a.tmps) = true) (hw2 : Region.wanted o2 (yielded l.toArray a.tmps) = true)
    (h : ∀ K : Act → World → Prop, Shut (∀ a w, S w → (S w → wpAnyH P .any l.toArray Q S n (btz N (m + 2 ^ i)) a w) → K a w) → Oper.wp P o a w K Q)
    (h2 : ∀ K : Act → World → Prop, Shut (∀ a w, S w → (S w → wpAnyH P .any l.toArray Q S n (btz N (m + 2 ^ j)) a w) → K a w) → Oper.wp P o2 a w K Q) : wpAnyH P .any l.toArray Q S (n + 1) (btz N m) a w := anyH_run2 hi hj hok hw hw2 h h2
theorem rn3 (i j k : Nat) {o2 o3 : Oper} {N m : Nat} (hi : listAt l i = some o) (hj : listAt l j = some o2) (hk : listAt l k = some o3) (hok : runOk3 l.toArray (btz N m) i j k (btz N (m + 2 ^ i)) (btz N (m + 2 ^ j)) (btz N (m + 2 ^ k)) = true) (hw : Region.wanted o (yielded l.toArray a.tmps) = true) (hw2 : Region.wanted o2 (yielded l.toArray a.tmps) = true) (hw3 : Region.wanted o3 (yielded l.toArray a.tmps) = true)
    (h : ∀ K : Act → World → Prop, Shut (∀ a w, S w → (S w → wpAnyH P .any l.toArray Q S n (btz N (m + 2 ^ i)) a w) → K a w) → Oper.wp P o a w K Q)
    (h2 : ∀ K : Act → World → Prop, Shut (∀ a w, S w → (S w → wpAnyH P .any l.toArray Q S n (btz N (m + 2 ^ j)) a w) → K a w) → Oper.wp P o2 a w K Q)
    (h3 : ∀ K : Act → World → Prop, Shut (∀ a w, S w → (S w → wpAnyH P .any l.toArray Q S n (btz N (m + 2 ^ k)) a w) → K a w) → Oper.wp P o3 a w K Q) : wpAnyH P .any l.toArray Q S (n + 1) (btz N m) a w := anyH_run3 hi hj hk hok hw hw2 hw3 h h2 h3
theorem sk (i : Nat) {N m : Nat} {d : Tmp} (hi : listAt l i = some o) (hd : o.dst = some d) (hok : takeOk l.toArray (btz N m) i (btz N (m + 2 ^ i)) = true) (hQ : ∀ c a w, Q (.panic c) (a.put (some d) undef) w → Q (.panic c) a w)
    (hw : Region.wanted o (yielded l.toArray a.tmps) = false) (hS : S w) (h : wpAnyH P .any l.toArray Q S n (btz N (m + 2 ^ i)) (a.put (some d) undef) w) : wpAnyH P .any l.toArray Q S (n + 1) (btz N m) a w := anyH_skip hi hd hok hQ hw hS h
end
end Go.Proofs.YtbiadpkglcdihaaGreat

/- The disk in memory. -/
namespace Go.Proofs.YtbiadpkglcdihaaGreat
open Go.RowKit

theorem size_set (w : World) (p : Addr) (u : Value) : (w.setCell p u).heap.size = w.heap.size := by simp
abbrev HF := Value × List UInt8 × Nat
def fileCells : List HF → List Value
  | [] => []
  | f :: l => f.1 :: .int .i64 (f.2.2 : Int) :: fileCells l
def chCells : List (List UInt8 × List UInt8 × Nat) → List Value
  | [] => []
  | c :: l => .string (strB c.1) :: .string (strB c.2.1) :: .int .i64 (c.2.2 : Int) :: chCells l
theorem fileCells_app : ∀ a b : List HF, fileCells (a ++ b) = fileCells a ++ fileCells b
  | [], _ => rfl
  | f :: a, b => by simp [fileCells, fileCells_app a b]
theorem chCells_app : ∀ a b, chCells (a ++ b) = chCells a ++ chCells b
  | [], _ => rfl
  | f :: a, b => by simp [chCells, chCells_app a b]
theorem fileCells_length : ∀ l, (fileCells l).length = l.length * 2
  | [] => rfl
  | f :: l => by simp [fileCells, fileCells_length l]; omega
theorem chCells_length : ∀ l, (chCells l).length = l.length * 3
  | [] => rfl
  | f :: l => by simp [chCells, chCells_length l]; omega
theorem fileCells_get : ∀ (l : List HF) (i : Nat) (h : i < l.length), (fileCells l)[i * 2]? = some l[i].1 ∧ (fileCells l)[i * 2 + 1]? = some (.int .i64 (l[i].2.2 : Int))
  | f :: l, 0, _ => by simp [fileCells]
  | f :: l, i + 1, h => by
    have := fileCells_get l i (by simpa using h)
    rw [show (i + 1) * 2 = i * 2 + 1 + 1 by omega]
    simpa [fileCells] using this
theorem fileCells_set : ∀ (l : List HF) (i : Nat) (x : HF), i < l.length → fileCells (l.set i x) = ((fileCells l).set (i * 2) x.1).set (i * 2 + 1) (.int .i64 (x.2.2 : Int))
  | f :: l, 0, x, _ => by simp [fileCells]
  | f :: l, i + 1, x, h => by
    have := fileCells_set l i x (by simpa using h)
    rw [show (i + 1) * 2 = i * 2 + 1 + 1 by omega]
    simp [fileCells, this]
theorem fileCells_set_eq {l : List HF} {i : Nat} (h : i < l.length) (v : Value) (b : List UInt8) : fileCells (l.set i (v, b, l[i].2.2)) = (fileCells l).set (i * 2) v := by
  rw [fileCells_set l i _ h]
  apply List.ext_getElem?
  intro j
  by_cases hj : j = i * 2 + 1
  · subst hj
    rw [List.getElem?_set_self (by rw [List.length_set, fileCells_length]; omega), List.getElem?_set_ne (by omega), (fileCells_get l i h).2]
  · rw [List.getElem?_set_ne (by omega)]
theorem fileCells_set_sure {l : List HF} {i : Nat} (h : i < l.length) (n : Nat) : fileCells (l.set i (l[i].1, l[i].2.1, n)) = (fileCells l).set (i * 2 + 1) (.int .i64 (n : Int)) := by
  rw [fileCells_set l i _ h]
  congr 1
  apply List.ext_getElem?
  intro j
  by_cases hj : j = i * 2
  · subst hj
    rw [List.getElem?_set_self (by rw [fileCells_length]; omega), (fileCells_get l i h).1]
  · rw [List.getElem?_set_ne (by omega)]

def boxCells (fv cv : Value) (nb sb : Nat) (d : Dsk) : Array Value :=
  #[.int .i64 d.room, fv, .map (some nb), .map (some sb), cv, .int .i64 d.ops, .int .i64 d.down, .int .i64 d.fail, .bool d.off]

/-- w holds the disk d at block b; its blocks are among fp. -/
structure DkP (w : World) (fp : List Nat) (b : Nat) (fv cv : Value) (nb sb : Nat) (hs : List HF) (d : Dsk) : Prop where
  box : Blk w b (boxCells fv cv nb sb d) 75
  names : MapAt w nb d.names
  sure : MapAt w sb d.sure
  files : w.ownsRow 0 85 2 fv hs.length (fileCells hs)
  same : hs.map (·.2) = d.files
  changes : w.ownsRow 0 109 3 cv d.changes.length (chCells d.changes)
  bytes : ∀ f ∈ hs, OwB w 0 f.1 f.2.1
  apart : hs.Pairwise fun f g => ∀ k, f.1.ownBlock = some k → g.1.ownBlock ≠ some k
  ne : nb ≠ sb
  fpb : b ∈ fp
  fpn : nb ∈ fp
  fps : sb ∈ fp
  fpf : ∀ k, fv.ownBlock = some k → k ∈ fp
  fpc : ∀ k, cv.ownBlock = some k → k ∈ fp
  fph : ∀ f ∈ hs, ∀ k, f.1.ownBlock = some k → k ∈ fp
  fpl : ∀ k ∈ fp, k < w.heap.size
  good : GoodD d

def Dk (w : World) (fp : List Nat) (b : Nat) (d : Dsk) : Prop := ∃ fv cv nb sb hs, DkP w fp b fv cv nb sb hs d

theorem MapAt.heap {w : World} {b : Nat} {es : Nm} (h : MapAt w b es) : ∃ xs c, w.heap[b]? = some (.map xs c) := by
  obtain ⟨_, ⟨xs, c, hb, _⟩, _⟩ := h; exact ⟨xs, c, hb⟩
theorem MapAt.apart {w : World} {b b' : Nat} {es : Nm} {cs : Array Value} {t : TypeId} (h : MapAt w b es) (hb : Blk w b' cs t) : b ≠ b' := by
  rintro rfl
  obtain ⟨xs, c, hx⟩ := h.heap
  unfold Blk at hb
  rw [hx] at hb
  simp at hb
theorem MapAt.apartRow {w : World} {b : Nat} {es : Nm} (h : MapAt w b es) {base : Nat} {e : TypeId} {size n : Nat} {v : Value} {xs : List Value} (hr : w.ownsRow base e size v n xs) : v.ownBlock ≠ some b := by
  intro he
  obtain ⟨ys, c, hx⟩ := h.heap
  rcases hr.2 with ⟨rfl, _⟩ | ⟨g, cap, cur, rfl, _, hg, _⟩
  · simp [Value.ownBlock] at he
  · simp only [Value.ownBlock, Option.some.injEq] at he
    subst he
    rw [hx] at hg
    simp at hg

theorem DkP.chg {S : List Nat} {w w' : World} {fp : List Nat} {b : Nat} {fv cv : Value} {nb sb : Nat} {hs : List HF} {d : Dsk} (h : DkP w fp b fv cv nb sb hs d) (hc : Chg S w w') (hn : ∀ k ∈ fp, k ∉ S) : DkP w' fp b fv cv nb sb hs d :=
  { h with
    box := h.box.chg hc (hn _ h.fpb)
    names := h.names.chg hc (hn _ h.fpn)
    sure := h.sure.chg hc (hn _ h.fps)
    files := ownsRow_chg h.files hc fun k hk => hn _ (h.fpf k hk)
    changes := ownsRow_chg h.changes hc fun k hk => hn _ (h.fpc k hk)
    bytes := fun f hf => OwB.chg (h.bytes f hf) hc fun k hk => hn _ (h.fph f hf k hk)
    fpl := fun k hk => Nat.lt_of_lt_of_le (h.fpl k hk) hc.size }
theorem DkP.k {w w' : World} {fp : List Nat} {b : Nat} {fv cv : Value} {nb sb : Nat} {hs : List HF} {d : Dsk} (h : DkP w fp b fv cv nb sb hs d) (hc : Chg [] w w') : DkP w' fp b fv cv nb sb hs d := h.chg hc (by simp)
theorem Dk.chg {S : List Nat} {w w' : World} {fp : List Nat} {b : Nat} {d : Dsk} (h : Dk w fp b d) (hc : Chg S w w') (hn : ∀ k ∈ fp, k ∉ S) : Dk w' fp b d :=
  let ⟨fv, cv, nb, sb, hs, h⟩ := h; ⟨fv, cv, nb, sb, hs, h.chg hc hn⟩
theorem Dk.k {w w' : World} {fp : List Nat} {b : Nat} {d : Dsk} (h : Dk w fp b d) (hc : Chg [] w w') : Dk w' fp b d := h.chg hc (by simp)
theorem Dk.good {w : World} {fp : List Nat} {b : Nat} {d : Dsk} (h : Dk w fp b d) : GoodD d := let ⟨_, _, _, _, _, h⟩ := h; h.good
/-- The scalars of the disk have turned. -/
theorem DkP.scal {w w' : World} {fp : List Nat} {b : Nat} {fv cv : Value} {nb sb : Nat} {hs : List HF} {d d' : Dsk} (h : DkP w fp b fv cv nb sb hs d) (hc : Chg [b] w w')
    (hb : Blk w' b (boxCells fv cv nb sb d') 75) (e2 : d'.files = d.files) (e3 : d'.names = d.names) (e4 : d'.sure = d.sure) (e5 : d'.changes = d.changes) (hg : GoodD d') : DkP w' fp b fv cv nb sb hs d' :=
  { h with
    box := hb
    names := by rw [e3]; exact h.names.chg hc (by simpa using h.names.apart h.box)
    sure := by rw [e4]; exact h.sure.chg hc (by simpa using h.sure.apart h.box)
    files := ownsRow_chg h.files hc fun k hk => by
      have := ownsRow_apart h.files h.box (by decide); rw [hk] at this; simpa using this
    same := by rw [e2]; exact h.same
    changes := by
      rw [e5]
      exact ownsRow_chg h.changes hc fun k hk => by
        have := ownsRow_apart h.changes h.box (by decide); rw [hk] at this; simpa using this
    bytes := fun f hf => OwB.chg (h.bytes f hf) hc fun k hk => by
      have := ownsRow_apart (h.bytes f hf) h.box (by decide); rw [hk] at this; simpa using this
    fpl := fun k hk => Nat.lt_of_lt_of_le (h.fpl k hk) hc.size
    good := hg }
theorem ownsRow_ne2 {w : World} {base base' : Nat} {e e' : TypeId} {size size' n n' : Nat} {v u : Value} {xs ys : List Value} (h : w.ownsRow base e size v n xs) (hu : w.ownsRow base' e' size' u n' ys) (hne : e ≠ e') : ∀ k, v.ownBlock = some k → u.ownBlock ≠ some k := by
  intro k hk hk'
  rcases h.2 with ⟨rfl, _⟩ | ⟨g, cap, cur, rfl, _, hg, _⟩
  · simp [Value.ownBlock] at hk
  rcases hu.2 with ⟨rfl, _⟩ | ⟨g', cap', cur', rfl, _, hg', _⟩
  · simp [Value.ownBlock] at hk'
  simp only [Value.ownBlock, Option.some.injEq] at hk hk'
  subst hk hk'
  rw [hg] at hg'
  simp at hg'
  exact hne hg'.2
theorem Chg.ofGrown {w w' : World} {row : Option Nat} (h : w.grownBy w' row) : Chg row.toList w w' :=
  (Chg.refl _ _).grown h (by rintro k rfl _; simp)
/-- What is told of blocks that come up. -/
def Gr (fp : List Nat) (w : World) (fp' : List Nat) : Prop := ∀ k ∈ fp', k ∈ fp ∨ w.heap.size ≤ k
theorem Gr.refl (fp : List Nat) (w : World) : Gr fp w fp := fun _ h => .inl h
theorem Gr.trans {fp fp' fp'' : List Nat} {w w' : World} (h : Gr fp w fp') (h' : Gr fp' w' fp'') (hs : w.heap.size ≤ w'.heap.size) : Gr fp w fp'' := fun k hk => by
  rcases h' k hk with h1 | h1
  · exact h k h1
  · exact .inr (Nat.le_trans hs h1)
theorem Gr.cons {fp : List Nat} {w : World} {v v' : Value} (hm : Moved w v v') (hv : ∀ k, v.ownBlock = some k → k ∈ fp) : Gr fp w (v'.ownBlock.toList ++ fp) := by
  intro k hk
  rcases List.mem_append.1 hk with h | h
  · rw [Option.mem_toList] at h
    rcases hm with e | e
    · exact .inl (hv k (e ▸ h))
    · exact .inr (e k h)
  · exact .inl h
/-- The map of names has turned. -/
theorem DkP.named {w w' : World} {fp : List Nat} {b : Nat} {fv cv : Value} {nb sb : Nat} {hs : List HF} {d : Dsk} (h : DkP w fp b fv cv nb sb hs d) (hc : Chg [nb] w w') {es : Nm} (hm : MapAt w' nb es) (hg : GoodD { d with names := es }) :
    DkP w' fp b fv cv nb sb hs { d with names := es } :=
  { h with
    box := h.box.chg hc (by simpa using fun e => h.names.apart h.box e.symm)
    names := hm
    sure := h.sure.chg hc (by simpa using fun e => h.ne e.symm)
    files := ownsRow_chg h.files hc fun k hk => by have := h.names.apartRow h.files; rw [hk] at this; simpa using this
    changes := ownsRow_chg h.changes hc fun k hk => by have := h.names.apartRow h.changes; rw [hk] at this; simpa using this
    bytes := fun f hf => OwB.chg (h.bytes f hf) hc fun k hk => by have := h.names.apartRow (h.bytes f hf); rw [hk] at this; simpa using this
    fpl := fun k hk => Nat.lt_of_lt_of_le (h.fpl k hk) hc.size
    good := hg }
/-- The row of changes has grown. -/
theorem DkP.changed {w w' : World} {fp : List Nat} {b : Nat} {fv cv : Value} {nb sb : Nat} {hs : List HF} {d : Dsk} (h : DkP w fp b fv cv nb sb hs d) {cv' : Value} {cs : List (List UInt8 × List UInt8 × Nat)}
    (hgw : w.grownBy w' cv.ownBlock) (hrow : w'.ownsRow 0 109 3 cv' cs.length (chCells cs)) (hg : GoodD { d with changes := cs }) :
    DkP (w'.setCell ⟨b, 4, none⟩ cv') (cv'.ownBlock.toList ++ fp) b fv cv' nb sb hs { d with changes := cs } := by
  have hc := Chg.ofGrown hgw
  have hbox : Blk w' b (boxCells fv cv nb sb d) 75 := h.box.grown hgw (ownsRow_apart h.changes h.box (by decide))
  exact
  { box := hbox.set 4 cv'
    names := (h.names.grown hgw fun e => h.names.apartRow h.changes e.symm).set _ _ (h.names.apart h.box)
    sure := (h.sure.grown hgw fun e => h.sure.apartRow h.changes e.symm).set _ _ (h.sure.apart h.box)
    files := ownsRow_set (ownsRow_chg h.files hc fun k hk => by simpa using ownsRow_ne2 h.files h.changes (by decide) k hk) hbox (by decide) 4 _
    same := h.same
    changes := ownsRow_set hrow hbox (by decide) 4 _
    bytes := fun f hf => ownsRow_set (ownsRow_chg (h.bytes f hf) hc fun k hk => by simpa using ownsRow_ne2 (h.bytes f hf) h.changes (by decide) k hk) hbox (by decide) 4 _
    apart := h.apart
    ne := h.ne
    fpb := by simp [h.fpb]
    fpn := by simp [h.fpn]
    fps := by simp [h.fps]
    fpf := fun k hk => by simp [h.fpf k hk]
    fpc := fun k hk => by simp [hk]
    fph := fun f hf k hk => by simp [h.fph f hf k hk]
    fpl := fun k hk => by
      rw [size_set]
      rcases List.mem_append.1 hk with hk | hk
      · exact (World.ownsRow.lt hrow k (by simpa using hk)).2
      · exact Nat.lt_of_lt_of_le (h.fpl k hk) hc.size
    good := hg }
/-- Behind a call: the disk is d', at blocks that it had or that came up; nothing else has turned. -/
def DkOut (w : World) (fp : List Nat) (b : Nat) (d' : Dsk) (w' : World) : Prop := ∃ fp', Dk w' fp' b d' ∧ Chg fp w w' ∧ Gr fp w fp'
theorem DkOut.mk {w w' : World} {fp fp' : List Nat} {b : Nat} {d' : Dsk} (h : Dk w' fp' b d') (hc : Chg fp w w') (hg : Gr fp w fp') : DkOut w fp b d' w' := ⟨fp', h, hc, hg⟩
theorem DkOut.same {w w' : World} {fp : List Nat} {b : Nat} {d' : Dsk} (h : Dk w' fp b d') (hc : Chg fp w w') : DkOut w fp b d' w' := ⟨fp, h, hc, Gr.refl _ _⟩
theorem DkOut.after {w w1 w2 : World} {fp : List Nat} {b : Nat} {d' : Dsk} (h : DkOut w1 fp b d' w2) (hc : Chg fp w w1) : DkOut w fp b d' w2 :=
  let ⟨fp', h1, h2, h3⟩ := h; ⟨fp', h1, hc.trans h2 (fun _ h _ => h), (Gr.refl fp w).trans h3 hc.size⟩
theorem Gr.mem {fp fp' : List Nat} {w : World} (h : Gr fp w fp') : ∀ x ∈ fp', x < w.heap.size → x ∈ fp := fun x hx hl => by
  rcases h x hx with h | h
  · exact h
  · omega
theorem DkOut.chain {w w1 w2 : World} {fp fp' : List Nat} {b : Nat} {d' : Dsk} (h : DkOut w1 fp' b d' w2) (hc : Chg fp w w1) (hg : Gr fp w fp') : DkOut w fp b d' w2 :=
  let ⟨fp'', h1, h2, h3⟩ := h; ⟨fp'', h1, hc.trans h2 hg.mem, hg.trans h3 hc.size⟩
theorem rowCh : RowT Tryz.prog 73 109 3 40 := RowT.mk (z := .agg #[.string ByteArray.empty, .string ByteArray.empty, .int .i64 0]) (by kernel_rfl) (by kernel_rfl) rfl (by decide)
theorem rowFile : RowT Tryz.prog 72 85 2 32 := RowT.mk (z := .agg #[.slice none 0 0, .int .i64 0]) (by kernel_rfl) (by kernel_rfl) rfl (by decide)
theorem DkP.len {w : World} {fp : List Nat} {b : Nat} {fv cv : Value} {nb sb : Nat} {hs : List HF} {d : Dsk} (h : DkP w fp b fv cv nb sb hs d) : hs.length = d.files.length := by rw [← h.same]; simp
end Go.Proofs.YtbiadpkglcdihaaGreat

/- The disk's small methods. -/
namespace Go.Proofs.YtbiadpkglcdihaaGreat
open Go.RowKit

variable {w : World} {fp : List Nat} {b : Nat} {fv cv : Value} {nb sb : Nat} {hs : List HF} {d : Dsk}

set_option maxHeartbeats 1000000 in
theorem op_any (h : DkP w fp b fv cv nb sb hs d) (hops : d.ops < 1073741824) :
    Calls Tryz.prog 41 #[.pointer (some ⟨b, 0, none⟩)] w fun e w' => e = .returned (.int .i64 (opE d)) ∧ DkP w' fp b fv cv nb sb hs (opD d) ∧ Chg [b] w w' ∧ w'.heap.size = w.heap.size := by
  have hg := h.good.op hops
  have ho := h.good.ops
  have q5 := h.box.cell 5
  have f5 := h.box.free 5
  have k1 := h.box.set 5 (.int .i64 (d.ops + 1))
  have r6 := k1.cell 6
  have r8 := k1.cell 8
  have f8 := k1.free 8
  simp [boxCells] at q5 r6 r8
  have H := hd h
  obtain ⟨E, hE⟩ : ∃ E, opE d = E := ⟨_, rfl⟩
  have HE := hd hE
  rw [hE]
  clear hE h
  have fin : ∀ off', off' = (opD d).off → Blk ((w.setCell ⟨b, 5, none⟩ (.int .i64 (d.ops + 1))).setCell ⟨b, 8, none⟩ (.bool off')) b (boxCells fv cv nb sb (opD d)) 75 := by
    rintro off' rfl
    exact k1.set 8 _
  have fin2 : ∀ off', off' = (opD d).off → DkP ((w.setCell ⟨b, 5, none⟩ (.int .i64 (d.ops + 1))).setCell ⟨b, 8, none⟩ (.bool off')) fp b fv cv nb sb hs (opD d) ∧ Chg [b] w ((w.setCell ⟨b, 5, none⟩ (.int .i64 (d.ops + 1))).setCell ⟨b, 8, none⟩ (.bool off')) ∧ ((w.setCell ⟨b, 5, none⟩ (.int .i64 (d.ops + 1))).setCell ⟨b, 8, none⟩ (.bool off')).heap.size = w.heap.size := by
    intro off' e
    have hc : Chg [b] w ((w.setCell ⟨b, 5, none⟩ (.int .i64 (d.ops + 1))).setCell ⟨b, 8, none⟩ (.bool off')) := ((Chg.refl _ _).setCell _ _ (by simp)).setCell _ _ (by simp)
    exact ⟨H.out.scal hc (fin off' e) rfl rfl rfl rfl hg, hc, by simp⟩
  have F2 := hd fin2
  clear fin fin2 hg H
  have hwrap : ¬ 9223372036854775807 < d.ops + 1 := by omega
  have hoff : d.off = true ∨ (d.off = false ∧ 0 ≤ d.down ∧ d.down ≤ d.ops) ∨ (d.off = false ∧ 0 ≤ d.down ∧ ¬ d.down ≤ d.ops) ∨ (d.off = false ∧ ¬ 0 ≤ d.down) := by
    cases d.off <;> simp <;> omega
  generalize hX : (opD d).off = X at F2
  have k2 := k1.set 8 (.bool X)
  have s7 := k2.cell 7
  have s8 := k2.cell 8
  simp [boxCells] at s7 s8
  clear k1 k2
  have hXv : X = (d.off || decide (0 ≤ d.down ∧ d.down ≤ d.ops)) := by rw [← hX]; rfl
  have HX := hd hX
  clear hX
  have hEv : E = if d.off = true ∨ (0 ≤ d.down ∧ d.down ≤ d.ops) then 8 else if 0 ≤ d.fail ∧ d.ops = d.fail then 7 else 0 := by rw [← HE.out]; rfl
  clear HE
  have HEv := hd hEv
  clear hEv
  go_enter Tryz.func41, Tryz.ntmps41
  rcases hoff with e | ⟨e, h1, h2⟩ | ⟨e, h1, h2⟩ | ⟨e, h1⟩ <;> rw [e] at r8 hXv
  · obtain rfl : X = true := by rw [hXv]; simp
    clear hXv
    go_wp2_with fail
    refine bodyPost_ret (v := .int .i64 8) ?_ rfl ⟨?_, F2.out true rfl⟩
    · simp only [results]; go_simp
    · rw [HEv.out, e]; simp
  · obtain rfl : X = true := by rw [hXv]; simp [h1, h2]
    clear hXv
    go_wp2_with fail
    refine bodyPost_ret (v := .int .i64 8) ?_ rfl ⟨?_, F2.out true rfl⟩
    · simp only [results]; go_simp
    · rw [HEv.out, e]; simp [h1, h2]
  all_goals
    obtain rfl : X = false := by rw [hXv]; simp; omega
    clear hXv
    by_cases h3 : 0 ≤ d.fail
    · by_cases h4 : d.ops = d.fail
      · have h4' : (d.ops == d.fail) = true := by simpa using h4
        have H4 := hd h4
        clear h4
        go_wp2_with fail
        refine bodyPost_ret (v := .int .i64 7) ?_ rfl ⟨?_, F2.out false rfl⟩
        · simp only [results]; go_simp
        · have h4 := H4.out; rw [HEv.out, e]; simp; omega
      · have h4' : (d.ops == d.fail) = false := by simpa using h4
        go_wp2_with fail
        refine bodyPost_ret (v := .int .i64 0) ?_ rfl ⟨?_, F2.out false rfl⟩
        · simp only [results]; go_simp
        · rw [HEv.out, e]; simp; omega
    · go_wp2_with fail
      refine bodyPost_ret (v := .int .i64 0) ?_ rfl ⟨?_, F2.out false rfl⟩
      · simp only [results]; go_simp
      · rw [HEv.out, e]; simp; omega

set_option maxHeartbeats 400000 in
theorem find_any (h : DkP w fp b fv cv nb sb hs d) (s : List UInt8) (hs' : s.length ≤ 140737488355328) :
    Calls Tryz.prog 42 #[.pointer (some ⟨b, 0, none⟩), .string (strB s)] w fun e w' => w' = w ∧
      match nget d.names s with
      | none => e = .returned (.tuple #[.pointer none, .int .i64 4])
      | some i => ∃ g c, fv = .slice (some ⟨g, 0, none⟩) hs.length c ∧ i < hs.length ∧ e = .returned (.tuple #[.pointer (some ⟨g, i * 2, none⟩), .int .i64 0]) := by
  have q1 := h.box.cell 1
  have q2 := h.box.cell 2
  simp [boxCells] at q1 q2
  have hN := h.names
  rcases hi : nget d.names s with _ | i
  · go_enter Tryz.func42, Tryz.ntmps42
    clear h
    go_wp2_with (at_lookup; refine wpLook rfl _ _ rfl nb _ s rfl rfl hN hs' ?_; rw [hi]; dsimp only [Option.getD_none, Option.isSome_none])
    refine bodyPost_ret (v := .tuple #[.pointer none, .int .i64 4]) ?_ rfl ⟨rfl, rfl⟩
    simp only [results]; go_simp
  · have hlt : i < hs.length := by rw [h.len]; exact h.good.named _ (nget_some_mem hi)
    obtain ⟨g, c, rfl⟩ : ∃ g c, fv = .slice (some ⟨g, 0, none⟩) hs.length c := by
      rcases h.files.2 with ⟨rfl, hz⟩ | ⟨g, cap, cur, rfl, _⟩
      · omega
      · exact ⟨g, cap, rfl⟩
    have hlti : (i : Int) < (hs.length : Int) := by omega
    go_enter Tryz.func42, Tryz.ntmps42
    clear h
    go_wp2_with (at_lookup; refine wpLook rfl _ _ rfl nb _ s rfl rfl hN hs' ?_; rw [hi]; dsimp only [Option.getD_some, Option.isSome_some])
    refine bodyPost_ret (v := .tuple #[.pointer (some ⟨g, i * 2, none⟩), .int .i64 0]) ?_ rfl ⟨rfl, g, c, rfl, hlt, rfl⟩
    simp only [results]; go_simp
end Go.Proofs.YtbiadpkglcdihaaGreat

/- turn, change, name. -/
namespace Go.Proofs.YtbiadpkglcdihaaGreat
open Go.RowKit

theorem strB_nil : strB [] = ByteArray.empty := rfl
theorem strB_beq (a b : List UInt8) : (strB a == strB b) = (a == b) := by
  show (a.toArray == b.toArray) = _
  simp
theorem strB_empty {s : List UInt8} (h : s ≠ []) : (strB s == ByteArray.empty) = false := by
  rw [← strB_nil, strB_beq]; simpa using h

set_option maxHeartbeats 400000 in
theorem turn_any (w : World) (nb : Nat) (es : Nm) (c : List UInt8 × List UInt8 × Nat) (h : MapAt w nb es) (h1 : c.1.length ≤ 140737488355328) (h2 : c.2.1.length ≤ 140737488355328) (hi : c.2.2 ≤ 4611686018427387904) (hn : es.length ≤ 10000000000) :
    Calls Tryz.prog 54 #[.map (some nb), .agg #[.string (strB c.1), .string (strB c.2.1), .int .i64 (c.2.2 : Int)]] w fun e w' => e = .returned (.tuple #[]) ∧ MapAt w' nb (turnD es c) ∧ Chg [nb] w w' := by
  obtain ⟨g, s, i⟩ := c
  dsimp only at h1 h2 hi ⊢
  have hnd : (es.map (·.1)).Nodup := let ⟨_, _, hr⟩ := h; hr.nodup
  have hlen : (ndel es g).length ≤ 10000000000 := Nat.le_trans (List.length_filter_le _ _) hn
  go_enter Tryz.func54, Tryz.ntmps54
  have kx := Blk.new w #[.string (strB g), .string (strB s), .int .i64 (i : Int)] 109
  have hm := h.alloc (.cells #[.string (strB g), .string (strB s), .int .i64 (i : Int)] 109)
  have hc := (Chg.refl [nb] w).alloc (.cells #[.string (strB g), .string (strB s), .int .i64 (i : Int)] 109)
  by_cases hg : g = []
  · subst hg
    by_cases hs : s = []
    · subst hs
      go_wp2_with fail
      go_end0
      exact ⟨rfl, by simp [turnD, *], hc⟩
    · have s1 := strB_empty hs
      have s2 : (s == []) = false := by simpa using hs
      go_wp2_with (refine wpPut rfl _ _ _ rfl nb _ s i rfl rfl rfl hm h2 hi (by omega) ?_; intro w2 hm2 hg2)
      go_end0
      exact ⟨rfl, by simp [turnD, *], hc.grown hg2 (by simp)⟩
  · have g1 := strB_empty hg
    have g2 : (g == []) = false := by simpa using hg
    by_cases hs : s = []
    · subst hs
      go_wp2_with (at_delete; refine wpDel rfl _ _ rfl nb _ g rfl rfl hm h1 ?_; intro w2 hm2 hg2; have kx2 := kx.grown hg2 (fun e => hm.apart kx (by injection e)); have r0 := kx2.cell 0; have r1 := kx2.cell 1; have r2 := kx2.cell 2; simp at r0 r1 r2)
      go_end0
      exact ⟨rfl, by simp [turnD, *], hc.grown hg2 (by simp)⟩
    · have s1 := strB_empty hs
      have s2 : (s == []) = false := by simpa using hs
      go_wp2_with (first | (at_delete; refine wpDel rfl _ _ rfl nb _ g rfl rfl hm h1 ?_; intro w2 hm2 hg2; have kx2 := kx.grown hg2 (fun e => hm.apart kx (by injection e)); have r0 := kx2.cell 0; have r1 := kx2.cell 1; have r2 := kx2.cell 2; simp at r0 r1 r2) | (refine wpPut rfl _ _ _ rfl nb _ s i rfl rfl rfl hm2 h2 hi (by omega) ?_; intro w3 hm3 hg3))
      go_end0
      exact ⟨rfl, by simp [turnD, *], (hc.grown hg2 (by simp)).grown hg3 (by simp)⟩
end Go.Proofs.YtbiadpkglcdihaaGreat

/- Disk.change. -/
namespace Go.Proofs.YtbiadpkglcdihaaGreat
open Go.RowKit

variable {w : World} {fp : List Nat} {b : Nat} {fv cv : Value} {nb sb : Nat} {hs : List HF} {d : Dsk}

theorem change_fin {w2 W w7 : World} {es : Nm} {g s : List UInt8} {i : Nat} {cv' : Value} (D : DkP w2 fp b fv cv nb sb hs { d with names := es }) (hcf : Chg fp w w2) (hA : Chg [] w2 W)
    (hr7 : w7.ownsRow 0 109 3 cv' (d.changes.length + 1) (chCells d.changes ++ [.string (strB g), .string (strB s), .int .i64 (i : Int)])) (hg7 : W.grownBy w7 cv.ownBlock) (hm7 : Moved W cv cv')
    (hg : GoodD { d with names := es, changes := d.changes ++ [(g, s, i)] }) (hS8 : Chg (b :: cv.ownBlock.toList) w2 (w7.setCell ⟨b, 4, none⟩ cv')) :
    DkOut w fp b { d with names := es, changes := d.changes ++ [(g, s, i)] } (w7.setCell ⟨b, 4, none⟩ cv') := by
  have hsz := hcf.size
  have hszA := hA.size
  refine DkOut.mk ⟨_, _, _, _, _, DkP.changed (D.k hA) (cs := d.changes ++ [(g, s, i)]) hg7 ?_ hg⟩ ?_ ?_
  · rw [chCells_app, List.length_append]; exact hr7
  · refine hcf.trans hS8 fun x hx _ => ?_
    rcases List.mem_cons.1 hx with rfl | hx
    · exact D.fpb
    · exact D.fpc x (by simpa using hx)
  · exact (Gr.refl fp w).trans (Gr.cons hm7 D.fpc) (by omega)

set_option maxHeartbeats 1000000 in
theorem change_any (h : DkP w fp b fv cv nb sb hs d) (g s : List UInt8) (i : Nat) (h1 : g.length ≤ 140737488355328) (h2 : s.length ≤ 140737488355328) (hi : i ≤ d.files.length) (hi' : s ≠ [] → i < d.files.length)
    (hb1 : (d.names.length : Int) + 1 ≤ d.ops) (hb2 : (d.sure.length + d.changes.length : Int) + 1 ≤ d.ops) :
    Calls Tryz.prog 51 #[.pointer (some ⟨b, 0, none⟩), .agg #[.string (strB g), .string (strB s), .int .i64 (i : Int)]] w fun e w' =>
      e = .returned (.tuple #[]) ∧ DkOut w fp b (changeD d (g, s, i)) w' := by
  have hg := h.good
  have ho := hg.ops
  have hnf := hg.nfiles
  have hnd : (d.names.map (·.1)).Nodup := let ⟨_, _, hr⟩ := h.names; hr.nodup
  have hg1 : GoodD { d with names := turnD d.names (g, s, i) } := by
    refine { hg with named := fun p hp => ?_, nnames := ?_ }
    · rcases mem_turnD hp with hp | ⟨hne, rfl⟩
      · exact hg.named p hp
      · exact hi' hne
    · have := length_turn hnd (g, s, i)
      show ((turnD d.names (g, s, i)).length : Int) ≤ d.ops
      omega
  have hg2 : GoodD (changeD d (g, s, i)) := by
    refine { hg1 with turned := fun c hc => ?_, idx := fun c hc => ?_, nchanges := ?_, clens := fun c hc => ?_ }
    · rcases List.mem_append.1 hc with hc | hc
      · exact hg.turned c hc
      · obtain rfl : c = (g, s, i) := by simpa using hc
        exact hi'
    · rcases List.mem_append.1 hc with hc | hc
      · exact hg.idx c hc
      · obtain rfl : c = (g, s, i) := by simpa using hc
        exact hi
    · show (d.sure.length : Int) + ((d.changes ++ [(g, s, i)]).length : Int) ≤ d.ops
      simp only [List.length_append, List.length_cons, List.length_nil]
      omega
    · rcases List.mem_append.1 hc with hc | hc
      · exact hg.clens c hc
      · obtain rfl : c = (g, s, i) := by simpa using hc
        exact ⟨h1, h2⟩
  have HG1 := hd hg1
  have HG2 := hd hg2
  clear hg hg1 hg2 hnd
  have hc := Chg.refl [] w
  have hblt := h.box.lt
  have hcvlt := fun k hk => (World.ownsRow.lt h.changes k hk).2
  go_enter Tryz.func51, Tryz.ntmps51
  go_upto_region 1 with (fail)
  have hcb1 := (Chg.refl [] w).alloc (.cells #[.string (strB g), .string (strB s), .int .i64 (i : Int)] 109)
  have kx := Blk.new w #[.string (strB g), .string (strB s), .int .i64 (i : Int)] 109
  replace h := h.k hcb1
  replace hc := hc.k hcb1
  generalize w.alloc (.cells #[.string (strB g), .string (strB s), .int .i64 (i : Int)] 109) = w0 at *
  clear hcb1
  have q0 := kx.cell 0
  have q1 := kx.cell 1
  have q2 := kx.cell 2
  have q3 := h.box.cell 2
  simp [boxCells] at q0 q1 q2 q3
  have Q0 := hd q0
  have Q1 := hd q1
  have Q2 := hd q2
  have Q3 := hd q3
  have HM := hd h.names
  clear q0 q1 q2 q3
  have N1 : w.heap.size ∉ [nb] := by simpa using fun e => h.names.apart kx e.symm
  have N2 : b ∉ [nb] := by simpa using fun e => h.names.apart h.box e.symm
  refine rg (N := 6) (by kernel_rfl) (by kernel_rfl) (S := (fun wx => Chg [nb] w0 wx)) ((Chg.refl _ _).drew) (fun hHeld => ?_)
  refine tks [0, 1, 2, 3, 4] (by kernel_rfl) (fun _ _ _ _ _ h => h) (by assumption) ?_
  iterate 5 (refine tkc rfl rfl (by rfl) (fun wx hSw => by (try dsimp only at hSw); (have t0 := hSw.cellT Q0.out N1; have t1 := hSw.cellT Q1.out N1; have t2 := hSw.cellT Q2.out N1; have t3 := hSw.cellT Q3.out N2); go_simp; (try with_reducible rfl)) ?_; simp only [List.set])
  refine tk0 ?_
  refine rn 5 rfl (by kernel_rfl) (by rfl) fun KK hKK => ?_
  go_simp; (refine (turn_any _ nb d.names (g, s, i) (HM.out.k (Chg.refl _ _).drew) h1 h2 (by show i ≤ _; omega) (by omega)).mono ?_; rintro e w2 ⟨rfl, hm2, hc2⟩; have hcc := (Chg.refl [nb] w0).drew.trans hc2 (by simp); clear hc2; try go_simp); refine hKK.out _ _ (by assumption) fun hHeld => ?_; clear hKK KK; try simp only [Act.put, List.setIfInBounds_toArray, List.set]
  refine wpAnyH_done (by kernel_rfl) ?_ _
  have D2 := h.named hcc hm2 HG1.out
  have hcf : Chg fp w w2 := (hc.mono (S' := fp) (by simp)).trans hcc (by simp only [List.mem_singleton]; rintro x rfl _; exact h.fpn)
  have kx2 := kx.chg hcc N1
  have q0 := kx2.cell 0
  have q1 := kx2.cell 1
  have q2 := kx2.cell 2
  have q3 := D2.box.cell 4
  simp [boxCells] at q0 q1 q2 q3
  replace Q0 := hd q0
  replace Q1 := hd q1
  replace Q2 := hd q2
  have hlt := D2.box.lt
  have HC := hd D2.changes
  have HD := hd D2
  have HCF := hd hcf
  have N1 : w.heap.size ∉ b :: cv.ownBlock.toList := by
    intro hx
    rcases List.mem_cons.1 hx with e | e
    · omega
    · rw [Option.mem_toList] at e; have := hcvlt _ e; omega
  clear q0 q1 q2 D2 hcf hm2 hcc kx kx2 h HM N2 Q3
  go_upto_region 2 with (fail)
  refine rg (N := 11) (by kernel_rfl) (by kernel_rfl) (S := (fun wx => Chg (b :: cv.ownBlock.toList) w2 wx)) ((Chg.refl _ _).drew) (fun hHeld => ?_)
  refine tks [0, 1, 2, 3, 5] (by kernel_rfl) (fun _ _ _ _ _ h => h) (by assumption) ?_
  iterate 5 (refine tkc rfl rfl (by rfl) (fun wx hSw => by (try dsimp only at hSw); (have t0 := hSw.cellT Q0.out N1; have t1 := hSw.cellT Q1.out N1; have t2 := hSw.cellT Q2.out N1); go_simp; (try with_reducible rfl)) ?_; simp only [List.set])
  refine tk0 ?_
  refine rn2 4 6 rfl rfl (by kernel_rfl) (by rfl) (by rfl) (fun KK hKK => ?ra2) (fun KK hKK => ?rb2)
  case' ra2 =>
    go_simp; refine hKK.out _ _ (by assumption) fun hHeld => ?_; clear hKK KK; try simp only [Act.put, List.setIfInBounds_toArray, List.set]
    refine rn 6 rfl (by kernel_rfl) (by rfl) fun KK hKK => ?_
    go_simp; (have hm6 := hHeld.alloc (.cells #[.string (strB g), .string (strB s), .int .i64 (i : Int)] 109)); refine hKK.out _ _ (by assumption) fun hHeld => ?_; clear hKK KK; try simp only [Act.put, List.setIfInBounds_toArray, List.set]
    refine rn 7 rfl (by kernel_rfl) (by rfl) fun KK hKK => ?_
    (have hmA := ((Chg.refl [] w2).alloc (.cells #[.string (strB g), .string (strB s), .int .i64 (i : Int)] 109)).drew; refine wp_appT rowCh _ _ rfl 0 cv d.changes.length (chCells d.changes) rfl (ownsRow_k HC.out hmA) _ 1 [.string (strB g), .string (strB s), .int .i64 (i : Int)] rfl (Rd.keep (Rd.lit w2 3 1 _ _ _ rfl rfl (by decide)) ((Chg.refl [] _).drew) (by simp)) (by simp [Value.oneCell']) (by omega) (by omega) (Nat.zero_le _) ?_; intro ao7 c7 w7 hr7 hg7 hm7; have DA := HD.out.k hmA; have bx7 := DA.box.grown hg7 (ownsRow_apart DA.changes DA.box (by decide)); have f7 := bx7.free 4; have q7 := bx7.cell 4; simp [boxCells] at q7; have hS7 : Chg (b :: cv.ownBlock.toList) w2 w7 := (hmA.mono (S' := b :: cv.ownBlock.toList) (by simp)).grown hg7 (by intro k hk _; simp [hk]); have P7 := hd (And.intro hr7 (And.intro hg7 hm7)); have HS7 := hd hS7; clear hr7 hg7 hm7 hmA DA bx7 hS7; (try have hS7 := HS7.out)); refine hKK.out _ _ (by assumption) fun hHeld => ?_; clear hKK KK; try simp only [Act.put, List.setIfInBounds_toArray, List.set]
    refine tks [8, 9] (by kernel_rfl) (fun _ _ _ _ _ h => h) (by assumption) ?_
    iterate 2 (refine tkc rfl rfl (by rfl) (fun wx hSw => by (try dsimp only at hSw); (have t0 := hSw.cellT Q0.out N1; have t1 := hSw.cellT Q1.out N1; have t2 := hSw.cellT Q2.out N1); go_simp; (try with_reducible rfl)) ?_; simp only [List.set])
    refine tk0 ?_
    refine rn 10 rfl (by kernel_rfl) (by rfl) fun KK hKK => ?_
    go_simp; (have hS8 : Chg (b :: cv.ownBlock.toList) w2 (w7.setCell ⟨b, 4, none⟩ (.slice ao7 (d.changes.length + 1) c7)) := HS7.out.setCell _ _ (by simp)); refine hKK.out _ _ (by assumption) fun hHeld => ?_; clear hKK KK; try simp only [Act.put, List.setIfInBounds_toArray, List.set]
    refine wpAnyH_done (by kernel_rfl) ?_ _
    clear hHeld; (try clear hS7); go_wp2_with fail; go_end0; exact ⟨rfl, change_fin HD.out HCF.out (((Chg.refl [] w2).alloc (.cells #[.string (strB g), .string (strB s), .int .i64 (i : Int)] 109)).drew) P7.out.1 P7.out.2.1 P7.out.2.2 HG2.out hS8⟩
  case' rb2 =>
    go_simp; (have hm6 := hHeld.alloc (.cells #[.string (strB g), .string (strB s), .int .i64 (i : Int)] 109)); refine hKK.out _ _ (by assumption) fun hHeld => ?_; clear hKK KK; try simp only [Act.put, List.setIfInBounds_toArray, List.set]
    refine rn 4 rfl (by kernel_rfl) (by rfl) fun KK hKK => ?_
    go_simp; refine hKK.out _ _ (by assumption) fun hHeld => ?_; clear hKK KK; try simp only [Act.put, List.setIfInBounds_toArray, List.set]
    refine rn 7 rfl (by kernel_rfl) (by rfl) fun KK hKK => ?_
    (have hmA := ((Chg.refl [] w2).alloc (.cells #[.string (strB g), .string (strB s), .int .i64 (i : Int)] 109)).drew; refine wp_appT rowCh _ _ rfl 0 cv d.changes.length (chCells d.changes) rfl (ownsRow_k HC.out hmA) _ 1 [.string (strB g), .string (strB s), .int .i64 (i : Int)] rfl (Rd.keep (Rd.lit w2 3 1 _ _ _ rfl rfl (by decide)) ((Chg.refl [] _).drew) (by simp)) (by simp [Value.oneCell']) (by omega) (by omega) (Nat.zero_le _) ?_; intro ao7 c7 w7 hr7 hg7 hm7; have DA := HD.out.k hmA; have bx7 := DA.box.grown hg7 (ownsRow_apart DA.changes DA.box (by decide)); have f7 := bx7.free 4; have q7 := bx7.cell 4; simp [boxCells] at q7; have hS7 : Chg (b :: cv.ownBlock.toList) w2 w7 := (hmA.mono (S' := b :: cv.ownBlock.toList) (by simp)).grown hg7 (by intro k hk _; simp [hk]); have P7 := hd (And.intro hr7 (And.intro hg7 hm7)); have HS7 := hd hS7; clear hr7 hg7 hm7 hmA DA bx7 hS7; (try have hS7 := HS7.out)); refine hKK.out _ _ (by assumption) fun hHeld => ?_; clear hKK KK; try simp only [Act.put, List.setIfInBounds_toArray, List.set]
    refine tks [8, 9] (by kernel_rfl) (fun _ _ _ _ _ h => h) (by assumption) ?_
    iterate 2 (refine tkc rfl rfl (by rfl) (fun wx hSw => by (try dsimp only at hSw); (have t0 := hSw.cellT Q0.out N1; have t1 := hSw.cellT Q1.out N1; have t2 := hSw.cellT Q2.out N1); go_simp; (try with_reducible rfl)) ?_; simp only [List.set])
    refine tk0 ?_
    refine rn 10 rfl (by kernel_rfl) (by rfl) fun KK hKK => ?_
    go_simp; (have hS8 : Chg (b :: cv.ownBlock.toList) w2 (w7.setCell ⟨b, 4, none⟩ (.slice ao7 (d.changes.length + 1) c7)) := HS7.out.setCell _ _ (by simp)); refine hKK.out _ _ (by assumption) fun hHeld => ?_; clear hKK KK; try simp only [Act.put, List.setIfInBounds_toArray, List.set]
    refine wpAnyH_done (by kernel_rfl) ?_ _
    clear hHeld; (try clear hS7); go_wp2_with fail; go_end0; exact ⟨rfl, change_fin HD.out HCF.out (((Chg.refl [] w2).alloc (.cells #[.string (strB g), .string (strB s), .int .i64 (i : Int)] 109)).drew) P7.out.1 P7.out.2.1 P7.out.2.2 HG2.out hS8⟩
end Go.Proofs.YtbiadpkglcdihaaGreat

/- disk.name. -/
namespace Go.Proofs.YtbiadpkglcdihaaGreat
open Go.RowKit

theorem Bs.cell {w : World} {b off n c : Nat} {l : List UInt8} (h : Bs w (.slice (some ⟨b, off, none⟩) n c) l) (j : Nat) (hj : j < l.length) : w.cell? ⟨b, off + j, none⟩ = some (.int .u8 (n8 l[j])) := by
  obtain ⟨b', off', cap, e, -, hcell⟩ := Rd.cells h (by omega)
  simp only [Value.slice.injEq, Option.some.injEq, Addr.mk.injEq, and_true] at e
  obtain ⟨⟨rfl, rfl⟩, -, -⟩ := e
  have := hcell j (.int .u8 (n8 l[j])) (by rw [List.getElem?_map, List.getElem?_eq_getElem hj]; rfl)
  by_cases h0 : j = 0
  · subst h0; simpa [Addr.add] using this
  · simpa [Addr.add, h0] using this

set_option maxHeartbeats 1000000 in
theorem name_any (w : World) (s : List UInt8) (hs : s.length ≤ 140737488355328) : Calls Tryz.prog 50 #[.string (strB s)] w fun e w' => e = .returned (.bool (nameD s)) ∧ Chg [] w w' := by
  have hsz : (strB s).size = s.length := strB_size s
  have hdl : (strB s).data.toList = s := strB_list s
  have hsl : (strB s).size ≤ 140737488355328 := by rw [hsz]; exact hs
  have Hdl := hd hdl
  have Hsz := hd hsz
  clear hdl hsz
  have hE : s ≠ [] → (strB s == ByteArray.empty) = false := strB_empty
  obtain ⟨N, hN⟩ : ∃ N, nameD s = N := ⟨_, rfl⟩
  have HN := hd hN
  rw [hN]
  clear hN
  go_enter Tryz.func50, Tryz.ntmps50
  go_upto_region 1 with (fail)
  go_wp2_with (refine wpOfStr rfl _ rfl _ rfl hsl ?_; intro g c w1 hb1 hg1 hc1; rw [Hdl.out, Hsz.out] at hb1; rw [Hsz.out])
  subst hg1
  have hm1 : s.length ≤ 140737488355328 := hs
  go_loopw [4, 8] (fun _ i wr => ∃ k : Nat, k ≤ s.length ∧ i = .int .i64 k ∧ (s.take k).all signD = true ∧ wr = w1) (fun _ i _ => s.length - (intOf i).toNat)
  case atStart => exact ⟨0, by omega, rfl, by simp, rfl⟩
  case round =>
    obtain ⟨k, hk, rfl, hall, rfl⟩ := hrel
    by_cases hlt : k < s.length
    · have hc := hb1.cell k hlt
      have hT : (s.take (k + 1)).all signD = ((s.take k).all signD && signD s[k]) := by
        rw [List.take_succ_eq_append_getElem hlt, List.all_append]; simp
      rw [hall, Bool.true_and] at hT
      have hbad : signD s[k] = false → N = false := by
        intro h
        rw [← HN.out]
        unfold nameD
        have : s.all signD = false := by
          rw [List.all_eq_false]; exact ⟨s[k], List.getElem_mem hlt, by simp [h]⟩
        rw [this]; rfl
      have hsg : signD s[k] = ((decide (97 ≤ n8 s[k]) && decide (n8 s[k] ≤ 122)) || (decide (48 ≤ n8 s[k]) && decide (n8 s[k] ≤ 57)) || n8 s[k] == 45) := by
        unfold signD n8
        rw [Bool.eq_iff_iff]
        simp
        omega
      have HT := hd hT
      have HB := hd hbad
      have HSG := hd hsg
      clear hT hbad hsg hall
      rw [Nat.zero_add] at hc
      generalize n8 s[k] = z at *
      generalize signD s[k] = sg at *
      by_cases h1 : z < 97
      · by_cases h3 : z < 48
        · by_cases h5 : z = 45
          · have h5' : (z == 45) = true := by simpa using h5
            have hs' : sg = true := by rw [HSG.out, h5']; simp
            go_wp2_with fail
            go_roundw
            case rel => exact ⟨k + 1, by omega, by go_num, by rw [HT.out, hs'], by trivial⟩
            case measure => simp [intOf]; omega
          · have h5' : (z == 45) = false := by simpa using h5
            have hs' : sg = false := by rw [HSG.out, h5']; simp <;> omega
            go_wp2_with fail
            go_ret
            have hbN := HB.out hs'
            subst hbN
            exact ⟨rfl, hc1⟩
        · by_cases h4 : 57 < z
          · by_cases h5 : z = 45
            · have h5' : (z == 45) = true := by simpa using h5
              have hs' : sg = true := by rw [HSG.out, h5']; simp
              go_wp2_with fail
              go_roundw
              case rel => exact ⟨k + 1, by omega, by go_num, by rw [HT.out, hs'], by trivial⟩
              case measure => simp [intOf]; omega
            · have h5' : (z == 45) = false := by simpa using h5
              have hs' : sg = false := by rw [HSG.out, h5']; simp <;> omega
              go_wp2_with fail
              go_ret
              have hbN := HB.out hs'
              subst hbN
              exact ⟨rfl, hc1⟩
          · have hs' : sg = true := by rw [HSG.out]; simp <;> omega
            go_wp2_with fail
            go_roundw
            case rel => exact ⟨k + 1, by omega, by go_num, by rw [HT.out, hs'], by trivial⟩
            case measure => simp [intOf]; omega
      · by_cases h2 : 122 < z
        · have h3 : ¬ z < 48 := by omega
          have h4 : 57 < z := by omega
          have h5' : (z == 45) = false := by simp; omega
          have hs' : sg = false := by rw [HSG.out, h5']; simp <;> omega
          go_wp2_with fail
          go_ret
          have hbN := HB.out hs'
          subst hbN
          exact ⟨rfl, hc1⟩
        · have hs' : sg = true := by rw [HSG.out]; simp <;> omega
          go_wp2_with fail
          go_roundw
          case rel => exact ⟨k + 1, by omega, by go_num, by rw [HT.out, hs'], by trivial⟩
          case measure => simp [intOf]; omega
    · obtain rfl : k = s.length := by omega
      rw [List.take_length] at hall
      have hN : N = (decide (s ≠ []) && decide (s.length ≤ 24)) := by rw [← HN.out]; unfold nameD; rw [hall, Bool.true_and]
      have HN' := hd hN
      clear hN hall
      by_cases h0 : s = []
      · have h0N : N = false := by rw [HN'.out]; simp [h0]
        subst h0
        go_wp2_with fail
        go_ret
        subst h0N
        exact ⟨rfl, hc1⟩
      · have h0e := hE h0
        have h0e' : (s == []) = false := by simpa using h0
        by_cases h24 : s.length ≤ 24
        · have h0N : N = true := by rw [HN'.out]; simp [h0, h24]
          have h24' : (s.length : Int) ≤ 24 := by omega
          go_wp2_with fail
          go_ret
          subst h0N
          exact ⟨rfl, hc1⟩
        · have h0N : N = false := by rw [HN'.out]; simp [h24]
          have h24' : ¬ (s.length : Int) ≤ 24 := by omega
          go_wp2_with fail
          go_ret
          subst h0N
          exact ⟨rfl, hc1⟩
end Go.Proofs.YtbiadpkglcdihaaGreat

/- Disk.Rename, Remove, Ops, Down. -/
namespace Go.Proofs.YtbiadpkglcdihaaGreat
open Go.RowKit

variable {w w' : World} {fp : List Nat} {b : Nat} {fv cv : Value} {nb sb : Nat} {hs : List HF} {d : Dsk}

def renameE (d : Dsk) (a b : List UInt8) : Int := if opE d ≠ 0 then opE d else if (nget d.names a).isNone then 4 else if ¬ nameD b then 2 else 0
def renameD (d : Dsk) (a b : List UInt8) : Dsk :=
  if renameE d a b ≠ 0 then opD d else if a = b then opD d else
  match nget d.names a with
  | none => opD d
  | some i => changeD (opD d) (a, b, i)
def removeE (d : Dsk) (s : List UInt8) : Int := if opE d ≠ 0 then opE d else if (nget d.names s).isNone then 4 else 0
def removeD (d : Dsk) (s : List UInt8) : Dsk := if removeE d s ≠ 0 then opD d else changeD (opD d) (s, [], 0)

set_option maxHeartbeats 2000000 in
theorem Remove_any (h : Dk w fp b d) (s : List UInt8) (hsl : s.length ≤ 140737488355328) (hops : d.ops < 1073741824) :
    Calls Tryz.prog 33 #[.pointer (some ⟨b, 0, none⟩), .string (strB s)] w fun e w' => e = .returned (.int .i64 (removeE d s)) ∧ DkOut w fp b (removeD d s) w' := by
  obtain ⟨fv, cv, nb, sb, hs, h⟩ := h
  obtain ⟨CE, hCE⟩ : ∃ x, removeE d s = x := ⟨_, rfl⟩
  obtain ⟨CD, hCD⟩ : ∃ x, removeD d s = x := ⟨_, rfl⟩
  rw [hCE, hCD]
  have hCE2 := hCE
  unfold removeE at hCE2
  unfold removeD at hCD
  rw [hCE] at hCD
  have hgood := h.good
  clear hCE
  go_enter Tryz.func33, Tryz.ntmps33
  go_wp2_with fail
  refine (op_any h hops).mono ?_
  rintro e w1 ⟨rfl, h1, hc1, hz1⟩
  have hcf : Chg fp w w1 := hc1.mono (by simp only [List.mem_singleton]; rintro x rfl _; exact h.fpb)
  clear hc1 hz1 h
  by_cases hE : opE d = 0
  case neg =>
    rw [if_pos hE] at hCE2
    rw [if_pos (by rw [← hCE2]; exact hE)] at hCD
    subst hCD
    subst hCE2
    have hE' : (opE d == 0) = false := by simpa using hE
    have HF := hd (DkOut.same ⟨_, _, _, _, _, h1⟩ hcf)
    clear hE h1 hcf hgood
    go_wp2_with fail
    go_ret
    exact ⟨rfl, HF.out⟩
  rw [if_neg (by simpa using hE)] at hCE2
  rw [hE]
  clear hE
  have hfind := find_any h1 s hsl
  have hchg := change_any h1 s [] 0 hsl (by decide) (Nat.zero_le _) (fun h => absurd rfl h) (by have := hgood.nnames; show (d.names.length : Int) + 1 ≤ d.ops + 1; omega) (by have := hgood.nchanges; show (d.sure.length + d.changes.length : Int) + 1 ≤ d.ops + 1; omega)
  have H1 := hd h1
  have HCF := hd hcf
  have HCH := hd hchg
  clear h1 hcf hgood hchg
  rcases hi : nget d.names s with _ | i
  · rw [show nget (opD d).names s = none from hi] at hfind
    rw [hi, if_pos (by rfl)] at hCE2
    subst hCE2
    rw [if_pos (by decide)] at hCD
    subst hCD
    go_wp2_with fail
    refine (hfind).mono ?_
    rintro e w2 ⟨rfl, rfl⟩
    go_wp2_with fail
    go_ret
    exact ⟨rfl, DkOut.same ⟨_, _, _, _, _, H1.out⟩ HCF.out⟩
  · rw [show nget (opD d).names s = some i from hi] at hfind
    rw [hi, if_neg (by simp)] at hCE2
    subst hCE2
    rw [if_neg (by decide)] at hCD
    subst hCD
    clear hi
    go_wp2_with fail
    refine (hfind).mono ?_
    rintro e w2 ⟨rfl, g, c, rfl, hlt, rfl⟩
    have hch := HCH.out
    clear hfind hlt
    go_wp2_with fail
    refine (hch).mono ?_
    rintro e w3 ⟨rfl, h3⟩
    have HF := hd (h3.after HCF.out)
    clear hch h3
    go_wp2_with fail
    go_ret
    exact ⟨rfl, HF.out⟩

set_option maxHeartbeats 2000000 in
theorem Rename_any (h : Dk w fp b d) (a s : List UInt8) (hal : a.length ≤ 140737488355328) (hsl : s.length ≤ 140737488355328) (hops : d.ops < 1073741824) :
    Calls Tryz.prog 19 #[.pointer (some ⟨b, 0, none⟩), .string (strB a), .string (strB s)] w fun e w' => e = .returned (.int .i64 (renameE d a s)) ∧ DkOut w fp b (renameD d a s) w' := by
  obtain ⟨fv, cv, nb, sb, hs, h⟩ := h
  obtain ⟨CE, hCE⟩ : ∃ x, renameE d a s = x := ⟨_, rfl⟩
  obtain ⟨CD, hCD⟩ : ∃ x, renameD d a s = x := ⟨_, rfl⟩
  rw [hCE, hCD]
  have hCE2 := hCE
  unfold renameE at hCE2
  unfold renameD at hCD
  rw [hCE] at hCD
  have hgood := h.good
  clear hCE
  go_enter Tryz.func19, Tryz.ntmps19
  go_wp2_with fail
  refine (op_any h hops).mono ?_
  rintro e w1 ⟨rfl, h1, hc1, hz1⟩
  have hcf : Chg fp w w1 := hc1.mono (by simp only [List.mem_singleton]; rintro x rfl _; exact h.fpb)
  clear hc1 hz1 h
  by_cases hE : opE d = 0
  case neg =>
    rw [if_pos hE] at hCE2
    rw [if_pos (by rw [← hCE2]; exact hE)] at hCD
    subst hCD
    subst hCE2
    have hE' : (opE d == 0) = false := by simpa using hE
    have HF := hd (DkOut.same ⟨_, _, _, _, _, h1⟩ hcf)
    clear hE h1 hcf hgood
    go_wp2_with fail
    go_ret
    exact ⟨rfl, HF.out⟩
  rw [if_neg (by simpa using hE)] at hCE2
  rw [hE]
  clear hE
  have q2 := h1.box.cell 2
  simp [boxCells] at q2
  have hm : MapAt w1 nb d.names := h1.names
  rcases hi : nget d.names a with _ | i
  · rw [hi, if_pos (by rfl)] at hCE2
    subst hCE2
    rw [if_pos (by decide)] at hCD
    subst hCD
    have HF := hd (DkOut.same ⟨_, _, _, _, _, h1⟩ hcf)
    clear hgood h1 hcf
    go_wp2_with (at_lookup; refine wpLook rfl _ _ rfl nb _ a rfl rfl hm hal ?_; rw [hi]; dsimp only [Option.getD_none, Option.isSome_none])
    go_ret
    exact ⟨rfl, HF.out⟩
  rw [hi, if_neg (by simp)] at hCE2
  rw [hi] at hCD
  have hil : i < (opD d).files.length := hgood.named _ (nget_some_mem hi)
  have hchg := change_any h1 a s i hal hsl (Nat.le_of_lt hil) (fun _ => hil) (by have := hgood.nnames; show (d.names.length : Int) + 1 ≤ d.ops + 1; omega) (by have := hgood.nchanges; show (d.sure.length + d.changes.length : Int) + 1 ≤ d.ops + 1; omega)
  have hchk : ∀ wx, Chg [] w1 wx → Calls Tryz.prog 51 #[.pointer (some ⟨b, 0, none⟩), .agg #[.string (strB a), .string (strB s), .int .i64 (i : Int)]] wx fun e w' =>
      e = .returned (.tuple #[]) ∧ DkOut wx fp b (changeD (opD d) (a, s, i)) w' := fun wx hx => change_any (h1.k hx) a s i hal hsl (Nat.le_of_lt hil) (fun _ => hil) (by have := hgood.nnames; show (d.names.length : Int) + 1 ≤ d.ops + 1; omega) (by have := hgood.nchanges; show (d.sure.length + d.changes.length : Int) + 1 ≤ d.ops + 1; omega)
  have HCH := hd hchk
  have H1 := hd h1
  have HCF := hd hcf
  have HI := hd hi
  clear hchg hchk h1 hcf hgood hil hi
  go_upto_region 7 with (at_lookup; refine wpLook rfl _ _ rfl nb _ a rfl rfl hm hal ?_; rw [HI.out]; dsimp only [Option.getD_some, Option.isSome_some])
  clear q2 hm HI
  go_wp2_with fail
  refine (name_any w1 s hsl).mono ?_
  rintro e w2 ⟨rfl, hc2⟩
  have H2 := hd (H1.out.k hc2)
  have HC2 := hd (HCF.out.trans hc2 (by simp))
  have HC02 := hd hc2
  clear hc2 HCF
  by_cases hn : nameD s = true
  case neg =>
    rw [if_pos hn] at hCE2
    subst hCE2
    rw [if_pos (by decide)] at hCD
    subst hCD
    have hnf : nameD s = false := by simpa using hn
    rw [hnf]
    clear hn hnf
    go_wp2_with fail
    go_ret
    exact ⟨rfl, DkOut.same ⟨_, _, _, _, _, H2.out⟩ HC2.out⟩
  rw [if_neg (by simpa using hn)] at hCE2
  subst hCE2
  rw [if_neg (by decide)] at hCD
  rw [hn]
  clear hn
  by_cases has : a = s
  · subst has
    rw [if_pos rfl] at hCD
    subst hCD
    go_wp2_with fail
    go_ret
    exact ⟨rfl, DkOut.same ⟨_, _, _, _, _, H2.out⟩ HC2.out⟩
  · rw [if_neg has] at hCD
    subst hCD
    have hne1 : (strB a == strB s) = false := by rw [strB_beq]; simpa using has
    have hne2 : (a == s) = false := by simpa using has
    have hch := HCH.out w2 HC02.out
    clear has HC02
    go_wp2_with fail
    refine (hch).mono ?_
    rintro e w3 ⟨rfl, h3⟩
    have HF := hd (h3.after HC2.out)
    clear hch h3
    go_wp2_with fail
    go_ret
    exact ⟨rfl, HF.out⟩
end Go.Proofs.YtbiadpkglcdihaaGreat
