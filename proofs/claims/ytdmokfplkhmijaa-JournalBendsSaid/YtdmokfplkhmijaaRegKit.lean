/- A region that draws its order, met by one order: laws on listed operations, with every computed part a literal. -/
import Derived.Test.YtdmokfplkhmijaaBase
import Derived.OrdersHeld
import Derived.Deep.RegionHeld
namespace Go.Proofs.Ytdmokfplkhmijaa
open Go.RowKit

def listAt {α : Type} : List α → Nat → Option α
  | [], _ => none
  | x :: _, 0 => some x
  | _ :: l, n + 1 => listAt l n
theorem listAt_eq {α : Type} (l : List α) : ∀ i, l.toArray[i]? = listAt l i := by
  intro i
  rw [List.getElem?_toArray]
  induction l generalizing i with
  | nil => rfl
  | cons x l ih => cases i with
    | zero => rfl
    | succ i => simpa [listAt] using ih i
def takeOk (ops : Array Oper) (L : Array Bool) (i : Nat) (L' : Array Bool) : Bool :=
  Region.noSelect ops && (Region.free .any ops L i && ((Region.ready .any ops L).contains i && decide (L.setIfInBounds i true = L')))
def runOk (ops : Array Oper) (L : Array Bool) (i : Nat) (L' : Array Bool) : Bool :=
  decide (Region.ready .any ops L = [i]) && decide (L.setIfInBounds i true = L')
def startOk (ops : Array Oper) (n : Nat) (L : Array Bool) : Bool := decide (ops.size = n) && decide (Array.replicate n false = L)
section
variable {P : Program} {l : List Oper} {Q : Exit → Act → World → Prop} {S : World → Prop} {n : Nat} {L L' : Array Bool} {a : Act} {w : World} {i : Nat} {o : Oper}

theorem anyH_start {id : Nat} (hok : startOk l.toArray n L = true) (hm : P.follows .mixedOrders = true) (hS : S w.drew) (h : S w.drew → wpAnyH P .any l.toArray Q S n L a w.drew) : (Code.region id l.toArray true).wp P Q a w := by
  simp only [startOk, Bool.and_eq_true, decide_eq_true_eq] at hok
  obtain ⟨rfl, rfl⟩ := hok
  exact wp_region_held_drew hm hS h
theorem anyH_take {d : Tmp} {v : Value} (hi : listAt l i = some o) (hd : o.dst = some d) (hok : takeOk l.toArray L i L' = true) (hQ : ∀ c a w, Q (.panic c) (a.put (some d) v) w → Q (.panic c) a w)
    (hw : Region.wanted o (yielded l.toArray a.tmps) = true) (hy : ∀ w, S w → (execOp a.eval o).run P w = .ok (.value v) w) (hS : S w) (h : wpAnyH P .any l.toArray Q S n L' (a.put (some d) v) w) : wpAnyH P .any l.toArray Q S (n + 1) L a w := by
  simp only [takeOk, Bool.and_eq_true, decide_eq_true_eq] at hok
  obtain ⟨h1, h2, h3, rfl⟩ := hok
  refine wpAnyH_take (i := i) (oi := o) (v := v) (by rw [listAt_eq]; exact hi) h1 h2 h3 (by rw [hd]; exact hQ) (.inl ⟨hw, hy⟩) hS ?_
  rw [hd]; exact h
theorem anyH_skip {d : Tmp} (hi : listAt l i = some o) (hd : o.dst = some d) (hok : takeOk l.toArray L i L' = true) (hQ : ∀ c a w, Q (.panic c) (a.put (some d) undef) w → Q (.panic c) a w)
    (hw : Region.wanted o (yielded l.toArray a.tmps) = false) (hS : S w) (h : wpAnyH P .any l.toArray Q S n L' (a.put (some d) undef) w) : wpAnyH P .any l.toArray Q S (n + 1) L a w := by
  simp only [takeOk, Bool.and_eq_true, decide_eq_true_eq] at hok
  obtain ⟨h1, h2, h3, rfl⟩ := hok
  refine wpAnyH_take (i := i) (oi := o) (v := undef) (by rw [listAt_eq]; exact hi) h1 h2 h3 (by rw [hd]; exact hQ) (.inr ⟨hw, rfl⟩) hS ?_
  rw [hd]; exact h
theorem anyH_run (hi : listAt l i = some o) (hok : runOk l.toArray L i L' = true) (hw : Region.wanted o (yielded l.toArray a.tmps) = true)
    (h : ∀ K : Act → World → Prop, Shut (∀ a w, S w → (S w → wpAnyH P .any l.toArray Q S n L' a w) → K a w) → Oper.wp P o a w K Q) : wpAnyH P .any l.toArray Q S (n + 1) L a w := by
  simp only [runOk, Bool.and_eq_true, decide_eq_true_eq] at hok
  obtain ⟨h1, rfl⟩ := hok
  refine wpAnyH_ready (rs := [i]) h1 (by simp) (AllReadyH.cons (o := o) (by rw [listAt_eq]; exact hi) (fun K hK => ?_) AllReadyH.nil)
  rw [if_pos hw]
  exact h K hK
def runOk2 (ops : Array Oper) (L : Array Bool) (i j : Nat) (L1 L2 : Array Bool) : Bool :=
  decide (Region.ready .any ops L = [i, j]) && (decide (L.setIfInBounds i true = L1) && decide (L.setIfInBounds j true = L2))
/-- Two operations can come up: both ways. -/
theorem anyH_run2 {j : Nat} {o2 : Oper} {L1 L2 : Array Bool} (hi : listAt l i = some o) (hj : listAt l j = some o2) (hok : runOk2 l.toArray L i j L1 L2 = true) (hw : Region.wanted o (yielded l.toArray a.tmps) = true) (hw2 : Region.wanted o2 (yielded l.toArray a.tmps) = true)
    (h : ∀ K : Act → World → Prop, Shut (∀ a w, S w → (S w → wpAnyH P .any l.toArray Q S n L1 a w) → K a w) → Oper.wp P o a w K Q)
    (h2 : ∀ K : Act → World → Prop, Shut (∀ a w, S w → (S w → wpAnyH P .any l.toArray Q S n L2 a w) → K a w) → Oper.wp P o2 a w K Q) : wpAnyH P .any l.toArray Q S (n + 1) L a w := by
  simp only [runOk2, Bool.and_eq_true, decide_eq_true_eq] at hok
  obtain ⟨h1, rfl, rfl⟩ := hok
  refine wpAnyH_ready (rs := [i, j]) h1 (by simp) (AllReadyH.cons (o := o) (by rw [listAt_eq]; exact hi) (fun K hK => ?_) (AllReadyH.cons (o := o2) (by rw [listAt_eq]; exact hj) (fun K hK => ?_) AllReadyH.nil))
  · rw [if_pos hw]; exact h K hK
  · rw [if_pos hw2]; exact h2 K hK
end
end Go.Proofs.Ytdmokfplkhmijaa
