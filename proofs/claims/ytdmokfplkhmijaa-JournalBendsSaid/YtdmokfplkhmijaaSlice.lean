/- One law for cutting a slice, whatever its elements. -/
import Derived.Test.YtdmokfplkhmijaaApp
namespace Go.Proofs.Ytdmokfplkhmijaa
open Go.RowKit

def Bound (lo : Option Value) (p d : Nat) : Prop := (lo = none ∧ p = d) ∨ ∃ k, lo = some (.int k (p : Int))

theorem run_cut {P : Program} {t e : TypeId} {size bytes : Nat} (hT : RowT P t e size bytes) {w : World} {v : Value} {n : Nat} {xs : List Value} (hv : Rd w size v n xs) {lo hi : Option Value} {p q : Nat}
    (hlo : Bound lo p 0) (hhi : Bound hi q n) (hpq : p ≤ q) (hq : q ≤ n) :
    ∃ ao c, (∀ W, (Instr.sliceAt t v lo hi none).run P W = .ok (.slice ao (q - p) c) W) ∧ Rd w size (.slice ao (q - p) c) (q - p) ((xs.drop (p * size)).take ((q - p) * size)) ∧
      (∀ k, (Value.slice ao (q - p) c).ownBlock = some k → v.ownBlock = some k) := by
  obtain ⟨i, z, ht, hi', hz, rfl, rfl, hzs, hsz⟩ := hT
  obtain ⟨h0, ao, cap, b, off, rfl, h2, h3, h4, h5, h6⟩ := hv
  have hb : ∀ W, (Instr.sliceBounds true n cap lo hi none).run P W = .ok (p, q, cap) W := by
    intro W
    have e1 : ∀ (k : IntKind) (code : BoundsCode), (Instr.sliceBound (.int k (q : Int)) cap code).run P W = .ok q W := by
      intro k code; simp [Instr.sliceBound, asIntOf, show (q : Int) ≤ (cap : Int) by omega, go_sem]
    have e2 : ∀ (k : IntKind) (code : BoundsCode), (Instr.sliceBound (.int k (p : Int)) q code).run P W = .ok p W := by
      intro k code; simp [Instr.sliceBound, asIntOf, show (p : Int) ≤ (q : Int) by omega, go_sem]
    rcases hlo with ⟨rfl, rfl⟩ | ⟨k, rfl⟩ <;> rcases hhi with ⟨rfl, rfl⟩ | ⟨k', rfl⟩ <;> simp [Instr.sliceBounds, e1, e2, go_sem] <;> (intro h; omega)
  refine ⟨if cap = p then ao else ao.map (·.add (p * i.size)), cap - p, fun W => ?_, ⟨?_, _, cap - p, b, if cap = p then off else off + p * i.size, rfl, by omega, by omega, ?_, ?_, ?_⟩, ?_⟩
  · simp [Instr.sliceAt, Instr.slice, run_underlying ht, sizeOf, typeInfo, hi', hb]
  · rw [List.length_take, List.length_drop, h0, ← Nat.sub_mul]
    exact Nat.min_eq_left (Nat.mul_le_mul_right _ (by omega))
  · intro hn
    have : ao = none := by
      split at hn
      · exact hn
      · simpa using hn
    have := h4 this
    omega
  · intro hpos
    rw [h5 (by omega)]
    have hne : ¬ cap = p := by omega
    rw [if_neg hne, if_neg hne]
    simp only [Option.map_some, Option.some.injEq]
    unfold Addr.add; split <;> simp_all
  · intro j u hu
    rw [List.getElem?_take] at hu
    split at hu
    · rename_i hj
      rw [List.getElem?_drop] at hu
      have hpos : 0 < q - p := by
        rcases Nat.eq_zero_or_pos (q - p) with h | h
        · rw [h] at hj; simp at hj
        · exact h
      have hne : ¬ cap = p := by omega
      rw [if_neg hne, Nat.add_assoc]
      exact h6 _ _ hu
    · simp at hu
  · intro k hk
    cases ao with
    | none => split at hk <;> simp [Value.ownBlock] at hk
    | some a =>
      split at hk
      · simpa [Value.ownBlock] using hk
      · have : (a.add (p * i.size)).block = a.block := by unfold Addr.add; split <;> rfl
        simpa [Value.ownBlock, this] using hk

theorem wpCut {P : Program} {w : World} {ops : Array Oper} {rest : List Oper} {o : Oper} {a : Act} {Q : Exit → Act → World → Prop} {t e : TypeId} {size bytes : Nat} (hT : RowT P t e size bytes) (hgd : Region.wanted o (yielded ops a.tmps) = true) (x : Operand) (lo hi : Option Operand)
    (ho : o.op = .slice t x lo hi none) (v : Value) (n : Nat) (xs : List Value) (hx : a.eval x = v) (hv : Rd w size v n xs) (p q : Nat) (hlo : Bound (lo.map a.eval) p 0) (hhi : Bound (hi.map a.eval) q n) (hpq : p ≤ q) (hq : q ≤ n)
    (h : ∀ ao c, Rd w size (.slice ao (q - p) c) (q - p) ((xs.drop (p * size)).take ((q - p) * size)) → (∀ k, (Value.slice ao (q - p) c).ownBlock = some k → v.ownBlock = some k) → wpList P ops Q rest (a.put o.dst (.slice ao (q - p) c)) w) : wpList P ops Q (o :: rest) a w :=
  BigFrame.wpList_want hgd fun _ hK => by
    obtain ⟨ao, c, hr, h2, h3⟩ := run_cut hT hv hlo hhi hpq hq
    unfold Oper.wp execOp
    simp only [ho, Sem.run_bind, Sem.run_pure, Result.andThen_ok, Option.map_none, hx, hr]
    exact hK _ _ (h ao c h2 h3)

theorem wpCutB {w : World} {ops : Array Oper} {rest : List Oper} {o : Oper} {a : Act} {Q : Exit → Act → World → Prop} (hgd : Region.wanted o (yielded ops a.tmps) = true) (x : Operand) (lo hi : Option Operand)
    (ho : o.op = .slice 30 x lo hi none) (v : Value) (l : List UInt8) (hx : a.eval x = v) (hv : Bs w v l) (p q : Nat) (hlo : Bound (lo.map a.eval) p 0) (hhi : Bound (hi.map a.eval) q l.length) (hpq : p ≤ q) (hq : q ≤ l.length)
    (h : ∀ ao c, Bs w (.slice ao (q - p) c) ((l.drop p).take (q - p)) → (∀ k, (Value.slice ao (q - p) c).ownBlock = some k → v.ownBlock = some k) → wpList Try.prog ops Q rest (a.put o.dst (.slice ao (q - p) c)) w) : wpList Try.prog ops Q (o :: rest) a w :=
  wpCut rowBytes hgd x lo hi ho v _ _ hx hv p q hlo hhi hpq hq fun ao c h1 h2 => h ao c (by
    have e : ((l.drop p).take (q - p)).length = q - p := by rw [List.length_take, List.length_drop]; omega
    unfold Bs; rw [e]; simpa [List.map_take, List.map_drop] using h1) h2
end Go.Proofs.Ytdmokfplkhmijaa
