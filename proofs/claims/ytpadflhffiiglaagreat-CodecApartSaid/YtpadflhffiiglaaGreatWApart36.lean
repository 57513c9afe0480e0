/- Words and walks that Apart rests on: DeedO. -/
import Derived.Test.YtpadflhffiiglaaGreatWApart34
import Derived.Test.YtpadflhffiiglaaGreatWApart35
/- law10.Order: orders of deeds. -/
namespace Go.Proofs.YtpadflhffiiglaaGreat
open Go.RowKit

theorem Chg.lit {S : List Nat} {a W : World} (h : Chg S a W) (cs : Array Value) (t : TypeId) : Chg S a (W.alloc (.cells cs t)) ∧ Blk (W.alloc (.cells cs t)) W.heap.size cs t ∧ a.heap.size ≤ W.heap.size := ⟨h.alloc _, Blk.new _ _ _, h.size⟩
theorem Blk.lit {W : World} {b : Nat} {cs : Array Value} {t : TypeId} (h : Blk W b cs t) (o : Obj) : Blk (W.alloc o) b cs t ∧ b < W.heap.size := ⟨h.alloc o, h.lt⟩
theorem exec_load_row {P : Program} {o : Oper} {a : Act} {ty : TypeId} {x : Operand} {w : World} {g : Nat} {t : TypeId} {cs : Array Value} {d : TypeDesc} (ho : o.op = .load ty x) (hx : a.eval x = .pointer (some ⟨g, 0, none⟩)) (hg : Blk w g cs t)
    (hu : P.underlying ty = some d) (hd : (match d with | .struct _ | .array _ _ => true | _ => false) = true) (hi : (P.info? ty).map (·.size) = some cs.size) : (execOp a.eval o).run P w = .ok (.value (.agg cs)) w := by
  unfold execOp
  simp only [ho, hx, Instr.loadAt, Instr.sureAddr, Sem.run_bind, Sem.run_pure, Result.andThen_ok, run_loadVar_row w g t ty cs (0, 0) d hg hu hd hi]
end Go.Proofs.YtpadflhffiiglaaGreat
