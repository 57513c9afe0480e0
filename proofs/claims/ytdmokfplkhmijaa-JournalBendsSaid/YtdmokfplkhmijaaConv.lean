/- Laws on conversions between bytes and strings, and on append of zeros. -/
import Derived.Test.YtdmokfplkhmijaaApp
import Derived.Laws.BytesArg
import Derived.Lib.ConvBytes
import Derived.Lib.SlBytesConst
namespace Go.Proofs.Ytdmokfplkhmijaa
open Go.RowKit

def strB (l : List UInt8) : ByteArray := ⟨l.toArray⟩
theorem strB_inj {a b : List UInt8} : strB a = strB b ↔ a = b := by
  unfold strB; constructor
  · intro h; injection h with h; exact List.toArray_inj h
  · rintro rfl; rfl
@[simp] theorem strB_data (l : List UInt8) : (strB l).data.toList = l := rfl
@[simp, go_sem] theorem strB_toList (l : List UInt8) : (strB l).toList = l := by rw [ByteArray.toList_eq]; rfl
@[simp] theorem strB_size (l : List UInt8) : (strB l).size = l.length := by simp [strB, ByteArray.size]

theorem undBytes : Try.prog.underlying 30 = some (.slice 5) := by kernel_rfl
theorem undByte : Try.prog.underlying 5 = some (.int .u8) := by kernel_rfl
theorem undString : Try.prog.underlying 9 = some .string := by kernel_rfl

theorem run_str {w : World} {v : Value} {l : List UInt8} (hv : Bs w v l) : (convert 30 9 v).run Try.prog w = .ok (.string (strB l)) w := by
  obtain ⟨ao, cap, b, off, rfl, h1, h2, h3, h4, h5⟩ := hv.open
  rcases Nat.eq_zero_or_pos l.length with h0 | h0
  · have hl : l = [] := List.eq_nil_of_length_eq_zero h0
    subst hl
    cases ao with
    | none => rw [run_convert_bytes_nil (P := Try.prog) w _ _ undBytes undByte _ _ _ undString]; rfl
    | some a =>
      rw [run_convert_bytes_string w _ _ _ _ _ cap undBytes undByte undString, run_bytesToString w a _ cap [] (by simp [loadCells, loadCellsFrom])]
      rfl
  · obtain rfl := h4 h0
    rw [run_convert_bytes_arg (P := Try.prog) w _ _ undBytes undByte b off l.length cap (l.map n8) (by simp) (fun i hi => by
      rw [h5 i hi]; simp [List.getD, List.getElem?_eq_getElem hi]) _ undString]
    congr 2
    unfold strOfNums strB
    congr 1
    congr 1
    rw [List.map_map]
    conv => rhs; rw [← List.map_id l]
    apply List.map_congr_left
    intro x _
    simp [n8]

theorem wpStr {w : World} {ops : Array Oper} {rest : List Oper} {o : Oper} {a : Act} {Q : Exit → Act → World → Prop} (hgd : Region.wanted o (yielded ops a.tmps) = true) (x : Operand)
    (ho : o.op = .convert 30 9 x) (v : Value) (l : List UInt8) (hx : a.eval x = v) (hv : Bs w v l)
    (h : wpList Try.prog ops Q rest (a.put o.dst (.string (strB l))) w) : wpList Try.prog ops Q (o :: rest) a w :=
  BigFrame.wpList_want hgd fun _ hK => by
    have hr := run_str hv
    unfold Oper.wp execOp
    simp only [ho, Sem.run_bind, Sem.run_pure, Result.andThen_ok, hx, hr]
    exact hK _ _ h

/-- Bytes of a string: a new row, marked behind its end. -/
theorem run_ofStr (w : World) (s : ByteArray) (hs : s.size ≤ 140737488355328) : ∃ c w', (convert 9 30 (.string s)).run Try.prog w = .ok (.slice (some ⟨w.heap.size, 0, none⟩) s.size c) w' ∧
    Bs w' (.slice (some ⟨w.heap.size, 0, none⟩) s.size c) s.data.toList ∧ Chg [] w w' := by
  have hlen : s.data.toList.length = s.size := Array.length_toList
  refine ⟨_, _, Lib.run_convert_string_bytes (P := Try.prog) w 9 30 5 s undString undBytes undByte, ?_, ?_⟩
  · refine ⟨by simp, _, _, w.heap.size, 0, by rw [hlen], ?_, ?_, by simp, by simp, fun j u hu => ?_⟩
    · rw [hlen]; exact grownCap_ge w s.size 0 _
    · exact grownCap_le_maxLen w s.size 0 _ (by unfold maxLen; omega)
    · have hj : j < s.data.toList.length := by
        have := (List.getElem?_eq_some_iff.1 hu).1; simpa using this
      rw [Nat.zero_add, Lib.bytesWorld_cell w _ s j (by rw [← hlen]; exact hj)]
      rw [List.getElem?_map, List.getElem?_eq_getElem hj] at hu
      simp only [Option.map_some, Option.some.injEq] at hu
      rw [← hu]
      simp only [vb, n8, List.getD, List.getElem?_eq_getElem hj, Option.getD_some]
  · exact ⟨rfl, rfl, rfl, by rw [Lib.bytesWorld_size]; omega, fun k hk _ => Lib.bytesWorld_at_old w _ s k hk⟩

theorem wpOfStr {w : World} {ops : Array Oper} {rest : List Oper} {o : Oper} {a : Act} {Q : Exit → Act → World → Prop} (hgd : Region.wanted o (yielded ops a.tmps) = true) (x : Operand)
    (ho : o.op = .convert 9 30 x) (s : ByteArray) (hx : a.eval x = .string s) (hs : s.size ≤ 140737488355328)
    (h : ∀ b c w', Bs w' (.slice (some ⟨b, 0, none⟩) s.size c) s.data.toList → b = w.heap.size → Chg [] w w' → wpList Try.prog ops Q rest (a.put o.dst (.slice (some ⟨b, 0, none⟩) s.size c)) w') : wpList Try.prog ops Q (o :: rest) a w :=
  BigFrame.wpList_want hgd fun _ hK => by
    obtain ⟨c, w', hr, h1, h2⟩ := run_ofStr w s hs
    unfold Oper.wp execOp
    simp only [ho, Sem.run_bind, Sem.run_pure, Result.andThen_ok, hx, hr]
    exact hK _ _ (h _ c w' h1 rfl h2)

/-- '[]byte("..")' of a constant. -/
theorem run_const (w : World) (l : List UInt8) (C : Array Value) (hC : C = (l.map vb).toArray) (hl : l.length ≤ 140737488355328) :
    (convert 30 30 (.slice (some ⟨w.heap.size, 0, none⟩) l.length l.length)).run Try.prog (w.alloc (.cells C 5)) = .ok (.slice (some ⟨w.heap.size, 0, none⟩) l.length l.length) (w.alloc (.cells C 5 (C.size, C.size + 1))) ∧
    Bs (w.alloc (.cells C 5 (C.size, C.size + 1))) (.slice (some ⟨w.heap.size, 0, none⟩) l.length l.length) l ∧ Chg [] w (w.alloc (.cells C 5 (C.size, C.size + 1))) := by
  subst hC
  refine ⟨Lib.run_convert_bytes_const (P := Try.prog) w _ _ _ _ _ undBytes undByte, ⟨by simp, _, _, w.heap.size, 0, rfl, Nat.le_refl _, by unfold maxLen; omega, by simp, by simp, fun j u hu => ?_⟩, (Chg.refl _ _).alloc _⟩
  rw [Nat.zero_add, World.cell?_alloc_mark]
  simpa using hu

theorem Bs.marked (w : World) (l : List UInt8) (C : Array Value) (n : Nat) (hC : C = (l.map vb).toArray) (hn : n = l.length) (hl : l.length ≤ 140737488355328) :
    Bs (w.alloc (.cells C 5 (C.size, C.size + 1))) (.slice (some ⟨w.heap.size, 0, none⟩) n n) l := by
  subst hn; exact (run_const w l C hC hl).2.1
theorem bsConst (w : World) (C : Array Value) (n c : Nat) :
    (convert 30 30 (.slice (some ⟨w.heap.size, 0, none⟩) n c)).run Try.prog (w.alloc (.cells C 5)) = .ok (.slice (some ⟨w.heap.size, 0, none⟩) n c) (w.alloc (.cells C 5 (C.size, C.size + 1))) := Lib.run_convert_bytes_const (P := Try.prog) w 30 5 C n c undBytes undByte
end Go.Proofs.Ytdmokfplkhmijaa
