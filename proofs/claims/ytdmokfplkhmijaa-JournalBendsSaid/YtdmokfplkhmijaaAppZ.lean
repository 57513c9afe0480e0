/- append(bits, make([]byte, n)...): zeros behind a row of the call's own. -/
import Derived.Test.YtdmokfplkhmijaaApp
namespace Go.Proofs.Ytdmokfplkhmijaa
open Go.RowKit

theorem undInt : Try.prog.underlying 3 = some (.int .i64) := by kernel_rfl
theorem zeroCells_u8 (n : Nat) : Builtin.zeroCells #[Value.int .u8 0] n = ((List.replicate n (0 : UInt8)).map vb).toArray := by
  apply Array.ext
  · simp [Builtin.zeroCells]
  · intro i h1 h2
    simp [Builtin.zeroCells, vb, n8, Nat.mod_one]

theorem zeroCells_l (n : Nat) : (Builtin.zeroCells #[Value.int .u8 0] n).toList = (List.replicate n (0 : UInt8)).map vb := by rw [zeroCells_u8]

theorem zeroCells_l' (n : Nat) : (List.replicate n (0 : UInt8)).map vb = (Builtin.zeroCells #[Value.int .u8 0] n).toList := (zeroCells_l n).symm

theorem run_appZ (w : World) (ty : TypeId) {base : Nat} {v : Value} {l : List UInt8} (hown : OwB w base v l) (n : Nat) (hn : 0 < n) (hlen : l.length + n ≤ 140737488355328) (hbase : base ≤ w.heap.size) :
    ∃ ao c w', (Builtin.append_ #[30, 3] ty #[v, .int .i64 n]).run Try.prog w = .ok (.slice ao (l.length + n) c) w' ∧ OwB w' base (.slice ao (l.length + n) c) (l ++ List.replicate n 0) ∧ w.grownBy w' v.ownBlock ∧ Moved w v (.slice ao (l.length + n) c) := by
  obtain ⟨i, z, ht, hi, hz, hsz, hby, hzs, _⟩ := rowBytes
  have hzz : z = .int .u8 0 := by
    have : (Try.prog.info? 5).map (fun i => i.zero) = some (some (.int .u8 0)) := by kernel_rfl
    rw [hi] at this; simp [hz] at this; exact this
  subst hzz
  have hwrap : IntKind.i64.wrap (n : Int) = n := by rw [IntWalk.i64_left]; exact IntWalk.wrap64_in _ (by omega)
  have hnn : ¬ ((n : Int) < 0) := by omega
  have h48i : ¬ (281474976710656 < (n : Int) * (i.bytes : Int)) := by rw [hby]; omega
  have hne : n ≠ 0 := by omega
  have h63' : ∀ k : Nat, k ≤ 140737488355328 → ¬ (9223372036854775807 < (k : Int)) := by omega
  have hzero : ((List.replicate n (0 : UInt8)).map vb).toArray = Builtin.zeroCells #[Value.int .u8 0] n := (zeroCells_u8 n).symm
  have hlen' : ((List.replicate n (0 : UInt8)).map vb).length = n := by simp
  have grown : ∀ (old : Nat) (xs : List Value), xs = l.map vb → old < l.length + n → ∀ (row : Option Nat),
      OwB (w.drew.alloc (.cells (xs.toArray ++ Builtin.zeroCells #[Value.int .u8 0] n ++ Builtin.zeroCells #[Value.int .u8 0] (grownCap w (l.length + n) old 5 - (l.length + n))) 5)) base
        (.slice (some ⟨w.heap.size, 0, none⟩) (l.length + n) (grownCap w (l.length + n) old 5)) (l ++ List.replicate n 0) ∧
      w.grownBy (w.drew.alloc (.cells (xs.toArray ++ Builtin.zeroCells #[Value.int .u8 0] n ++ Builtin.zeroCells #[Value.int .u8 0] (grownCap w (l.length + n) old 5 - (l.length + n))) 5)) row := by
    intro old xs hxs ho row
    subst hxs
    have hge := grownCap_ge w (l.length + n) old 5
    have hcm : grownCap w (l.length + n) old 5 ≤ maxLen := grownCap_le_maxLen w (l.length + n) old _ (by unfold maxLen; omega)
    refine ⟨?_, ⟨rfl, rfl, rfl, by simp, fun k hk _ => heap_alloc_old w.drew _ hk⟩⟩
    have hL : (l ++ List.replicate n (0 : UInt8)).length = l.length + n := by simp
    unfold OwB
    rw [hL]
    refine ⟨by simp, .inr ⟨w.heap.size, _, _, rfl, hbase, heap_alloc_new w.drew _, hge, hcm, ?_, ?_⟩⟩
    · simp only [Array.size_append, size_zeroCells, List.size_toArray, List.length_map]
      simp only [List.length_cons, List.length_nil]
      omega
    · rw [List.map_append, ← zeroCells_l n, Array.toList_append, Array.toList_append]
      apply List.take_left'
      simp [size_zeroCells]
  rcases hown.2 with ⟨rfl, h0⟩ | ⟨g, cap, cur, rfl, hbg, hg, hnc, hcm, hcs, htake⟩
  · have hl0 : l = [] := List.eq_nil_of_length_eq_zero h0
    subst hl0
    have h48' : ¬ (281474976710656 < Builtin.nextslicecap n 0 * i.bytes) := by rw [nextslicecap_zero hn, hby]; omega
    obtain ⟨g1, g2⟩ := grown 0 [] rfl (by simpa using hn) (Value.ownBlock (.slice none 0 0))
    refine ⟨_, _, _, ?_, g1, g2, .inr fun k hk => by simp [Value.ownBlock] at hk; omega⟩
    simp [Builtin.append_, run_underlying ht, run_underlying undInt, sizeOf, typeInfo, zeroValue, hi, hz, hsz, Builtin.lenOf, asInt, asIntOf, hwrap, hnn, h48i, hne, h63' n (by simpa using hlen), h48', Question.forced, run_firstCells_none, newRow, grownCap, Value.cells]
  · have holds := hown.cells (g := g) rfl
    have hlm : (l.map vb).length = l.length * i.size := by rw [hsz]; simp
    by_cases hroom : l.length + n ≤ cap
    · have hst := run_storeCells_at (P := Try.prog) g (l.length * i.size) 5 ((List.replicate n (0 : UInt8)).map vb) 0 cur w hg (by rw [hlen', hsz, hcs]; omega) (vb_one _)
      rw [zeroCells_l'] at hst
      simp only [Nat.add_zero] at hst
      have hL : (l ++ List.replicate n (0 : UInt8)).length = l.length + n := by simp
      refine ⟨some ⟨g, 0, none⟩, cap, w.setRow g (cur.toList.take (l.length * i.size) ++ (Builtin.zeroCells #[Value.int .u8 0] n).toList ++ cur.toList.drop (l.length * i.size + (Builtin.zeroCells #[Value.int .u8 0] n).toList.length)).toArray, ?_, ?_, ⟨rfl, rfl, rfl, by simp, fun k _ hk => setRow_other w g k _ (fun e => hk (by simp [Value.ownBlock, e]))⟩, .inl rfl⟩
      · simp [Builtin.append_, run_underlying ht, run_underlying undInt, sizeOf, typeInfo, zeroValue, hi, hz, Builtin.lenOf, asInt, asIntOf, hwrap, hnn, h48i, hroom, hsz, hne, Value.cells, Addr.add_lit]
        rw [hsz] at hst
        simp only [Nat.mul_one, List.append_assoc, Array.length_toList] at hst
        rw [hst]
        simp
      · unfold OwB
        rw [hL]
        refine ⟨by simp, .inr ⟨g, cap, _, rfl, hbg, setRow_heap w g cur _ _ _ hg, hroom, hcm, ?_, ?_⟩⟩
        · simp only [List.size_toArray, List.length_append, List.length_take, List.length_drop, Array.length_toList, zeroCells_l, List.length_map, List.length_replicate, hsz]
          omega
        · rw [List.map_append, zeroCells_l, hsz, ← htake]
          apply List.take_left'
          simp only [List.length_append, List.length_take, List.length_map, List.length_replicate, Array.length_toList]
          omega
    · have h48' : ¬ (281474976710656 < Builtin.nextslicecap (l.length + n) cap * i.bytes) := by
        have := growslice_fits (old := cap) (need := l.length + n) (bytes := i.bytes) (by omega) (by rw [hby]; omega)
        omega
      have h63s : ¬ (9223372036854775807 < (l.length : Int) + (n : Int)) := by omega
      have hfo := run_firstCells_some (P := Try.prog) w.drew i.size l.length ⟨g, 0, none⟩ l.length cap (l.map vb) hlm (by simpa using holds)
      obtain ⟨g1, g2⟩ := grown cap (l.map vb) rfl (by omega) (Value.ownBlock (.slice (some ⟨g, 0, none⟩) l.length cap))
      refine ⟨_, _, _, ?_, g1, g2, .inr fun k hk => by simp [Value.ownBlock] at hk; omega⟩
      simp [Builtin.append_, run_underlying ht, run_underlying undInt, sizeOf, typeInfo, zeroValue, hi, hz, hsz, Builtin.lenOf, asInt, asIntOf, hwrap, hnn, h48i, hne, h63s, hroom, h48', Question.forced, newRow, grownCap, Value.cells]
      rw [hsz] at hfo
      rw [hfo]
      simp

theorem wpAppZ {w : World} {ops : Array Oper} {rest : List Oper} {o : Oper} {a : Act} {Q : Exit → Act → World → Prop} (hgd : Region.wanted o (yielded ops a.tmps) = true) (s x : Operand)
    (ho : o.op = .call { callee := .builtin .append, args := #[s, x], argTypes := #[30, 3] }) (base : Nat) (v : Value) (l : List UInt8) (hs : a.eval s = v) (hown : OwB w base v l)
    (n : Nat) (hx : a.eval x = .int .i64 n) (hn : 0 < n) (hlen : l.length + n ≤ 140737488355328) (hbase : base ≤ w.heap.size)
    (h : ∀ ao c w', OwB w' base (.slice ao (l.length + n) c) (l ++ List.replicate n 0) → w.grownBy w' v.ownBlock → Moved w v (.slice ao (l.length + n) c) → wpList Try.prog ops Q rest (a.put o.dst (.slice ao (l.length + n) c)) w') : wpList Try.prog ops Q (o :: rest) a w :=
  BigFrame.wpList_want hgd fun _ hK => by
    obtain ⟨ao, c, w', hr, h2, h3, h4⟩ := run_appZ w o.type hown n hn hlen hbase
    unfold Oper.wp execOp
    simp only [ho, resolve, invoke, builtin, Sem.run_bind, Sem.run_pure, Result.andThen_ok, List.map_toArray, List.map_cons, List.map_nil, hs, hx, hr]
    exact hK _ _ (h ao c w' h2 h3 h4)
end Go.Proofs.Ytdmokfplkhmijaa
