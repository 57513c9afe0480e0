/- More words: what is kept over a call that turns nothing old; cuts in a region that draws. -/
import Derived.Test.YtdmokfplkhmijaaConv
import Derived.Test.YtdmokfplkhmijaaSlice
import Derived.Lib.AppendStr
namespace Go.Proofs.Ytdmokfplkhmijaa
open Go.RowKit

theorem Chg.cellS {w wx : World} {p : Addr} {v : Value} (h : Chg [] w wx) (hc : w.cell? p = some v) : wx.cell? p = some v :=
  (h.cell (World.block_lt_of_cell? w _ hc) (by simp)).trans hc
theorem Chg.frozenS {w wx : World} {p : Addr} {v : Value} (h : Chg [] w wx) (hc : w.cell? p = some v) : wx.frozen? p = w.frozen? p :=
  h.frozen (World.block_lt_of_cell? w _ hc) (by simp)
/- One word for 'kept over what turns nothing old'. -/
theorem Chg.k {a b c : World} (h : Chg [] a b) (hc : Chg [] b c) : Chg [] a c := h.trans hc (by simp)
theorem Bs.k {w w' : World} {v : Value} {l : List UInt8} (h : Bs w v l) (hc : Chg [] w w') : Bs w' v l := h.stays hc
theorem Fs.k {w w' : World} {v : Value} {l : List Int} (h : Fs w v l) (hc : Chg [] w w') : Fs w' v l := h.chg hc (by simp)
theorem OwB.k {w w' : World} {base : Nat} {v : Value} {l : List UInt8} (h : OwB w base v l) (hc : Chg [] w w') : OwB w' base v l := h.chg hc (by simp)
theorem Blk.k {w w' : World} {b : Nat} {cs : Array Value} {t : TypeId} (h : Blk w b cs t) (hc : Chg [] w w') : Blk w' b cs t := h.chg hc (by simp)
theorem elemBytes : Try.prog.elem 30 = 5 := by kernel_rfl
theorem run_cutB {w : World} {v : Value} {l : List UInt8} (hv : Bs w v l) {lo hi : Option Value} {p q : Nat} (hlo : Bound lo p 0) (hhi : Bound hi q l.length) (hpq : p ≤ q) (hq : q ≤ l.length) :
    ∃ ao c, (∀ W, (Instr.slice 30 v lo hi none).run Try.prog W = .ok (.slice ao (q - p) c) W) ∧ Bs w (.slice ao (q - p) c) ((l.drop p).take (q - p)) ∧
      (∀ k, (Value.slice ao (q - p) c).ownBlock = some k → v.ownBlock = some k) := by
  obtain ⟨ao, c, h1, h2, h3⟩ := run_cut rowBytes hv hlo hhi hpq hq
  refine ⟨ao, c, fun W => ?_, ?_, h3⟩
  · rw [← run_sliceAt_slice (P := Try.prog) W 30 v lo hi none (by rw [elemBytes]; exact undBytes)]
    exact h1 W
  · have e : ((l.drop p).take (q - p)).length = q - p := by rw [List.length_take, List.length_drop]; omega
    unfold Bs; rw [e]; simpa [List.map_take, List.map_drop] using h2
/-- append of bytes, as one operation. -/
theorem wp_appB {w : World} {o : Oper} {a : Act} {K : Act → World → Prop} {Q : Exit → Act → World → Prop} (s x : Operand)
    (ho : o.op = .call { callee := .builtin .append, args := #[s, x], argTypes := #[30, 30] }) (base : Nat) (v : Value) (l : List UInt8) (hs : a.eval s = v) (hown : OwB w base v l)
    (u : Value) (m : List UInt8) (hx : a.eval x = u) (hu : Bs w u m) (hlen : l.length + m.length ≤ 140737488355328) (hbase : base ≤ w.heap.size)
    (h : ∀ ao c w', OwB w' base (.slice ao (l.length + m.length) c) (l ++ m) → w.grownBy w' v.ownBlock → Moved w v (.slice ao (l.length + m.length) c) → K (a.put o.dst (.slice ao (l.length + m.length) c)) w') : o.wp Try.prog a w K Q := by
  refine wp_app rowBytes ho hs hown hx hu (vb_one _) (by omega) (by omega) hbase fun v' w' h2 h3 h4 h5 => ?_
  obtain ⟨ao, c, hv⟩ : ∃ ao c, v' = .slice ao (l.length + m.length) c := by
    rcases h2.2 with ⟨rfl, hz⟩ | ⟨g, cap, cur, rfl, _⟩
    · exact ⟨none, 0, by rw [hz]⟩
    · exact ⟨_, cap, rfl⟩
  subst hv
  exact h ao c w' (by unfold OwB; rw [List.length_append, List.map_append]; exact h2) h3 h4
theorem wp_cloneB {w : World} {o : Oper} {a : Act} {K : Act → World → Prop} {Q : Exit → Act → World → Prop} (x : Operand)
    (ho : o.op = .call { callee := .builtin .append, args := #[.const (.slice none 0 0), x], argTypes := #[30, 30] })
    (u : Value) (m : List UInt8) (hx : a.eval x = u) (hu : Bs w u m) (hlen : m.length ≤ 140737488355328)
    (h : ∀ ao c w', OwB w' w.heap.size (.slice ao m.length c) m → Chg [] w w' → K (a.put o.dst (.slice ao m.length c)) w') : o.wp Try.prog a w K Q :=
  wp_appB _ x ho w.heap.size (.slice none 0 0) [] rfl (OwB.nil _ _) u m hx hu (by simpa using hlen) (Nat.le_refl _) fun ao c w' h1 h2 _ => by
    simp only [List.length_nil, Nat.zero_add, List.nil_append] at h1 ⊢
    exact h ao c w' h1 ((Chg.refl _ _).grown h2 (by simp [Value.ownBlock]))
theorem strCells_strB (l : List UInt8) : Lib.strCells (strB l) = l.map vb := rfl
/-- append(b, s...) of a string. -/
theorem wp_appS {w : World} {o : Oper} {a : Act} {K : Act → World → Prop} {Q : Exit → Act → World → Prop} (s x : Operand)
    (ho : o.op = .call { callee := .builtin .append, args := #[s, x], argTypes := #[30, 9] }) (base : Nat) (v : Value) (l : List UInt8) (hs : a.eval s = v) (hown : OwB w base v l)
    (m : List UInt8) (hx : a.eval x = .string (strB m)) (hlen : l.length + m.length ≤ 140737488355328) (hbase : base ≤ w.heap.size)
    (h : ∀ ao c w', OwB w' base (.slice ao (l.length + m.length) c) (l ++ m) → w.grownBy w' v.ownBlock → K (a.put o.dst (.slice ao (l.length + m.length) c)) w') : o.wp Try.prog a w K Q := by
  obtain ⟨i, h1, h2, h3, h4⟩ := info_parts (P := Try.prog) (show (Try.prog.info? 5).map (fun i => (i.zero, i.size, i.bytes)) = some (some (.int .u8 0), 1, 1) by kernel_rfl)
  obtain ⟨v', w', hr, k1, k2, -⟩ := Lib.run_append_own_string (P := Try.prog) w base 30 9 o.type 5 i undBytes undString h1 h2 h3 h4 v _ _ hown (strB m) (by simp [maxLen]; omega) (by simpa using hlen) hbase
  rw [strCells_strB] at k1
  simp only [strB_size] at k1
  obtain ⟨ao, c, hv⟩ : ∃ ao c, v' = .slice ao (l.length + m.length) c := by
    rcases k1.2 with ⟨rfl, hz⟩ | ⟨g, cap, cur, rfl, _⟩
    · exact ⟨none, 0, by rw [hz]⟩
    · exact ⟨_, cap, rfl⟩
  subst hv
  unfold Oper.wp execOp
  simp only [ho, resolve, invoke, builtin, Sem.run_bind, Sem.run_pure, Result.andThen_ok, List.map_toArray, List.map_cons, List.map_nil, hs, hx, hr]
  exact h ao c w' (by unfold OwB; rw [List.length_append, List.map_append]; exact k1) k2
theorem Chg.ownGrow {a b c : World} {base : Nat} {e : TypeId} {size n : Nat} {v : Value} {xs : List Value} (h : Chg [] a b) (hown : b.ownsRow base e size v n xs) (hg : b.grownBy c v.ownBlock) (hb : a.heap.size ≤ base) : Chg [] a c :=
  h.grown hg (fun k hk hlt => by have := (World.ownsRow.lt hown k hk).1; omega)
/- Rows of ints of the call's own. -/
theorem rowInt : RowT Try.prog 69 3 1 8 := RowT.mk (z := .int .i64 0) (by kernel_rfl) (by kernel_rfl) rfl (by decide)
def OwI (w : World) (base : Nat) (v : Value) (l : List Int) : Prop := w.ownsRow base 3 1 v l.length (l.map (Value.int .i64))
theorem OwI.nil (w : World) (base : Nat) : OwI w base (.slice none 0 0) [] := World.ownsRow_nil _ _ _ _
theorem OwI.fs {w : World} {base : Nat} {v : Value} {l : List Int} (h : OwI w base v l) : Fs w v l := Rd.ofOwn h
theorem OwI.k {w w' : World} {base : Nat} {v : Value} {l : List Int} (h : OwI w base v l) (hc : Chg [] w w') : OwI w' base v l := by
  refine ⟨h.1, ?_⟩
  rcases h.2 with hx | ⟨g, cap, cur, rfl, hb, hg, rest⟩
  · exact .inl hx
  · refine .inr ⟨g, cap, cur, rfl, hb, ?_, rest⟩
    rw [hc.block g (lt_of_block hg) (by simp)]
    exact hg
theorem wpAppI {w : World} {ops : Array Oper} {rest : List Oper} {o : Oper} {a : Act} {Q : Exit → Act → World → Prop} (hgd : Region.wanted o (yielded ops a.tmps) = true) (s x : Operand)
    (ho : o.op = .call { callee := .builtin .append, args := #[s, x], argTypes := #[69, 69] }) (base : Nat) (v : Value) (l : List Int) (hs : a.eval s = v) (hown : OwI w base v l)
    (u : Value) (m : List Int) (hx : a.eval x = u) (hu : Fs w u m) (hlen : l.length + m.length ≤ 10000000000000) (hbase : base ≤ w.heap.size)
    (h : ∀ ao c w', OwI w' base (.slice ao (l.length + m.length) c) (l ++ m) → w.grownBy w' v.ownBlock → wpList Try.prog ops Q rest (a.put o.dst (.slice ao (l.length + m.length) c)) w') : wpList Try.prog ops Q (o :: rest) a w :=
  wpApp rowInt hgd s x ho base v _ _ hs hown u _ _ hx hu (by intro u hu; obtain ⟨x, _, rfl⟩ := List.mem_map.1 hu; rfl) (by omega) (by omega) hbase fun ao c w' h1 h2 _ _ =>
    h ao c w' (by unfold OwI; rw [List.length_append, List.map_append]; exact h1) h2
/- Rows of different element types lie in different blocks. -/
theorem ownsRow_apart {w : World} {base : Nat} {e : TypeId} {size n : Nat} {v : Value} {xs : List Value} (h : w.ownsRow base e size v n xs) {b : Nat} {cs : Array Value} {t : TypeId} (hb : Blk w b cs t) (ht : t ≠ e) : v.ownBlock ≠ some b := by
  intro he
  rcases h.2 with ⟨rfl, _⟩ | ⟨g, cap, cur, rfl, _, hg, _⟩
  · simp [Value.ownBlock] at he
  · simp only [Value.ownBlock, Option.some.injEq] at he
    subst he
    unfold Blk at hb
    rw [hb] at hg
    simp at hg
    exact ht hg.2
theorem ownsRow_grow {w w' : World} {base base' : Nat} {e e' : TypeId} {size size' n n' : Nat} {v u : Value} {xs ys : List Value} (h : w.ownsRow base e size v n xs) (hu : w.ownsRow base' e' size' u n' ys) (hne : e ≠ e') (hg : w.grownBy w' u.ownBlock) : w'.ownsRow base e size v n xs := by
  refine World.ownsRow.kept h hg ?_
  rcases hu.2 with ⟨rfl, _⟩ | ⟨g, cap, cur, rfl, _, hgg, _⟩
  · rcases h.2 with ⟨rfl, _⟩ | ⟨k, _, _, rfl, _⟩
    · exact .inl rfl
    · exact .inr (by simp [Value.ownBlock])
  · exact .inr (ownsRow_apart h (b := g) hgg (fun x => hne x.symm))
theorem ownsRow_set {w : World} {base : Nat} {e : TypeId} {size n : Nat} {v : Value} {xs : List Value} (h : w.ownsRow base e size v n xs) {b : Nat} {cs : Array Value} {t : TypeId} (hb : Blk w b cs t) (ht : t ≠ e) (i : Nat) (u : Value) : (w.setCell ⟨b, i, none⟩ u).ownsRow base e size v n xs :=
  ownsRow_setCell_other h (a := ⟨b, i, none⟩) (ownsRow_apart h hb ht) u
theorem ownsRow_mono {w : World} {base base' : Nat} {e : TypeId} {size n : Nat} {v : Value} {xs : List Value} (h : w.ownsRow base e size v n xs) (hb : base' ≤ base) : w.ownsRow base' e size v n xs := by
  refine ⟨h.1, ?_⟩
  rcases h.2 with hx | ⟨g, cap, cur, rfl, hbg, rest⟩
  · exact .inl hx
  · exact .inr ⟨g, cap, cur, rfl, Nat.le_trans hb hbg, rest⟩
theorem ownsRow_k {w w' : World} {base : Nat} {e : TypeId} {size n : Nat} {v : Value} {xs : List Value} (h : w.ownsRow base e size v n xs) (hc : Chg [] w w') : w'.ownsRow base e size v n xs := by
  refine ⟨h.1, ?_⟩
  rcases h.2 with hx | ⟨g, cap, cur, rfl, hb, hg, rest⟩
  · exact .inl hx
  · refine .inr ⟨g, cap, cur, rfl, hb, ?_, rest⟩
    rw [hc.block g (lt_of_block hg) (by simp)]
    exact hg
/-- A literal, just laid. -/
theorem Rd.lit (w : World) (size n : Nat) (xs : List Value) (cs : Array Value) (e : TypeId) (hcs : cs = xs.toArray) (hn : xs.length = n * size) (hl : n ≤ 140737488355328) :
    Rd (w.alloc (.cells cs e)) size (.slice (some ⟨w.heap.size, 0, none⟩) n n) n xs := by
  subst hcs
  refine ⟨hn, _, _, w.heap.size, 0, rfl, Nat.le_refl _, by unfold maxLen; omega, by simp, by simp, fun j u hu => ?_⟩
  rw [Nat.zero_add, (Blk.new w _ e).cell]
  simpa using hu
/-- The string of bytes that read so, in whatever world that kept them. -/
theorem Bs.strs {w : World} {v : Value} {l : List UInt8} (h : Bs w v l) : ∀ wx : World, Chg [] w wx → (convert 30 9 v).run Try.prog wx = .ok (.string (strB l)) wx :=
  fun _ hx => run_str (h.stays hx)
end Go.Proofs.Ytdmokfplkhmijaa
