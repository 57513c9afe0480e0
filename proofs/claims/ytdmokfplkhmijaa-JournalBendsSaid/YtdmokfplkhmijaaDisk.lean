/- The disk in memory. -/
import Derived.Test.YtdmokfplkhmijaaDiskA
import Derived.Test.YtdmokfplkhmijaaRegKit
import Derived.Laws.OwnMore
namespace Go.Proofs.Ytdmokfplkhmijaa
open Go.RowKit

theorem size_set (w : World) (p : Addr) (u : Value) : (w.setCell p u).heap.size = w.heap.size := by simp
abbrev HF := Value × List UInt8 × Nat
def fileCells : List HF → List Value
  | [] => []
  | f :: l => f.1 :: .int .i64 (f.2.2 : Int) :: fileCells l
def chCells : List (List UInt8 × List UInt8 × Nat) → List Value
  | [] => []
  | c :: l => .string (strB c.1) :: .string (strB c.2.1) :: .int .i64 (c.2.2 : Int) :: chCells l
theorem fileCells_app : ∀ a b : List HF, fileCells (a ++ b) = fileCells a ++ fileCells b
  | [], _ => rfl
  | f :: a, b => by simp [fileCells, fileCells_app a b]
theorem chCells_app : ∀ a b, chCells (a ++ b) = chCells a ++ chCells b
  | [], _ => rfl
  | f :: a, b => by simp [chCells, chCells_app a b]
theorem fileCells_length : ∀ l, (fileCells l).length = l.length * 2
  | [] => rfl
  | f :: l => by simp [fileCells, fileCells_length l]; omega
theorem chCells_length : ∀ l, (chCells l).length = l.length * 3
  | [] => rfl
  | f :: l => by simp [chCells, chCells_length l]; omega
theorem fileCells_get : ∀ (l : List HF) (i : Nat) (h : i < l.length), (fileCells l)[i * 2]? = some l[i].1 ∧ (fileCells l)[i * 2 + 1]? = some (.int .i64 (l[i].2.2 : Int))
  | f :: l, 0, _ => by simp [fileCells]
  | f :: l, i + 1, h => by
    have := fileCells_get l i (by simpa using h)
    rw [show (i + 1) * 2 = i * 2 + 1 + 1 by omega]
    simpa [fileCells] using this
theorem fileCells_set : ∀ (l : List HF) (i : Nat) (x : HF), i < l.length → fileCells (l.set i x) = ((fileCells l).set (i * 2) x.1).set (i * 2 + 1) (.int .i64 (x.2.2 : Int))
  | f :: l, 0, x, _ => by simp [fileCells]
  | f :: l, i + 1, x, h => by
    have := fileCells_set l i x (by simpa using h)
    rw [show (i + 1) * 2 = i * 2 + 1 + 1 by omega]
    simp [fileCells, this]
theorem fileCells_set_eq {l : List HF} {i : Nat} (h : i < l.length) (v : Value) (b : List UInt8) : fileCells (l.set i (v, b, l[i].2.2)) = (fileCells l).set (i * 2) v := by
  rw [fileCells_set l i _ h]
  apply List.ext_getElem?
  intro j
  by_cases hj : j = i * 2 + 1
  · subst hj
    rw [List.getElem?_set_self (by rw [List.length_set, fileCells_length]; omega), List.getElem?_set_ne (by omega), (fileCells_get l i h).2]
  · rw [List.getElem?_set_ne (by omega)]
theorem fileCells_set_sure {l : List HF} {i : Nat} (h : i < l.length) (n : Nat) : fileCells (l.set i (l[i].1, l[i].2.1, n)) = (fileCells l).set (i * 2 + 1) (.int .i64 (n : Int)) := by
  rw [fileCells_set l i _ h]
  congr 1
  apply List.ext_getElem?
  intro j
  by_cases hj : j = i * 2
  · subst hj
    rw [List.getElem?_set_self (by rw [fileCells_length]; omega), (fileCells_get l i h).1]
  · rw [List.getElem?_set_ne (by omega)]

def boxCells (fv cv : Value) (nb sb : Nat) (d : Dsk) : Array Value :=
  #[.int .i64 d.room, fv, .map (some nb), .map (some sb), cv, .int .i64 d.ops, .int .i64 d.down, .int .i64 d.fail, .bool d.off]

/-- w holds the disk d at block b; its blocks are among fp. -/
structure DkP (w : World) (fp : List Nat) (b : Nat) (fv cv : Value) (nb sb : Nat) (hs : List HF) (d : Dsk) : Prop where
  box : Blk w b (boxCells fv cv nb sb d) 85
  names : MapAt w nb d.names
  sure : MapAt w sb d.sure
  files : w.ownsRow 0 94 2 fv hs.length (fileCells hs)
  same : hs.map (·.2) = d.files
  changes : w.ownsRow 0 99 3 cv d.changes.length (chCells d.changes)
  bytes : ∀ f ∈ hs, OwB w 0 f.1 f.2.1
  apart : hs.Pairwise fun f g => ∀ k, f.1.ownBlock = some k → g.1.ownBlock ≠ some k
  ne : nb ≠ sb
  fpb : b ∈ fp
  fpn : nb ∈ fp
  fps : sb ∈ fp
  fpf : ∀ k, fv.ownBlock = some k → k ∈ fp
  fpc : ∀ k, cv.ownBlock = some k → k ∈ fp
  fph : ∀ f ∈ hs, ∀ k, f.1.ownBlock = some k → k ∈ fp
  fpl : ∀ k ∈ fp, k < w.heap.size
  good : GoodD d

def Dk (w : World) (fp : List Nat) (b : Nat) (d : Dsk) : Prop := ∃ fv cv nb sb hs, DkP w fp b fv cv nb sb hs d

theorem MapAt.heap {w : World} {b : Nat} {es : Nm} (h : MapAt w b es) : ∃ xs c, w.heap[b]? = some (.map xs c) := by
  obtain ⟨_, ⟨xs, c, hb, _⟩, _⟩ := h; exact ⟨xs, c, hb⟩
theorem MapAt.apart {w : World} {b b' : Nat} {es : Nm} {cs : Array Value} {t : TypeId} (h : MapAt w b es) (hb : Blk w b' cs t) : b ≠ b' := by
  rintro rfl
  obtain ⟨xs, c, hx⟩ := h.heap
  unfold Blk at hb
  rw [hx] at hb
  simp at hb
theorem MapAt.apartRow {w : World} {b : Nat} {es : Nm} (h : MapAt w b es) {base : Nat} {e : TypeId} {size n : Nat} {v : Value} {xs : List Value} (hr : w.ownsRow base e size v n xs) : v.ownBlock ≠ some b := by
  intro he
  obtain ⟨ys, c, hx⟩ := h.heap
  rcases hr.2 with ⟨rfl, _⟩ | ⟨g, cap, cur, rfl, _, hg, _⟩
  · simp [Value.ownBlock] at he
  · simp only [Value.ownBlock, Option.some.injEq] at he
    subst he
    rw [hx] at hg
    simp at hg
theorem ownsRow_chg {S : List Nat} {w w' : World} {base : Nat} {e : TypeId} {size n : Nat} {v : Value} {xs : List Value} (h : w.ownsRow base e size v n xs) (hc : Chg S w w') (hn : ∀ k, v.ownBlock = some k → k ∉ S) : w'.ownsRow base e size v n xs := by
  refine ⟨h.1, ?_⟩
  rcases h.2 with hx | ⟨g, cap, cur, rfl, hb, hg, rest⟩
  · exact .inl hx
  · refine .inr ⟨g, cap, cur, rfl, hb, ?_, rest⟩
    rw [hc.block g (lt_of_block hg) (hn g rfl)]
    exact hg

theorem DkP.chg {S : List Nat} {w w' : World} {fp : List Nat} {b : Nat} {fv cv : Value} {nb sb : Nat} {hs : List HF} {d : Dsk} (h : DkP w fp b fv cv nb sb hs d) (hc : Chg S w w') (hn : ∀ k ∈ fp, k ∉ S) : DkP w' fp b fv cv nb sb hs d :=
  { h with
    box := h.box.chg hc (hn _ h.fpb)
    names := h.names.chg hc (hn _ h.fpn)
    sure := h.sure.chg hc (hn _ h.fps)
    files := ownsRow_chg h.files hc fun k hk => hn _ (h.fpf k hk)
    changes := ownsRow_chg h.changes hc fun k hk => hn _ (h.fpc k hk)
    bytes := fun f hf => OwB.chg (h.bytes f hf) hc fun k hk => hn _ (h.fph f hf k hk)
    fpl := fun k hk => Nat.lt_of_lt_of_le (h.fpl k hk) hc.size }
theorem DkP.k {w w' : World} {fp : List Nat} {b : Nat} {fv cv : Value} {nb sb : Nat} {hs : List HF} {d : Dsk} (h : DkP w fp b fv cv nb sb hs d) (hc : Chg [] w w') : DkP w' fp b fv cv nb sb hs d := h.chg hc (by simp)
theorem Dk.chg {S : List Nat} {w w' : World} {fp : List Nat} {b : Nat} {d : Dsk} (h : Dk w fp b d) (hc : Chg S w w') (hn : ∀ k ∈ fp, k ∉ S) : Dk w' fp b d :=
  let ⟨fv, cv, nb, sb, hs, h⟩ := h; ⟨fv, cv, nb, sb, hs, h.chg hc hn⟩
theorem Dk.k {w w' : World} {fp : List Nat} {b : Nat} {d : Dsk} (h : Dk w fp b d) (hc : Chg [] w w') : Dk w' fp b d := h.chg hc (by simp)
theorem Dk.good {w : World} {fp : List Nat} {b : Nat} {d : Dsk} (h : Dk w fp b d) : GoodD d := let ⟨_, _, _, _, _, h⟩ := h; h.good
/-- The scalars of the disk have turned. -/
theorem DkP.scal {w w' : World} {fp : List Nat} {b : Nat} {fv cv : Value} {nb sb : Nat} {hs : List HF} {d d' : Dsk} (h : DkP w fp b fv cv nb sb hs d) (hc : Chg [b] w w')
    (hb : Blk w' b (boxCells fv cv nb sb d') 85) (e2 : d'.files = d.files) (e3 : d'.names = d.names) (e4 : d'.sure = d.sure) (e5 : d'.changes = d.changes) (hg : GoodD d') : DkP w' fp b fv cv nb sb hs d' :=
  { h with
    box := hb
    names := by rw [e3]; exact h.names.chg hc (by simpa using h.names.apart h.box)
    sure := by rw [e4]; exact h.sure.chg hc (by simpa using h.sure.apart h.box)
    files := ownsRow_chg h.files hc fun k hk => by
      have := ownsRow_apart h.files h.box (by decide); rw [hk] at this; simpa using this
    same := by rw [e2]; exact h.same
    changes := by
      rw [e5]
      exact ownsRow_chg h.changes hc fun k hk => by
        have := ownsRow_apart h.changes h.box (by decide); rw [hk] at this; simpa using this
    bytes := fun f hf => OwB.chg (h.bytes f hf) hc fun k hk => by
      have := ownsRow_apart (h.bytes f hf) h.box (by decide); rw [hk] at this; simpa using this
    fpl := fun k hk => Nat.lt_of_lt_of_le (h.fpl k hk) hc.size
    good := hg }
theorem ownsRow_ne2 {w : World} {base base' : Nat} {e e' : TypeId} {size size' n n' : Nat} {v u : Value} {xs ys : List Value} (h : w.ownsRow base e size v n xs) (hu : w.ownsRow base' e' size' u n' ys) (hne : e ≠ e') : ∀ k, v.ownBlock = some k → u.ownBlock ≠ some k := by
  intro k hk hk'
  rcases h.2 with ⟨rfl, _⟩ | ⟨g, cap, cur, rfl, _, hg, _⟩
  · simp [Value.ownBlock] at hk
  rcases hu.2 with ⟨rfl, _⟩ | ⟨g', cap', cur', rfl, _, hg', _⟩
  · simp [Value.ownBlock] at hk'
  simp only [Value.ownBlock, Option.some.injEq] at hk hk'
  subst hk hk'
  rw [hg] at hg'
  simp at hg'
  exact hne hg'.2
theorem Chg.cellT {S : List Nat} {w wx : World} {p : Addr} {v : Value} (h : Chg S w wx) (hc : w.cell? p = some v) (hn : p.block ∉ S) : wx.cell? p = some v :=
  (h.cell (World.block_lt_of_cell? w _ hc) hn).trans hc
theorem Chg.ofGrown {w w' : World} {row : Option Nat} (h : w.grownBy w' row) : Chg row.toList w w' :=
  (Chg.refl _ _).grown h (by rintro k rfl _; simp)
/-- What is told of blocks that come up. -/
def Gr (fp : List Nat) (w : World) (fp' : List Nat) : Prop := ∀ k ∈ fp', k ∈ fp ∨ w.heap.size ≤ k
theorem Gr.refl (fp : List Nat) (w : World) : Gr fp w fp := fun _ h => .inl h
theorem Gr.trans {fp fp' fp'' : List Nat} {w w' : World} (h : Gr fp w fp') (h' : Gr fp' w' fp'') (hs : w.heap.size ≤ w'.heap.size) : Gr fp w fp'' := fun k hk => by
  rcases h' k hk with h1 | h1
  · exact h k h1
  · exact .inr (Nat.le_trans hs h1)
theorem Gr.cons {fp : List Nat} {w : World} {v v' : Value} (hm : Moved w v v') (hv : ∀ k, v.ownBlock = some k → k ∈ fp) : Gr fp w (v'.ownBlock.toList ++ fp) := by
  intro k hk
  rcases List.mem_append.1 hk with h | h
  · rw [Option.mem_toList] at h
    rcases hm with e | e
    · exact .inl (hv k (e ▸ h))
    · exact .inr (e k h)
  · exact .inl h
/-- The map of names has turned. -/
theorem DkP.named {w w' : World} {fp : List Nat} {b : Nat} {fv cv : Value} {nb sb : Nat} {hs : List HF} {d : Dsk} (h : DkP w fp b fv cv nb sb hs d) (hc : Chg [nb] w w') {es : Nm} (hm : MapAt w' nb es) (hg : GoodD { d with names := es }) :
    DkP w' fp b fv cv nb sb hs { d with names := es } :=
  { h with
    box := h.box.chg hc (by simpa using fun e => h.names.apart h.box e.symm)
    names := hm
    sure := h.sure.chg hc (by simpa using fun e => h.ne e.symm)
    files := ownsRow_chg h.files hc fun k hk => by have := h.names.apartRow h.files; rw [hk] at this; simpa using this
    changes := ownsRow_chg h.changes hc fun k hk => by have := h.names.apartRow h.changes; rw [hk] at this; simpa using this
    bytes := fun f hf => OwB.chg (h.bytes f hf) hc fun k hk => by have := h.names.apartRow (h.bytes f hf); rw [hk] at this; simpa using this
    fpl := fun k hk => Nat.lt_of_lt_of_le (h.fpl k hk) hc.size
    good := hg }
/-- The row of changes has grown. -/
theorem DkP.changed {w w' : World} {fp : List Nat} {b : Nat} {fv cv : Value} {nb sb : Nat} {hs : List HF} {d : Dsk} (h : DkP w fp b fv cv nb sb hs d) {cv' : Value} {cs : List (List UInt8 × List UInt8 × Nat)}
    (hgw : w.grownBy w' cv.ownBlock) (hrow : w'.ownsRow 0 99 3 cv' cs.length (chCells cs)) (hg : GoodD { d with changes := cs }) :
    DkP (w'.setCell ⟨b, 4, none⟩ cv') (cv'.ownBlock.toList ++ fp) b fv cv' nb sb hs { d with changes := cs } := by
  have hc := Chg.ofGrown hgw
  have hbox : Blk w' b (boxCells fv cv nb sb d) 85 := h.box.grown hgw (ownsRow_apart h.changes h.box (by decide))
  exact
  { box := hbox.set 4 cv'
    names := (h.names.grown hgw fun e => h.names.apartRow h.changes e.symm).set _ _ (h.names.apart h.box)
    sure := (h.sure.grown hgw fun e => h.sure.apartRow h.changes e.symm).set _ _ (h.sure.apart h.box)
    files := ownsRow_set (ownsRow_chg h.files hc fun k hk => by simpa using ownsRow_ne2 h.files h.changes (by decide) k hk) hbox (by decide) 4 _
    same := h.same
    changes := ownsRow_set hrow hbox (by decide) 4 _
    bytes := fun f hf => ownsRow_set (ownsRow_chg (h.bytes f hf) hc fun k hk => by simpa using ownsRow_ne2 (h.bytes f hf) h.changes (by decide) k hk) hbox (by decide) 4 _
    apart := h.apart
    ne := h.ne
    fpb := by simp [h.fpb]
    fpn := by simp [h.fpn]
    fps := by simp [h.fps]
    fpf := fun k hk => by simp [h.fpf k hk]
    fpc := fun k hk => by simp [hk]
    fph := fun f hf k hk => by simp [h.fph f hf k hk]
    fpl := fun k hk => by
      rw [size_set]
      rcases List.mem_append.1 hk with hk | hk
      · exact (World.ownsRow.lt hrow k (by simpa using hk)).2
      · exact Nat.lt_of_lt_of_le (h.fpl k hk) hc.size
    good := hg }
/-- Behind a call: the disk is d', at blocks that it had or that came up; nothing else has turned. -/
def DkOut (w : World) (fp : List Nat) (b : Nat) (d' : Dsk) (w' : World) : Prop := ∃ fp', Dk w' fp' b d' ∧ Chg fp w w' ∧ Gr fp w fp'
theorem DkOut.mk {w w' : World} {fp fp' : List Nat} {b : Nat} {d' : Dsk} (h : Dk w' fp' b d') (hc : Chg fp w w') (hg : Gr fp w fp') : DkOut w fp b d' w' := ⟨fp', h, hc, hg⟩
theorem DkOut.same {w w' : World} {fp : List Nat} {b : Nat} {d' : Dsk} (h : Dk w' fp b d') (hc : Chg fp w w') : DkOut w fp b d' w' := ⟨fp, h, hc, Gr.refl _ _⟩
theorem DkOut.after {w w1 w2 : World} {fp : List Nat} {b : Nat} {d' : Dsk} (h : DkOut w1 fp b d' w2) (hc : Chg fp w w1) : DkOut w fp b d' w2 :=
  let ⟨fp', h1, h2, h3⟩ := h; ⟨fp', h1, hc.trans h2 (fun _ h _ => h), (Gr.refl fp w).trans h3 hc.size⟩
theorem Gr.mem {fp fp' : List Nat} {w : World} (h : Gr fp w fp') : ∀ x ∈ fp', x < w.heap.size → x ∈ fp := fun x hx hl => by
  rcases h x hx with h | h
  · exact h
  · omega
theorem DkOut.chain {w w1 w2 : World} {fp fp' : List Nat} {b : Nat} {d' : Dsk} (h : DkOut w1 fp' b d' w2) (hc : Chg fp w w1) (hg : Gr fp w fp') : DkOut w fp b d' w2 :=
  let ⟨fp'', h1, h2, h3⟩ := h; ⟨fp'', h1, hc.trans h2 hg.mem, hg.trans h3 hc.size⟩
theorem wp_appT {P : Program} {w : World} {o : Oper} {a : Act} {K : Act → World → Prop} {Q : Exit → Act → World → Prop} {t e : TypeId} {size bytes : Nat} (hT : RowT P t e size bytes) (s x : Operand)
    (ho : o.op = .call { callee := .builtin .append, args := #[s, x], argTypes := #[t, t] }) (base : Nat) (v : Value) (n : Nat) (xs : List Value) (hs : a.eval s = v) (hown : w.ownsRow base e size v n xs)
    (u : Value) (m : Nat) (news : List Value) (hx : a.eval x = u) (hu : Rd w size u m news) (h1 : ∀ u ∈ news, u.oneCell' = true) (hbytes : (n + m) * bytes ≤ 140737488355328) (hcount : n + m ≤ 140737488355328) (hbase : base ≤ w.heap.size)
    (h : ∀ ao c w', w'.ownsRow base e size (.slice ao (n + m) c) (n + m) (xs ++ news) → w.grownBy w' v.ownBlock → Moved w v (.slice ao (n + m) c) → K (a.put o.dst (.slice ao (n + m) c)) w') : o.wp P a w K Q :=
  wp_app hT ho hs hown hx hu h1 hbytes hcount hbase fun v' w' h2 h3 h4 h5 => by
    obtain ⟨ao, c, hv⟩ : ∃ ao c, v' = .slice ao (n + m) c := by
      rcases h2.2 with ⟨rfl, hz⟩ | ⟨g, cap, cur, rfl, _⟩
      · exact ⟨none, 0, by rw [hz]⟩
      · exact ⟨_, cap, rfl⟩
    subst hv
    exact h ao c w' h2 h3 h4
theorem rowCh : RowT Try.prog 83 99 3 40 := RowT.mk (z := .agg #[.string ByteArray.empty, .string ByteArray.empty, .int .i64 0]) (by kernel_rfl) (by kernel_rfl) rfl (by decide)
theorem rowFile : RowT Try.prog 82 94 2 32 := RowT.mk (z := .agg #[.slice none 0 0, .int .i64 0]) (by kernel_rfl) (by kernel_rfl) rfl (by decide)
theorem DkP.len {w : World} {fp : List Nat} {b : Nat} {fv cv : Value} {nb sb : Nat} {hs : List HF} {d : Dsk} (h : DkP w fp b fv cv nb sb hs d) : hs.length = d.files.length := by rw [← h.same]; simp
end Go.Proofs.Ytdmokfplkhmijaa
