/- Words and walks that Codec rests on: CodecRO, PackW, PackT, PackP, CodecW, CodecO0, CodecBack. -/
import Derived.Test.YtlicefbgcoddbaaWCodec7
import Derived.Test.YtlicefbgcoddbaaWCodec17
import Derived.Test.YtlicefbgcoddbaaWCodec1
import Derived.Test.YtlicefbgcoddbaaWCodec3
/- codec.reader.order as a function; the kinds of one number. -/
namespace Go.Proofs.Ytlicefbgcoddbaa
open Go.RowKit

def zeroO (k : Int) : Ord := ⟨k, 0, 0, 0, (0, 0), (0, 0), 0, 0, 0, 0, noS⟩
def orderR0 (s : St) : Ord × St :=
  if (numR 1 s).1 = 1 then
    let p := plR (numR 1 s).2; let v := plR p.2; let a := numR 8 v.2; let sp := numR 8 a.2; let d := numR 8 sp.2; let sh := shapeR d.2
    (⟨1, 0, 0, 0, p.1, v.1, a.1, sp.1, d.1, 0, sh.1⟩, sh.2)
  else if (numR 1 s).1 = 2 ∨ (numR 1 s).1 = 4 then
    let i := numR 8 (numR 1 s).2
    (⟨(numR 1 s).1, i.1, 0, 0, (0, 0), (0, 0), 0, 0, 0, 0, noS⟩, i.2)
  else if (numR 1 s).1 = 3 then
    let a := numR 8 (numR 1 s).2; let c := numR 8 a.2; let p := plR c.2; let v := plR p.2; let l := numR 8 v.2
    (⟨3, 0, a.1, c.1, p.1, v.1, 0, 0, 0, l.1, noS⟩, l.2)
  else if (numR 1 s).1 = 5 then
    let i := numR 8 (numR 1 s).2; let v := plR i.2; let sp := numR 8 v.2
    (⟨5, i.1, 0, 0, (0, 0), v.1, 0, sp.1, 0, 0, noS⟩, sp.2)
  else if (numR 1 s).1 = 6 then
    let v := plR (numR 1 s).2
    (⟨6, 0, 0, 0, (0, 0), v.1, 0, 0, 0, 0, noS⟩, v.2)
  else (zeroO (numR 1 s).1, (numR 1 s).2)
def orderR (s : St) : Ord × St := ((orderR0 s).1, if rightO (orderR0 s).1 = true then (orderR0 s).2 else failS)
theorem numR_I64 (n : Nat) (s : St) : I64 (numR n s).1 := by
  unfold numR I64
  split
  · simp
  · simp only [rdNum, wrap64]; omega
theorem plR_IV (s : St) : IV (plR s).1 := ⟨numR_I64 8 s, numR_I64 8 _⟩
theorem psR_IV (n : Nat) (s : St) : ∀ x ∈ (psR n s).1, IV x := by
  induction n generalizing s with
  | zero => simp [psR]
  | succ n ih =>
    by_cases h : s.2 = true
    · rw [psR_no _ _ h]; simp
    · rw [psR_go _ _ (by simpa using h)]
      intro x hx
      rcases List.mem_cons.mp hx with rfl | hx
      · exact plR_IV s
      · exact ih _ x hx
theorem shapeR_I (s : St) : I64 (shapeR s).1.kind ∧ I64 (shapeR s).1.r ∧ ∀ x ∈ (shapeR s).1.p, IV x := by
  unfold shapeR
  split
  · exact ⟨by unfold I64; simp, numR_I64 8 _, by simp⟩
  · exact ⟨numR_I64 1 _, by unfold I64; simp, psR_IV _ _⟩
theorem orderR0_IO (s : St) : IO (orderR0 s).1 := by
  have z : I64 0 := by unfold I64; simp
  have zv : IV (0, 0) := ⟨z, z⟩
  unfold orderR0
  repeat' split
  all_goals dsimp only [zeroO]
  all_goals constructor
  all_goals dsimp only [noS]
  all_goals (first | with_reducible exact z | with_reducible exact zv | with_reducible exact plR_IV _ | with_reducible exact numR_I64 _ _ | with_reducible exact (shapeR_I _).1 | with_reducible exact (shapeR_I _).2.1 | with_reducible exact (shapeR_I _).2.2 | (unfold I64; omega) | (intro x hx; cases hx))
end Go.Proofs.Ytlicefbgcoddbaa

/- The methods of pack.Writer: what they lay behind the writer's bytes. -/
namespace Go.Proofs.Ytlicefbgcoddbaa
open Go.RowKit

/-- The writer at block b has written l; its row is the call's own, from base on. -/
def Wr (w : World) (base b : Nat) (l : List UInt8) : Prop := ∃ v, Blk w b #[v] 41 ∧ OwB w base v l

theorem OwB.apart {w : World} {base : Nat} {v : Value} {l : List UInt8} (h : OwB w base v l) {b : Nat} {cs : Array Value} {t : TypeId} (hb : Blk w b cs t) (ht : t ≠ 5) : v.ownBlock ≠ some b := by
  intro he
  rcases h.2 with ⟨rfl, _⟩ | ⟨g, cap, cur, rfl, _, hg, _⟩
  · simp [Value.ownBlock] at he
  · simp only [Value.ownBlock, Option.some.injEq] at he
    subst he
    unfold Blk at hb
    rw [hb] at hg
    simp at hg
    exact ht hg.2

set_option maxHeartbeats 400000 in
theorem WNum_any (n x : Int) (base b : Nat) (l : List UInt8) (w : World) (hw : Wr w base b l) (hb : base ≤ b) (h0 : 0 ≤ n) (hn : n ≤ 8) (hl : l.length ≤ 140737488355000) :
    Calls Try.prog 10 #[.pointer (some ⟨b, 0, none⟩), .int .i64 n, .int .i64 x] w fun e w' =>
      e = .returned (.pointer (some ⟨b, 0, none⟩)) ∧ Wr w' base b (l ++ leB n.toNat x) ∧ Below base w w' := by
  go_enter Try.func10, Try.ntmps10
  go_wp2
  go_loopw [2, 8] (fun t i wr => ∃ k : Nat, ∃ y : Int, k ≤ n.toNat ∧ i = .int .i64 k ∧ t = .int .i64 y ∧ y = x / 256 ^ k ∧ Wr wr base b (l ++ leB k x) ∧ Below base w wr)
    (fun _ i _ => n.toNat - (intOf i).toNat)
  case atStart => exact ⟨0, x, by omega, rfl, rfl, by simp, by simpa [leB] using hw, Below.refl _ _⟩
  case round =>
    obtain ⟨k, y, hk, rfl, rfl, hy, ⟨v, hblk, hown⟩, hbel⟩ := hrel
    have Hy := hd hy; clear hy
    have hc := hblk.cell 0
    have hf := hblk.free 0
    simp at hc
    have hsz := hblk.lt
    by_cases hlt : k < n.toNat
    · have hT := hd (leB_snoc k x)
      rw [← Hy.out] at hT
      have hone := OwB.one wr base (UInt8.ofInt y) (y % 256) (n8_ofInt y).symm (by omega)
      have hlen : (l ++ leB k x).length = l.length + k := by simp
      have Hlen := hd hlen; clear hlen
      go_wp2_with (at_builtin; refine wpAppB rfl _ _ rfl base _ _ rfl (hown.alloc _) _ _ rfl hone.bs (by rw [Hlen.out]; simp; omega) (by simp; omega) ?_; intro ao1 c1 w1 hown1 hg1 hm1; have hb1 := (hblk.alloc (.cells #[.int .u8 (y % 256)] 5)).grown hg1 (hown.apart hblk (by decide)); have hc1 := hb1.cell 0; have hf1 := hb1.free 0; simp at hc1)
      go_roundw
      case rel =>
        have hne1 := hown1.apart hb1 (by decide)
        refine ⟨k + 1, y / 256, by omega, by go_num, by go_num, ?_, ⟨_, hb1.set 0 _, ?_⟩, ?_⟩
        · rw [Hy.out, Int.ediv_ediv_of_nonneg (Int.pow_nonneg (by omega)), show (256 : Int) ^ k * 256 = 256 ^ (k + 1) by rw [Int.pow_succ]]
        · have := ownsRow_setCell_other hown1 (a := ⟨b, 0, none⟩) hne1
          rw [hT.out, ← List.append_assoc]
          unfold OwB
          simpa [Nat.add_assoc] using this _
        · exact ((hbel.alloc (by omega) _).grown hg1 (by simp; omega) (fun k hk => (hown.lo k hk).1)).setCell (by simpa using hb) _
      case measure => simp [intOf]; omega
    · have hkn : k = n.toNat := by omega
      subst hkn
      go_wp2
      go_ret
      exact ⟨rfl, ⟨v, hblk, hown⟩, hbel⟩

theorem WBytes_any (base b : Nat) (l : List UInt8) (w : World) (hw : Wr w base b l) (hl : l.length ≤ 140737488355328) :
    Calls Try.prog 12 #[.pointer (some ⟨b, 0, none⟩)] w fun e w' => ∃ ao c, e = .returned (.slice ao l.length c) ∧ OwB w' w.heap.size (.slice ao l.length c) l ∧ Chg [] w w' := by
  obtain ⟨v, hb, hown⟩ := hw
  have c0 := hb.cell 0
  simp at c0
  go_enter Try.func12, Try.ntmps12
  go_wp2_with (refine wpAppB rfl _ _ rfl w.heap.size (.slice none 0 0) _ rfl (OwB.nil _ _) _ _ rfl hown.bs (by simpa using hl) (Nat.le_refl _) ?_; intro ao c w1 h1 h2 h3)
  go_ret
  simp only [List.length_nil, Nat.zero_add, List.nil_append] at h1 ⊢
  exact ⟨ao, c, rfl, h1, (Chg.refl _ _).grown h2 (by simp [Value.ownBlock])⟩

def leF (l : List Int) : List UInt8 := l.flatMap (leB 8)
theorem leF_length (l : List Int) : (leF l).length = 8 * l.length := by
  induction l with
  | nil => rfl
  | cons x l ih => unfold leF at *; rw [List.flatMap_cons, List.length_append, ih]; simp; omega
theorem leF_snoc (l : List Int) (k : Nat) (h : k < l.length) : leF (l.take (k + 1)) = leF (l.take k) ++ leB 8 l[k] := by
  unfold leF; rw [List.take_succ_eq_append_getElem h, List.flatMap_append]; simp

set_option maxHeartbeats 400000 in
theorem WF_any (base b : Nat) (l : List UInt8) (v : Value) (zs : List Int) (w : World) (hw : Wr w base b l) (hb : base ≤ b) (hz : Fs w v zs) (hv : 0 < zs.length → ∀ k, v.ownBlock = some k → k < base) (hl : l.length + 8 * zs.length ≤ 140737488355000) :
    Calls Try.prog 34 #[.pointer (some ⟨b, 0, none⟩), v] w fun e w' =>
      e = .returned (.pointer (some ⟨b, 0, none⟩)) ∧ Wr w' base b (l ++ leF zs) ∧ Below base w w' := by
  obtain ⟨ao, cap, b', off, rfl, hcap, hbig, -, hao, hc⟩ := hz.open
  by_cases h0 : zs = []
  · subst h0
    clear hc hao
    go_enter Try.func34, Try.ntmps34
    go_wp2
    refine wp_loop_once ?_
    go_wp2
    go_ret
    exact ⟨rfl, by simpa [leF] using hw, Below.refl _ _⟩
  have hpos : 0 < zs.length := List.length_pos_iff.2 h0
  obtain rfl := hao hpos
  have hb' := hv hpos b' rfl
  clear h0 hao hv
  go_enter Try.func34, Try.ntmps34
  go_wp2
  go_loopw [6, 9] (fun _ i wr => ∃ k : Nat, k ≤ zs.length ∧ i = .int .i64 k ∧ Wr wr base b (l ++ leF (zs.take k)) ∧ Below base w wr)
    (fun _ i _ => zs.length - (intOf i).toNat)
  case atStart => exact ⟨0, by omega, rfl, by simpa [leF] using hw, Below.refl _ _⟩
  case round =>
    obtain ⟨k, hk, rfl, hwr, hbel⟩ := hrel
    by_cases hlt : k < zs.length
    · have hcell : wr.cell? ⟨b', off + k, none⟩ = some (.int .i64 zs[k]) := (hbel.cell (p := ⟨b', off + k, none⟩) hb').trans (hc k hlt)
      have hS := hd (leF_snoc zs k hlt)
      have hlen : (l ++ leF (zs.take k)).length ≤ 140737488355000 := by rw [List.length_append, leF_length, List.length_take]; omega
      generalize zs[k] = x at *
      clear hc
      go_wp2_with fail
      refine (WNum_any 8 x base b _ _ hwr hb (by omega) (by omega) hlen).mono ?_
      rintro e w1 ⟨rfl, h1, h2⟩
      go_wp2_with fail
      go_roundw
      case rel => exact ⟨k + 1, by omega, by go_num, by rw [hS.out, ← List.append_assoc]; exact h1, hbel.trans h2⟩
      case measure => simp [intOf]; omega
    · have hkn : k = zs.length := by omega
      subst hkn
      go_wp2
      go_ret
      exact ⟨rfl, by simpa using hwr, hbel⟩
end Go.Proofs.Ytlicefbgcoddbaa

/- A writer in a block of any record type (pack.Writer, codec.writer): what its methods lay behind its bytes. -/
namespace Go.Proofs.Ytlicefbgcoddbaa
open Go.RowKit

/-- The writer at block b (of type t) has written l; its row is the call's own, from base on. -/
def WrT (t : TypeId) (w : World) (base b : Nat) (l : List UInt8) : Prop := ∃ v, Blk w b #[v] t ∧ OwB w base v l
/-- Every block but b and but the rows of bytes is as it was. -/
def Kp (b : Nat) (w w' : World) : Prop := ∀ k cs t, Blk w k cs t → t ≠ 5 → k ≠ b → Blk w' k cs t
theorem Kp.refl (b : Nat) (w : World) : Kp b w w := fun _ _ _ h _ _ => h
theorem Kp.trans {b : Nat} {u v w : World} (h : Kp b u v) (k : Kp b v w) : Kp b u w := fun _ _ _ hb ht hn => k _ _ _ (h _ _ _ hb ht hn) ht hn
theorem Kp.chg {b : Nat} {w w' : World} (h : Chg [] w w') : Kp b w w' := fun _ _ _ hb _ _ => hb.k h
/-- What a writer's method leaves as it was. -/
structure Fr (base b : Nat) (w w' : World) : Prop where
  below : Below base w w'
  kp : Kp b w w'
theorem Fr.refl (base b : Nat) (w : World) : Fr base b w w := ⟨Below.refl _ _, Kp.refl _ _⟩
theorem Fr.trans {base b : Nat} {u v w : World} (h : Fr base b u v) (k : Fr base b v w) : Fr base b u w := ⟨h.below.trans k.below, h.kp.trans k.kp⟩
theorem Fr.chg {base b : Nat} {w w' : World} (h : Chg [] w w') (hb : base ≤ w.heap.size) : Fr base b w w' := ⟨h.below hb (by simp), Kp.chg h⟩
theorem WrT.k {t : TypeId} {w w' : World} {base b : Nat} {l : List UInt8} (h : WrT t w base b l) (hc : Chg [] w w') : WrT t w' base b l :=
  let ⟨v, h1, h2⟩ := h; ⟨v, h1.k hc, h2.k hc⟩
theorem WrT.lt {t : TypeId} {w : World} {base b : Nat} {l : List UInt8} (h : WrT t w base b l) : b < w.heap.size := let ⟨_, h1, _⟩ := h; h1.lt

set_option maxHeartbeats 800000 in
theorem WTNum_any (t : TypeId) (ht : t ≠ 5) (n x : Int) (base b : Nat) (l : List UInt8) (w : World) (hw : WrT t w base b l) (hb : base ≤ b) (h0 : 0 ≤ n) (hn : n ≤ 8) (hl : l.length ≤ 140737488355000) :
    Calls Try.prog 10 #[.pointer (some ⟨b, 0, none⟩), .int .i64 n, .int .i64 x] w fun e w' =>
      e = .returned (.pointer (some ⟨b, 0, none⟩)) ∧ WrT t w' base b (l ++ leB n.toNat x) ∧ Fr base b w w' := by
  go_enter Try.func10, Try.ntmps10
  go_wp2
  go_loopw [2, 8] (fun tt i wr => ∃ k : Nat, ∃ y : Int, k ≤ n.toNat ∧ i = .int .i64 k ∧ tt = .int .i64 y ∧ y = x / 256 ^ k ∧ WrT t wr base b (l ++ leB k x) ∧ Fr base b w wr)
    (fun _ i _ => n.toNat - (intOf i).toNat)
  case atStart => exact ⟨0, x, by omega, rfl, rfl, by simp, by simpa [leB] using hw, Fr.refl _ _ _⟩
  case round =>
    obtain ⟨k, y, hk, rfl, rfl, hy, ⟨v, hblk, hown⟩, hbel⟩ := hrel
    have Hy := hd hy; clear hy
    have hc := hblk.cell 0
    have hf := hblk.free 0
    simp at hc
    have hsz := hblk.lt
    by_cases hlt : k < n.toNat
    · have hT := hd (leB_snoc k x)
      rw [← Hy.out] at hT
      have hone := OwB.one wr base (UInt8.ofInt y) (y % 256) (n8_ofInt y).symm (by omega)
      have hlen : (l ++ leB k x).length = l.length + k := by simp
      have Hlen := hd hlen; clear hlen
      go_wp2_with (at_builtin; refine wpAppB rfl _ _ rfl base _ _ rfl (hown.alloc _) _ _ rfl hone.bs (by rw [Hlen.out]; simp; omega) (by simp; omega) ?_; intro ao1 c1 w1 hown1 hg1 hm1; have hb1 := (hblk.alloc (.cells #[.int .u8 (y % 256)] 5)).grown hg1 (hown.apart hblk ht); have hc1 := hb1.cell 0; have hf1 := hb1.free 0; simp at hc1)
      go_roundw
      case rel =>
        have hne1 := hown1.apart hb1 ht
        refine ⟨k + 1, y / 256, by omega, by go_num, by go_num, ?_, ⟨_, hb1.set 0 _, ?_⟩, ?_, ?_⟩
        · rw [Hy.out, Int.ediv_ediv_of_nonneg (Int.pow_nonneg (by omega)), show (256 : Int) ^ k * 256 = 256 ^ (k + 1) by rw [Int.pow_succ]]
        · have := ownsRow_setCell_other hown1 (a := ⟨b, 0, none⟩) hne1
          rw [hT.out, ← List.append_assoc]
          unfold OwB
          simpa [Nat.add_assoc] using this _
        · exact ((hbel.below.alloc (by omega) _).grown hg1 (by simp; omega) (fun k hk => (hown.lo k hk).1)).setCell (by simpa using hb) _
        · intro j cs t' hj ht' hjb
          have hj1 := hbel.kp j cs t' hj ht' hjb
          exact ((hj1.alloc _).grown hg1 (hown.apart hj1 ht')).other (fun e => hjb (by simpa using e)) _
      case measure => simp [intOf]; omega
    · have hkn : k = n.toNat := by omega
      subst hkn
      go_wp2
      go_ret
      exact ⟨rfl, ⟨v, hblk, hown⟩, hbel⟩

theorem WTBytes_any (t : TypeId) (base b : Nat) (l : List UInt8) (w : World) (hw : WrT t w base b l) (hl : l.length ≤ 140737488355328) :
    Calls Try.prog 12 #[.pointer (some ⟨b, 0, none⟩)] w fun e w' => ∃ ao c, e = .returned (.slice ao l.length c) ∧ OwB w' w.heap.size (.slice ao l.length c) l ∧ Chg [] w w' := by
  obtain ⟨v, hb, hown⟩ := hw
  have c0 := hb.cell 0
  simp at c0
  go_enter Try.func12, Try.ntmps12
  go_wp2_with (refine wpAppB rfl _ _ rfl w.heap.size (.slice none 0 0) _ rfl (OwB.nil _ _) _ _ rfl hown.bs (by simpa using hl) (Nat.le_refl _) ?_; intro ao c w1 h1 h2 h3)
  go_ret
  simp only [List.length_nil, Nat.zero_add, List.nil_append] at h1 ⊢
  exact ⟨ao, c, rfl, h1, (Chg.refl _ _).grown h2 (by simp [Value.ownBlock])⟩

set_option maxHeartbeats 800000 in
theorem WTF_any (t : TypeId) (ht : t ≠ 5) (base b : Nat) (l : List UInt8) (v : Value) (zs : List Int) (w : World) (hw : WrT t w base b l) (hb : base ≤ b) (hz : ∀ w', Fr base b w w' → Fs w' v zs) (hl : l.length + 8 * zs.length ≤ 140737488355000) :
    Calls Try.prog 34 #[.pointer (some ⟨b, 0, none⟩), v] w fun e w' =>
      e = .returned (.pointer (some ⟨b, 0, none⟩)) ∧ WrT t w' base b (l ++ leF zs) ∧ Fr base b w w' := by
  obtain ⟨ao, cap, b', off, rfl, hcap, hbig, -, hao, -⟩ := (hz w (Fr.refl _ _ _)).open
  by_cases h0 : zs = []
  · subst h0
    clear hz hao
    go_enter Try.func34, Try.ntmps34
    go_wp2
    refine wp_loop_once ?_
    go_wp2
    go_ret
    exact ⟨rfl, by simpa [leF] using hw, Fr.refl _ _ _⟩
  have hpos : 0 < zs.length := List.length_pos_iff.2 h0
  obtain rfl := hao hpos
  clear h0 hao
  go_enter Try.func34, Try.ntmps34
  go_wp2
  go_loopw [6, 9] (fun _ i wr => ∃ k : Nat, k ≤ zs.length ∧ i = .int .i64 k ∧ WrT t wr base b (l ++ leF (zs.take k)) ∧ Fr base b w wr)
    (fun _ i _ => zs.length - (intOf i).toNat)
  case atStart => exact ⟨0, by omega, rfl, by simpa [leF] using hw, Fr.refl _ _ _⟩
  case round =>
    obtain ⟨k, hk, rfl, hwr, hbel⟩ := hrel
    by_cases hlt : k < zs.length
    · have hcell : wr.cell? ⟨b', off + k, none⟩ = some (.int .i64 zs[k]) := (hz wr hbel).cell k hlt
      have hS := hd (leF_snoc zs k hlt)
      have hlen : (l ++ leF (zs.take k)).length ≤ 140737488355000 := by rw [List.length_append, leF_length, List.length_take]; omega
      generalize zs[k] = x at *
      clear hz
      go_wp2_with fail
      refine (WTNum_any t ht 8 x base b _ _ hwr hb (by omega) (by omega) hlen).mono ?_
      rintro e w1 ⟨rfl, h1, h2⟩
      go_wp2_with fail
      go_roundw
      case rel => exact ⟨k + 1, by omega, by go_num, by rw [hS.out, ← List.append_assoc]; exact h1, hbel.trans h2⟩
      case measure => simp [intOf]; omega
    · have hkn : k = zs.length := by omega
      subst hkn
      go_wp2
      go_ret
      exact ⟨rfl, by simpa using hwr, hbel⟩
end Go.Proofs.Ytlicefbgcoddbaa

/- Writer.V: places. -/
namespace Go.Proofs.Ytlicefbgcoddbaa
open Go.RowKit

def fV (l : List V2) : List Int := l.flatMap fun p => [p.1, p.2]
theorem fV_length (l : List V2) : (fV l).length = 2 * l.length := by
  induction l with
  | nil => rfl
  | cons x l ih => unfold fV at *; rw [List.flatMap_cons, List.length_append, ih]; simp; omega
theorem fV_snoc (l : List V2) (k : Nat) (h : k < l.length) : leF (fV (l.take (k + 1))) = leF (fV (l.take k)) ++ leF [l[k].1, l[k].2] := by
  unfold leF fV; rw [List.take_succ_eq_append_getElem h, List.flatMap_append, List.flatMap_append]; simp
/-- Numbers that stand in a block that no writer turns. -/
theorem Fs.fr {base b : Nat} {w : World} {l : List Int} {cs : Array Value} {e : TypeId} {g n : Nat} (hb : Blk w g cs e) (he : e ≠ 5) (hg : g ≠ b) (hcs : cs = (l.map (Value.int .i64)).toArray) (hn : n = l.length) (hl : l.length ≤ 140737488355328) :
    ∀ w', Fr base b w w' → Fs w' (.slice (some ⟨g, 0, none⟩) n n) l := by
  intro w' hf
  have h1 := hf.kp g cs e hb he hg
  subst hcs; subst hn
  refine ⟨by simp, _, _, g, 0, rfl, Nat.le_refl _, by unfold maxLen; omega, by simp, by simp, fun j u hu => ?_⟩
  rw [Nat.zero_add, h1.cell]
  simpa using hu
theorem VsS.fr {base b : Nat} {w : World} {l : List V2} {cs : Array Value} {e : TypeId} {g n : Nat} (hb : Blk w g cs e) (he : e ≠ 5) (hg : g ≠ b) (hcs : cs = (l.flatMap cV).toArray) (hn : n = l.length) (hl : l.length ≤ 140737488355328) :
    ∀ w', Fr base b w w' → VsS w' (.slice (some ⟨g, 0, none⟩) n n) l := by
  intro w' hf
  have h1 := hf.kp g cs e hb he hg
  subst hcs; subst hn
  have hlen : (l.flatMap cV).length = l.length * 2 := flat_len cV 2 cV_len l
  refine ⟨hlen, _, _, g, 0, rfl, Nat.le_refl _, by unfold maxLen; omega, by simp, by simp, fun j u hu => ?_⟩
  rw [Nat.zero_add, h1.cell]
  simpa using hu
theorem VsS.ofBelow {base b : Nat} {w : World} {v : Value} {l : List V2} (h : VsS w v l) (hv : 0 < l.length → ∀ k, v.ownBlock = some k → k < base) : ∀ w', Fr base b w w' → VsS w' v l := by
  intro w' hf
  obtain ⟨h0, ao, cap, b', off', rfl, h2, h3, h4, h5, h6⟩ := h
  refine ⟨h0, ao, cap, b', off', rfl, h2, h3, h4, h5, fun j u hu => ?_⟩
  by_cases hp : 0 < l.length
  · obtain rfl := h5 hp
    exact (hf.below.cell (p := ⟨b', off' + j, none⟩) (hv hp b' rfl)).trans (h6 j u hu)
  · have : l = [] := List.length_eq_zero_iff.mp (by omega)
    subst this
    simp at hu

set_option maxHeartbeats 800000 in
theorem WTV_any (t : TypeId) (ht : t ≠ 5) (base b : Nat) (l : List UInt8) (v : Value) (zs : List V2) (w : World) (hw : WrT t w base b l) (hb : base ≤ b) (hz : ∀ w', Fr base b w w' → VsS w' v zs) (hl : l.length + 16 * zs.length ≤ 140737488355000) :
    Calls Try.prog 11 #[.pointer (some ⟨b, 0, none⟩), v] w fun e w' =>
      e = .returned (.pointer (some ⟨b, 0, none⟩)) ∧ WrT t w' base b (l ++ leF (fV zs)) ∧ Fr base b w w' := by
  obtain ⟨ao, cap, rfl, hao⟩ := (hz w (Fr.refl _ _ _)).form
  by_cases h0 : zs = []
  · subst h0
    clear hz hao
    go_enter Try.func11, Try.ntmps11
    go_wp2
    refine wp_loop_once ?_
    go_wp2
    go_ret
    exact ⟨rfl, by simpa [leF, fV] using hw, Fr.refl _ _ _⟩
  have hpos : 0 < zs.length := List.length_pos_iff.2 h0
  obtain ⟨b', off, rfl⟩ := hao hpos
  clear h0 hao
  go_enter Try.func11, Try.ntmps11
  go_wp2
  go_loopw [6, 9] (fun _ i wr => ∃ k : Nat, k ≤ zs.length ∧ i = .int .i64 k ∧ WrT t wr base b (l ++ leF (fV (zs.take k))) ∧ Fr base b w wr)
    (fun _ i _ => zs.length - (intOf i).toNat)
  case atStart => exact ⟨0, by omega, rfl, by simpa [leF, fV] using hw, Fr.refl _ _ _⟩
  case round =>
    obtain ⟨k, hk, rfl, hwr, hbel⟩ := hrel
    by_cases hlt : k < zs.length
    · obtain ⟨q0, q1⟩ := (hz wr hbel).at k hlt
      have hS := hd (fV_snoc zs k hlt)
      have hlen : (l ++ leF (fV (zs.take k))).length + 16 ≤ 140737488355000 := by rw [List.length_append, leF_length, fV_length, List.length_take]; omega
      have hblt := hwr.lt
      generalize zs[k].1 = x at *
      generalize zs[k].2 = y at *
      clear hz
      go_wp2_with fail
      have hcc := ((Chg.refl [] wr).alloc (.cells #[.int .i64 x, .int .i64 y] 30)).alloc (.cells #[.int .i64 x, .int .i64 y] 28)
      have hnb := Blk.new (wr.alloc (.cells #[.int .i64 x, .int .i64 y] 30)) #[.int .i64 x, .int .i64 y] 28
      rw [show (wr.alloc (.cells #[.int .i64 x, .int .i64 y] 30)).heap.size = wr.heap.size + 1 by simp] at hnb
      refine (WTF_any t ht base b _ _ [x, y] _ (hwr.k hcc) hb (Fs.fr hnb (by decide) (by omega) rfl rfl (by simp)) (by simpa using hlen)).mono ?_
      rintro e w1 ⟨rfl, h1, h2⟩
      go_wp2_with fail
      go_roundw
      case rel => exact ⟨k + 1, by omega, by go_num, by rw [hS.out, ← List.append_assoc]; exact h1, (hbel.trans (Fr.chg hcc (by omega))).trans h2⟩
      case measure => simp [intOf]; omega
    · have hkn : k = zs.length := by omega
      subst hkn
      go_wp2
      go_ret
      exact ⟨rfl, by simpa using hwr, hbel⟩
end Go.Proofs.Ytlicefbgcoddbaa

/- codec.writer: shapes. -/
namespace Go.Proofs.Ytlicefbgcoddbaa
open Go.RowKit

def leS (s : Shp) : List UInt8 := leB 1 s.kind ++ (if s.kind = 1 then leF [s.r] else leB 1 s.p.length ++ leF (fV s.p))

set_option maxRecDepth 100000 in
set_option maxHeartbeats 4000000 in
theorem WShape_any (base b : Nat) (l : List UInt8) (s : Shp) (pv : Value) (w : World) (hw : WrT 87 w base b l) (hb : base ≤ b) (hz : ∀ w', Fr base b w w' → VsS w' pv s.p) (hl : l.length + 16 * s.p.length + 64 ≤ 140737488355000) :
    Calls Try.prog 37 #[.pointer (some ⟨b, 0, none⟩), vS s pv] w fun e w' =>
      e = .returned (.tuple #[]) ∧ WrT 87 w' base b (l ++ leS s) ∧ Fr base b w w' := by
  obtain ⟨k, r, p⟩ := s
  simp only at hz hl
  have hblt := hw.lt
  obtain ⟨ao, c, rfl, -⟩ := (hz w (Fr.refl _ _ _)).form
  have hcb := (Chg.refl [] w).alloc (.cells #[.int .i64 k, .int .i64 r, .slice ao p.length c] 33)
  have hkb := Blk.new w #[.int .i64 k, .int .i64 r, .slice ao p.length c] 33
  have hf0 : Fr base b w (w.alloc (.cells #[.int .i64 k, .int .i64 r, .slice ao p.length c] 33)) := Fr.chg hcb (by omega)
  have hw0 := hw.k hcb
  have hz0 : ∀ w', Fr base b (w.alloc (.cells #[.int .i64 k, .int .i64 r, .slice ao p.length c] 33)) w' → VsS w' (.slice ao p.length c) p := fun w' h => hz w' (hf0.trans h)
  have hsz : (w.alloc (.cells #[.int .i64 k, .int .i64 r, .slice ao p.length c] 33)).heap.size = w.heap.size + 1 := by simp
  unfold vS
  obtain ⟨L, hL⟩ : ∃ L, L = leS ⟨k, r, p⟩ := ⟨_, rfl⟩
  rw [← hL]
  unfold leS at hL
  simp only at hL ⊢
  have HLL := hd hL
  clear hL
  clear hw hz hcb
  go_enter Try.func37, Try.ntmps37
  go_upto_region 1 with (fail)
  generalize w.alloc (.cells #[.int .i64 k, .int .i64 r, .slice ao p.length c] 33) = w0 at *
  have hbn : b ≠ w.heap.size := by omega
  generalize w.heap.size = bk at *
  have HQ : Hd (∀ wx, Fr base b w0 wx → wx.cell? ⟨bk, 0, none⟩ = some (.int .i64 k) ∧ wx.cell? ⟨bk, 1, none⟩ = some (.int .i64 r) ∧ wx.cell? ⟨bk, 2, none⟩ = some (.slice ao p.length c)) := hd fun wx hx => by
    have := hx.kp _ _ _ hkb (by decide) (fun e => hbn e.symm)
    exact ⟨this.cell 0, this.cell 1, this.cell 2⟩
  have HW0 := hd hw0
  have HF0 := hd hf0
  have HZ0 := hd hz0
  have HL := hd hl
  have HB : Hd (base ≤ w0.heap.size) := hd (by omega)
  clear hw0 hf0 hz0 hkb hbn hsz hl hblt
  refine anyH_start (n := 6) (L := #[false, false, false, false, false, false]) (by kernel_rfl) (by kernel_rfl) (S := (fun wx => Fr base b w0 wx)) (Fr.chg (Chg.refl _ _).drew HB.out) (fun hHeld => ?_)
  refine anyH_take (i := 0) (d := 4) (L' := #[true, false, false, false, false, false]) (v := ?v2) rfl rfl (by kernel_rfl) (fun _ _ _ h => h) (by rfl) ?hy2 (by assumption) ?rest2
  case hy2 => (intro wx hSw; (try dsimp only at hSw); (obtain ⟨q0, q1, q2⟩ := HQ.out _ hSw); go_simp; (try with_reducible rfl))
  simp only [Act.put, List.setIfInBounds_toArray, List.set_cons_zero, List.set_cons_succ]
  refine anyH_take (i := 1) (d := 5) (L' := #[true, true, false, false, false, false]) (v := ?v3) rfl rfl (by kernel_rfl) (fun _ _ _ h => h) (by rfl) ?hy3 (by assumption) ?rest3
  case hy3 => (intro wx hSw; (try dsimp only at hSw); (obtain ⟨q0, q1, q2⟩ := HQ.out _ hSw); go_simp; (try with_reducible rfl))
  simp only [Act.put, List.setIfInBounds_toArray, List.set_cons_zero, List.set_cons_succ]
  refine anyH_take (i := 2) (d := 6) (L' := #[true, true, true, false, false, false]) (v := ?v4) rfl rfl (by kernel_rfl) (fun _ _ _ h => h) (by rfl) ?hy4 (by assumption) ?rest4
  case hy4 => (intro wx hSw; (try dsimp only at hSw); (obtain ⟨q0, q1, q2⟩ := HQ.out _ hSw); go_simp; (try with_reducible rfl))
  simp only [Act.put, List.setIfInBounds_toArray, List.set_cons_zero, List.set_cons_succ]
  refine anyH_take (i := 3) (d := 7) (L' := #[true, true, true, true, false, false]) (v := ?v5) rfl rfl (by kernel_rfl) (fun _ _ _ h => h) (by rfl) ?hy5 (by assumption) ?rest5
  case hy5 => (intro wx hSw; (try dsimp only at hSw); (obtain ⟨q0, q1, q2⟩ := HQ.out _ hSw); go_simp; (try with_reducible rfl))
  simp only [Act.put, List.setIfInBounds_toArray, List.set_cons_zero, List.set_cons_succ]
  refine anyH_take (i := 4) (d := 8) (L' := #[true, true, true, true, true, false]) (v := ?v6) rfl rfl (by kernel_rfl) (fun _ _ _ h => h) (by rfl) ?hy6 (by assumption) ?rest6
  case hy6 => (intro wx hSw; (try dsimp only at hSw); (obtain ⟨q0, q1, q2⟩ := HQ.out _ hSw); go_simp; (try with_reducible rfl))
  simp only [Act.put, List.setIfInBounds_toArray, List.set_cons_zero, List.set_cons_succ]
  refine anyH_run (i := 5) (L' := #[true, true, true, true, true, true]) rfl (by kernel_rfl) (by rfl) (fun KK hKK => ?_)
  go_simp
  (refine (WTNum_any _ (by decide) 1 k base b _ _ (HW0.out.k (Chg.refl [] w0).drew) hb (by omega) (by omega) (by have := HL.out; omega)).mono ?_; rintro e w1 ⟨rfl, hw1, hf1⟩; have hfr1 := Fr.trans hHeld hf1; (try go_simp))
  refine hKK.out _ _ (by assumption) (fun hHeld => ?_)
  clear hKK KK
  try simp only [Act.put, List.setIfInBounds_toArray, List.set_cons_zero, List.set_cons_succ]
  refine wpAnyH_done (by kernel_rfl) ?_ _
  skip
  have HR1 := hd hfr1
  have HW1 := hd hw1
  have HB1 : Hd (base ≤ w1.heap.size) := hd (by have := hw1.lt; omega)
  have HN1 : Hd (b ≠ w1.heap.size) := hd (by have := hw1.lt; omega)
  clear hf1 hHeld hfr1 hw1
  obtain ⟨q0, q1, q2⟩ := HQ.out w1 HR1.out
  by_cases h1 : k = 1
  · subst h1
    go_upto_region 3 with (fail)
    clear q0 q1 q2
    refine anyH_start (n := 7) (L := #[false, false, false, false, false, false, false]) (by kernel_rfl) (by kernel_rfl) (S := (fun wx => Fr base b w1 wx)) (Fr.chg (Chg.refl _ _).drew HB1.out) (fun hHeld => ?_)
    refine anyH_take (i := 0) (d := 13) (L' := #[true, false, false, false, false, false, false]) (v := ?v10) rfl rfl (by kernel_rfl) (fun _ _ _ h => h) (by rfl) ?hy10 (by assumption) ?rest10
    case hy10 => (intro wx hSw; (try dsimp only at hSw); (obtain ⟨q0, q1, q2⟩ := HQ.out _ (HR1.out.trans hSw)); go_simp; (try with_reducible rfl))
    simp only [Act.put, List.setIfInBounds_toArray, List.set_cons_zero, List.set_cons_succ]
    refine anyH_take (i := 1) (d := 14) (L' := #[true, true, false, false, false, false, false]) (v := ?v11) rfl rfl (by kernel_rfl) (fun _ _ _ h => h) (by rfl) ?hy11 (by assumption) ?rest11
    case hy11 => (intro wx hSw; (try dsimp only at hSw); (obtain ⟨q0, q1, q2⟩ := HQ.out _ (HR1.out.trans hSw)); go_simp; (try with_reducible rfl))
    simp only [Act.put, List.setIfInBounds_toArray, List.set_cons_zero, List.set_cons_succ]
    refine anyH_take (i := 2) (d := 15) (L' := #[true, true, true, false, false, false, false]) (v := ?v12) rfl rfl (by kernel_rfl) (fun _ _ _ h => h) (by rfl) ?hy12 (by assumption) ?rest12
    case hy12 => (intro wx hSw; (try dsimp only at hSw); (obtain ⟨q0, q1, q2⟩ := HQ.out _ (HR1.out.trans hSw)); go_simp; (try with_reducible rfl))
    simp only [Act.put, List.setIfInBounds_toArray, List.set_cons_zero, List.set_cons_succ]
    refine anyH_take (i := 3) (d := 16) (L' := #[true, true, true, true, false, false, false]) (v := ?v13) rfl rfl (by kernel_rfl) (fun _ _ _ h => h) (by rfl) ?hy13 (by assumption) ?rest13
    case hy13 => (intro wx hSw; (try dsimp only at hSw); (obtain ⟨q0, q1, q2⟩ := HQ.out _ (HR1.out.trans hSw)); go_simp; (try with_reducible rfl))
    simp only [Act.put, List.setIfInBounds_toArray, List.set_cons_zero, List.set_cons_succ]
    refine anyH_take (i := 4) (d := 17) (L' := #[true, true, true, true, true, false, false]) (v := ?v14) rfl rfl (by kernel_rfl) (fun _ _ _ h => h) (by rfl) ?hy14 (by assumption) ?rest14
    case hy14 => (intro wx hSw; (try dsimp only at hSw); (obtain ⟨q0, q1, q2⟩ := HQ.out _ (HR1.out.trans hSw)); go_simp; (try with_reducible rfl))
    simp only [Act.put, List.setIfInBounds_toArray, List.set_cons_zero, List.set_cons_succ]
    refine anyH_run (i := 5) (L' := #[true, true, true, true, true, true, false]) rfl (by kernel_rfl) (by rfl) (fun KK hKK => ?_)
    go_simp
    (have hcc := (Chg.refl [] w1.drew).alloc (.cells #[.int .i64 r] 28); have hnb := Blk.new w1.drew #[.int .i64 r] 28; have hm5 := Fr.trans hHeld (Fr.chg hcc HB1.out))
    refine hKK.out _ _ (by assumption) (fun hHeld => ?_)
    clear hKK KK
    try simp only [Act.put, List.setIfInBounds_toArray, List.set_cons_zero, List.set_cons_succ]
    refine anyH_run (i := 6) (L' := #[true, true, true, true, true, true, true]) rfl (by kernel_rfl) (by rfl) (fun KK hKK => ?_)
    go_simp
    (refine (WTF_any _ (by decide) base b _ _ [r] _ ((HW1.out.k (Chg.refl [] w1).drew).k hcc) hb (Fs.fr hnb (by decide) (fun e => HN1.out e.symm) rfl rfl (by simp)) (by have := HL.out; simp; omega)).mono ?_; rintro e w2 ⟨rfl, hw2, hf2⟩; have hfr2 := Fr.trans hm5 hf2; (try go_simp))
    refine hKK.out _ _ (by assumption) (fun hHeld => ?_)
    clear hKK KK
    try simp only [Act.put, List.setIfInBounds_toArray, List.set_cons_zero, List.set_cons_succ]
    refine wpAnyH_done (by kernel_rfl) ?_ _
    skip
    go_wp2_with (fail)
    refine bodyPost_ret (v := .tuple #[]) (by simp only [results]; go_simp) rfl ⟨rfl, by rw [HLL.out]; simpa using hw2, (HF0.out.trans HR1.out).trans hfr2⟩
  · have g1 : (k == 1) = false := by rw [beq_eq_false_iff_ne]; exact h1
    have H1 := hd h1
    clear h1
    go_upto_region 4 with (fail)
    clear q0 q1 q2
    refine anyH_start (n := 10) (L := #[false, false, false, false, false, false, false, false, false, false]) (by kernel_rfl) (by kernel_rfl) (S := (fun wx => Fr base b w1 wx)) (Fr.chg (Chg.refl _ _).drew HB1.out) (fun hHeld => ?_)
    refine anyH_take (i := 0) (d := 20) (L' := #[true, false, false, false, false, false, false, false, false, false]) (v := ?v19) rfl rfl (by kernel_rfl) (fun _ _ _ h => h) (by rfl) ?hy19 (by assumption) ?rest19
    case hy19 => (intro wx hSw; (try dsimp only at hSw); (obtain ⟨q0, q1, q2⟩ := HQ.out _ (HR1.out.trans hSw)); go_simp; (try with_reducible rfl))
    simp only [Act.put, List.setIfInBounds_toArray, List.set_cons_zero, List.set_cons_succ]
    refine anyH_take (i := 1) (d := 21) (L' := #[true, true, false, false, false, false, false, false, false, false]) (v := ?v20) rfl rfl (by kernel_rfl) (fun _ _ _ h => h) (by rfl) ?hy20 (by assumption) ?rest20
    case hy20 => (intro wx hSw; (try dsimp only at hSw); (obtain ⟨q0, q1, q2⟩ := HQ.out _ (HR1.out.trans hSw)); go_simp; (try with_reducible rfl))
    simp only [Act.put, List.setIfInBounds_toArray, List.set_cons_zero, List.set_cons_succ]
    refine anyH_take (i := 2) (d := 22) (L' := #[true, true, true, false, false, false, false, false, false, false]) (v := ?v21) rfl rfl (by kernel_rfl) (fun _ _ _ h => h) (by rfl) ?hy21 (by assumption) ?rest21
    case hy21 => (intro wx hSw; (try dsimp only at hSw); (obtain ⟨q0, q1, q2⟩ := HQ.out _ (HR1.out.trans hSw)); go_simp; (try with_reducible rfl))
    simp only [Act.put, List.setIfInBounds_toArray, List.set_cons_zero, List.set_cons_succ]
    refine anyH_take (i := 3) (d := 23) (L' := #[true, true, true, true, false, false, false, false, false, false]) (v := ?v22) rfl rfl (by kernel_rfl) (fun _ _ _ h => h) (by rfl) ?hy22 (by assumption) ?rest22
    case hy22 => (intro wx hSw; (try dsimp only at hSw); (obtain ⟨q0, q1, q2⟩ := HQ.out _ (HR1.out.trans hSw)); go_simp; (try with_reducible rfl))
    simp only [Act.put, List.setIfInBounds_toArray, List.set_cons_zero, List.set_cons_succ]
    refine anyH_take (i := 4) (d := 24) (L' := #[true, true, true, true, true, false, false, false, false, false]) (v := ?v23) rfl rfl (by kernel_rfl) (fun _ _ _ h => h) (by rfl) ?hy23 (by assumption) ?rest23
    case hy23 => (intro wx hSw; (try dsimp only at hSw); (obtain ⟨q0, q1, q2⟩ := HQ.out _ (HR1.out.trans hSw)); go_simp; (try with_reducible rfl))
    simp only [Act.put, List.setIfInBounds_toArray, List.set_cons_zero, List.set_cons_succ]
    refine anyH_take (i := 5) (d := 25) (L' := #[true, true, true, true, true, true, false, false, false, false]) (v := ?v24) rfl rfl (by kernel_rfl) (fun _ _ _ h => h) (by rfl) ?hy24 (by assumption) ?rest24
    case hy24 => (intro wx hSw; (try dsimp only at hSw); (obtain ⟨q0, q1, q2⟩ := HQ.out _ (HR1.out.trans hSw)); go_simp; (try with_reducible rfl))
    simp only [Act.put, List.setIfInBounds_toArray, List.set_cons_zero, List.set_cons_succ]
    refine anyH_take (i := 7) (d := 27) (L' := #[true, true, true, true, true, true, false, true, false, false]) (v := ?v25) rfl rfl (by kernel_rfl) (fun _ _ _ h => h) (by rfl) ?hy25 (by assumption) ?rest25
    case hy25 => (intro wx hSw; (try dsimp only at hSw); (obtain ⟨q0, q1, q2⟩ := HQ.out _ (HR1.out.trans hSw)); go_simp; (try with_reducible rfl))
    simp only [Act.put, List.setIfInBounds_toArray, List.set_cons_zero, List.set_cons_succ]
    refine anyH_take (i := 8) (d := 28) (L' := #[true, true, true, true, true, true, false, true, true, false]) (v := ?v26) rfl rfl (by kernel_rfl) (fun _ _ _ h => h) (by rfl) ?hy26 (by assumption) ?rest26
    case hy26 => (intro wx hSw; (try dsimp only at hSw); (obtain ⟨q0, q1, q2⟩ := HQ.out _ (HR1.out.trans hSw)); go_simp; (try with_reducible rfl))
    simp only [Act.put, List.setIfInBounds_toArray, List.set_cons_zero, List.set_cons_succ]
    refine anyH_run (i := 6) (L' := #[true, true, true, true, true, true, true, true, true, false]) rfl (by kernel_rfl) (by rfl) (fun KK hKK => ?_)
    go_simp
    (refine (WTNum_any _ (by decide) 1 p.length base b _ _ (HW1.out.k (Chg.refl [] w1).drew) hb (by omega) (by omega) (by have := HL.out; simp; omega)).mono ?_; rintro e w2 ⟨rfl, hw2, hf2⟩; have hm6 := Fr.trans hHeld hf2; (try go_simp))
    refine hKK.out _ _ (by assumption) (fun hHeld => ?_)
    clear hKK KK
    try simp only [Act.put, List.setIfInBounds_toArray, List.set_cons_zero, List.set_cons_succ]
    refine anyH_run (i := 9) (L' := #[true, true, true, true, true, true, true, true, true, true]) rfl (by kernel_rfl) (by rfl) (fun KK hKK => ?_)
    go_simp
    (refine (WTV_any _ (by decide) base b _ _ p _ hw2 hb (fun w' h => HZ0.out w' ((HR1.out.trans hm6).trans h)) (by have := HL.out; simp; omega)).mono ?_; rintro e w3 ⟨rfl, hw3, hf3⟩; have hm9 := Fr.trans hm6 hf3; (try go_simp))
    refine hKK.out _ _ (by assumption) (fun hHeld => ?_)
    clear hKK KK
    try simp only [Act.put, List.setIfInBounds_toArray, List.set_cons_zero, List.set_cons_succ]
    refine wpAnyH_done (by kernel_rfl) ?_ _
    skip
    go_wp2_with (fail)
    go_end0
    exact ⟨rfl, by have := hw3; rw [HLL.out, if_neg H1.out]; simpa using this, (HF0.out.trans HR1.out).trans hm9⟩
end Go.Proofs.Ytlicefbgcoddbaa

/- codec.writer: orders. -/
namespace Go.Proofs.Ytlicefbgcoddbaa
open Go.RowKit

def leO (o : Ord) : List UInt8 := leB 1 o.kind ++
  (if o.kind = 1 then leF (fV [o.pos, o.vel]) ++ leF [o.angle, o.spin, o.density] ++ leS o.shape
  else if o.kind = 2 ∨ o.kind = 4 then leB 8 o.id
  else if o.kind = 3 then leB 8 o.a ++ leB 8 o.b ++ leF (fV [o.pos, o.vel]) ++ leF [o.len]
  else if o.kind = 5 then leB 8 o.id ++ leF (fV [o.vel]) ++ leF [o.spin]
  else if o.kind = 6 then leF (fV [o.vel])
  else [])
/-- A literal that is laid on the way. -/
theorem Fr.lit0 {t : TypeId} {base b : Nat} {w0 w : World} {L : List UInt8} (_h : Fr base b w0 w) (hW : WrT t w base b L) (hb : base ≤ b) (o : Obj) : Fr base b w (w.alloc o) :=
  Fr.chg ((Chg.refl [] w).alloc o) (by have := hW.lt; omega)
theorem Fr.litF {t : TypeId} {base b : Nat} {w0 w : World} {L : List UInt8} (h : Fr base b w0 w) (hW : WrT t w base b L) (hb : base ≤ b) (l : List Int) (cs : Array Value) (e : TypeId) (n : Nat) (he : e ≠ 5) (hcs : cs = (l.map (Value.int .i64)).toArray) (hn : n = l.length) (hl : l.length ≤ 140737488355328) :
    WrT t (w.alloc (.cells cs e)) base b L ∧ Fr base b w0 (w.alloc (.cells cs e)) ∧ ∀ w', Fr base b (w.alloc (.cells cs e)) w' → Fs w' (.slice (some ⟨w.heap.size, 0, none⟩) n n) l :=
  ⟨hW.k ((Chg.refl [] w).alloc _), h.trans (Fr.lit0 h hW hb _), Fs.fr (Blk.new w cs e) he (by have := hW.lt; omega) hcs hn hl⟩
theorem Fr.litV {t : TypeId} {base b : Nat} {w0 w : World} {L : List UInt8} (h : Fr base b w0 w) (hW : WrT t w base b L) (hb : base ≤ b) (l : List V2) (cs : Array Value) (e : TypeId) (n : Nat) (he : e ≠ 5) (hcs : cs = (l.flatMap cV).toArray) (hn : n = l.length) (hl : l.length ≤ 140737488355328) :
    WrT t (w.alloc (.cells cs e)) base b L ∧ Fr base b w0 (w.alloc (.cells cs e)) ∧ ∀ w', Fr base b (w.alloc (.cells cs e)) w' → VsS w' (.slice (some ⟨w.heap.size, 0, none⟩) n n) l :=
  ⟨hW.k ((Chg.refl [] w).alloc _), h.trans (Fr.lit0 h hW hb _), VsS.fr (Blk.new w cs e) he (by have := hW.lt; omega) hcs hn hl⟩

end Go.Proofs.Ytlicefbgcoddbaa

/- What the codec reads without failing is what it writes. -/
namespace Go.Proofs.Ytlicefbgcoddbaa
open Go.RowKit

theorem leF_two (x y : Int) : leF [x, y] = leB 8 x ++ leB 8 y := by simp [leF]
theorem plR_back (s : St) (h : (plR s).2.2 = false) : s.2 = false ∧ s.1 = leF (fV [(plR s).1]) ++ (plR s).2.1 := by
  unfold plR at h ⊢
  obtain ⟨h2, e2⟩ := numR_back 8 (by decide) (numR 8 s).2 h
  obtain ⟨h1, e1⟩ := numR_back 8 (by decide) s h2
  refine ⟨h1, ?_⟩
  rw [e1, e2]
  simp [fV, leF]
theorem psR_back (n : Nat) (s : St) (h : (psR n s).2.2 = false) : s.2 = false ∧ (psR n s).1.length = n ∧ s.1 = leF (fV (psR n s).1) ++ (psR n s).2.1 := by
  induction n generalizing s with
  | zero => exact ⟨h, rfl, by simp [psR, leF, fV]⟩
  | succ n ih =>
    cases hb : s.2 with
    | true => rw [psR_no _ _ hb, hb] at h; exact absurd h (by simp)
    | false =>
      rw [psR_go _ _ hb] at h ⊢
      obtain ⟨h1, h2, h3⟩ := ih _ h
      obtain ⟨g1, g2⟩ := plR_back s h1
      refine ⟨rfl, by simp [h2], ?_⟩
      rw [g2, h3]
      simp [fV, leF]
theorem shapeR_back (s : St) (h : (shapeR s).2.2 = false) : s.2 = false ∧ s.1 = leS (shapeR s).1 ++ (shapeR s).2.1 := by
  by_cases hk : (numR 1 s).1 = 1
  · have e : shapeR s = (⟨1, (numR 8 (numR 1 s).2).1, []⟩, (numR 8 (numR 1 s).2).2) := if_pos hk
    rw [e] at h ⊢
    obtain ⟨h2, e2⟩ := numR_back 8 (by decide) (numR 1 s).2 h
    obtain ⟨h1, e1⟩ := numR_back 1 (by decide) s h2
    refine ⟨h1, ?_⟩
    rw [e1, e2, hk]
    simp [leS, leF]
  · have e : shapeR s = (⟨(numR 1 s).1, 0, (psR (numR 1 (numR 1 s).2).1.toNat (numR 1 (numR 1 s).2).2).1⟩, (psR (numR 1 (numR 1 s).2).1.toNat (numR 1 (numR 1 s).2).2).2) := if_neg hk
    rw [e] at h ⊢
    have hlo := (numR1_lo (numR 1 s).2).1
    obtain ⟨h3, l3, e3⟩ := psR_back _ _ h
    obtain ⟨h2, e2⟩ := numR_back 1 (by decide) (numR 1 s).2 h3
    obtain ⟨h1, e1⟩ := numR_back 1 (by decide) s h2
    refine ⟨h1, ?_⟩
    unfold leS
    simp only [if_neg hk]
    rw [l3, Int.toNat_of_nonneg hlo, e1, e2, e3]
    simp
section
attribute [local irreducible] numR plR shapeR
set_option maxHeartbeats 1000000 in
theorem orderR0_back (s : St) (h : (orderR0 s).2.2 = false) : s.2 = false ∧ s.1 = leO (orderR0 s).1 ++ (orderR0 s).2.1 := by
  unfold orderR0 at h ⊢
  by_cases k1 : (numR 1 s).1 = 1
  · rw [if_pos k1] at h ⊢
    dsimp only at h ⊢
    obtain ⟨h6, e6⟩ := shapeR_back _ h
    obtain ⟨h5, e5⟩ := numR_back 8 (by decide) _ h6
    obtain ⟨h4, e4⟩ := numR_back 8 (by decide) _ h5
    obtain ⟨h3, e3⟩ := numR_back 8 (by decide) _ h4
    obtain ⟨h2, e2⟩ := plR_back _ h3
    obtain ⟨h1, e1⟩ := plR_back _ h2
    obtain ⟨h0, e0⟩ := numR_back 1 (by decide) s h1
    refine ⟨h0, ?_⟩
    rw [e0, e1, e2, e3, e4, e5, e6, k1]
    simp [leO, leF, fV]
  rw [if_neg k1] at h ⊢
  by_cases k2 : (numR 1 s).1 = 2 ∨ (numR 1 s).1 = 4
  · rw [if_pos k2] at h ⊢
    dsimp only at h ⊢
    obtain ⟨h1, e1⟩ := numR_back 8 (by decide) _ h
    obtain ⟨h0, e0⟩ := numR_back 1 (by decide) s h1
    refine ⟨h0, ?_⟩
    rw [e0, e1]
    simp [leO, k1, k2]
  rw [if_neg k2] at h ⊢
  by_cases k3 : (numR 1 s).1 = 3
  · rw [if_pos k3] at h ⊢
    dsimp only at h ⊢
    obtain ⟨h5, e5⟩ := numR_back 8 (by decide) _ h
    obtain ⟨h4, e4⟩ := plR_back _ h5
    obtain ⟨h3, e3⟩ := plR_back _ h4
    obtain ⟨h2, e2⟩ := numR_back 8 (by decide) _ h3
    obtain ⟨h1, e1⟩ := numR_back 8 (by decide) _ h2
    obtain ⟨h0, e0⟩ := numR_back 1 (by decide) s h1
    refine ⟨h0, ?_⟩
    rw [e0, e1, e2, e3, e4, e5, k3]
    simp [leO, leF, fV]
  rw [if_neg k3] at h ⊢
  by_cases k5 : (numR 1 s).1 = 5
  · rw [if_pos k5] at h ⊢
    dsimp only at h ⊢
    obtain ⟨h3, e3⟩ := numR_back 8 (by decide) _ h
    obtain ⟨h2, e2⟩ := plR_back _ h3
    obtain ⟨h1, e1⟩ := numR_back 8 (by decide) _ h2
    obtain ⟨h0, e0⟩ := numR_back 1 (by decide) s h1
    refine ⟨h0, ?_⟩
    rw [e0, e1, e2, e3, k5]
    simp [leO, leF, fV]
  rw [if_neg k5] at h ⊢
  by_cases k6 : (numR 1 s).1 = 6
  · rw [if_pos k6] at h ⊢
    dsimp only at h ⊢
    obtain ⟨h1, e1⟩ := plR_back _ h
    obtain ⟨h0, e0⟩ := numR_back 1 (by decide) s h1
    refine ⟨h0, ?_⟩
    rw [e0, e1, k6]
    simp [leO, leF, fV]
  rw [if_neg k6] at h ⊢
  obtain ⟨h0, e0⟩ := numR_back 1 (by decide) s h
  refine ⟨h0, ?_⟩
  rw [e0]
  simp [leO, zeroO, k1, k2, k3, k5, k6]
end
theorem orderR_back (s : St) (h : (orderR s).2.2 = false) : s.2 = false ∧ rightO (orderR s).1 = true ∧ s.1 = leO (orderR s).1 ++ (orderR s).2.1 := by
  unfold orderR at h ⊢
  cases hr : rightO (orderR0 s).1 with
  | false => simp [hr, failS] at h
  | true =>
    simp only [hr, if_true] at h ⊢
    obtain ⟨h1, h2⟩ := orderR0_back s h
    exact ⟨h1, trivial, h2⟩
end Go.Proofs.Ytlicefbgcoddbaa
