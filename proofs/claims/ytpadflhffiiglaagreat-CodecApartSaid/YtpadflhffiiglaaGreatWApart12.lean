/- Words and walks that Apart rests on: CodecB. -/
import Derived.Test.YtpadflhffiiglaaGreatWApart11
/- codec.Batch. -/
namespace Go.Proofs.YtpadflhffiiglaaGreat
open Go.RowKit

/-- Orders with the values of their places. -/
abbrev OV := Ord × Value
def cOV (x : OV) : List Value := cO x.1 x.2
theorem cOV_len (x : OV) : (cOV x).length = 15 := rfl
structure OsS (w : World) (v : Value) (l : List OV) : Prop where
  rd : Rd w 15 v l.length (l.flatMap cOV)
  ps : ∀ x ∈ l, VsS w x.2 x.1.shape.p
theorem OsS.k {w w' : World} {v : Value} {l : List OV} (h : OsS w v l) (hc : Chg [] w w') : OsS w' v l := ⟨Rd.keep h.rd hc (by simp), fun x hx => (h.ps x hx).k hc⟩
theorem OsS.form {w : World} {v : Value} {l : List OV} (h : OsS w v l) : ∃ ao c, v = .slice ao l.length c ∧ (0 < l.length → ∃ b off, ao = some ⟨b, off, none⟩ ∧ b < w.heap.size) := by
  have hlt := fun hn => Rd.lt h.rd hn (by decide)
  obtain ⟨_, ao, cap, b, off, rfl, -, -, -, h5, -⟩ := h.rd
  refine ⟨ao, cap, rfl, fun hp => ⟨b, off, h5 hp, ?_⟩⟩
  have := hlt hp
  rw [h5 hp] at this
  exact this b rfl
theorem OsS.at {w : World} {b off n c : Nat} {l : List OV} (h : OsS w (.slice (some ⟨b, off, none⟩) n c) l) (i : Nat) (hi : i < l.length) (j : Nat) (hj : j < 15) :
    w.cell? ⟨b, off + i * 15 + j, none⟩ = some ((cOV l[i])[j]'(by rw [cOV_len]; exact hj)) := by
  obtain ⟨h0, ao, cap, b', off', he, h2, h3, h4, h5, h6⟩ := h.rd
  have h5 := h5 (by omega)
  simp only [Value.slice.injEq] at he
  obtain ⟨rfl, -, -⟩ := he
  simp only [Option.some.injEq, Addr.mk.injEq, and_true] at h5
  obtain ⟨rfl, rfl⟩ := h5
  have g := flat_get cOV 15 cOV_len l i j hi hj
  rw [List.getElem?_eq_getElem (l := cOV l[i]) (by rw [cOV_len]; exact hj)] at g
  have := h6 (i * 15 + j) _ g
  rwa [← Nat.add_assoc] at this
theorem leO_le (o : Ord) : (leO o).length ≤ 200 + 16 * o.shape.p.length := by
  unfold leO leS
  simp only [List.length_append, leB_length]
  repeat' split
  all_goals simp [leF_length, fV_length]
  all_goals omega
def leBatch (l : List Ord) : List UInt8 := leB 2 l.length ++ l.flatMap leO
theorem leOs_le (l : List OV) (h : ∀ x ∈ l, x.1.shape.p.length ≤ 4096) : (l.flatMap fun x => leO x.1).length ≤ l.length * 65800 := by
  induction l with
  | nil => simp
  | cons x l ih =>
    have h1 := leO_le x.1
    have h2 := h x (by simp)
    have h3 := ih (fun y hy => h y (by simp [hy]))
    rw [List.flatMap_cons, List.length_append, List.length_cons]
    omega
theorem leOs_snoc (l : List OV) (k : Nat) (h : k < l.length) : ((l.take (k + 1)).flatMap fun x => leO x.1) = ((l.take k).flatMap fun x => leO x.1) ++ leO l[k].1 := by
  rw [List.take_succ_eq_append_getElem h, List.flatMap_append]; simp
theorem VsS.bel {base : Nat} {w w' : World} {v : Value} {l : List V2} (h : VsS w v l) (hf : Below base w w') (hv : 0 < l.length → ∀ k, v.ownBlock = some k → k < base) : VsS w' v l := by
  obtain ⟨h0, ao, cap, b', off', rfl, h2, h3, h4, h5, h6⟩ := h
  refine ⟨h0, ao, cap, b', off', rfl, h2, h3, h4, h5, fun j u hu => ?_⟩
  by_cases hp : 0 < l.length
  · obtain rfl := h5 hp
    exact (hf.cell (p := ⟨b', off' + j, none⟩) (hv hp b' rfl)).trans (h6 j u hu)
  · have : l = [] := List.length_eq_zero_iff.mp (by omega)
    subst this
    simp at hu
theorem VsS.own {w : World} {v : Value} {l : List V2} (h : VsS w v l) : 0 < l.length → ∀ k, v.ownBlock = some k → k < w.heap.size := fun hn => Rd.lt h hn (by decide)

set_option maxRecDepth 100000 in
set_option maxHeartbeats 8000000 in
theorem Batch_any (w : World) (v : Value) (l : List OV) (hl : OsS w v l) (hn : l.length ≤ 1048576) (hp : ∀ x ∈ l, x.1.shape.p.length ≤ 4096) :
    Calls Tryz.prog 15 #[v] w fun e w' => ∃ ao c, e = .returned (.slice ao (leBatch (l.map (·.1))).length c) ∧ OwB w' w.heap.size (.slice ao (leBatch (l.map (·.1))).length c) (leBatch (l.map (·.1))) ∧ Chg [] w w' := by
  have hB : leBatch (l.map (·.1)) = leB 2 l.length ++ l.flatMap fun x => leO x.1 := by unfold leBatch; rw [List.length_map, List.flatMap_map]
  rw [hB]
  clear hB
  have hO := leOs_le l hp
  obtain ⟨LL, hLL⟩ : ∃ LL, LL = leB 2 l.length ++ l.flatMap fun x => leO x.1 := ⟨_, rfl⟩
  rw [← hLL]
  have HLN : Hd (LL.length ≤ 140737488355328) := hd (by rw [hLL, List.length_append, leB_length]; omega)
  have HLL := hd hLL
  clear hLL hO
  obtain ⟨av, cv, rfl, hav⟩ := hl.form
  have hw0 : WrT 80 (w.alloc (.cells #[.slice none 0 0] 80)) w.heap.size w.heap.size [] := ⟨_, Blk.new _ _ _, OwB.nil _ _⟩
  have hc0 := (Chg.refl [] w).alloc (.cells #[.slice none 0 0] 80)
  obtain ⟨B, hB⟩ : ∃ B, B = w.heap.size := ⟨_, rfl⟩
  have hb0 : Below B w (w.alloc (.cells #[.slice none 0 0] 80)) := hB ▸ hc0.new
  rw [← hB] at hw0 ⊢
  have HB := hd hB
  have HL := hd hl
  have HP := hd hp
  have HC := hd hc0
  clear hp hc0 hl hB
  go_enter Tryz.func15, Tryz.ntmps15
  go_upto_region 2 with (fail)
  rw [← HB.out]
  generalize w.alloc (.cells #[.slice none 0 0] 80) = w0 at *
  go_wp2_with (go_at_call 26; refine (WTNum_any _ (by decide) 2 l.length B B _ _ hw0 (Nat.le_refl _) (by omega) (by omega) (by simp)).mono ?_; rintro e w1 ⟨rfl, hw1, hf1⟩)
  have HF1 := hd (hb0.trans hf1.below)
  have HW1 := hd hw1
  have HB1 : Hd (B ≤ w1.heap.size) := hd (Nat.le_of_lt hw1.lt)
  clear hw0 hb0 hw1 hf1
  by_cases h0 : l = []
  · subst h0
    refine wp_loop_once ?_
    have hw1 : WrT 80 w1 B B LL := by rw [HLL.out]; simpa using HW1.out
    go_wp2_with (go_at_call 30; refine (WTBytes_any _ B B _ _ hw1 HLN.out).mono ?_; rintro e w2 ⟨ao2, c2, rfl, h2, h3⟩)
    go_ret
    exact ⟨ao2, c2, rfl, h2.mono HB1.out, Chg.ofBelow (HB.out ▸ HF1.out.trans (h3.below HB1.out (by simp)))⟩
  have hpos : 0 < l.length := List.length_pos_iff.2 h0
  obtain ⟨gb, off, rfl, hgb⟩ := hav hpos
  clear h0 hav
  go_wp2_with (fail)
  go_loopw [5, 12] (fun _ i wr => ∃ k : Nat, k ≤ l.length ∧ i = .int .i64 k ∧ WrT 80 wr B B (leB 2 l.length ++ ((l.take k).flatMap fun x => leO x.1)) ∧ Below B w wr)
    (fun _ i _ => l.length - (intOf i).toNat)
  case atStart => exact ⟨0, by omega, rfl, by simpa using HW1.out, HF1.out⟩
  case round =>
    obtain ⟨j, hj, rfl, hwr, hbel⟩ := hrel
    by_cases hlt : j < l.length
    · have hS := hd (leOs_snoc l j hlt)
      have hle : (leB 2 l.length ++ ((l.take j).flatMap fun x => leO x.1)).length ≤ 2 + 1048576 * 65800 := by
        have := leOs_le (l.take j) (fun x hx => HP.out x (List.mem_of_mem_take hx))
        rw [List.length_take] at this
        simp only [List.length_append, leB_length]
        omega
      have hps := HL.out.ps _ (List.getElem_mem hlt)
      have hpl := HP.out _ (List.getElem_mem hlt)
      have hgbB : gb < B := HB.out ▸ hgb
      have C := fun m hm => (hbel.cell (p := ⟨gb, off + j * 15 + m, none⟩) hgbB).trans (HL.out.at j hlt m hm)
      have q0 := C 0 (by decide)
      have q1 := C 1 (by decide)
      have q2 := C 2 (by decide)
      have q3 := C 3 (by decide)
      have q4 := C 4 (by decide)
      have q5 := C 5 (by decide)
      have q6 := C 6 (by decide)
      have q7 := C 7 (by decide)
      have q8 := C 8 (by decide)
      have q9 := C 9 (by decide)
      have q10 := C 10 (by decide)
      have q11 := C 11 (by decide)
      have q12 := C 12 (by decide)
      have q13 := C 13 (by decide)
      have q14 := C 14 (by decide)
      generalize l[j] = x at *
      obtain ⟨⟨k, i, a, b1, ⟨px, py⟩, ⟨vx, vy⟩, an, sp, de, ln, ⟨sk, sr, p⟩⟩, pv⟩ := x
      rw [Nat.add_zero] at q0
      simp only [cOV, cO, List.getElem_cons_zero, List.getElem_cons_succ] at q0 q1 q2 q3 q4 q5 q6 q7 q8 q9 q10 q11 q12 q13 q14
      simp only at hps hpl
      obtain ⟨ao, c, rfl, -⟩ := hps.form
      have hz := hps.own
      rw [← HB.out] at hz
      clear C
      have hcc := (Chg.refl [] wr).alloc (.cells #[.int .i64 k, .int .i64 i, .int .i64 a, .int .i64 b1, .int .i64 px, .int .i64 py, .int .i64 vx, .int .i64 vy, .int .i64 an, .int .i64 sp, .int .i64 de, .int .i64 ln, .int .i64 sk, .int .i64 sr, .slice ao p.length c] 120)
      have hbw : B ≤ wr.heap.size := Nat.le_of_lt hwr.lt
      have hbb := hbel.trans (hcc.below hbw (by simp))
      have hcon := WOrder_any B B _ ⟨k, i, a, b1, (px, py), (vx, vy), an, sp, de, ln, ⟨sk, sr, p⟩⟩ (.slice ao p.length c) _ (hwr.k hcc) (Nat.le_refl _) (fun w' h => hps.bel (hbb.trans h.below) hz) (by simp only; omega)
      have HBB := hd hbb
      have HPS := hd hps
      clear hps hz hbb hcc hbel hle
      unfold vO at hcon
      simp only at hcon
      go_wp2_with (go_at_call 51; refine hcon.mono ?_; rintro e w9 ⟨rfl, hw9, hf9⟩)
      go_roundw
      case rel => exact ⟨j + 1, by omega, by go_num, by rw [hS.out, ← List.append_assoc]; exact hw9, HBB.out.trans hf9.below⟩
      case measure => simp [intOf]; omega
    · have hjn : j = l.length := by omega
      subst hjn
      rw [List.take_length, ← HLL.out] at hwr
      go_wp2_with (go_at_call 30; refine (WTBytes_any _ B B _ _ hwr HLN.out).mono ?_; rintro e w2 ⟨ao2, c2, rfl, h2, h3⟩)
      go_ret
      exact ⟨ao2, c2, rfl, h2.mono (Nat.le_of_lt hwr.lt), Chg.ofBelow (HB.out ▸ hbel.trans (h3.below (Nat.le_of_lt hwr.lt) (by simp)))⟩
end Go.Proofs.YtpadflhffiiglaaGreat
