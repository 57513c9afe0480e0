/- Words and walks that SD rests on: PutArm. -/
import Derived.Test.YtbiadpkglcdihaaGreatWSD27
import Derived.Test.YtbiadpkglcdihaaGreatWSD30
/- A checkpoint that is put while the power may go, as plain data. -/
namespace Go.Proofs.YtbiadpkglcdihaaGreat
open Go.RowKit

/-- Operation number k from now on fails, and none before it. -/
def Flt (k : Nat) (d : Dsk) : Prop := d.off = false ∧ 0 ≤ d.ops ∧ ((d.down = d.ops + k ∧ d.fail = -1) ∨ (d.down = -1 ∧ d.fail = d.ops + k))
def RD (room down fail : Int) (files : List (List UInt8 × Nat)) (names sure : Nm) (ch : List (List UInt8 × List UInt8 × Nat)) (ops : Int) : Dsk := ⟨room, files, names, sure, ch, ops, down, fail, false⟩
variable {room down fail : Int} {files : List (List UInt8 × Nat)} {names sure : Nm} {ch : List (List UInt8 × List UInt8 × Nat)} {ops : Int} {A B : List UInt8} {i n k : Nat}
theorem Flt.ok (h : Flt (k + 1) (RD room down fail files names sure ch ops)) : opE (RD room down fail files names sure ch ops) = 0 ∧ opD (RD room down fail files names sure ch ops) = RD room down fail files names sure ch (ops + 1) ∧
    ∀ f n s c, Flt k (RD room down fail f n s c (ops + 1)) := by
  obtain ⟨-, h0, h1⟩ := h
  simp only [RD] at h0 h1
  refine ⟨?_, ?_, fun f n s c => ⟨rfl, by simp only [RD]; omega, by simp only [RD]; omega⟩⟩
  · unfold opE RD
    simp only [Bool.false_eq_true, false_or]
    rw [if_neg (by omega), if_neg (by omega)]
  · unfold opD RD
    simp only [Bool.false_or, Dsk.mk.injEq, true_and, decide_eq_false_iff_not]
    omega
theorem Flt.bad {d : Dsk} (h : Flt 0 d) : opE d ≠ 0 := by
  obtain ⟨h2, h0, h1⟩ := h
  unfold opE
  rw [h2]
  simp only [Bool.false_eq_true, false_or]
  split
  · decide
  · rw [if_pos (by omega)]; decide
theorem create_bad {d : Dsk} (h : opE d ≠ 0) (s : List UInt8) : createE d s ≠ 0 ∧ createD d s = opD d := by
  have e : createE d s = opE d := by unfold createE; rw [if_pos h]
  exact ⟨by rw [e]; exact h, by unfold createD; rw [if_pos (by rw [e]; exact h)]⟩
theorem append_bad {d : Dsk} (h : opE d ≠ 0) (s b : List UInt8) : appendE d s b ≠ 0 ∧ appendD d s b = opD d := by
  have e : appendE d s b = opE d := by unfold appendE; rw [if_pos h]
  exact ⟨by rw [e]; exact h, by unfold appendD; rw [if_pos (by rw [e]; exact h)]⟩
theorem sync_bad {d : Dsk} (h : opE d ≠ 0) (s : List UInt8) : syncE d s ≠ 0 ∧ syncD d s = opD d := by
  have e : syncE d s = opE d := by unfold syncE; rw [if_pos h]
  exact ⟨by rw [e]; exact h, by unfold syncD; rw [if_pos (by rw [e]; exact h)]⟩
theorem rename_bad {d : Dsk} (h : opE d ≠ 0) (a s : List UInt8) : renameE d a s ≠ 0 ∧ renameD d a s = opD d := by
  have e : renameE d a s = opE d := by unfold renameE; rw [if_pos h]
  exact ⟨by rw [e]; exact h, by unfold renameD; rw [if_pos (by rw [e]; exact h)]⟩
theorem dirSync_bad {d : Dsk} (h : opE d ≠ 0) : dirSyncD d = opD d := by unfold dirSyncD; rw [if_pos h]
/-- What the disk holds while the checkpoint is put, as a crash sees it. -/
def MidP (A B : List UInt8) (i : Nat) (full : Bool) (d : Dsk) : Prop := i < d.files.length ∧ d.files.getD i ([], 0) = (A, A.length) ∧ ∀ m,
  (full = false ∧ ((d.changes.take m).foldl turnD d.sure = [(chkB 5, i)] ∨ ∃ n, n < d.files.length ∧ (d.changes.take m).foldl turnD d.sure = [(chkB 5, i), (tmpB, n)])) ∨
  ∃ n, n < d.files.length ∧ (d.changes.take m).foldl turnD d.sure = [(chkB 5, i), (chkB 6, n)] ∧ d.files.getD n ([], 0) = (B, B.length)
theorem chk56 : chkB 5 ≠ chkB 6 := by decide +kernel
theorem fold1 (i n m : Nat) : ([([], tmpB, n)] : List (List UInt8 × List UInt8 × Nat)).take m |>.foldl turnD [(chkB 5, i)] |> fun es => es = [(chkB 5, i)] ∨ es = [(chkB 5, i), (tmpB, n)] := by
  cases m with
  | zero => exact .inl rfl
  | succ m =>
    right
    rw [List.take_succ_cons, List.take_nil]
    show turnD [(chkB 5, i)] ([], tmpB, n) = _
    rw [turn_in _ _ _ tmp_nil]
    unfold nput ndel
    simp [chk_ne]
theorem fold2 (i n m : Nat) : ([([], tmpB, n), (tmpB, chkB 6, n)] : List (List UInt8 × List UInt8 × Nat)).take m |>.foldl turnD [(chkB 5, i)] |> fun es => es = [(chkB 5, i)] ∨ es = [(chkB 5, i), (tmpB, n)] ∨ es = [(chkB 5, i), (chkB 6, n)] := by
  cases m with
  | zero => exact .inl rfl
  | succ m =>
    right
    have h1 : turnD [(chkB 5, i)] ([], tmpB, n) = [(chkB 5, i), (tmpB, n)] := by
      rw [turn_in _ _ _ tmp_nil]; unfold nput ndel; simp [chk_ne]
    cases m with
    | zero => left; exact h1
    | succ m =>
      right
      rw [List.take_succ_cons, List.take_succ_cons, List.take_nil]
      show turnD (turnD [(chkB 5, i)] ([], tmpB, n)) (tmpB, chkB 6, n) = _
      rw [h1, turn_mv _ _ _ _ tmp_nil (chk_nil 6)]
      unfold nput ndel
      simp [chk_ne, chk56]
theorem put_flt (A B : List UInt8) (i k : Nat) (hF : Flt k (RD room down fail files [(chkB 5, i)] [(chkB 5, i)] [] ops)) (hi : i < files.length) (hA : files.getD i ([], 0) = (A, A.length)) (hr : (A.length : Int) + B.length ≤ room) :
    ((putD (RD room down fail files [(chkB 5, i)] [(chkB 5, i)] [] ops) 6 B).1 = 0 ↔ 6 ≤ k) ∧ MidP A B i (decide (6 ≤ k)) (putD (RD room down fail files [(chkB 5, i)] [(chkB 5, i)] [] ops) 6 B).2 ∧
    (putD (RD room down fail files [(chkB 5, i)] [(chkB 5, i)] [] ops) 6 B).2.room = room ∧ (putD (RD room down fail files [(chkB 5, i)] [(chkB 5, i)] [] ops) 6 B).2.ops ≤ ops + 6 := by
  have hop : ∀ (d : Dsk), (opD d).files = d.files ∧ (opD d).sure = d.sure ∧ (opD d).changes = d.changes ∧ (opD d).room = d.room ∧ (opD d).ops = d.ops + 1 := fun d => ⟨rfl, rfl, rfl, rfl, rfl⟩
  have fin : ∀ (e : Int) (d : Dsk) (o : Int), e ≠ 0 → k < 6 → (d.files = files ∧ d.changes = [] ∨ (∃ f, d.files = files ++ [f]) ∧ d.changes = [([], tmpB, files.length)] ∨ d.files = files ++ [(B, B.length)] ∧ d.changes = [([], tmpB, files.length), (tmpB, chkB 6, files.length)]) → d.sure = [(chkB 5, i)] → d.room = room → d.ops ≤ ops + 6 →
      ((e, d).1 = 0 ↔ 6 ≤ k) ∧ MidP A B i (decide (6 ≤ k)) (e, d).2 ∧ (e, d).2.room = room ∧ (e, d).2.ops ≤ ops + 6 := by
    intro e d o he hk hf hs hro ho
    have hdec : decide (6 ≤ k) = false := decide_eq_false (by omega)
    refine ⟨⟨fun h => absurd h he, fun h => absurd h (by omega)⟩, ?_, hro, ho⟩
    simp only
    unfold MidP
    rw [hdec, hs]
    rcases hf with ⟨h1, h2⟩ | ⟨⟨f, h1⟩, h2⟩ | ⟨h1, h2⟩
    · rw [h1, h2]
      exact ⟨hi, hA, fun m => .inl ⟨rfl, .inl (by rw [List.take_nil]; rfl)⟩⟩
    · rw [h1, h2]
      refine ⟨by rw [List.length_append]; omega, by rw [getD_app hi, hA], fun m => .inl ⟨rfl, ?_⟩⟩
      rcases fold1 i files.length m with h | h
      · exact .inl h
      · exact .inr ⟨files.length, by simp, h⟩
    · rw [h1, h2]
      refine ⟨by rw [List.length_append]; omega, by rw [getD_app hi, hA], fun m => ?_⟩
      rcases fold2 i files.length m with h | h | h
      · exact .inl ⟨rfl, .inl h⟩
      · exact .inl ⟨rfl, .inr ⟨files.length, by simp, h⟩⟩
      · exact .inr ⟨files.length, by simp, h, getD_last _ _⟩
  unfold putD
  rcases k with _ | k
  · rw [if_pos hF.bad]
    exact fin _ _ 0 hF.bad (by omega) (.inl ⟨rfl, rfl⟩) rfl rfl (by rw [(hop _).2.2.2.2]; simp only [RD]; omega)
  obtain ⟨e0, o0, hF⟩ := hF.ok
  rw [e0, if_neg (by simp), o0]
  have hnt : nget (RD room down fail files [(chkB 5, i)] [(chkB 5, i)] [] ops).names tmpB = none := by show nget [(chkB 5, i)] tmpB = none; unfold nget; simp [chk_ne]
  rw [if_neg (by rw [hnt]; simp)]
  unfold putS seqD
  have hF1 := hF files [(chkB 5, i)] [(chkB 5, i)] []
  clear hF e0 o0 hnt
  simp only
  rcases k with _ | k
  · have hb := create_bad hF1.bad tmpB
    rw [if_pos hb.1, hb.2]
    exact fin _ _ 0 hb.1 (by omega) (.inl ⟨rfl, rfl⟩) rfl rfl (by rw [(hop _).2.2.2.2]; simp only [RD]; omega)
  obtain ⟨e0, o0, hF⟩ := hF1.ok
  have c1 : createE (RD room down fail files [(chkB 5, i)] [(chkB 5, i)] [] (ops + 1)) tmpB = 0 := by
    unfold createE
    rw [e0]
    have : nget (RD room down fail files [(chkB 5, i)] [(chkB 5, i)] [] (ops + 1)).names tmpB = none := by show nget [(chkB 5, i)] tmpB = none; unfold nget; simp [chk_ne]
    rw [this, if_neg (by simp), if_neg (by decide), if_neg (by simp), if_neg (by simp [RD])]
  have s1 : createD (RD room down fail files [(chkB 5, i)] [(chkB 5, i)] [] (ops + 1)) tmpB = RD room down fail (files ++ [([], 0)]) [(chkB 5, i), (tmpB, files.length)] [(chkB 5, i)] [([], tmpB, files.length)] (ops + 2) := by
    unfold createD
    rw [c1, if_neg (by simp), o0]
    unfold changeD RD
    simp only [List.nil_append]
    rw [turn_in _ _ _ tmp_nil]
    have : nput [(chkB 5, i)] tmpB files.length = [(chkB 5, i), (tmpB, files.length)] := by unfold nput ndel; simp [chk_ne]
    rw [this]
    congr 1
    omega
  rw [c1, s1, if_neg (by simp)]
  unfold seqD
  have hF2 := hF (files ++ [([], 0)]) [(chkB 5, i), (tmpB, files.length)] [(chkB 5, i)] [([], tmpB, files.length)]
  rw [show ops + 1 + 1 = ops + 2 by omega] at hF2
  clear c1 s1 hF e0 o0 hF1
  have hg : ∀ f c o, nget (RD room down fail f [(chkB 5, i), (tmpB, files.length)] [(chkB 5, i)] c o).names tmpB = some files.length := fun f c o => by
    show nget [(chkB 5, i), (tmpB, files.length)] tmpB = _; unfold nget; simp [chk_ne]
  simp only
  rcases k with _ | k
  · have hb := append_bad hF2.bad tmpB B
    rw [if_pos hb.1, hb.2]
    exact fin _ _ 0 hb.1 (by omega) (.inr (.inl ⟨⟨_, rfl⟩, rfl⟩)) rfl rfl (by rw [(hop _).2.2.2.2]; simp only [RD]; omega)
  obtain ⟨e0, o0, hF⟩ := hF2.ok
  have c1 : appendE (RD room down fail (files ++ [([], 0)]) [(chkB 5, i), (tmpB, files.length)] [(chkB 5, i)] [([], tmpB, files.length)] (ops + 2)) tmpB B = 0 := by
    unfold appendE
    rw [e0, hg, if_neg (by simp), if_neg (by simp), if_neg]
    unfold sizeD RD
    simp only [List.map_cons, List.map_nil, List.sum_cons, List.sum_nil, getD_app hi, hA, getD_last, List.length_nil]
    omega
  have s1 : appendD (RD room down fail (files ++ [([], 0)]) [(chkB 5, i), (tmpB, files.length)] [(chkB 5, i)] [([], tmpB, files.length)] (ops + 2)) tmpB B = RD room down fail (files ++ [(B, 0)]) [(chkB 5, i), (tmpB, files.length)] [(chkB 5, i)] [([], tmpB, files.length)] (ops + 3) := by
    unfold appendD
    rw [c1, if_neg (by simp), hg, o0]
    unfold setF RD
    simp only [getD_last, set_last, List.nil_append]
    congr 1
    omega
  rw [c1, s1, if_neg (by simp)]
  unfold seqD
  have hF3 := hF (files ++ [(B, 0)]) [(chkB 5, i), (tmpB, files.length)] [(chkB 5, i)] [([], tmpB, files.length)]
  rw [show ops + 2 + 1 = ops + 3 by omega] at hF3
  clear c1 s1 hF e0 o0 hF2
  simp only
  rcases k with _ | k
  · have hb := sync_bad hF3.bad tmpB
    rw [if_pos hb.1, hb.2]
    exact fin _ _ 0 hb.1 (by omega) (.inr (.inl ⟨⟨_, rfl⟩, rfl⟩)) rfl rfl (by rw [(hop _).2.2.2.2]; simp only [RD]; omega)
  obtain ⟨e0, o0, hF⟩ := hF3.ok
  have c1 : syncE (RD room down fail (files ++ [(B, 0)]) [(chkB 5, i), (tmpB, files.length)] [(chkB 5, i)] [([], tmpB, files.length)] (ops + 3)) tmpB = 0 := by
    unfold syncE
    rw [e0, hg, if_neg (by simp), if_neg (by simp)]
  have s1 : syncD (RD room down fail (files ++ [(B, 0)]) [(chkB 5, i), (tmpB, files.length)] [(chkB 5, i)] [([], tmpB, files.length)] (ops + 3)) tmpB = RD room down fail (files ++ [(B, B.length)]) [(chkB 5, i), (tmpB, files.length)] [(chkB 5, i)] [([], tmpB, files.length)] (ops + 4) := by
    unfold syncD
    rw [c1, if_neg (by simp), hg, o0]
    unfold setF RD
    simp only [getD_last, set_last]
    congr 1
    omega
  rw [c1, s1, if_neg (by simp)]
  unfold seqD
  have hF4 := hF (files ++ [(B, B.length)]) [(chkB 5, i), (tmpB, files.length)] [(chkB 5, i)] [([], tmpB, files.length)]
  rw [show ops + 3 + 1 = ops + 4 by omega] at hF4
  clear c1 s1 hF e0 o0 hF3
  simp only
  rcases k with _ | k
  · have hb := rename_bad hF4.bad tmpB (chkB 6)
    rw [if_pos hb.1, hb.2]
    exact fin _ _ 0 hb.1 (by omega) (.inr (.inl ⟨⟨_, rfl⟩, rfl⟩)) rfl rfl (by rw [(hop _).2.2.2.2]; simp only [RD]; omega)
  obtain ⟨e0, o0, hF⟩ := hF4.ok
  have c1 : renameE (RD room down fail (files ++ [(B, B.length)]) [(chkB 5, i), (tmpB, files.length)] [(chkB 5, i)] [([], tmpB, files.length)] (ops + 4)) tmpB (chkB 6) = 0 := by
    unfold renameE
    rw [e0, hg, nameD_chk, if_neg (by simp), if_neg (by simp), if_neg (by simp)]
  have s1 : renameD (RD room down fail (files ++ [(B, B.length)]) [(chkB 5, i), (tmpB, files.length)] [(chkB 5, i)] [([], tmpB, files.length)] (ops + 4)) tmpB (chkB 6) = RD room down fail (files ++ [(B, B.length)]) [(chkB 5, i), (chkB 6, files.length)] [(chkB 5, i)] [([], tmpB, files.length), (tmpB, chkB 6, files.length)] (ops + 5) := by
    unfold renameD
    rw [c1, if_neg (by simp), if_neg (fun e => chk_ne 6 e.symm), hg, o0]
    unfold changeD RD
    simp only [List.cons_append, List.nil_append]
    rw [turn_mv _ _ _ _ tmp_nil (chk_nil 6)]
    have : nput (ndel [(chkB 5, i), (tmpB, files.length)] tmpB) (chkB 6) files.length = [(chkB 5, i), (chkB 6, files.length)] := by unfold nput ndel; simp [chk_ne, chk56]
    rw [this]
    congr 1
    omega
  rw [c1, s1, if_neg (by simp)]
  unfold seqD
  have hF5 := hF (files ++ [(B, B.length)]) [(chkB 5, i), (chkB 6, files.length)] [(chkB 5, i)] [([], tmpB, files.length), (tmpB, chkB 6, files.length)]
  rw [show ops + 4 + 1 = ops + 5 by omega] at hF5
  clear c1 s1 hF e0 o0 hF4
  simp only
  rcases k with _ | k
  · rw [if_pos hF5.bad, dirSync_bad hF5.bad]
    exact fin _ _ 0 hF5.bad (by omega) (.inr (.inr ⟨rfl, rfl⟩)) rfl rfl (by rw [(hop _).2.2.2.2]; simp only [RD]; omega)
  obtain ⟨e0, o0, -⟩ := hF5.ok
  have s1 : dirSyncD (RD room down fail (files ++ [(B, B.length)]) [(chkB 5, i), (chkB 6, files.length)] [(chkB 5, i)] [([], tmpB, files.length), (tmpB, chkB 6, files.length)] (ops + 5)) = RD room down fail (files ++ [(B, B.length)]) [(chkB 5, i), (chkB 6, files.length)] [(chkB 5, i), (chkB 6, files.length)] [] (ops + 5 + 1) := by
    unfold dirSyncD
    rw [e0, if_neg (by simp), o0]
    rfl
  rw [e0, s1, if_neg (by simp)]
  unfold seqD
  have hdec : decide (6 ≤ k + 1 + 1 + 1 + 1 + 1 + 1) = true := decide_eq_true (by omega)
  rw [hdec]
  refine ⟨⟨fun _ => by omega, fun _ => rfl⟩, ?_, rfl, by simp only [RD]; omega⟩
  unfold MidP RD
  simp only
  exact ⟨by rw [List.length_append]; omega, by rw [getD_app hi, hA], fun m => .inr ⟨files.length, by simp, by rw [List.take_nil]; rfl, getD_last _ _⟩⟩
/-- Behind the crash. -/
structure Aft (A B : List UInt8) (full : Bool) (d : Dsk) : Prop where
  q : Quiet d
  names : ∃ i, i < d.files.length ∧ d.files.getD i ([], 0) = (A, A.length) ∧ ((full = false ∧ (d.names = [(chkB 5, i)] ∨ ∃ n, n < d.files.length ∧ d.names = [(chkB 5, i), (tmpB, n)])) ∨ ∃ n, n < d.files.length ∧ d.names = [(chkB 5, i), (chkB 6, n)] ∧ d.files.getD n ([], 0) = (B, B.length))
theorem MidP.crash {d : Dsk} {full : Bool} (h : MidP A B i full d) (m : Int) (kept : List Int) : Aft A B full (crashD d m kept) ∧ (crashD d m kept).room = d.room ∧ (crashD d m kept).ops = d.ops := by
  obtain ⟨h1, h2, h3⟩ := h
  have h4 := h3 (min (max m 0) d.changes.length).toNat
  unfold crashD
  generalize (d.changes.take (min (max m 0) d.changes.length).toNat).foldl turnD d.sure = es at *
  have hl : ∀ j, j < d.files.length → namedN es j = true → atN es j < (keepF es (cutF d.files kept) (cutF d.files kept).length).length := fun j hj hn => by
    rw [keepF_length, cutF_length]; exact atN_lt hj hn
  have hg : ∀ j X, j < d.files.length → namedN es j = true → d.files.getD j ([], 0) = (X, X.length) → (keepF es (cutF d.files kept) (cutF d.files kept).length).getD (atN es j) ([], 0) = (X, X.length) := fun j X hj hn hX => by
    rw [keepF_at _ _ _ _ (by rw [cutF_length]; exact hj) hn, cutF_sure _ _ _ (by rw [hX]), hX]
  refine ⟨⟨⟨rfl, rfl, rfl⟩, ?_⟩, rfl, rfl⟩
  show ∃ i, i < (keepF es (cutF d.files kept) (cutF d.files kept).length).length ∧ (keepF es (cutF d.files kept) (cutF d.files kept).length).getD i ([], 0) = (A, A.length) ∧ ((full = false ∧ (movedN es = [(chkB 5, i)] ∨ ∃ n, n < (keepF es (cutF d.files kept) (cutF d.files kept).length).length ∧ movedN es = [(chkB 5, i), (tmpB, n)])) ∨ ∃ n, n < (keepF es (cutF d.files kept) (cutF d.files kept).length).length ∧ movedN es = [(chkB 5, i), (chkB 6, n)] ∧ (keepF es (cutF d.files kept) (cutF d.files kept).length).getD n ([], 0) = (B, B.length))
  have hmem : namedN es i = true := by
    rcases h4 with ⟨-, h | ⟨n, -, h⟩⟩ | ⟨n, -, h, -⟩ <;> rw [h] <;> simp [namedN]
  refine ⟨atN es i, hl i h1 hmem, hg i A h1 hmem h2, ?_⟩
  rcases h4 with ⟨hf, h | ⟨n, hn, h⟩⟩ | ⟨n, hn, h, hB⟩
  · exact .inl ⟨hf, .inl (by unfold movedN; conv => lhs; rw [h]; simp only [List.map_cons, List.map_nil]; rw [← h]; rfl)⟩
  · have hnn : namedN es n = true := by rw [h]; simp [namedN]
    exact .inl ⟨hf, .inr ⟨atN es n, hl n hn hnn, by unfold movedN; rw [h]; rfl⟩⟩
  · have hnn : namedN es n = true := by rw [h]; simp [namedN]
    exact .inr ⟨atN es n, hl n hn hnn, by unfold movedN; rw [h]; rfl, hg n B hn hnn hB⟩
theorem Aft.five {d : Dsk} {full : Bool} (h : Aft A B full d) : bytesD d (chkB 5) = A ∧ syncE d (chkB 5) = 0 := by
  obtain ⟨i, h1, h2, h3⟩ := h.names
  have hg : nget d.names (chkB 5) = some i := by
    rcases h3 with ⟨-, h | ⟨n, -, h⟩⟩ | ⟨n, -, h, -⟩ <;> rw [h] <;> unfold nget <;> simp
  refine ⟨?_, ?_⟩
  · unfold bytesD; rw [hg]; simp only; rw [h2]
  · unfold syncE; rw [h.q.e, hg]; simp
theorem Aft.six {d : Dsk} {full : Bool} (h : Aft A B full d) : (full = false ∧ syncE d (chkB 6) = 4 ∧ bytesD d (chkB 6) = []) ∨ (bytesD d (chkB 6) = B ∧ syncE d (chkB 6) = 0) := by
  obtain ⟨i, h1, h2, h3⟩ := h.names
  have h65 : ∀ e : chkB 6 = chkB 5, False := fun e => chk56 e.symm
  rcases h3 with ⟨hf, h3⟩ | ⟨n, hn, h3, hB⟩
  · have hg : nget d.names (chkB 6) = none := by
      rcases h3 with h | ⟨n, -, h⟩ <;> rw [h] <;> unfold nget <;> simp [chk56]
      exact fun e => chk_ne 6 e.symm
    exact .inl ⟨hf, by unfold syncE; rw [h.q.e, hg]; simp, by unfold bytesD; rw [hg]⟩
  · have hg : nget d.names (chkB 6) = some n := by rw [h3]; unfold nget; simp [chk56]
    refine .inr ⟨?_, ?_⟩
    · unfold bytesD; rw [hg]; simp only; rw [hB]
    · unfold syncE; rw [h.q.e, hg]; simp
theorem Aft.op {d : Dsk} {full : Bool} (h : Aft A B full d) : Aft A B full (opD d) := by
  rw [h.q.opD]
  exact ⟨⟨h.q.off, h.q.down, h.q.fail⟩, h.names⟩
theorem Aft.put {d : Dsk} {full : Bool} (h : Aft A B full d) (hr : (A.length : Int) + B.length + B.length ≤ d.room) : (putD d 6 B).1 = 0 := by
  obtain ⟨i, h1, h2, h3⟩ := h.names
  obtain ⟨k, -, he⟩ := put_ok d 6 B h.q (fun p hp => by
    rcases h3 with ⟨-, h | ⟨n, hn, h⟩⟩ | ⟨n, hn, h, -⟩ <;> rw [h] at hp <;> simp at hp
    · rw [hp]; exact h1
    · rcases hp with hp | hp <;> rw [hp] <;> assumption
    · rcases hp with hp | hp <;> rw [hp] <;> assumption) (by
    have hsz : sizeD { d with names := ndel d.names tmpB } ≤ A.length + B.length := by
      unfold sizeD
      simp only
      have h2' : d.files[i]?.getD ([], 0) = (A, A.length) := by rw [← List.getD_eq_getElem?_getD]; exact h2
      rcases h3 with ⟨-, h | ⟨n, hn, h⟩⟩ | ⟨n, hn, h, hB⟩ <;> rw [h] <;> unfold ndel
      · simp [chk_ne, h2']
      · simp [chk_ne, h2']
      · have hB' : d.files[n]?.getD ([], 0) = (B, B.length) := by rw [← List.getD_eq_getElem?_getD]; exact hB
        simp [chk_ne, h2', hB']
    omega) (by rcases h3 with ⟨-, h | ⟨n, hn, h⟩⟩ | ⟨n, hn, h, -⟩ <;> rw [h] <;> simp)
  rw [he]
end Go.Proofs.YtbiadpkglcdihaaGreat
