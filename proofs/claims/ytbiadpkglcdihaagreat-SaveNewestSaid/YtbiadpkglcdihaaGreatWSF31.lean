/- Words and walks that SF rests on: PutArm, LawSaveCrashes, SortI. -/
import Derived.Test.YtbiadpkglcdihaaGreatWSF27
import Derived.Test.YtbiadpkglcdihaaGreatWSF30
import Derived.Test.YtbiadpkglcdihaaGreatWSF29
import Derived.Test.YtbiadpkglcdihaaGreatRows
import Derived.Shelf.SortM.Plain
import Derived.Shelf.SortM.SortNone
import Derived.Shelf.SlGeneric
/- A checkpoint that is put while the power may go, as plain data. -/
namespace Go.Proofs.YtbiadpkglcdihaaGreat
open Go.RowKit

/-- Operation number k from now on fails, and none before it. -/
def Flt (k : Nat) (d : Dsk) : Prop := d.off = false ∧ 0 ≤ d.ops ∧ ((d.down = d.ops + k ∧ d.fail = -1) ∨ (d.down = -1 ∧ d.fail = d.ops + k))
def RD (room down fail : Int) (files : List (List UInt8 × Nat)) (names sure : Nm) (ch : List (List UInt8 × List UInt8 × Nat)) (ops : Int) : Dsk := ⟨room, files, names, sure, ch, ops, down, fail, false⟩
variable {room down fail : Int} {files : List (List UInt8 × Nat)} {names sure : Nm} {ch : List (List UInt8 × List UInt8 × Nat)} {ops : Int} {A B : List UInt8} {i n k : Nat}
theorem Flt.ok (h : Flt (k + 1) (RD room down fail files names sure ch ops)) : opE (RD room down fail files names sure ch ops) = 0 ∧ opD (RD room down fail files names sure ch ops) = RD room down fail files names sure ch (ops + 1) ∧
    ∀ f n s c, Flt k (RD room down fail f n s c (ops + 1)) := by
  obtain ⟨-, h0, h1⟩ := h
  simp only [RD] at h0 h1
  refine ⟨?_, ?_, fun f n s c => ⟨rfl, by simp only [RD]; omega, by simp only [RD]; omega⟩⟩
  · unfold opE RD
    simp only [Bool.false_eq_true, false_or]
    rw [if_neg (by omega), if_neg (by omega)]
  · unfold opD RD
    simp only [Bool.false_or, Dsk.mk.injEq, true_and, decide_eq_false_iff_not]
    omega
theorem Flt.bad {d : Dsk} (h : Flt 0 d) : opE d ≠ 0 := by
  obtain ⟨h2, h0, h1⟩ := h
  unfold opE
  rw [h2]
  simp only [Bool.false_eq_true, false_or]
  split
  · decide
  · rw [if_pos (by omega)]; decide
/-- What the disk holds while the checkpoint is put, as a crash sees it. -/
def MidP (A B : List UInt8) (i : Nat) (full : Bool) (d : Dsk) : Prop := i < d.files.length ∧ d.files.getD i ([], 0) = (A, A.length) ∧ ∀ m,
  (full = false ∧ ((d.changes.take m).foldl turnD d.sure = [(chkB 5, i)] ∨ ∃ n, n < d.files.length ∧ (d.changes.take m).foldl turnD d.sure = [(chkB 5, i), (tmpB, n)])) ∨
  ∃ n, n < d.files.length ∧ (d.changes.take m).foldl turnD d.sure = [(chkB 5, i), (chkB 6, n)] ∧ d.files.getD n ([], 0) = (B, B.length)
/-- Behind the crash. -/
structure Aft (A B : List UInt8) (full : Bool) (d : Dsk) : Prop where
  q : Quiet d
  names : ∃ i, i < d.files.length ∧ d.files.getD i ([], 0) = (A, A.length) ∧ ((full = false ∧ (d.names = [(chkB 5, i)] ∨ ∃ n, n < d.files.length ∧ d.names = [(chkB 5, i), (tmpB, n)])) ∨ ∃ n, n < d.files.length ∧ d.names = [(chkB 5, i), (chkB 6, n)] ∧ d.files.getD n ([], 0) = (B, B.length))
theorem MidP.crash {d : Dsk} {full : Bool} (h : MidP A B i full d) (m : Int) (kept : List Int) : Aft A B full (crashD d m kept) ∧ (crashD d m kept).room = d.room ∧ (crashD d m kept).ops = d.ops := by
  obtain ⟨h1, h2, h3⟩ := h
  have h4 := h3 (min (max m 0) d.changes.length).toNat
  unfold crashD
  generalize (d.changes.take (min (max m 0) d.changes.length).toNat).foldl turnD d.sure = es at *
  have hl : ∀ j, j < d.files.length → namedN es j = true → atN es j < (keepF es (cutF d.files kept) (cutF d.files kept).length).length := fun j hj hn => by
    rw [keepF_length, cutF_length]; exact atN_lt hj hn
  have hg : ∀ j X, j < d.files.length → namedN es j = true → d.files.getD j ([], 0) = (X, X.length) → (keepF es (cutF d.files kept) (cutF d.files kept).length).getD (atN es j) ([], 0) = (X, X.length) := fun j X hj hn hX => by
    rw [keepF_at _ _ _ _ (by rw [cutF_length]; exact hj) hn, cutF_sure _ _ _ (by rw [hX]), hX]
  refine ⟨⟨⟨rfl, rfl, rfl⟩, ?_⟩, rfl, rfl⟩
  show ∃ i, i < (keepF es (cutF d.files kept) (cutF d.files kept).length).length ∧ (keepF es (cutF d.files kept) (cutF d.files kept).length).getD i ([], 0) = (A, A.length) ∧ ((full = false ∧ (movedN es = [(chkB 5, i)] ∨ ∃ n, n < (keepF es (cutF d.files kept) (cutF d.files kept).length).length ∧ movedN es = [(chkB 5, i), (tmpB, n)])) ∨ ∃ n, n < (keepF es (cutF d.files kept) (cutF d.files kept).length).length ∧ movedN es = [(chkB 5, i), (chkB 6, n)] ∧ (keepF es (cutF d.files kept) (cutF d.files kept).length).getD n ([], 0) = (B, B.length))
  have hmem : namedN es i = true := by
    rcases h4 with ⟨-, h | ⟨n, -, h⟩⟩ | ⟨n, -, h, -⟩ <;> rw [h] <;> simp [namedN]
  refine ⟨atN es i, hl i h1 hmem, hg i A h1 hmem h2, ?_⟩
  rcases h4 with ⟨hf, h | ⟨n, hn, h⟩⟩ | ⟨n, hn, h, hB⟩
  · exact .inl ⟨hf, .inl (by unfold movedN; conv => lhs; rw [h]; simp only [List.map_cons, List.map_nil]; rw [← h]; rfl)⟩
  · have hnn : namedN es n = true := by rw [h]; simp [namedN]
    exact .inl ⟨hf, .inr ⟨atN es n, hl n hn hnn, by unfold movedN; rw [h]; rfl⟩⟩
  · have hnn : namedN es n = true := by rw [h]; simp [namedN]
    exact .inr ⟨atN es n, hl n hn hnn, by unfold movedN; rw [h]; rfl, hg n B hn hnn hB⟩
theorem Aft.op {d : Dsk} {full : Bool} (h : Aft A B full d) : Aft A B full (opD d) := by
  rw [h.q.opD]
  exact ⟨⟨h.q.off, h.q.down, h.q.fail⟩, h.names⟩
theorem Aft.put {d : Dsk} {full : Bool} (h : Aft A B full d) (hr : (A.length : Int) + B.length + B.length ≤ d.room) : (putD d 6 B).1 = 0 := by
  obtain ⟨i, h1, h2, h3⟩ := h.names
  obtain ⟨k, -, he⟩ := put_ok d 6 B h.q (fun p hp => by
    rcases h3 with ⟨-, h | ⟨n, hn, h⟩⟩ | ⟨n, hn, h, -⟩ <;> rw [h] at hp <;> simp at hp
    · rw [hp]; exact h1
    · rcases hp with hp | hp <;> rw [hp] <;> assumption
    · rcases hp with hp | hp <;> rw [hp] <;> assumption) (by
    have hsz : sizeD { d with names := ndel d.names tmpB } ≤ A.length + B.length := by
      unfold sizeD
      simp only
      have h2' : d.files[i]?.getD ([], 0) = (A, A.length) := by rw [← List.getD_eq_getElem?_getD]; exact h2
      rcases h3 with ⟨-, h | ⟨n, hn, h⟩⟩ | ⟨n, hn, h, hB⟩ <;> rw [h] <;> unfold ndel
      · simp [chk_ne, h2']
      · simp [chk_ne, h2']
      · have hB' : d.files[n]?.getD ([], 0) = (B, B.length) := by rw [← List.getD_eq_getElem?_getD]; exact hB
        simp [chk_ne, h2', hB']
    omega) (by rcases h3 with ⟨-, h | ⟨n, hn, h⟩⟩ | ⟨n, hn, h, -⟩ <;> rw [h] <;> simp)
  rw [he]
end Go.Proofs.YtbiadpkglcdihaaGreat

/- SaveCrashes: for every input the law returns true. -/
namespace Go.Proofs.YtbiadpkglcdihaaGreat
open Go.RowKit

theorem DkN.good {w0 w : World} {b : Nat} {d : Dsk} (h : DkN w0 w b d) : GoodD d := let ⟨_, h, _⟩ := h; h.good
theorem DkN.crash {w0 w : World} {b : Nat} {d : Dsk} (h : DkN w0 w b d) (m : Int) (v : Value) (kept : List Int) (hv : Fs w0 v kept) :
    Calls Tryz.prog 22 #[.pointer (some ⟨b, 0, none⟩), .int .i64 m, v] w fun e w' => e = .returned (.tuple #[]) ∧ DkN w0 w' b (crashD d m kept) := by
  obtain ⟨fp, h1, h2, h3⟩ := h
  exact (Crash_anyE h1 m v kept (hv.chg h2 (by simp)) (fun h0 j hj hf => by have := Rd.lt hv h0 (by decide) j hj; have := h3 j hf; omega)).mono fun e w' ⟨he, hk⟩ => ⟨he, .step h2 h3 hk⟩
end Go.Proofs.YtbiadpkglcdihaaGreat

/- The shelf's laying of slices.Sort at []int. -/
namespace Go.Proofs.YtbiadpkglcdihaaGreat
open Go.RowKit Go.Sort Go.Shelf

def sortLI_ren : Go.Shelf.Ren := ⟨fun | 5 => 91 | 8 => 118 | 7 => 121 | 19 => 151 | 20 => 152 | 10 => 153 | 11 => 154 | 12 => 155 | 13 => 156 | 14 => 157 | 15 => 158 | 16 => 159 | 17 => 160 | 18 => 161 | 30 => 185 | 31 => 180 | 32 => 181 | 33 => 186 | 34 => 187 | 35 => 178 | 40 => 198 | n => n, fun | 23 => 59 | 25 => 3 | 3 => 3 | 32 => 86 | 22 => 59 | 0 => 0 | 44 => 23 | 46 => 224 | 4 => 4 | 36 => 216 | 35 => 215 | 41 => 105 | 5 => 5 | 9 => 9 | 53 => 237 | 57 => 241 | 63 => 253 | 64 => 254 | n => n, fun | n => n⟩
theorem sortLI : Go.Proofs.SlLaysM.n5 Tryz.prog sortLI_ren := {
  mixed := by kernel_rfl
  f5 := ⟨Tryz.f91.name, by decide, Tryz.func91.trans (congrArg some (by kernel_rfl))⟩
  f7 := ⟨Tryz.f121.name, by decide, Tryz.func121.trans (congrArg some (by kernel_rfl))⟩
  f8 := Tryz.func118.trans (congrArg some (by kernel_rfl))
  f10 := ⟨Tryz.f153.name, by decide, Tryz.func153.trans (congrArg some (by kernel_rfl))⟩
  f11 := ⟨Tryz.f154.name, by decide, Tryz.func154.trans (congrArg some (by kernel_rfl))⟩
  f12 := ⟨Tryz.f155.name, by decide, Tryz.func155.trans (congrArg some (by kernel_rfl))⟩
  f13 := ⟨Tryz.f156.name, by decide, Tryz.func156.trans (congrArg some (by kernel_rfl))⟩
  f14 := ⟨Tryz.f157.name, by decide, Tryz.func157.trans (congrArg some (by kernel_rfl))⟩
  f15 := ⟨Tryz.f158.name, by decide, Tryz.func158.trans (congrArg some (by kernel_rfl))⟩
  f16 := ⟨Tryz.f159.name, by decide, Tryz.func159.trans (congrArg some (by kernel_rfl))⟩
  f17 := ⟨Tryz.f160.name, by decide, Tryz.func160.trans (congrArg some (by kernel_rfl))⟩
  f18 := ⟨Tryz.f161.name, by decide, Tryz.func161.trans (congrArg some (by kernel_rfl))⟩
  f19 := Tryz.func151.trans (congrArg some (by kernel_rfl))
  f20 := Tryz.func152.trans (congrArg some (by kernel_rfl))
  f30 := ⟨Tryz.f185.name, by decide, Tryz.func185.trans (congrArg some (by kernel_rfl))⟩
  f31 := Tryz.func180.trans (congrArg some (by kernel_rfl))
  f32 := Tryz.func181.trans (congrArg some (by kernel_rfl))
  f33 := ⟨Tryz.f186.name, by decide, Tryz.func186.trans (congrArg some (by kernel_rfl))⟩
  f34 := ⟨Tryz.f187.name, by decide, Tryz.func187.trans (congrArg some (by kernel_rfl))⟩
  f35 := ⟨Tryz.f178.name, by decide, Tryz.func178.trans (congrArg some (by kernel_rfl))⟩
  f40 := ⟨Tryz.f198.name, by decide, Tryz.func198.trans (congrArg some (by kernel_rfl))⟩
  t0 := Tryz.underlying0
  a0 := Tryz.isAgg0
  z0 := Tryz.sizeOf0
  v0 := Tryz.zeroValue0
  t3 := Tryz.underlying3
  a3 := Tryz.isAgg3
  z3 := Tryz.sizeOf3
  v3 := Tryz.zeroValue3
  t4 := Tryz.underlying4
  a4 := Tryz.isAgg4
  z4 := Tryz.sizeOf4
  v4 := Tryz.zeroValue4
  t5 := Tryz.underlying5
  a5 := Tryz.isAgg5
  z5 := Tryz.sizeOf5
  v5 := Tryz.zeroValue5
  t9 := Tryz.underlying9
  a9 := Tryz.isAgg9
  z9 := Tryz.sizeOf9
  v9 := Tryz.zeroValue9
  t22 := Tryz.underlying59
  a22 := Tryz.isAgg59
  z22 := Tryz.sizeOf59
  v22 := Tryz.zeroValue59
  t23 := Tryz.underlying59
  a23 := Tryz.isAgg59
  z23 := Tryz.sizeOf59
  v23 := Tryz.zeroValue59
  t25 := Tryz.underlying3
  a25 := Tryz.isAgg3
  z25 := Tryz.sizeOf3
  v25 := Tryz.zeroValue3
  t32 := Tryz.underlying86
  a32 := Tryz.isAgg86
  z32 := Tryz.sizeOf86
  v32 := Tryz.zeroValue86
  t35 := Tryz.underlying215
  a35 := Tryz.isAgg215
  z35 := Tryz.sizeOf215
  v35 := Tryz.zeroValue215
  t36 := Tryz.underlying216
  a36 := Tryz.isAgg216
  z36 := Tryz.sizeOf216
  v36 := Tryz.zeroValue216
  t41 := Tryz.underlying105
  a41 := Tryz.isAgg105
  z41 := Tryz.sizeOf105
  v41 := Tryz.zeroValue105
  t44 := Tryz.underlying23
  a44 := Tryz.isAgg23
  z44 := Tryz.sizeOf23
  v44 := Tryz.zeroValue23
  t46 := Tryz.underlying224
  a46 := Tryz.isAgg224
  z46 := Tryz.sizeOf224
  v46 := Tryz.zeroValue224
  t53 := Tryz.underlying237
  a53 := Tryz.isAgg237
  z53 := Tryz.sizeOf237
  v53 := Tryz.zeroValue237
  t57 := Tryz.underlying241
  a57 := Tryz.isAgg241
  z57 := Tryz.sizeOf241
  v57 := Tryz.zeroValue241
  t63 := Tryz.underlying253
  a63 := Tryz.isAgg253
  z63 := Tryz.sizeOf253
  v63 := Tryz.zeroValue253
  t64 := Tryz.underlying254
  a64 := Tryz.isAgg254
  z64 := Tryz.sizeOf254
  v64 := Tryz.zeroValue254 }
end Go.Proofs.YtbiadpkglcdihaaGreat
