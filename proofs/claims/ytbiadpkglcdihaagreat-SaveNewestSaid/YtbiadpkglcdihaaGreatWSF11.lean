/- Words and walks that SF rests on: KeysLaid, DiskList, SavePlain. -/
import Derived.Test.YtbiadpkglcdihaaGreatRows
import Derived.Shelf.SlIter.Nil
import Derived.Shelf.SortM.Plain
import Derived.Shelf.SortM.SortNone
import Derived.Ground.GgzProg
import Derived.Ground.SlgmProg
import Derived.Shelf.SlGeneric
import Derived.Test.YtbiadpkglcdihaaGreatWSF2
import Derived.Sort.KeysCollected
import Derived.Test.YtbiadpkglcdihaaGreatWSF4
import Derived.Test.YtbiadpkglcdihaaGreatWSF10
/- The contracts on slices.Sorted(maps.Keys(m)) at this program, one application each. -/
namespace Go.Proofs.YtbiadpkglcdihaaGreat
open Go.RowKit Go.Maps Go.Sort Go.Shelf

def keys57_ren : Go.Shelf.Ren := ⟨fun | 7 => 57 | 10 => 88 | n => n, fun | 23 => 71 | 26 => 9 | 3 => 3 | 28 => 115 | 0 => 0 | 27 => 114 | 33 => 106 | 4 => 4 | n => n, fun | n => n⟩
theorem keys57 : Go.Proofs.SlLaysZ.n7 Tryz.prog keys57_ren := {
  mixed := by kernel_rfl
  f7 := ⟨Tryz.f57.name, by decide, Tryz.func57.trans (congrArg some (by kernel_rfl))⟩
  f10 := ⟨Tryz.f88.name, by decide, Tryz.func88.trans (congrArg some (by kernel_rfl))⟩
  t0 := Tryz.underlying0
  a0 := Tryz.isAgg0
  z0 := Tryz.sizeOf0
  v0 := Tryz.zeroValue0
  t4 := Tryz.underlying4
  a4 := Tryz.isAgg4
  z4 := Tryz.sizeOf4
  v4 := Tryz.zeroValue4
  t23 := Tryz.underlying71
  a23 := Tryz.isAgg71
  z23 := Tryz.sizeOf71
  v23 := Tryz.zeroValue71
  t26 := Tryz.underlying9
  a26 := Tryz.isAgg9
  z26 := Tryz.sizeOf9
  v26 := Tryz.zeroValue9
  t27 := Tryz.underlying114
  a27 := Tryz.isAgg114
  z27 := Tryz.sizeOf114
  v27 := Tryz.zeroValue114
  t28 := Tryz.underlying115
  a28 := Tryz.isAgg115
  z28 := Tryz.sizeOf115
  v28 := Tryz.zeroValue115
  t33 := Tryz.underlying106
  a33 := Tryz.isAgg106
  z33 := Tryz.sizeOf106
  v33 := Tryz.zeroValue106 }
def sorted56_ren : Go.Shelf.Ren := ⟨fun | 6 => 56 | 8 => 86 | 9 => 87 | 11 => 116 | 13 => 118 | 12 => 117 | 23 => 151 | 24 => 152 | 14 => 142 | 15 => 143 | 16 => 144 | 17 => 145 | 18 => 146 | 19 => 147 | 20 => 148 | 21 => 149 | 22 => 150 | 25 => 179 | 26 => 180 | 27 => 181 | 28 => 182 | 29 => 183 | 30 => 184 | 31 => 197 | n => n, fun | 26 => 9 | 28 => 115 | 24 => 52 | 0 => 0 | 3 => 3 | 37 => 86 | 48 => 23 | 50 => 224 | 4 => 4 | 40 => 216 | 39 => 215 | 45 => 105 | 5 => 5 | 9 => 9 | 51 => 237 | 55 => 241 | 57 => 253 | 58 => 254 | 33 => 106 | n => n, fun | n => n⟩
theorem sorted56 : Go.Proofs.SlLaysZ.n6 Tryz.prog sorted56_ren := {
  mixed := by kernel_rfl
  f6 := ⟨Tryz.f56.name, by decide, Tryz.func56.trans (congrArg some (by kernel_rfl))⟩
  f8 := ⟨Tryz.f86.name, by decide, Tryz.func86.trans (congrArg some (by kernel_rfl))⟩
  f11 := ⟨Tryz.f116.name, by decide, Tryz.func116.trans (congrArg some (by kernel_rfl))⟩
  t0 := Tryz.underlying0
  a0 := Tryz.isAgg0
  z0 := Tryz.sizeOf0
  v0 := Tryz.zeroValue0
  t24 := Tryz.underlying52
  a24 := Tryz.isAgg52
  z24 := Tryz.sizeOf52
  v24 := Tryz.zeroValue52
  t26 := Tryz.underlying9
  a26 := Tryz.isAgg9
  z26 := Tryz.sizeOf9
  v26 := Tryz.zeroValue9
  t28 := Tryz.underlying115
  a28 := Tryz.isAgg115
  z28 := Tryz.sizeOf115
  v28 := Tryz.zeroValue115
  i26 := by kernel_rfl }
def sort87_ren : Go.Shelf.Ren := ⟨fun | 6 => 87 | 8 => 118 | 9 => 117 | 19 => 151 | 20 => 152 | 21 => 142 | 22 => 143 | 23 => 144 | 24 => 145 | 25 => 146 | 26 => 147 | 27 => 148 | 28 => 149 | 29 => 150 | 36 => 179 | 31 => 180 | 32 => 181 | 37 => 182 | 38 => 183 | 39 => 184 | 41 => 197 | n => n, fun | 27 => 52 | 29 => 9 | 3 => 3 | 32 => 86 | 26 => 52 | 0 => 0 | 44 => 23 | 46 => 224 | 4 => 4 | 36 => 216 | 35 => 215 | 41 => 105 | 5 => 5 | 9 => 9 | 53 => 237 | 57 => 241 | 63 => 253 | 64 => 254 | n => n, fun | n => n⟩
theorem sort87 : Go.Proofs.SlLaysM.n6 Tryz.prog sort87_ren := {
  mixed := by kernel_rfl
  f6 := ⟨Tryz.f87.name, by decide, Tryz.func87.trans (congrArg some (by kernel_rfl))⟩
  f8 := Tryz.func118.trans (congrArg some (by kernel_rfl))
  f9 := ⟨Tryz.f117.name, by decide, Tryz.func117.trans (congrArg some (by kernel_rfl))⟩
  f19 := Tryz.func151.trans (congrArg some (by kernel_rfl))
  f20 := Tryz.func152.trans (congrArg some (by kernel_rfl))
  f21 := ⟨Tryz.f142.name, by decide, Tryz.func142.trans (congrArg some (by kernel_rfl))⟩
  f22 := ⟨Tryz.f143.name, by decide, Tryz.func143.trans (congrArg some (by kernel_rfl))⟩
  f23 := ⟨Tryz.f144.name, by decide, Tryz.func144.trans (congrArg some (by kernel_rfl))⟩
  f24 := ⟨Tryz.f145.name, by decide, Tryz.func145.trans (congrArg some (by kernel_rfl))⟩
  f25 := ⟨Tryz.f146.name, by decide, Tryz.func146.trans (congrArg some (by kernel_rfl))⟩
  f26 := ⟨Tryz.f147.name, by decide, Tryz.func147.trans (congrArg some (by kernel_rfl))⟩
  f27 := ⟨Tryz.f148.name, by decide, Tryz.func148.trans (congrArg some (by kernel_rfl))⟩
  f28 := ⟨Tryz.f149.name, by decide, Tryz.func149.trans (congrArg some (by kernel_rfl))⟩
  f29 := ⟨Tryz.f150.name, by decide, Tryz.func150.trans (congrArg some (by kernel_rfl))⟩
  f31 := Tryz.func180.trans (congrArg some (by kernel_rfl))
  f32 := Tryz.func181.trans (congrArg some (by kernel_rfl))
  f36 := ⟨Tryz.f179.name, by decide, Tryz.func179.trans (congrArg some (by kernel_rfl))⟩
  f37 := ⟨Tryz.f182.name, by decide, Tryz.func182.trans (congrArg some (by kernel_rfl))⟩
  f38 := ⟨Tryz.f183.name, by decide, Tryz.func183.trans (congrArg some (by kernel_rfl))⟩
  f39 := ⟨Tryz.f184.name, by decide, Tryz.func184.trans (congrArg some (by kernel_rfl))⟩
  f41 := ⟨Tryz.f197.name, by decide, Tryz.func197.trans (congrArg some (by kernel_rfl))⟩
  t0 := Tryz.underlying0
  a0 := Tryz.isAgg0
  z0 := Tryz.sizeOf0
  v0 := Tryz.zeroValue0
  t3 := Tryz.underlying3
  a3 := Tryz.isAgg3
  z3 := Tryz.sizeOf3
  v3 := Tryz.zeroValue3
  t4 := Tryz.underlying4
  a4 := Tryz.isAgg4
  z4 := Tryz.sizeOf4
  v4 := Tryz.zeroValue4
  t5 := Tryz.underlying5
  a5 := Tryz.isAgg5
  z5 := Tryz.sizeOf5
  v5 := Tryz.zeroValue5
  t9 := Tryz.underlying9
  a9 := Tryz.isAgg9
  z9 := Tryz.sizeOf9
  v9 := Tryz.zeroValue9
  t26 := Tryz.underlying52
  a26 := Tryz.isAgg52
  z26 := Tryz.sizeOf52
  v26 := Tryz.zeroValue52
  t27 := Tryz.underlying52
  a27 := Tryz.isAgg52
  z27 := Tryz.sizeOf52
  v27 := Tryz.zeroValue52
  t29 := Tryz.underlying9
  a29 := Tryz.isAgg9
  z29 := Tryz.sizeOf9
  v29 := Tryz.zeroValue9
  t32 := Tryz.underlying86
  a32 := Tryz.isAgg86
  z32 := Tryz.sizeOf86
  v32 := Tryz.zeroValue86
  t35 := Tryz.underlying215
  a35 := Tryz.isAgg215
  z35 := Tryz.sizeOf215
  v35 := Tryz.zeroValue215
  t36 := Tryz.underlying216
  a36 := Tryz.isAgg216
  z36 := Tryz.sizeOf216
  v36 := Tryz.zeroValue216
  t41 := Tryz.underlying105
  a41 := Tryz.isAgg105
  z41 := Tryz.sizeOf105
  v41 := Tryz.zeroValue105
  t44 := Tryz.underlying23
  a44 := Tryz.isAgg23
  z44 := Tryz.sizeOf23
  v44 := Tryz.zeroValue23
  t46 := Tryz.underlying224
  a46 := Tryz.isAgg224
  z46 := Tryz.sizeOf224
  v46 := Tryz.zeroValue224
  t53 := Tryz.underlying237
  a53 := Tryz.isAgg237
  z53 := Tryz.sizeOf237
  v53 := Tryz.zeroValue237
  t57 := Tryz.underlying241
  a57 := Tryz.isAgg241
  z57 := Tryz.sizeOf241
  v57 := Tryz.zeroValue241
  t63 := Tryz.underlying253
  a63 := Tryz.isAgg253
  z63 := Tryz.sizeOf253
  v63 := Tryz.zeroValue253
  t64 := Tryz.underlying254
  a64 := Tryz.isAgg254
  z64 := Tryz.sizeOf254
  v64 := Tryz.zeroValue254 }

/-- slices.Sort's two contracts at this dump, at the fence that asks nothing. -/
theorem sorts56 (m : Nat) : AnyZ.SortsIn Tryz.prog sorted56_ren Fence.wide m :=
  ⟨fun blk off cap ss W hH hblk hsz => callsIn_wide.2 (AnyM.slices_Sort_string sort87 blk off cap ss W hH hblk hsz),
   fun p cap W => callsIn_wide.2 (AnyM.slices_Sort_string_none sort87 p cap W)⟩

/-- **maps.Keys[map[string]int,string,int], at whatever map, the nil one too:** a function value over ONE NEW BLOCK, which holds the map. -/
theorem maps_Keys_57 (mb : Option Nat) (W : World) : CallsIn Fence.wide 5 Tryz.prog 57 #[.map mb] W fun e w' => e = .returned (.func (.func 88) #[] #[.pointer (some ⟨W.heap.size, 0, none⟩)]) ∧ w' = W.alloc (.cells #[.map mb] 71) :=
  AnyZ.keys_in keys57 Fence.wide 5 trivial rfl mb W

set_option maxHeartbeats 1000000 in
/-- **slices.Sorted[string] AT WHAT maps.Keys[map[string]int,string,int] HANDED BACK FOR A MAP THAT IS NOT nil** ('w': the world AHEAD of maps.Keys' call): A NEW SLICE THAT HOLDS THE MAP's KEYS, SORTED; nil just where it has none; nothing that lay before has turned. -/
theorem slices_Sorted_keys_56_57 {H : Type} (b nn : Nat) (D0 : DataW H) (R : Value → Option (DataW H × List MemPlace)) (w : World) (hown : w.ownsMap Tryz.prog 9 R b nn D0) (hmax : Maps.size D0 ≤ maxLen) (hbytes : Maps.size D0 * 16 ≤ 140737488355328) :
    CallsIn Fence.wide 5 Tryz.prog 56 #[.func (.func 88) #[] #[.pointer (some ⟨w.heap.size, 0, none⟩)]] (w.alloc (.cells #[.map (some b)] 71)) fun e w' => ∃ (v : Value) (ss : List (List UInt8)), e = .returned v ∧ ss.Perm (strKeys D0) ∧
      w'.ownsRow (w.alloc (.cells #[.map (some b)] 71)).heap.size 9 1 v ss.length ((ss.mergeSort (fun x y => decide (x ≤ y))).map encStr) ∧ (v = .slice none 0 0 ↔ ss = []) ∧ Below (w.alloc (.cells #[.map (some b)] 71)).heap.size (w.alloc (.cells #[.map (some b)] 71)) w' := by
  have hbl := hown.lt
  have hseq : SeqGives Fence.wide 2 Tryz.prog 88 #[.pointer (some ⟨w.heap.size, 0, none⟩)] encStr (fun ss => ss.Perm (strKeys D0)) (Maps.size D0) (w.alloc (.cells #[.map (some b)] 71)) :=
    AnyZ.keys_gives (ρ := keys57_ren) { keys57 with } Fence.wide _ trivial rfl (by omega) w.heap.size b nn D0 _ (by simp) (by simp) (by
      obtain ⟨es, clock, hb, Ft, hs, hD⟩ := hown
      exact ⟨es, clock, (Below.heap_alloc _ _ b hbl).trans hb, Ft, hs, hD⟩)
  exact AnyZ.sorted_in sorted56 Fence.wide 5 trivial trivial trivial trivial rfl (by omega) (sorts56 _) (enters_of Tryz.func87 (by kernel_rfl) rfl) 88 #[.pointer (some ⟨w.heap.size, 0, none⟩)] trivial (enters_of Tryz.func88 (by kernel_rfl) rfl) _ _ hmax hbytes _ hseq

end Go.Proofs.YtbiadpkglcdihaaGreat

/- Disk.List. -/
namespace Go.Proofs.YtbiadpkglcdihaaGreat
open Go.RowKit

variable {w w' : World} {fp : List Nat} {b : Nat} {d : Dsk}

/-- The names, rising. -/
def sortN (es : Nm) : List (List UInt8) := (es.map (·.1)).mergeSort (fun x y => decide (x ≤ y))
theorem sortN_length (es : Nm) : (sortN es).length = es.length := by unfold sortN; rw [List.length_mergeSort, List.length_map]
/-- v is a row of strings of the call's own. -/
def StrL (w : World) (base : Nat) (v : Value) (L : List (List UInt8)) : Prop := w.ownsRow base 9 1 v L.length (L.map fun s => Value.string (strB s))
theorem StrL.k {w w' : World} {base : Nat} {v : Value} {L : List (List UInt8)} (h : StrL w base v L) (hc : Chg [] w w') : StrL w' base v L := ownsRow_k h hc
theorem StrL.form {w : World} {base : Nat} {v : Value} {L : List (List UInt8)} (h : StrL w base v L) : ∃ ao c, v = .slice ao L.length c := by
  rcases h.2 with ⟨rfl, hz⟩ | ⟨g, cap, cur, rfl, _⟩
  · exact ⟨none, 0, by rw [hz]⟩
  · exact ⟨_, cap, rfl⟩
theorem Keys_any (b : Nat) (W : World) : Calls Tryz.prog 57 #[.map (some b)] W fun e w' => e = .returned (.func (.func 88) #[] #[.pointer (some ⟨W.heap.size, 0, none⟩)]) ∧ w' = W.alloc (.cells #[.map (some b)] 71) :=
  (callsIn_wide (n := 5)).1 (maps_Keys_57 (some b) W)
theorem names_perm {es : Nm} (h : MapAt w b es) : ∃ D : DataW Unit, w.ownsMap Tryz.prog 9 (plainElem Tryz.prog 3) b es.length D ∧ Maps.size D = es.length ∧ (es.map (·.1)).Perm (strKeys D) := by
  obtain ⟨D, hown, hr⟩ := h
  refine ⟨D, hown, hr.size, Collected.perm (left := fun _ => false) ⟨hr.nodup, fun x => ?_⟩ hown strKeyed undString (fun _ => rfl)⟩
  rw [hr.has]
  constructor
  · intro hx
    obtain ⟨p, hp, rfl⟩ := List.mem_map.1 hx
    exact ⟨nget_mem_isSome' hp, rfl⟩
  · rintro ⟨hx, -⟩
    obtain ⟨i, hi⟩ := Option.isSome_iff_exists.1 hx
    exact List.mem_map.2 ⟨_, nget_some_mem hi, rfl⟩
theorem SortedK_any {es : Nm} (h : MapAt w b es) (hl : es.length ≤ 1000000000000) :
    Calls Tryz.prog 56 #[.func (.func 88) #[] #[.pointer (some ⟨w.heap.size, 0, none⟩)]] (w.alloc (.cells #[.map (some b)] 71)) fun e w' => ∃ ao c, e = .returned (.slice ao es.length c) ∧ StrL w' w.heap.size (.slice ao es.length c) (sortN es) ∧ Chg [] w w' := by
  obtain ⟨D, hown, hsz, hp⟩ := names_perm h
  refine ((callsIn_wide (n := 5)).1 (slices_Sorted_keys_56_57 b _ D _ w hown (by rw [hsz]; unfold maxLen; omega) (by rw [hsz]; omega))).mono ?_
  rintro e w' ⟨v, ss, rfl, hS, hrow, -, hb⟩
  have hms : ss.mergeSort (fun x y => decide (x ≤ y)) = sortN es := mergeSort_of_perm (hS.trans hp.symm)
  have hlen : ss.length = es.length := by rw [hS.length_eq, ← hp.length_eq, List.length_map]
  rw [hms] at hrow
  have hrow2 : StrL w' w.heap.size v (sortN es) := by
    unfold StrL
    rw [sortN_length]
    rw [hlen] at hrow
    exact ownsRow_mono hrow (by simp)
  obtain ⟨ao, c, rfl⟩ := hrow2.form
  rw [sortN_length] at hrow2 ⊢
  exact ⟨ao, c, rfl, hrow2, ((Chg.refl [] w).alloc _).k (Chg.ofBelow hb)⟩

def ListOut (w : World) (fp : List Nat) (b : Nat) (d : Dsk) (e : Ending) (w' : World) : Prop :=
  Dk w' fp b (opD d) ∧ Chg [b] w w' ∧ ((opE d ≠ 0 ∧ e = .returned (.tuple #[.slice none 0 0, .int .i64 (opE d)])) ∨
    (opE d = 0 ∧ ∃ ao c, e = .returned (.tuple #[.slice ao d.names.length c, .int .i64 0]) ∧ StrL w' w.heap.size (.slice ao d.names.length c) (sortN d.names)))

set_option maxHeartbeats 1000000 in
theorem List_any (h : Dk w fp b d) (hops : d.ops < 1073741824) : Calls Tryz.prog 23 #[.pointer (some ⟨b, 0, none⟩)] w (ListOut w fp b d) := by
  obtain ⟨fv, cv, nb, sb, hs, h⟩ := h
  have hnl : d.names.length ≤ 1073741824 := by have := h.good.nnames; have := h.good.ops; omega
  go_enter Tryz.func23, Tryz.ntmps23
  go_wp2_with fail
  refine (op_any h hops).mono ?_
  rintro e w1 ⟨rfl, h1, hc1, hz1⟩
  clear h
  by_cases hE : opE d = 0
  case neg =>
    have hE' : (opE d == 0) = false := by simpa using hE
    have H : Hd (ListOut w fp b d (.returned (.tuple #[.slice none 0 0, .int .i64 (opE d)])) w1) := hd ⟨⟨_, _, _, _, _, h1⟩, hc1, .inl ⟨hE, rfl⟩⟩
    clear hE h1 hc1 hz1
    go_wp2_with fail
    refine bodyPost_ret (v := .tuple #[.slice none 0 0, .int .i64 (opE d)]) ?_ rfl H.out
    simp only [results]; go_simp
  have hm : MapAt w1 nb d.names := h1.names
  have q2 := h1.box.cell 2
  simp [boxCells] at q2
  have fin : ∀ w' ao c, Chg [] w1 w' → StrL w' w1.heap.size (.slice ao d.names.length c) (sortN d.names) → ListOut w fp b d (.returned (.tuple #[.slice ao d.names.length c, .int .i64 0])) w' := fun w' ao c hc hs =>
    ⟨⟨_, _, _, _, _, h1.k hc⟩, hc1.trans hc (by simp), .inr ⟨hE, ao, c, rfl, ownsRow_mono hs hc1.size⟩⟩
  have FIN := hd fin
  rw [hE]
  clear fin hE h1 hc1 hz1
  go_wp2_with fail
  refine (Keys_any nb w1).mono ?_
  rintro e w2 ⟨rfl, rfl⟩
  have hso := SortedK_any hm (by omega)
  clear hm q2
  go_wp2_with fail
  refine (hso).mono ?_
  rintro e w3 ⟨ao, c, rfl, hr, hc3⟩
  have HF := hd (FIN.out _ _ _ hc3 hr)
  clear hso hr hc3
  go_wp2_with fail
  refine bodyPost_ret (v := .tuple #[.slice ao d.names.length c, .int .i64 0]) ?_ rfl HF.out
  simp only [results]; go_simp
end Go.Proofs.YtbiadpkglcdihaaGreat

/- A disk that holds one checkpoint, as plain data; how long a world's bytes are. -/
namespace Go.Proofs.YtbiadpkglcdihaaGreat
open Go.RowKit

theorem leS_le8 {s : Shp} (h : rightS s = true) : (leS s).length ≤ 130 := by
  have hp := rightS_len h
  unfold leS
  split
  · simp only [List.length_append, leB_length, leF_length, List.length_cons, List.length_nil]; omega
  · have e : ∀ l : List V2, (leF (fV l)).length = l.length * 16 := fun l => by rw [leF_length, fV_length]; omega
    simp only [List.length_append, leB_length, e]
    omega
theorem flat_le2 {α : Type} (f : α → List UInt8) (m : Nat) : ∀ (l : List α), (∀ x ∈ l, (f x).length ≤ m) → (l.flatMap f).length ≤ l.length * m
  | [], _ => by simp
  | x :: l, h => by
    have h1 := h x (by simp)
    have h2 := flat_le2 f m l (fun y hy => h y (by simp [hy]))
    rw [List.flatMap_cons, List.length_append, List.length_cons, Nat.succ_mul]
    omega
theorem leW_small (X : Wld) (h : FitW X) (hc : X.contacts = []) : (leW X).length ≤ 270000 := by
  have h1 := flat_le2 leBd 194 X.bodies (fun b hb => by
    have := leS_le8 (h.b b hb).sh
    unfold leBd
    simp only [List.length_append, leB_length, leF_length, fV_length, List.length_cons, List.length_nil]
    omega)
  have h2 := flat_le2 leJt 64 X.joints (fun b _ => by
    unfold leJt
    simp only [List.length_append, leB_length, leF_length, fV_length, List.length_cons, List.length_nil]
    omega)
  have hb := h.bl
  have hj := h.jl
  unfold leW leW3 leW2 leW1 leW0
  rw [hc]
  simp only [List.length_append, leB_length, leF_length, fV_length, List.length_cons, List.length_nil, List.flatMap_nil]
  have e1 : X.bodies.length * 194 ≤ 1024 * 194 := Nat.mul_le_mul_right _ hb
  have e2 : X.joints.length * 64 ≤ 1024 * 64 := Nat.mul_le_mul_right _ hj
  omega
/-- The disk has one name, n's checkpoint, and it reads as b, for sure. -/
structure OneC (room : Int) (n : Nat) (b : List UInt8) (d : Dsk) : Prop where
  q : Quiet d
  room : d.room = room
  names : ∃ k, d.names = [(chkB n, k)] ∧ d.sure = [(chkB n, k)] ∧ k < d.files.length ∧ d.files.getD k ([], 0) = (b, b.length)
  ch : d.changes = []
theorem nget_one (s : List UInt8) (k : Nat) : nget [(s, k)] s = some k := by unfold nget; simp
theorem OneC.op {room : Int} {n : Nat} {b : List UInt8} {d : Dsk} (h : OneC room n b d) : OneC room n b (opD d) := by
  rw [h.q.opD]
  exact ⟨⟨h.q.off, h.q.down, h.q.fail⟩, h.room, h.names, h.ch⟩
theorem OneC.bytes {room : Int} {n : Nat} {b : List UInt8} {d : Dsk} (h : OneC room n b d) : bytesD d (chkB n) = b ∧ syncE d (chkB n) = 0 := by
  obtain ⟨k, h1, -, -, h4⟩ := h.names
  have hg : nget d.names (chkB n) = some k := by rw [h1]; exact nget_one _ _
  refine ⟨?_, ?_⟩
  · unfold bytesD; rw [hg]; simp only; rw [h4]
  · unfold syncE; rw [h.q.e, hg]; simp
theorem OneC.size {room : Int} {n : Nat} {b : List UInt8} {d : Dsk} (h : OneC room n b d) : sizeD d = b.length := by
  obtain ⟨k, h1, -, -, h4⟩ := h.names
  unfold sizeD
  rw [h1]
  simp only [List.map_cons, List.map_nil, List.sum_cons, List.sum_nil, h4]
  omega
theorem OneC.list {room : Int} {n : Nat} {b : List UInt8} {d : Dsk} (h : OneC room n b d) : sortN d.names = [chkB n] := by
  obtain ⟨k, h1, -⟩ := h.names
  rw [h1]; unfold sortN; simp
theorem ndel_one_other (n : Nat) (k : Nat) : ndel [(chkB n, k)] tmpB = [(chkB n, k)] := ndel_none' (by unfold nget; simp [chk_ne])
theorem put_new {room : Int} {n : Nat} {b : List UInt8} {d : Dsk} (hq : Quiet d) (hroom : d.room = room) (hn : d.names = [] ∨ ∃ i, d.names = [(tmpB, i)] ∧ i < d.files.length) (hr : (b.length : Int) ≤ room) : (putD d n b).1 = 0 ∧ OneC room n b (putD d n b).2 ∧ (putD d n b).2.ops ≤ d.ops + 7 := by
  have hdel : ndel d.names tmpB = [] := by rcases hn with h | ⟨i, h, -⟩ <;> rw [h] <;> unfold ndel <;> simp
  obtain ⟨k, hk, he⟩ := put_ok d n b hq (fun p hp => by
    rcases hn with h | ⟨i, h, hi⟩
    · rw [h] at hp; simp at hp
    · rw [h] at hp; obtain rfl := List.mem_singleton.1 hp; exact hi) (by rw [hdel]; have : sizeD { d with names := ([] : Nm) } = 0 := rfl; rw [this, hroom]; simpa using hr) (by rcases hn with h | ⟨i, h, -⟩ <;> rw [h] <;> simp)
  rw [he]
  refine ⟨rfl, ⟨⟨hq.off, hq.down, hq.fail⟩, hroom, ⟨d.files.length, ?_, ?_, ?_, ?_⟩, rfl⟩, ?_⟩
  · unfold putOK; simp only; rw [hdel]; unfold nput ndel; simp
  · unfold putOK; simp only; rw [hdel]; unfold nput ndel; simp
  · unfold putOK; simp
  · unfold putOK; simp only; exact getD_last _ _
  · unfold putOK; simp only; omega
theorem cutF_sure : ∀ (l : List (List UInt8 × Nat)) (kept : List Int) (i : Nat), (l.getD i ([], 0)).2 = (l.getD i ([], 0)).1.length → (cutF l kept).getD i ([], 0) = l.getD i ([], 0)
  | [], _, _, _ => rfl
  | f :: l, kept, 0, h => by
    unfold cutF
    simp only [List.getD_cons_zero] at h
    rw [if_neg (by omega)]
    rfl
  | f :: l, kept, i + 1, h => by
    unfold cutF
    simp only [List.getD_cons_succ] at h
    split
    · rw [List.getD_cons_succ, List.getD_cons_succ]; exact cutF_sure l _ i h
    · rw [List.getD_cons_succ, List.getD_cons_succ]; exact cutF_sure l _ i h
theorem keepF_at (es : Nm) (fs : List (List UInt8 × Nat)) : ∀ (n i : Nat), i < n → namedN es i = true → (keepF es fs n).getD (atN es i) ([], 0) = ((fs.getD i ([], 0)).1, (fs.getD i ([], 0)).1.length)
  | 0, i, h, _ => by omega
  | n + 1, i, h, hn => by
    rw [keepF_succ]
    by_cases e : i = n
    · subst e
      rw [if_pos hn, ← keepF_length es fs i]
      rw [List.getD_eq_getElem?_getD, List.getElem?_append_right (Nat.le_refl _)]
      simp
    · have hlt : atN es i < (keepF es fs n).length := by rw [keepF_length]; exact atN_lt (by omega) hn
      rw [List.getD_eq_getElem?_getD, List.getElem?_append_left hlt, ← List.getD_eq_getElem?_getD]
      exact keepF_at es fs n i (by omega) hn
/-- Behind a crash it is still there. -/
theorem OneC.crash {room : Int} {n : Nat} {b : List UInt8} {d : Dsk} (h : OneC room n b d) (m : Int) (kept : List Int) : OneC room n b (crashD d m kept) := by
  obtain ⟨k, h1, h2, h3, h4⟩ := h.names
  have hfold : (d.changes.take (min (max m 0) d.changes.length).toNat).foldl turnD d.sure = [(chkB n, k)] := by rw [h.ch, h2]; simp
  have hnm : namedN [(chkB n, k)] k = true := by unfold namedN; simp
  unfold crashD
  rw [hfold]
  refine ⟨⟨rfl, rfl, rfl⟩, h.room, ⟨atN [(chkB n, k)] k, rfl, rfl, ?_, ?_⟩, rfl⟩
  · show atN [(chkB n, k)] k < (keepF [(chkB n, k)] (cutF d.files kept) (cutF d.files kept).length).length
    rw [keepF_length, cutF_length]
    exact atN_lt h3 hnm
  · show (keepF [(chkB n, k)] (cutF d.files kept) (cutF d.files kept).length).getD (atN [(chkB n, k)] k) ([], 0) = _
    rw [keepF_at _ _ _ _ (by rw [cutF_length]; exact h3) hnm, cutF_sure _ _ _ (by rw [h4]), h4]
end Go.Proofs.YtbiadpkglcdihaaGreat
