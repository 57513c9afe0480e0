/- Words and walks that JournalRemoves rests on, part 8. -/
import Derived.Test.YtpoohpmcopjklaaRows
import Derived.Shelf.SlIter.Nil
import Derived.Shelf.SortM.Plain
import Derived.Shelf.SortM.SortNone
import Derived.Ground.GgzProg
import Derived.Ground.SlgmProg
import Derived.Shelf.SlGeneric
import Derived.Test.YtpoohpmcopjklaaWJournalRemoves1
import Derived.Sort.KeysCollected
import Derived.Test.YtpoohpmcopjklaaWJournalRemoves5
import Derived.Test.YtpoohpmcopjklaaWJournalRemoves6
import Derived.Test.YtpoohpmcopjklaaWJournalRemoves7
/- The contracts on slices.Sorted(maps.Keys(m)) at this program, one application each. -/
namespace Go.Proofs.Ytpoohpmcopjklaa
open Go.RowKit Go.Maps Go.Sort Go.Shelf

def keys60_ren : Go.Shelf.Ren := ⟨fun | 7 => 60 | 10 => 78 | n => n, fun | 23 => 81 | 26 => 9 | 3 => 3 | 28 => 103 | 0 => 0 | 27 => 102 | 33 => 106 | 4 => 4 | n => n, fun | n => n⟩
theorem keys60 : Go.Proofs.SlLaysZ.n7 Try.prog keys60_ren := {
  mixed := by kernel_rfl
  f7 := ⟨Try.f60.name, by decide, Try.func60.trans (congrArg some (by kernel_rfl))⟩
  f10 := ⟨Try.f78.name, by decide, Try.func78.trans (congrArg some (by kernel_rfl))⟩
  t0 := Try.underlying0
  a0 := Try.isAgg0
  z0 := Try.sizeOf0
  v0 := Try.zeroValue0
  t4 := Try.underlying4
  a4 := Try.isAgg4
  z4 := Try.sizeOf4
  v4 := Try.zeroValue4
  t23 := Try.underlying81
  a23 := Try.isAgg81
  z23 := Try.sizeOf81
  v23 := Try.zeroValue81
  t26 := Try.underlying9
  a26 := Try.isAgg9
  z26 := Try.sizeOf9
  v26 := Try.zeroValue9
  t27 := Try.underlying102
  a27 := Try.isAgg102
  z27 := Try.sizeOf102
  v27 := Try.zeroValue102
  t28 := Try.underlying103
  a28 := Try.isAgg103
  z28 := Try.sizeOf103
  v28 := Try.zeroValue103
  t33 := Try.underlying106
  a33 := Try.isAgg106
  z33 := Try.sizeOf106
  v33 := Try.zeroValue106 }
def sorted59_ren : Go.Shelf.Ren := ⟨fun | 6 => 59 | 8 => 76 | 9 => 77 | 11 => 89 | 13 => 91 | 12 => 90 | 23 => 105 | 24 => 106 | 14 => 96 | 15 => 97 | 16 => 98 | 17 => 99 | 18 => 100 | 19 => 101 | 20 => 102 | 21 => 103 | 22 => 104 | 25 => 108 | 26 => 109 | 27 => 110 | 28 => 111 | 29 => 112 | 30 => 113 | 31 => 114 | n => n, fun | 26 => 9 | 28 => 103 | 24 => 57 | 0 => 0 | 3 => 3 | 37 => 39 | 48 => 23 | 50 => 167 | 4 => 4 | 40 => 159 | 39 => 158 | 45 => 105 | 5 => 5 | 9 => 9 | 51 => 170 | 55 => 174 | 57 => 176 | 58 => 177 | 33 => 106 | n => n, fun | n => n⟩
theorem sorted59 : Go.Proofs.SlLaysZ.n6 Try.prog sorted59_ren := {
  mixed := by kernel_rfl
  f6 := ⟨Try.f59.name, by decide, Try.func59.trans (congrArg some (by kernel_rfl))⟩
  f8 := ⟨Try.f76.name, by decide, Try.func76.trans (congrArg some (by kernel_rfl))⟩
  f11 := ⟨Try.f89.name, by decide, Try.func89.trans (congrArg some (by kernel_rfl))⟩
  t0 := Try.underlying0
  a0 := Try.isAgg0
  z0 := Try.sizeOf0
  v0 := Try.zeroValue0
  t24 := Try.underlying57
  a24 := Try.isAgg57
  z24 := Try.sizeOf57
  v24 := Try.zeroValue57
  t26 := Try.underlying9
  a26 := Try.isAgg9
  z26 := Try.sizeOf9
  v26 := Try.zeroValue9
  t28 := Try.underlying103
  a28 := Try.isAgg103
  z28 := Try.sizeOf103
  v28 := Try.zeroValue103
  i26 := by kernel_rfl }
def sort77_ren : Go.Shelf.Ren := ⟨fun | 6 => 77 | 8 => 91 | 9 => 90 | 19 => 105 | 20 => 106 | 21 => 96 | 22 => 97 | 23 => 98 | 24 => 99 | 25 => 100 | 26 => 101 | 27 => 102 | 28 => 103 | 29 => 104 | 36 => 108 | 31 => 109 | 32 => 110 | 37 => 111 | 38 => 112 | 39 => 113 | 41 => 114 | n => n, fun | 27 => 57 | 29 => 9 | 3 => 3 | 32 => 39 | 26 => 57 | 0 => 0 | 44 => 23 | 46 => 167 | 4 => 4 | 36 => 159 | 35 => 158 | 41 => 105 | 5 => 5 | 9 => 9 | 53 => 170 | 57 => 174 | 63 => 176 | 64 => 177 | n => n, fun | n => n⟩
theorem sort77 : Go.Proofs.SlLaysM.n6 Try.prog sort77_ren := {
  mixed := by kernel_rfl
  f6 := ⟨Try.f77.name, by decide, Try.func77.trans (congrArg some (by kernel_rfl))⟩
  f8 := Try.func91.trans (congrArg some (by kernel_rfl))
  f9 := ⟨Try.f90.name, by decide, Try.func90.trans (congrArg some (by kernel_rfl))⟩
  f19 := Try.func105.trans (congrArg some (by kernel_rfl))
  f20 := Try.func106.trans (congrArg some (by kernel_rfl))
  f21 := ⟨Try.f96.name, by decide, Try.func96.trans (congrArg some (by kernel_rfl))⟩
  f22 := ⟨Try.f97.name, by decide, Try.func97.trans (congrArg some (by kernel_rfl))⟩
  f23 := ⟨Try.f98.name, by decide, Try.func98.trans (congrArg some (by kernel_rfl))⟩
  f24 := ⟨Try.f99.name, by decide, Try.func99.trans (congrArg some (by kernel_rfl))⟩
  f25 := ⟨Try.f100.name, by decide, Try.func100.trans (congrArg some (by kernel_rfl))⟩
  f26 := ⟨Try.f101.name, by decide, Try.func101.trans (congrArg some (by kernel_rfl))⟩
  f27 := ⟨Try.f102.name, by decide, Try.func102.trans (congrArg some (by kernel_rfl))⟩
  f28 := ⟨Try.f103.name, by decide, Try.func103.trans (congrArg some (by kernel_rfl))⟩
  f29 := ⟨Try.f104.name, by decide, Try.func104.trans (congrArg some (by kernel_rfl))⟩
  f31 := Try.func109.trans (congrArg some (by kernel_rfl))
  f32 := Try.func110.trans (congrArg some (by kernel_rfl))
  f36 := ⟨Try.f108.name, by decide, Try.func108.trans (congrArg some (by kernel_rfl))⟩
  f37 := ⟨Try.f111.name, by decide, Try.func111.trans (congrArg some (by kernel_rfl))⟩
  f38 := ⟨Try.f112.name, by decide, Try.func112.trans (congrArg some (by kernel_rfl))⟩
  f39 := ⟨Try.f113.name, by decide, Try.func113.trans (congrArg some (by kernel_rfl))⟩
  f41 := ⟨Try.f114.name, by decide, Try.func114.trans (congrArg some (by kernel_rfl))⟩
  t0 := Try.underlying0
  a0 := Try.isAgg0
  z0 := Try.sizeOf0
  v0 := Try.zeroValue0
  t3 := Try.underlying3
  a3 := Try.isAgg3
  z3 := Try.sizeOf3
  v3 := Try.zeroValue3
  t4 := Try.underlying4
  a4 := Try.isAgg4
  z4 := Try.sizeOf4
  v4 := Try.zeroValue4
  t5 := Try.underlying5
  a5 := Try.isAgg5
  z5 := Try.sizeOf5
  v5 := Try.zeroValue5
  t9 := Try.underlying9
  a9 := Try.isAgg9
  z9 := Try.sizeOf9
  v9 := Try.zeroValue9
  t26 := Try.underlying57
  a26 := Try.isAgg57
  z26 := Try.sizeOf57
  v26 := Try.zeroValue57
  t27 := Try.underlying57
  a27 := Try.isAgg57
  z27 := Try.sizeOf57
  v27 := Try.zeroValue57
  t29 := Try.underlying9
  a29 := Try.isAgg9
  z29 := Try.sizeOf9
  v29 := Try.zeroValue9
  t32 := Try.underlying39
  a32 := Try.isAgg39
  z32 := Try.sizeOf39
  v32 := Try.zeroValue39
  t35 := Try.underlying158
  a35 := Try.isAgg158
  z35 := Try.sizeOf158
  v35 := Try.zeroValue158
  t36 := Try.underlying159
  a36 := Try.isAgg159
  z36 := Try.sizeOf159
  v36 := Try.zeroValue159
  t41 := Try.underlying105
  a41 := Try.isAgg105
  z41 := Try.sizeOf105
  v41 := Try.zeroValue105
  t44 := Try.underlying23
  a44 := Try.isAgg23
  z44 := Try.sizeOf23
  v44 := Try.zeroValue23
  t46 := Try.underlying167
  a46 := Try.isAgg167
  z46 := Try.sizeOf167
  v46 := Try.zeroValue167
  t53 := Try.underlying170
  a53 := Try.isAgg170
  z53 := Try.sizeOf170
  v53 := Try.zeroValue170
  t57 := Try.underlying174
  a57 := Try.isAgg174
  z57 := Try.sizeOf174
  v57 := Try.zeroValue174
  t63 := Try.underlying176
  a63 := Try.isAgg176
  z63 := Try.sizeOf176
  v63 := Try.zeroValue176
  t64 := Try.underlying177
  a64 := Try.isAgg177
  z64 := Try.sizeOf177
  v64 := Try.zeroValue177 }

/-- slices.Sort's two contracts at this dump, at the fence that asks nothing. -/
theorem sorts59 (m : Nat) : AnyZ.SortsIn Try.prog sorted59_ren Fence.wide m :=
  ⟨fun blk off cap ss W hH hblk hsz => callsIn_wide.2 (AnyM.slices_Sort_string sort77 blk off cap ss W hH hblk hsz),
   fun p cap W => callsIn_wide.2 (AnyM.slices_Sort_string_none sort77 p cap W)⟩

/-- **maps.Keys[map[string]int,string,int], at whatever map, the nil one too:** a function value over ONE NEW BLOCK, which holds the map. -/
theorem maps_Keys_60 (mb : Option Nat) (W : World) : CallsIn Fence.wide 5 Try.prog 60 #[.map mb] W fun e w' => e = .returned (.func (.func 78) #[] #[.pointer (some ⟨W.heap.size, 0, none⟩)]) ∧ w' = W.alloc (.cells #[.map mb] 81) :=
  AnyZ.keys_in keys60 Fence.wide 5 trivial rfl mb W

set_option maxHeartbeats 1000000 in
/-- **slices.Sorted[string] AT WHAT maps.Keys[map[string]int,string,int] HANDED BACK FOR A MAP THAT IS NOT nil** ('w': the world AHEAD of maps.Keys' call): A NEW SLICE THAT HOLDS THE MAP's KEYS, SORTED; nil just where it has none; nothing that lay before has turned. -/
theorem slices_Sorted_keys_59_60 {H : Type} (b nn : Nat) (D0 : DataW H) (R : Value → Option (DataW H × List MemPlace)) (w : World) (hown : w.ownsMap Try.prog 9 R b nn D0) (hmax : Maps.size D0 ≤ maxLen) (hbytes : Maps.size D0 * 16 ≤ 140737488355328) :
    CallsIn Fence.wide 5 Try.prog 59 #[.func (.func 78) #[] #[.pointer (some ⟨w.heap.size, 0, none⟩)]] (w.alloc (.cells #[.map (some b)] 81)) fun e w' => ∃ (v : Value) (ss : List (List UInt8)), e = .returned v ∧ ss.Perm (strKeys D0) ∧
      w'.ownsRow (w.alloc (.cells #[.map (some b)] 81)).heap.size 9 1 v ss.length ((ss.mergeSort (fun x y => decide (x ≤ y))).map encStr) ∧ (v = .slice none 0 0 ↔ ss = []) ∧ Below (w.alloc (.cells #[.map (some b)] 81)).heap.size (w.alloc (.cells #[.map (some b)] 81)) w' := by
  have hbl := hown.lt
  have hseq : SeqGives Fence.wide 2 Try.prog 78 #[.pointer (some ⟨w.heap.size, 0, none⟩)] encStr (fun ss => ss.Perm (strKeys D0)) (Maps.size D0) (w.alloc (.cells #[.map (some b)] 81)) :=
    AnyZ.keys_gives (ρ := keys60_ren) { keys60 with } Fence.wide _ trivial rfl (by omega) w.heap.size b nn D0 _ (by simp) (by simp) (by
      obtain ⟨es, clock, hb, Ft, hs, hD⟩ := hown
      exact ⟨es, clock, (Below.heap_alloc _ _ b hbl).trans hb, Ft, hs, hD⟩)
  exact AnyZ.sorted_in sorted59 Fence.wide 5 trivial trivial trivial trivial rfl (by omega) (sorts59 _) (enters_of Try.func77 (by kernel_rfl) rfl) 78 #[.pointer (some ⟨w.heap.size, 0, none⟩)] trivial (enters_of Try.func78 (by kernel_rfl) rfl) _ _ hmax hbytes _ hseq

set_option maxHeartbeats 1000000 in
/-- **.. AND FOR THE nil MAP: nil.** -/
theorem slices_Sorted_keys_nil_59_60 (w : World) :
    CallsIn Fence.wide 5 Try.prog 59 #[.func (.func 78) #[] #[.pointer (some ⟨w.heap.size, 0, none⟩)]] (w.alloc (.cells #[.map none] 81)) fun e w' => ∃ (v : Value) (ss : List (List UInt8)), e = .returned v ∧ ss = [] ∧
      w'.ownsRow (w.alloc (.cells #[.map none] 81)).heap.size 9 1 v ss.length ((ss.mergeSort (fun x y => decide (x ≤ y))).map encStr) ∧ (v = .slice none 0 0 ↔ ss = []) ∧ Below (w.alloc (.cells #[.map none] 81)).heap.size (w.alloc (.cells #[.map none] 81)) w' := by
  have hseq : SeqGives Fence.wide 2 Try.prog 78 #[.pointer (some ⟨w.heap.size, 0, none⟩)] encStr (fun ss : List (List UInt8) => ss = []) 0 (w.alloc (.cells #[.map none] 81)) :=
    AnyZ.keys_gives_nil (ρ := keys60_ren) { keys60 with } Fence.wide _ trivial rfl w.heap.size _ (by simp) (by simp)
  exact AnyZ.sorted_in sorted59 Fence.wide 5 trivial trivial trivial trivial rfl (by omega) (sorts59 _) (enters_of Try.func77 (by kernel_rfl) rfl) 78 #[.pointer (some ⟨w.heap.size, 0, none⟩)] trivial (enters_of Try.func78 (by kernel_rfl) rfl) _ 0 (Nat.zero_le _) (by omega) _ hseq
end Go.Proofs.Ytpoohpmcopjklaa

/- Disk.List. -/
namespace Go.Proofs.Ytpoohpmcopjklaa
open Go.RowKit

variable {w w' : World} {fp : List Nat} {b : Nat} {d : Dsk}

/-- The names, rising. -/
def sortN (es : Nm) : List (List UInt8) := (es.map (·.1)).mergeSort (fun x y => decide (x ≤ y))
theorem sortN_length (es : Nm) : (sortN es).length = es.length := by unfold sortN; rw [List.length_mergeSort, List.length_map]
theorem sortN_perm (es : Nm) : (sortN es).Perm (es.map (·.1)) := List.mergeSort_perm _ _
/-- v is a row of strings of the call's own. -/
def StrL (w : World) (base : Nat) (v : Value) (L : List (List UInt8)) : Prop := w.ownsRow base 9 1 v L.length (L.map fun s => Value.string (strB s))
theorem StrL.k {w w' : World} {base : Nat} {v : Value} {L : List (List UInt8)} (h : StrL w base v L) (hc : Chg [] w w') : StrL w' base v L := ownsRow_k h hc
theorem StrL.form {w : World} {base : Nat} {v : Value} {L : List (List UInt8)} (h : StrL w base v L) : ∃ ao c, v = .slice ao L.length c := by
  rcases h.2 with ⟨rfl, hz⟩ | ⟨g, cap, cur, rfl, _⟩
  · exact ⟨none, 0, by rw [hz]⟩
  · exact ⟨_, cap, rfl⟩
theorem encStr_strB (s : List UInt8) : Go.Proofs.encStr s = Value.string (strB s) := rfl

theorem Keys_any (b : Nat) (W : World) : Calls Try.prog 60 #[.map (some b)] W fun e w' => e = .returned (.func (.func 78) #[] #[.pointer (some ⟨W.heap.size, 0, none⟩)]) ∧ w' = W.alloc (.cells #[.map (some b)] 81) :=
  (callsIn_wide (n := 5)).1 (maps_Keys_60 (some b) W)
theorem names_perm {es : Nm} (h : MapAt w b es) : ∃ D : DataW Unit, w.ownsMap Try.prog 9 (plainElem Try.prog 3) b es.length D ∧ Maps.size D = es.length ∧ (es.map (·.1)).Perm (strKeys D) := by
  obtain ⟨D, hown, hr⟩ := h
  refine ⟨D, hown, hr.size, Collected.perm (left := fun _ => false) ⟨hr.nodup, fun x => ?_⟩ hown strKeyed undString (fun _ => rfl)⟩
  rw [hr.has]
  constructor
  · intro hx
    obtain ⟨p, hp, rfl⟩ := List.mem_map.1 hx
    exact ⟨nget_mem_isSome' hp, rfl⟩
  · rintro ⟨hx, -⟩
    obtain ⟨i, hi⟩ := Option.isSome_iff_exists.1 hx
    exact List.mem_map.2 ⟨_, nget_some_mem hi, rfl⟩
theorem SortedK_any {es : Nm} (h : MapAt w b es) (hl : es.length ≤ 1000000000000) :
    Calls Try.prog 59 #[.func (.func 78) #[] #[.pointer (some ⟨w.heap.size, 0, none⟩)]] (w.alloc (.cells #[.map (some b)] 81)) fun e w' => ∃ ao c, e = .returned (.slice ao es.length c) ∧ StrL w' w.heap.size (.slice ao es.length c) (sortN es) ∧ Chg [] w w' := by
  obtain ⟨D, hown, hsz, hp⟩ := names_perm h
  refine ((callsIn_wide (n := 5)).1 (slices_Sorted_keys_59_60 b _ D _ w hown (by rw [hsz]; unfold maxLen; omega) (by rw [hsz]; omega))).mono ?_
  rintro e w' ⟨v, ss, rfl, hS, hrow, -, hb⟩
  have hms : ss.mergeSort (fun x y => decide (x ≤ y)) = sortN es := mergeSort_of_perm (hS.trans hp.symm)
  have hlen : ss.length = es.length := by rw [hS.length_eq, ← hp.length_eq, List.length_map]
  rw [hms] at hrow
  have hrow2 : StrL w' w.heap.size v (sortN es) := by
    unfold StrL
    rw [sortN_length]
    rw [hlen] at hrow
    exact ownsRow_mono hrow (by simp)
  obtain ⟨ao, c, rfl⟩ := hrow2.form
  rw [sortN_length] at hrow2 ⊢
  exact ⟨ao, c, rfl, hrow2, ((Chg.refl [] w).alloc _).k (Chg.ofBelow hb)⟩

def ListOut (w : World) (fp : List Nat) (b : Nat) (d : Dsk) (e : Ending) (w' : World) : Prop :=
  Dk w' fp b (opD d) ∧ Chg [b] w w' ∧ ((opE d ≠ 0 ∧ e = .returned (.tuple #[.slice none 0 0, .int .i64 (opE d)])) ∨
    (opE d = 0 ∧ ∃ ao c, e = .returned (.tuple #[.slice ao d.names.length c, .int .i64 0]) ∧ StrL w' w.heap.size (.slice ao d.names.length c) (sortN d.names)))

set_option maxHeartbeats 1000000 in
theorem List_any (h : Dk w fp b d) (hops : d.ops < 1073741824) : Calls Try.prog 30 #[.pointer (some ⟨b, 0, none⟩)] w (ListOut w fp b d) := by
  obtain ⟨fv, cv, nb, sb, hs, h⟩ := h
  have hnl : d.names.length ≤ 1073741824 := by have := h.good.nnames; have := h.good.ops; omega
  go_enter Try.func30, Try.ntmps30
  go_wp2_with fail
  refine (op_any h hops).mono ?_
  rintro e w1 ⟨rfl, h1, hc1, hz1⟩
  clear h
  by_cases hE : opE d = 0
  case neg =>
    have hE' : (opE d == 0) = false := by simpa using hE
    have H : Hd (ListOut w fp b d (.returned (.tuple #[.slice none 0 0, .int .i64 (opE d)])) w1) := hd ⟨⟨_, _, _, _, _, h1⟩, hc1, .inl ⟨hE, rfl⟩⟩
    clear hE h1 hc1 hz1
    go_wp2_with fail
    refine bodyPost_ret (v := .tuple #[.slice none 0 0, .int .i64 (opE d)]) ?_ rfl H.out
    simp only [results]; go_simp
  have hm : MapAt w1 nb d.names := h1.names
  have q2 := h1.box.cell 2
  simp [boxCells] at q2
  have fin : ∀ w' ao c, Chg [] w1 w' → StrL w' w1.heap.size (.slice ao d.names.length c) (sortN d.names) → ListOut w fp b d (.returned (.tuple #[.slice ao d.names.length c, .int .i64 0])) w' := fun w' ao c hc hs =>
    ⟨⟨_, _, _, _, _, h1.k hc⟩, hc1.trans hc (by simp), .inr ⟨hE, ao, c, rfl, ownsRow_mono hs hc1.size⟩⟩
  have FIN := hd fin
  rw [hE]
  clear fin hE h1 hc1 hz1
  go_wp2_with fail
  refine (Keys_any nb w1).mono ?_
  rintro e w2 ⟨rfl, rfl⟩
  have hso := SortedK_any hm (by omega)
  clear hm q2
  go_wp2_with fail
  refine (hso).mono ?_
  rintro e w3 ⟨ao, c, rfl, hr, hc3⟩
  have HF := hd (FIN.out _ _ _ hc3 hr)
  clear hso hr hc3
  go_wp2_with fail
  refine bodyPost_ret (v := .tuple #[.slice ao d.names.length c, .int .i64 0]) ?_ rfl HF.out
  simp only [results]; go_simp
end Go.Proofs.Ytpoohpmcopjklaa

/- JournalRemoves: the walk. -/
namespace Go.Proofs.Ytpoohpmcopjklaa
open Go.RowKit

/-- A disk that the call made, beside a map that it made. -/
def DM (w wr : World) (b : Nat) (d : Dsk) (mb : Nat) : Prop := ∃ fp, Dk wr fp b d ∧ Chg [] w wr ∧ (∀ k ∈ fp, w.heap.size ≤ k) ∧ mb ∉ fp ∧ mb < wr.heap.size ∧ w.heap.size ≤ mb
theorem DM.chg {w wr : World} {b mb : Nat} {d : Dsk} (h : DM w wr b d mb) : Chg [] w wr := let ⟨_, _, h, _⟩ := h; h
theorem DM.good {w wr : World} {b mb : Nat} {d : Dsk} (h : DM w wr b d mb) : GoodD d := let ⟨_, h, _⟩ := h; h.good
theorem DM.k {w wr wx : World} {b mb : Nat} {d : Dsk} (h : DM w wr b d mb) (hc : Chg [] wr wx) : DM w wx b d mb :=
  let ⟨fp, h1, h2, h3, h4, h5, h6⟩ := h; ⟨fp, h1.k hc, h2.k hc, h3, h4, Nat.lt_of_lt_of_le h5 hc.size, h6⟩
theorem DM.map {w wr wx : World} {b mb : Nat} {d : Dsk} (h : DM w wr b d mb) (hc : wr.grownBy wx (some mb)) : DM w wx b d mb := by
  obtain ⟨fp, h1, h2, h3, h4, h5, h6⟩ := h
  have hg := Chg.ofGrown hc
  refine ⟨fp, h1.chg hg (fun k hk => by simp only [Option.toList_some, List.mem_singleton]; rintro rfl; exact h4 hk), h2.trans hg (by simp only [Option.toList_some, List.mem_singleton]; rintro x rfl hx; omega), h3, h4, Nat.lt_of_lt_of_le h5 hg.size, h6⟩
theorem DkOut.dm {w wr w' : World} {fp : List Nat} {b mb : Nat} {d' : Dsk} {T : List Nat} (h : DkOut wr fp b d' w') (h2 : Chg [] w wr) (h3 : ∀ k ∈ fp, w.heap.size ≤ k) (h4 : mb ∉ fp) (h5 : mb < wr.heap.size) (h6 : w.heap.size ≤ mb) (hm : MapT wr mb T) : DM w w' b d' mb ∧ MapT w' mb T := by
  obtain ⟨fp', g1, g2, g3⟩ := h
  have hz := h2.size
  refine ⟨⟨fp', g1, h2.trans g2 (fun x hx hl => by have := h3 x hx; omega), fun k hk => ?_, fun hk => ?_, Nat.lt_of_lt_of_le h5 g2.size, h6⟩, hm.chg g2 h4⟩
  · rcases g3 k hk with h | h
    · exact h3 k h
    · omega
  · rcases g3 mb hk with h | h
    · exact h4 h
    · omega
def kN (x : Int) : Nat := (x % 8).toNat
theorem kN_lt (x : Int) : kN x < 8 := by unfold kN; omega
theorem kN_eq (x : Int) : x % 8 = (kN x : Int) := by unfold kN; omega
def addT (T : List Nat) (k : Nat) : List Nat := if k ∈ T then T else T ++ [k]
def allT (l : List Int) : List Nat := (l.map kN).foldl addT []
theorem allT_snoc (l : List Int) (i : Nat) (h : i < l.length) : allT (l.take (i + 1)) = addT (allT (l.take i)) (kN l[i]) := by
  unfold allT
  rw [List.take_succ_eq_append_getElem h, List.map_append, List.foldl_append]; rfl
theorem wantT_01 : ∀ (ks T : List Nat), (wantT T ks).1 = 0 ∨ (wantT T ks).1 = 4
  | [], _ => .inl rfl
  | k :: ks, T => by
    unfold wantT
    split
    · exact wantT_01 ks _
    · exact .inr rfl
theorem wantT_small : ∀ (ks T : List Nat), (wantT T ks).2.length ≤ T.length
  | [], _ => Nat.le_refl _
  | k :: ks, T => by
    unfold wantT
    split
    · exact Nat.le_trans (wantT_small ks _) (List.length_filter_le _ _)
    · exact Nat.le_refl _

section
attribute [local go_sem] and7
set_option maxRecDepth 100000 in
set_option maxHeartbeats 2000000 in
theorem JournalRemoves_law (v0 : Value) (l0 : List Int) (v1 : Value) (l1 : List Int) (w : World) (h0 : Fs w v0 l0) (_hb0 : ∀ z ∈ l0, -9223372036854775808 ≤ z ∧ z ≤ 9223372036854775807) (_hl0 : l0.length * 8 ≤ 140737488351232)
    (h1 : Fs w v1 l1) (_hb1 : ∀ z ∈ l1, -9223372036854775808 ≤ z ∧ z ≤ 9223372036854775807) (_hl1 : l1.length * 8 ≤ 140737488351232) :
    Calls Try.prog 6 #[v0, v1] w fun e w' => e = .returned (.bool true) ∧ Chg [] w w' := by
  obtain ⟨ao0, cap0, b0, off0, rfl, -, -, -, hao0, hel0⟩ := h0.open
  obtain ⟨ao1, cap1, b1, off1, rfl, -, -, -, hao1, hel1⟩ := h1.open
  have HE0 := hd hel0
  have HE1 := hd hel1
  have hmm := @run_makeMap Try.prog
  clear h0 h1 hel0 hel1 _hb0 _hb1
  go_enter Try.func6, Try.ntmps6
  go_wp2_with fail
  refine (fit19_any _).mono ?_
  rintro e w1 ⟨rfl, hc⟩
  by_cases hl0 : l0.length ≤ 12
  case neg =>
    have hl0' : (12 : Int) < (l0.length : Int) := by omega
    go_wp2_with fail
    go_ret
    exact ⟨rfl, hc⟩
  have hl0' : ¬ (12 : Int) < (l0.length : Int) := by omega
  by_cases hl1 : l1.length ≤ 12
  case neg =>
    have hl1' : (12 : Int) < (l1.length : Int) := by omega
    go_wp2_with fail
    go_ret
    exact ⟨rfl, hc⟩
  have hl1' : ¬ (12 : Int) < (l1.length : Int) := by omega
  go_wp2_with fail
  refine (DNew_any _ 100 (by decide)).mono ?_
  rintro e w2 ⟨b, fp, rfl, hk2, hc2, hf2⟩
  replace hc2 := hc.k hc2
  replace hf2 := fun k hk => Nat.le_trans hc.size (hf2 k hk)
  clear hc hl0' hl1'
  have hcm := (Chg.refl [] w2).alloc (.map #[] 0)
  have hM := MapT.new w2
  have hDM : DM w (w2.alloc (.map #[] 0)) b (newD 100) w2.heap.size := ⟨fp, hk2.k hcm, hc2.k hcm, hf2, fun h => by have := hk2.fpl _ h; omega, hM.lt, hc2.size⟩
  have hDj : Dj [] (newD 100) ∧ ((newD 100).sure = (newD 100).names ∧ (newD 100).changes = []) ∧ (newD 100).ops ≤ 0 := ⟨⟨rfl, rfl, rfl, by simp, by simp, rfl⟩, ⟨rfl, rfl⟩, by decide⟩
  have HDJ := hd hDj
  have HDM := hd hDM
  have HMM := hd hM
  clear hcm hM hDM hDj hk2 hc2 hf2
  go_upto_region 7 with (fail)
  clear hmm
  generalize w2.heap.size = mb at *
  generalize w2.alloc (.map #[] 0) = w3 at *
  generalize newD 100 = d0 at *
  go_wp2_with fail
  go_loopw [8, 9, 32] (fun _ _ t32 wr => ∃ (i : Nat) (d : Dsk), i ≤ l0.length ∧ t32 = .int .i64 i ∧ Hd (Dj (allT (l0.take i)) d ∧ (d.sure = d.names ∧ d.changes = []) ∧ d.ops ≤ 2 * (i : Int)) ∧ Hd ((allT (l0.take i)).length ≤ i) ∧ Hd (DM w wr b d mb) ∧ Hd (MapT wr mb (allT (l0.take i))))
    (fun _ _ t32 _ => l0.length - (intOf t32).toNat)
  case atStart => exact ⟨0, d0, by omega, rfl, HDJ, hd (by simp [allT]), HDM, HMM⟩
  case round =>
    obtain ⟨i, d, hi, rfl, hJ, hTl, hD, hM⟩ := hrel
    by_cases hlt : i < l0.length
    · have hlti : (i : Int) < (l0.length : Int) := by omega
      obtain rfl := hao0 (by omega)
      have q0 := hD.out.chg.cellS (HE0.out i hlt)
      have hsn := allT_snoc l0 i hlt
      have hke := kN_eq l0[i]
      have hk8 := kN_lt l0[i]
      generalize l0[i]'hlt = x at *
      generalize allT (l0.take i) = T at *
      have HSN := hd hsn
      have HKE := hd hke
      clear hsn hke
      generalize kN x = k at *
      go_upto_region 11 with (fail)
      rw [HKE.out]
      clear q0
      by_cases hk : k ∈ T
      · have hlk := hM.out.look k (by omega)
        rw [if_pos hk] at hlk
        have hs := HSN.out
        unfold addT at hs
        rw [if_pos hk] at hs
        have HS := hd hs
        clear hs hk
        go_wp2_with fail
        go_roundw
        case rel => exact ⟨i + 1, d, by omega, by go_num, hd (by rw [HS.out]; exact ⟨hJ.out.1, hJ.out.2.1, by have := hJ.out.2.2; omega⟩), hd (by rw [HS.out]; have := hTl.out; omega), hD, hd (by rw [HS.out]; exact hM.out)⟩
        case measure => simp [intOf]; omega
      · have hlk := hM.out.look k (by omega)
        rw [if_neg hk] at hlk
        have hs := HSN.out
        unfold addT at hs
        rw [if_neg hk] at hs
        obtain ⟨e1, e2, e3, e4, e5⟩ := hJ.out.1.begin_ hk8 hk (by have := hTl.out; omega)
        have HS := hd hs
        have HJ2 := hd (And.intro e2 (And.intro (And.intro e3 e4) e5))
        have HE := hd e1
        have hmt := hM.out
        have hnk := hk
        have hTlen : T.length ≤ 10000000000 := by have := hTl.out; omega
        clear hs e1 e2 e3 e4 e5
        go_upto_region 13 with (at_mapUpdate; refine wpPutT rfl rfl _ _ _ rfl mb T k rfl rfl rfl hmt (by omega) hnk hTlen ?_; intro w5 hm5 hg5)
        have hD5 := hD.out.map hg5
        obtain ⟨fpx, hkx, hcx, hfx, hmx, hmz, hmw⟩ := hD5
        have hbg := Begin_any hkx k (by omega) (by have := hJ.out.2.2; omega)
        rw [HE.out] at hbg
        clear hlk hmt hg5 hkx hnk hk
        go_wp2_with fail
        refine (hbg).mono ?_
        rintro e w6 ⟨rfl, h6⟩
        obtain ⟨hD6, hM6⟩ := h6.dm hcx hfx hmx hmz hmw hm5
        have HD6 := hd hD6
        have HM6 := hd hM6
        clear hbg h6 hcx hfx hmx hmz hmw hm5 hD6 hM6
        go_wp2_with fail
        go_roundw
        case rel => exact ⟨i + 1, beginD d (segB k), by omega, by go_num, hd (by rw [HS.out]; exact ⟨HJ2.out.1, HJ2.out.2.1, by have h1 := HJ2.out.2.2; have h2 := hJ.out.2.2; omega⟩), hd (by rw [HS.out, List.length_append]; have := hTl.out; simp; omega), HD6, hd (by rw [HS.out]; exact HM6.out)⟩
        case measure => simp [intOf]; omega
    · obtain rfl : i = l0.length := by omega
      rw [List.take_length] at hJ hTl hM
      generalize allT l0 = T at *
      obtain ⟨wL, hwL⟩ : ∃ wL, wL = wr := ⟨_, rfl⟩
      subst hwL
      have hTs : T.length ≤ 12 := by have := hTl.out; omega
      clear hTl hao0 HE0 HMM HDJ HDM hlt
      obtain ⟨ks, hks⟩ : ∃ ks, ks = l1.map kN := ⟨_, rfl⟩
      have hkl : ks.length = l1.length := by rw [hks, List.length_map]
      have hk8 : ∀ k ∈ ks, k < 8 := fun k hk => by rw [hks] at hk; obtain ⟨x, _, rfl⟩ := List.mem_map.1 hk; exact kN_lt x
      have HKS := hd hks
      have HKL := hd hkl
      have HK8 := hd hk8
      clear hks hkl hk8
      go_wp2_with fail
      go_loopw [10, 11, 13, 14, 51] (fun t10 t11 _ _ t51 wr => ∃ (i : Nat) (ao : Option Addr) (c : Nat), i ≤ l1.length ∧ t51 = .int .i64 i ∧ t10 = .slice ao i c ∧ t11 = .int .i64 (wantT T (ks.take i)).1 ∧ Hd (OwI wr wL.heap.size (.slice ao i c) ((ks.take i).map Int.ofNat)) ∧
          Hd (MapT wr mb (wantT T (ks.take i)).2) ∧ Hd (Chg [mb] wL wr))
        (fun _ _ _ _ t51 _ => l1.length - (intOf t51).toNat)
      case atStart => exact ⟨0, none, 0, by omega, rfl, rfl, rfl, hd (OwI.nil _ _), hM, hd (Chg.refl _ _)⟩
      case round =>
        obtain ⟨i, aog, cg, hi, rfl, rfl, rfl, hO, hMi, hCi⟩ := hrel
        by_cases hlt : i < l1.length
        · have hlti : (i : Int) < (l1.length : Int) := by omega
          obtain rfl := hao1 (by omega)
          have hwl := hD.out.chg
          have hmw : w.heap.size ≤ mb := let ⟨_, _, _, _, _, _, h⟩ := hD.out; h
          have hmz : mb < wL.heap.size := let ⟨_, _, _, _, _, h, _⟩ := hD.out; h
          have hc1 := HE1.out i hlt
          have hb1 := World.block_lt_of_cell? w _ hc1
          have q0 := hCi.out.cellT (hwl.cellS hc1) (by simp only [List.mem_singleton]; rintro rfl; simp only at hb1; omega)
          have hkx : ks[i]'(by rw [HKL.out]; exact hlt) = kN l1[i] := by
            have := HKS.out
            subst this
            rw [List.getElem_map]
          have htk : ks.take (i + 1) = ks.take i ++ [kN l1[i]] := by rw [List.take_succ_eq_append_getElem (by rw [HKL.out]; exact hlt), hkx]
          have hke := kN_eq l1[i]
          have hk8 := kN_lt l1[i]
          clear hkx hc1 hb1
          generalize l1[i]'hlt = x at *
          have HTK := hd htk
          have HKE := hd hke
          clear htk hke
          generalize kN x = k at *
          have hws := wantT_snoc k (ks.take i) T
          rw [← HTK.out] at hws
          have h01 := wantT_01 (ks.take i) T
          have hil : (ks.take i).length = i := by rw [List.length_take, HKL.out]; omega
          generalize ks.take i = kp at *
          obtain ⟨kq, hkqd⟩ : ∃ kq, kq = ks.take (i + 1) := ⟨_, rfl⟩
          obtain ⟨Q, hQd⟩ : ∃ Q, Q = wantT T kq := ⟨_, rfl⟩
          rw [← hkqd] at HTK hws
          rw [← hQd] at hws
          have HKQ := hd hkqd
          have HQD := hd hQd
          clear hkqd hQd
          generalize wantT T kp = P at *
          obtain ⟨P1, P2⟩ := P
          simp only at hws h01 hMi
          have HWS := hd hws
          have H01 := hd h01
          have HIL := hd hil
          clear hws h01 hil
          go_upto_region 22 with (fail)
          rw [HKE.out]
          have hone := Fs.lit wr [(k : Int)] #[.int .i64 (k : Int)] 3 1 rfl rfl (by simp)
          have hcA := (Chg.refl [] wr).alloc (.cells #[.int .i64 (k : Int)] 3)
          have hO2 := hO.out.k hcA
          have hlenO : ((kp.map Int.ofNat)).length = i := by rw [List.length_map, HIL.out]
          clear q0
          go_upto_region 23 with (at_builtin; refine wpAppI rfl _ _ rfl wL.heap.size (.slice aog i cg) (kp.map Int.ofNat) rfl hO2 (.slice (some ⟨wr.heap.size, 0, none⟩) 1 1) [(k : Int)] rfl hone (by rw [hlenO]; simp; omega) (Nat.le_trans hCi.out.size hcA.size) ?_; intro ao5 c5 w5 h5 hg5)
          rw [hlenO] at h5
          simp only [List.length_cons, List.length_nil, Nat.zero_add] at h5
          try simp only [List.length_cons, List.length_nil, Nat.zero_add]
          have hrow : ∀ j, (Value.slice aog i cg).ownBlock = some j → wL.heap.size ≤ j := fun j hj => (World.ownsRow.lt hO2 j hj).1
          have hM5 : MapT w5 mb P2 := (hMi.out.k hcA).block (hg5.block mb (hMi.out.k hcA).lt (fun e => by have := hrow mb e.symm; omega))
          have hC5 : Chg [mb] wL w5 := (hCi.out.trans hcA (by simp)).grown hg5 (fun j hj hl => by have := hrow j hj; omega)
          have hkq : kq.map Int.ofNat = kp.map Int.ofNat ++ [(k : Int)] := by rw [HTK.out, List.map_append]; rfl
          rw [← hkq] at h5
          have HO5 := hd h5
          have HM5 := hd hM5
          have HC5 := hd hC5
          clear hone hcA hO2 hlenO h5 hg5 hrow hM5 hC5 hkq hO hMi hCi
          by_cases hP : P1 = 0
          · subst hP
            have hws := HWS.out
            rw [if_pos rfl] at hws
            by_cases hk : k ∈ P2
            · rw [if_pos hk] at hws
              have hlk := HM5.out.look k (by omega)
              rw [if_pos hk] at hlk
              have HQ := hd hws
              have hm5 := HM5.out
              clear hws hk HWS
              go_wp2_with (at_delete; refine wpDelT rfl _ _ rfl mb P2 k rfl rfl hm5 (by omega) ?_; intro w6 hm6 hg6)
              have hO6 : OwI w6 wL.heap.size (.slice ao5 (i + 1) c5) (kq.map Int.ofNat) := World.ownsRow.kept HO5.out hg6 (.inr (fun e => by have := (World.ownsRow.lt HO5.out mb e).1; omega))
              have hC6 : Chg [mb] wL w6 := HC5.out.grown hg6 (by rintro _ ⟨rfl⟩ _; simp)
              have HO6 := hd hO6
              have HM6 := hd hm6
              have HC6 := hd hC6
              clear hO6 hm6 hC6 hm5 hg6
              go_roundw
              case rel => exact ⟨i + 1, ao5, c5, by omega, by go_num, rfl, by rw [← HKQ.out, ← HQD.out, HQ.out], by rw [← HKQ.out]; exact HO6, by rw [← HKQ.out, ← HQD.out, HQ.out]; exact HM6, HC6⟩
              case measure => simp [intOf]; omega
            · rw [if_neg hk] at hws
              have hlk := HM5.out.look k (by omega)
              rw [if_neg hk] at hlk
              have HQ := hd hws
              clear hws hk HWS
              go_wp2_with fail
              go_roundw
              case rel => exact ⟨i + 1, ao5, c5, by omega, by go_num, rfl, by rw [← HKQ.out, ← HQD.out, HQ.out], by rw [← HKQ.out]; exact HO5, by rw [← HKQ.out, ← HQD.out, HQ.out]; exact HM5, HC5⟩
              case measure => simp [intOf]; omega
          · have h4 : P1 = 4 := by rcases H01.out with h | h; exact absurd h hP; exact h
            subst h4
            have hws := HWS.out
            rw [if_neg (by decide)] at hws
            have HQ := hd hws
            clear hws hP HWS
            go_wp2_with fail
            go_roundw
            case rel => exact ⟨i + 1, ao5, c5, by omega, by go_num, rfl, by rw [← HKQ.out, ← HQD.out, HQ.out], by rw [← HKQ.out]; exact HO5, by rw [← HKQ.out, ← HQD.out, HQ.out]; exact HM5, HC5⟩
            case measure => simp [intOf]; omega
        · obtain rfl : i = l1.length := by omega
          have hkt : ks.take l1.length = ks := List.take_of_length_le (by rw [HKL.out]; omega)
          rw [hkt] at hO hMi ⊢
          obtain ⟨fpx, hkx, hcx, hfx, hmx, hmz, hmw⟩ := hD.out
          have hk : Dk wr fpx b d := hkx.chg hCi.out (fun k hk => by simp only [List.mem_singleton]; rintro rfl; exact hmx hk)
          have hc : Chg [] w wr := hcx.trans hCi.out (by simp only [List.mem_singleton]; rintro x rfl hx; omega)
          have hmzr : mb < wr.heap.size := hMi.out.lt
          obtain ⟨e1, e2, e3, e4, e5⟩ := hJ.out.1.remJ ks HK8.out hJ.out.2.1
          have hjr := JRemove_any hk (.slice aog l1.length cg) ks hO.out.fs HK8.out (fun _ k hk2 hf => by have h1 := (World.ownsRow.lt hO.out k hk2).1; have h2 := hkx.fpl k hf; omega) (by rw [HKL.out]; omega) (by have := hJ.out.2.2; omega)
          rw [e1] at hjr
          have hopd : d.ops ≤ 24 := by have := hJ.out.2.2; omega
          have h01 := wantT_01 ks T
          generalize remJ d ks = R at *
          have h0k : l1.length = 0 → R.2.ops = d.ops := fun h => e4 (List.length_eq_zero_iff.1 (by rw [HKL.out]; exact h))
          have hro : R.2.ops ≤ 40 := by have := HKL.out; omega
          have HJR := hd hjr
          have H0K := hd h0k
          have HRO := hd hro
          have HK := hd hk
          have HC := hd hc
          have HE3 := hd e3
          have H01 := hd h01
          have HMI := hMi
          generalize wantT T ks = P at *
          obtain ⟨W, T'⟩ := P
          simp only at e2 HJR HE3 HMI H01 ⊢
          have HE2 := hd e2
          clear hkt hO hMi hkx hcx e1 e2 e3 e4 e5 hjr h0k hro hk hc hCi hD hM hJ hao1 h01
          go_wp2_with fail
          refine (Ops_any HK.out).mono ?_
          rintro e wx ⟨rfl, rfl⟩
          go_upto_region 29 with (fail)
          go_cut [91] from 18 (fun t91 wx => t91 = .bool false ∧ DM w wx b R.2 mb ∧ MapT wx mb T')
          case first =>
            have hjr := HJR.out
            go_wp2_with fail
            refine (hjr).mono ?_
            rintro e w7 ⟨rfl, h7⟩
            obtain ⟨hD7, hM7⟩ := h7.dm HC.out hfx hmx hmzr hmw HMI.out
            have HD7 := hd hD7
            have HM7 := hd hM7
            clear h7 hjr hD7 hM7
            by_cases hz : l1.length = 0
            · have hz' : ((l1.length : Int) == 0) = true := by rw [beq_iff_eq]; omega
              have hro := H0K.out hz
              have HROO := hd hro
              clear hz hro
              go_wp2_with fail
              obtain ⟨fp7, hk7, -⟩ := HD7.out
              refine (Ops_any hk7).mono ?_
              rintro e w8 ⟨rfl, rfl⟩
              rw [HROO.out]
              clear hk7
              go_wp2_with fail
              go_meet
              case rel => exact ⟨rfl, HD7.out, HM7.out⟩
            · have hz' : ((l1.length : Int) == 0) = false := by rw [beq_eq_false_iff_ne]; omega
              clear hz
              go_wp2_with fail
              go_meet
              case rel => exact ⟨rfl, HD7.out, HM7.out⟩
          case rest =>
            obtain ⟨rfl, hDc, hMc⟩ := hcut
            obtain ⟨fp7, hk7, hc7, hf7, hm7, hz7, hw7⟩ := hDc
            by_cases hW : W = 0
            · subst hW
              obtain ⟨hs1, hs2⟩ := HE3.out rfl
              obtain ⟨c1, c2⟩ := HE2.out.crash hs1 hs2
              have hcr := Crash_any hk7 0 (.slice none 0 0) [] (OwI.nil wc 0).fs (by simp [Value.ownBlock])
              have hops : (crashD R.2 0 []).ops ≤ 40 := by rw [c2]; exact HRO.out
              generalize crashD R.2 0 [] = d9 at *
              clear hs1 hs2 c2 hk7 HE3
              go_wp2_with fail
              refine (hcr).mono ?_
              rintro e w8 ⟨rfl, h8⟩
              obtain ⟨hD8, hM8⟩ := h8.dm hc7 hf7 hm7 hz7 hw7 hMc
              obtain ⟨fp8, hk8, hc8, hf8, hm8, hz8, hw8⟩ := hD8
              have HKW := hd hk8
              have HOW := hd hops
              have HJW := hd c1
              have hrw : ∀ wx, Chg [b] w8 wx → Chg [] w wx ∧ MapT wx mb T' := fun wx hx => by
                have hbm : b ∈ fp8 := let ⟨_, _, _, _, _, hp⟩ := hk8; hp.fpb
                exact ⟨hc8.trans hx (by simp only [List.mem_singleton]; rintro x rfl hl; have := hf8 _ hbm; omega), hM8.chg hx (by simp only [List.mem_singleton]; rintro rfl; exact hm8 hbm)⟩
              have HRW := hd hrw
              clear h8 hcr hc7 hf7 hm7 hz7 hw7 hMc hk8 hc8 hf8 hm8 hz8 hw8 hops c1 hrw hM8
              go_wp2_with fail
              refine (List_any HKW.out (by have := HOW.out; omega)).mono ?_
              rintro e w9 hL
              obtain ⟨hk9, hc9, hL⟩ := hL
              rcases hL with ⟨hne, -⟩ | ⟨-, ao, c, rfl, -⟩
              · exact absurd HJW.out.opE hne
              obtain ⟨hcw9, hm9⟩ := HRW.out w9 hc9
              have hml := hm9.len
              rw [HJW.out.len]
              have HCW9 := hd hcw9
              clear hk9 hc9 hcw9 hm9
              go_wp2_with fail
              go_ret
              exact ⟨rfl, HCW9.out⟩
            · have hW' : (W == 0) = false := by rw [beq_eq_false_iff_ne]; exact hW
              have HKW := hd hk7
              have HOW := HRO
              have HJW := HE2
              have hrw : ∀ wx, Chg [b] wc wx → Chg [] w wx ∧ MapT wx mb T' := fun wx hx => by
                have hbm : b ∈ fp7 := let ⟨_, _, _, _, _, hp⟩ := hk7; hp.fpb
                exact ⟨hc7.trans hx (by simp only [List.mem_singleton]; rintro x rfl hl; have := hf7 _ hbm; omega), hMc.chg hx (by simp only [List.mem_singleton]; rintro rfl; exact hm7 hbm)⟩
              have HRW := hd hrw
              clear hc7 hf7 hm7 hz7 hw7 hMc hk7 hrw hW HE3
              go_wp2_with fail
              refine (List_any HKW.out (by have := HOW.out; omega)).mono ?_
              rintro e w9 hL
              obtain ⟨hk9, hc9, hL⟩ := hL
              rcases hL with ⟨hne, -⟩ | ⟨-, ao, c, rfl, -⟩
              · exact absurd HJW.out.opE hne
              obtain ⟨hcw9, hm9⟩ := HRW.out w9 hc9
              have hml := hm9.len
              rw [HJW.out.len]
              have HCW9 := hd hcw9
              clear hk9 hc9 hcw9 hm9
              go_wp2_with fail
              go_ret
              exact ⟨rfl, HCW9.out⟩
end
end Go.Proofs.Ytpoohpmcopjklaa
