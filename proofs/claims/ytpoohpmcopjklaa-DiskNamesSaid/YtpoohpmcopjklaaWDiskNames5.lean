/- Words and walks that DiskNames rests on, part 5. -/
import Derived.Test.YtpoohpmcopjklaaRows
import Derived.Shelf.SlIter.Nil
import Derived.Shelf.SortM.Plain
import Derived.Shelf.SortM.SortNone
import Derived.Ground.GgzProg
import Derived.Ground.SlgmProg
import Derived.Shelf.SlGeneric
import Derived.Test.YtpoohpmcopjklaaWDiskNames1
import Derived.Sort.KeysCollected
import Derived.Test.YtpoohpmcopjklaaWDiskNames3
import Derived.Test.YtpoohpmcopjklaaWDiskNames4
import Derived.Sort.Walk0
import Derived.Deep.CutRange
/- The contracts on slices.Sorted(maps.Keys(m)) at this program, one application each. -/
namespace Go.Proofs.Ytpoohpmcopjklaa
open Go.RowKit Go.Maps Go.Sort Go.Shelf

def keys60_ren : Go.Shelf.Ren := ⟨fun | 7 => 60 | 10 => 78 | n => n, fun | 23 => 81 | 26 => 9 | 3 => 3 | 28 => 103 | 0 => 0 | 27 => 102 | 33 => 106 | 4 => 4 | n => n, fun | n => n⟩
theorem keys60 : Go.Proofs.SlLaysZ.n7 Try.prog keys60_ren := {
  mixed := by kernel_rfl
  f7 := ⟨Try.f60.name, by decide, Try.func60.trans (congrArg some (by kernel_rfl))⟩
  f10 := ⟨Try.f78.name, by decide, Try.func78.trans (congrArg some (by kernel_rfl))⟩
  t0 := Try.underlying0
  a0 := Try.isAgg0
  z0 := Try.sizeOf0
  v0 := Try.zeroValue0
  t4 := Try.underlying4
  a4 := Try.isAgg4
  z4 := Try.sizeOf4
  v4 := Try.zeroValue4
  t23 := Try.underlying81
  a23 := Try.isAgg81
  z23 := Try.sizeOf81
  v23 := Try.zeroValue81
  t26 := Try.underlying9
  a26 := Try.isAgg9
  z26 := Try.sizeOf9
  v26 := Try.zeroValue9
  t27 := Try.underlying102
  a27 := Try.isAgg102
  z27 := Try.sizeOf102
  v27 := Try.zeroValue102
  t28 := Try.underlying103
  a28 := Try.isAgg103
  z28 := Try.sizeOf103
  v28 := Try.zeroValue103
  t33 := Try.underlying106
  a33 := Try.isAgg106
  z33 := Try.sizeOf106
  v33 := Try.zeroValue106 }
def sorted59_ren : Go.Shelf.Ren := ⟨fun | 6 => 59 | 8 => 76 | 9 => 77 | 11 => 89 | 13 => 91 | 12 => 90 | 23 => 105 | 24 => 106 | 14 => 96 | 15 => 97 | 16 => 98 | 17 => 99 | 18 => 100 | 19 => 101 | 20 => 102 | 21 => 103 | 22 => 104 | 25 => 108 | 26 => 109 | 27 => 110 | 28 => 111 | 29 => 112 | 30 => 113 | 31 => 114 | n => n, fun | 26 => 9 | 28 => 103 | 24 => 57 | 0 => 0 | 3 => 3 | 37 => 39 | 48 => 23 | 50 => 167 | 4 => 4 | 40 => 159 | 39 => 158 | 45 => 105 | 5 => 5 | 9 => 9 | 51 => 170 | 55 => 174 | 57 => 176 | 58 => 177 | 33 => 106 | n => n, fun | n => n⟩
theorem sorted59 : Go.Proofs.SlLaysZ.n6 Try.prog sorted59_ren := {
  mixed := by kernel_rfl
  f6 := ⟨Try.f59.name, by decide, Try.func59.trans (congrArg some (by kernel_rfl))⟩
  f8 := ⟨Try.f76.name, by decide, Try.func76.trans (congrArg some (by kernel_rfl))⟩
  f11 := ⟨Try.f89.name, by decide, Try.func89.trans (congrArg some (by kernel_rfl))⟩
  t0 := Try.underlying0
  a0 := Try.isAgg0
  z0 := Try.sizeOf0
  v0 := Try.zeroValue0
  t24 := Try.underlying57
  a24 := Try.isAgg57
  z24 := Try.sizeOf57
  v24 := Try.zeroValue57
  t26 := Try.underlying9
  a26 := Try.isAgg9
  z26 := Try.sizeOf9
  v26 := Try.zeroValue9
  t28 := Try.underlying103
  a28 := Try.isAgg103
  z28 := Try.sizeOf103
  v28 := Try.zeroValue103
  i26 := by kernel_rfl }
def sort77_ren : Go.Shelf.Ren := ⟨fun | 6 => 77 | 8 => 91 | 9 => 90 | 19 => 105 | 20 => 106 | 21 => 96 | 22 => 97 | 23 => 98 | 24 => 99 | 25 => 100 | 26 => 101 | 27 => 102 | 28 => 103 | 29 => 104 | 36 => 108 | 31 => 109 | 32 => 110 | 37 => 111 | 38 => 112 | 39 => 113 | 41 => 114 | n => n, fun | 27 => 57 | 29 => 9 | 3 => 3 | 32 => 39 | 26 => 57 | 0 => 0 | 44 => 23 | 46 => 167 | 4 => 4 | 36 => 159 | 35 => 158 | 41 => 105 | 5 => 5 | 9 => 9 | 53 => 170 | 57 => 174 | 63 => 176 | 64 => 177 | n => n, fun | n => n⟩
theorem sort77 : Go.Proofs.SlLaysM.n6 Try.prog sort77_ren := {
  mixed := by kernel_rfl
  f6 := ⟨Try.f77.name, by decide, Try.func77.trans (congrArg some (by kernel_rfl))⟩
  f8 := Try.func91.trans (congrArg some (by kernel_rfl))
  f9 := ⟨Try.f90.name, by decide, Try.func90.trans (congrArg some (by kernel_rfl))⟩
  f19 := Try.func105.trans (congrArg some (by kernel_rfl))
  f20 := Try.func106.trans (congrArg some (by kernel_rfl))
  f21 := ⟨Try.f96.name, by decide, Try.func96.trans (congrArg some (by kernel_rfl))⟩
  f22 := ⟨Try.f97.name, by decide, Try.func97.trans (congrArg some (by kernel_rfl))⟩
  f23 := ⟨Try.f98.name, by decide, Try.func98.trans (congrArg some (by kernel_rfl))⟩
  f24 := ⟨Try.f99.name, by decide, Try.func99.trans (congrArg some (by kernel_rfl))⟩
  f25 := ⟨Try.f100.name, by decide, Try.func100.trans (congrArg some (by kernel_rfl))⟩
  f26 := ⟨Try.f101.name, by decide, Try.func101.trans (congrArg some (by kernel_rfl))⟩
  f27 := ⟨Try.f102.name, by decide, Try.func102.trans (congrArg some (by kernel_rfl))⟩
  f28 := ⟨Try.f103.name, by decide, Try.func103.trans (congrArg some (by kernel_rfl))⟩
  f29 := ⟨Try.f104.name, by decide, Try.func104.trans (congrArg some (by kernel_rfl))⟩
  f31 := Try.func109.trans (congrArg some (by kernel_rfl))
  f32 := Try.func110.trans (congrArg some (by kernel_rfl))
  f36 := ⟨Try.f108.name, by decide, Try.func108.trans (congrArg some (by kernel_rfl))⟩
  f37 := ⟨Try.f111.name, by decide, Try.func111.trans (congrArg some (by kernel_rfl))⟩
  f38 := ⟨Try.f112.name, by decide, Try.func112.trans (congrArg some (by kernel_rfl))⟩
  f39 := ⟨Try.f113.name, by decide, Try.func113.trans (congrArg some (by kernel_rfl))⟩
  f41 := ⟨Try.f114.name, by decide, Try.func114.trans (congrArg some (by kernel_rfl))⟩
  t0 := Try.underlying0
  a0 := Try.isAgg0
  z0 := Try.sizeOf0
  v0 := Try.zeroValue0
  t3 := Try.underlying3
  a3 := Try.isAgg3
  z3 := Try.sizeOf3
  v3 := Try.zeroValue3
  t4 := Try.underlying4
  a4 := Try.isAgg4
  z4 := Try.sizeOf4
  v4 := Try.zeroValue4
  t5 := Try.underlying5
  a5 := Try.isAgg5
  z5 := Try.sizeOf5
  v5 := Try.zeroValue5
  t9 := Try.underlying9
  a9 := Try.isAgg9
  z9 := Try.sizeOf9
  v9 := Try.zeroValue9
  t26 := Try.underlying57
  a26 := Try.isAgg57
  z26 := Try.sizeOf57
  v26 := Try.zeroValue57
  t27 := Try.underlying57
  a27 := Try.isAgg57
  z27 := Try.sizeOf57
  v27 := Try.zeroValue57
  t29 := Try.underlying9
  a29 := Try.isAgg9
  z29 := Try.sizeOf9
  v29 := Try.zeroValue9
  t32 := Try.underlying39
  a32 := Try.isAgg39
  z32 := Try.sizeOf39
  v32 := Try.zeroValue39
  t35 := Try.underlying158
  a35 := Try.isAgg158
  z35 := Try.sizeOf158
  v35 := Try.zeroValue158
  t36 := Try.underlying159
  a36 := Try.isAgg159
  z36 := Try.sizeOf159
  v36 := Try.zeroValue159
  t41 := Try.underlying105
  a41 := Try.isAgg105
  z41 := Try.sizeOf105
  v41 := Try.zeroValue105
  t44 := Try.underlying23
  a44 := Try.isAgg23
  z44 := Try.sizeOf23
  v44 := Try.zeroValue23
  t46 := Try.underlying167
  a46 := Try.isAgg167
  z46 := Try.sizeOf167
  v46 := Try.zeroValue167
  t53 := Try.underlying170
  a53 := Try.isAgg170
  z53 := Try.sizeOf170
  v53 := Try.zeroValue170
  t57 := Try.underlying174
  a57 := Try.isAgg174
  z57 := Try.sizeOf174
  v57 := Try.zeroValue174
  t63 := Try.underlying176
  a63 := Try.isAgg176
  z63 := Try.sizeOf176
  v63 := Try.zeroValue176
  t64 := Try.underlying177
  a64 := Try.isAgg177
  z64 := Try.sizeOf177
  v64 := Try.zeroValue177 }

/-- slices.Sort's two contracts at this dump, at the fence that asks nothing. -/
theorem sorts59 (m : Nat) : AnyZ.SortsIn Try.prog sorted59_ren Fence.wide m :=
  ⟨fun blk off cap ss W hH hblk hsz => callsIn_wide.2 (AnyM.slices_Sort_string sort77 blk off cap ss W hH hblk hsz),
   fun p cap W => callsIn_wide.2 (AnyM.slices_Sort_string_none sort77 p cap W)⟩

/-- **maps.Keys[map[string]int,string,int], at whatever map, the nil one too:** a function value over ONE NEW BLOCK, which holds the map. -/
theorem maps_Keys_60 (mb : Option Nat) (W : World) : CallsIn Fence.wide 5 Try.prog 60 #[.map mb] W fun e w' => e = .returned (.func (.func 78) #[] #[.pointer (some ⟨W.heap.size, 0, none⟩)]) ∧ w' = W.alloc (.cells #[.map mb] 81) :=
  AnyZ.keys_in keys60 Fence.wide 5 trivial rfl mb W

set_option maxHeartbeats 1000000 in
/-- **slices.Sorted[string] AT WHAT maps.Keys[map[string]int,string,int] HANDED BACK FOR A MAP THAT IS NOT nil** ('w': the world AHEAD of maps.Keys' call): A NEW SLICE THAT HOLDS THE MAP's KEYS, SORTED; nil just where it has none; nothing that lay before has turned. -/
theorem slices_Sorted_keys_59_60 {H : Type} (b nn : Nat) (D0 : DataW H) (R : Value → Option (DataW H × List MemPlace)) (w : World) (hown : w.ownsMap Try.prog 9 R b nn D0) (hmax : Maps.size D0 ≤ maxLen) (hbytes : Maps.size D0 * 16 ≤ 140737488355328) :
    CallsIn Fence.wide 5 Try.prog 59 #[.func (.func 78) #[] #[.pointer (some ⟨w.heap.size, 0, none⟩)]] (w.alloc (.cells #[.map (some b)] 81)) fun e w' => ∃ (v : Value) (ss : List (List UInt8)), e = .returned v ∧ ss.Perm (strKeys D0) ∧
      w'.ownsRow (w.alloc (.cells #[.map (some b)] 81)).heap.size 9 1 v ss.length ((ss.mergeSort (fun x y => decide (x ≤ y))).map encStr) ∧ (v = .slice none 0 0 ↔ ss = []) ∧ Below (w.alloc (.cells #[.map (some b)] 81)).heap.size (w.alloc (.cells #[.map (some b)] 81)) w' := by
  have hbl := hown.lt
  have hseq : SeqGives Fence.wide 2 Try.prog 78 #[.pointer (some ⟨w.heap.size, 0, none⟩)] encStr (fun ss => ss.Perm (strKeys D0)) (Maps.size D0) (w.alloc (.cells #[.map (some b)] 81)) :=
    AnyZ.keys_gives (ρ := keys60_ren) { keys60 with } Fence.wide _ trivial rfl (by omega) w.heap.size b nn D0 _ (by simp) (by simp) (by
      obtain ⟨es, clock, hb, Ft, hs, hD⟩ := hown
      exact ⟨es, clock, (Below.heap_alloc _ _ b hbl).trans hb, Ft, hs, hD⟩)
  exact AnyZ.sorted_in sorted59 Fence.wide 5 trivial trivial trivial trivial rfl (by omega) (sorts59 _) (enters_of Try.func77 (by kernel_rfl) rfl) 78 #[.pointer (some ⟨w.heap.size, 0, none⟩)] trivial (enters_of Try.func78 (by kernel_rfl) rfl) _ _ hmax hbytes _ hseq

set_option maxHeartbeats 1000000 in
/-- **.. AND FOR THE nil MAP: nil.** -/
theorem slices_Sorted_keys_nil_59_60 (w : World) :
    CallsIn Fence.wide 5 Try.prog 59 #[.func (.func 78) #[] #[.pointer (some ⟨w.heap.size, 0, none⟩)]] (w.alloc (.cells #[.map none] 81)) fun e w' => ∃ (v : Value) (ss : List (List UInt8)), e = .returned v ∧ ss = [] ∧
      w'.ownsRow (w.alloc (.cells #[.map none] 81)).heap.size 9 1 v ss.length ((ss.mergeSort (fun x y => decide (x ≤ y))).map encStr) ∧ (v = .slice none 0 0 ↔ ss = []) ∧ Below (w.alloc (.cells #[.map none] 81)).heap.size (w.alloc (.cells #[.map none] 81)) w' := by
  have hseq : SeqGives Fence.wide 2 Try.prog 78 #[.pointer (some ⟨w.heap.size, 0, none⟩)] encStr (fun ss : List (List UInt8) => ss = []) 0 (w.alloc (.cells #[.map none] 81)) :=
    AnyZ.keys_gives_nil (ρ := keys60_ren) { keys60 with } Fence.wide _ trivial rfl w.heap.size _ (by simp) (by simp)
  exact AnyZ.sorted_in sorted59 Fence.wide 5 trivial trivial trivial trivial rfl (by omega) (sorts59 _) (enters_of Try.func77 (by kernel_rfl) rfl) 78 #[.pointer (some ⟨w.heap.size, 0, none⟩)] trivial (enters_of Try.func78 (by kernel_rfl) rfl) _ 0 (Nat.zero_le _) (by omega) _ hseq
end Go.Proofs.Ytpoohpmcopjklaa

/- Disk.List. -/
namespace Go.Proofs.Ytpoohpmcopjklaa
open Go.RowKit

variable {w w' : World} {fp : List Nat} {b : Nat} {d : Dsk}

/-- The names, rising. -/
def sortN (es : Nm) : List (List UInt8) := (es.map (·.1)).mergeSort (fun x y => decide (x ≤ y))
theorem sortN_length (es : Nm) : (sortN es).length = es.length := by unfold sortN; rw [List.length_mergeSort, List.length_map]
theorem sortN_perm (es : Nm) : (sortN es).Perm (es.map (·.1)) := List.mergeSort_perm _ _
/-- v is a row of strings of the call's own. -/
def StrL (w : World) (base : Nat) (v : Value) (L : List (List UInt8)) : Prop := w.ownsRow base 9 1 v L.length (L.map fun s => Value.string (strB s))
theorem StrL.k {w w' : World} {base : Nat} {v : Value} {L : List (List UInt8)} (h : StrL w base v L) (hc : Chg [] w w') : StrL w' base v L := ownsRow_k h hc
theorem StrL.form {w : World} {base : Nat} {v : Value} {L : List (List UInt8)} (h : StrL w base v L) : ∃ ao c, v = .slice ao L.length c := by
  rcases h.2 with ⟨rfl, hz⟩ | ⟨g, cap, cur, rfl, _⟩
  · exact ⟨none, 0, by rw [hz]⟩
  · exact ⟨_, cap, rfl⟩
theorem encStr_strB (s : List UInt8) : Go.Proofs.encStr s = Value.string (strB s) := rfl

theorem Keys_any (b : Nat) (W : World) : Calls Try.prog 60 #[.map (some b)] W fun e w' => e = .returned (.func (.func 78) #[] #[.pointer (some ⟨W.heap.size, 0, none⟩)]) ∧ w' = W.alloc (.cells #[.map (some b)] 81) :=
  (callsIn_wide (n := 5)).1 (maps_Keys_60 (some b) W)
theorem names_perm {es : Nm} (h : MapAt w b es) : ∃ D : DataW Unit, w.ownsMap Try.prog 9 (plainElem Try.prog 3) b es.length D ∧ Maps.size D = es.length ∧ (es.map (·.1)).Perm (strKeys D) := by
  obtain ⟨D, hown, hr⟩ := h
  refine ⟨D, hown, hr.size, Collected.perm (left := fun _ => false) ⟨hr.nodup, fun x => ?_⟩ hown strKeyed undString (fun _ => rfl)⟩
  rw [hr.has]
  constructor
  · intro hx
    obtain ⟨p, hp, rfl⟩ := List.mem_map.1 hx
    exact ⟨nget_mem_isSome' hp, rfl⟩
  · rintro ⟨hx, -⟩
    obtain ⟨i, hi⟩ := Option.isSome_iff_exists.1 hx
    exact List.mem_map.2 ⟨_, nget_some_mem hi, rfl⟩
theorem SortedK_any {es : Nm} (h : MapAt w b es) (hl : es.length ≤ 1000000000000) :
    Calls Try.prog 59 #[.func (.func 78) #[] #[.pointer (some ⟨w.heap.size, 0, none⟩)]] (w.alloc (.cells #[.map (some b)] 81)) fun e w' => ∃ ao c, e = .returned (.slice ao es.length c) ∧ StrL w' w.heap.size (.slice ao es.length c) (sortN es) ∧ Chg [] w w' := by
  obtain ⟨D, hown, hsz, hp⟩ := names_perm h
  refine ((callsIn_wide (n := 5)).1 (slices_Sorted_keys_59_60 b _ D _ w hown (by rw [hsz]; unfold maxLen; omega) (by rw [hsz]; omega))).mono ?_
  rintro e w' ⟨v, ss, rfl, hS, hrow, -, hb⟩
  have hms : ss.mergeSort (fun x y => decide (x ≤ y)) = sortN es := mergeSort_of_perm (hS.trans hp.symm)
  have hlen : ss.length = es.length := by rw [hS.length_eq, ← hp.length_eq, List.length_map]
  rw [hms] at hrow
  have hrow2 : StrL w' w.heap.size v (sortN es) := by
    unfold StrL
    rw [sortN_length]
    rw [hlen] at hrow
    exact ownsRow_mono hrow (by simp)
  obtain ⟨ao, c, rfl⟩ := hrow2.form
  rw [sortN_length] at hrow2 ⊢
  exact ⟨ao, c, rfl, hrow2, ((Chg.refl [] w).alloc _).k (Chg.ofBelow hb)⟩

def ListOut (w : World) (fp : List Nat) (b : Nat) (d : Dsk) (e : Ending) (w' : World) : Prop :=
  Dk w' fp b (opD d) ∧ Chg [b] w w' ∧ ((opE d ≠ 0 ∧ e = .returned (.tuple #[.slice none 0 0, .int .i64 (opE d)])) ∨
    (opE d = 0 ∧ ∃ ao c, e = .returned (.tuple #[.slice ao d.names.length c, .int .i64 0]) ∧ StrL w' w.heap.size (.slice ao d.names.length c) (sortN d.names)))

set_option maxHeartbeats 1000000 in
theorem List_any (h : Dk w fp b d) (hops : d.ops < 1073741824) : Calls Try.prog 30 #[.pointer (some ⟨b, 0, none⟩)] w (ListOut w fp b d) := by
  obtain ⟨fv, cv, nb, sb, hs, h⟩ := h
  have hnl : d.names.length ≤ 1073741824 := by have := h.good.nnames; have := h.good.ops; omega
  go_enter Try.func30, Try.ntmps30
  go_wp2_with fail
  refine (op_any h hops).mono ?_
  rintro e w1 ⟨rfl, h1, hc1, hz1⟩
  clear h
  by_cases hE : opE d = 0
  case neg =>
    have hE' : (opE d == 0) = false := by simpa using hE
    have H : Hd (ListOut w fp b d (.returned (.tuple #[.slice none 0 0, .int .i64 (opE d)])) w1) := hd ⟨⟨_, _, _, _, _, h1⟩, hc1, .inl ⟨hE, rfl⟩⟩
    clear hE h1 hc1 hz1
    go_wp2_with fail
    refine bodyPost_ret (v := .tuple #[.slice none 0 0, .int .i64 (opE d)]) ?_ rfl H.out
    simp only [results]; go_simp
  have hm : MapAt w1 nb d.names := h1.names
  have q2 := h1.box.cell 2
  simp [boxCells] at q2
  have fin : ∀ w' ao c, Chg [] w1 w' → StrL w' w1.heap.size (.slice ao d.names.length c) (sortN d.names) → ListOut w fp b d (.returned (.tuple #[.slice ao d.names.length c, .int .i64 0])) w' := fun w' ao c hc hs =>
    ⟨⟨_, _, _, _, _, h1.k hc⟩, hc1.trans hc (by simp), .inr ⟨hE, ao, c, rfl, ownsRow_mono hs hc1.size⟩⟩
  have FIN := hd fin
  rw [hE]
  clear fin hE h1 hc1 hz1
  go_wp2_with fail
  refine (Keys_any nb w1).mono ?_
  rintro e w2 ⟨rfl, rfl⟩
  have hso := SortedK_any hm (by omega)
  clear hm q2
  go_wp2_with fail
  refine (hso).mono ?_
  rintro e w3 ⟨ao, c, rfl, hr, hc3⟩
  have HF := hd (FIN.out _ _ _ hc3 hr)
  clear hso hr hc3
  go_wp2_with fail
  refine bodyPost_ret (v := .tuple #[.slice ao d.names.length c, .int .i64 0]) ?_ rfl HF.out
  simp only [results]; go_simp
end Go.Proofs.Ytpoohpmcopjklaa

/- bagatellelaw17.fit. -/
namespace Go.Proofs.Ytpoohpmcopjklaa
open Go.RowKit

def F1 : Dsk := createD (newD 100) [97]
def F2 : Dsk := appendD F1 [97] [120, 121]
def F3 : Dsk := syncD F2 [97]
def F4 : Dsk := dirSyncD F3
def F5 : Dsk := appendD F4 [97] [122]
def F6 : Dsk := createD F5 [98]
def F7 : Dsk := crashD F6 0 []
theorem F_ops : F1.ops = 1 ∧ F2.ops = 2 ∧ F3.ops = 3 ∧ F4.ops = 4 ∧ F5.ops = 5 ∧ F6.ops = 6 ∧ F7.ops = 6 := by decide
theorem F_room : F1.room = 100 ∧ F4.room = 100 := by decide
theorem F_fin : opE F7 = 0 ∧ F7.names.length = 1 ∧ syncE (opD F7) [97] = 0 ∧ bytesD (opD F7) [97] = [120, 121] := by decide

set_option maxHeartbeats 2000000 in
theorem fit17_any (w : World) : Calls Try.prog 31 #[] w fun e w' => e = .returned (.bool true) ∧ Chg [] w w' := by
  have kc := bsConst
  obtain ⟨o1, o2, o3, o4, o5, o6, o7⟩ := F_ops
  obtain ⟨r1, r4⟩ := F_room
  obtain ⟨z1, z2, z3, z4⟩ := F_fin
  have O1 : Hd (F1.ops < 1073741824 ∧ F2.ops < 1073741824 ∧ F3.ops < 1073741824 ∧ F4.ops < 1073741824 ∧ F5.ops < 1073741824 ∧ F6.ops < 1073741824 ∧ F7.ops < 1073741824 ∧ (opD F7).ops < 1073741824) := hd ⟨by omega, by omega, by omega, by omega, by omega, by omega, by omega, by show F7.ops + 1 < _; omega⟩
  have R1 := hd r1
  have R4 := hd r4
  have Z1 := hd z1
  have Z2 := hd z2
  have Z3 := hd z3
  have Z4 := hd z4
  clear o1 o2 o3 o4 o5 o6 o7 r1 r4 z1 z2 z3 z4
  go_enter Try.func31, Try.ntmps31
  go_wp2_with fail
  refine (DNew_any w 100 (by decide)).mono ?_
  rintro e w1 ⟨b, fp, rfl, hk, hc, hf⟩
  go_wp2_with fail
  refine (Create_any hk [97] (by decide) (by decide)).mono ?_
  rintro e w2 ⟨rfl, h⟩
  generalize createE (newD 100) [97] = e1
  obtain ⟨fp1, hk1, hc1, hf1⟩ := (show DkOut _ _ _ F1 _ from h).ds hc hf
  clear h hk hc hf
  have b1 := Bs.marked w2 [120, 121] #[.int .u8 120, .int .u8 121] 2 rfl rfl (by decide)
  go_wp2_with fail
  have hcA := (Chg.refl [] w2).alloc (.cells #[.int .u8 120, .int .u8 121] 5 (2, 3))
  have hlow : ∀ k, (Value.slice (some ⟨w2.heap.size, 0, none⟩) 2 2).ownBlock = some k → k ∉ fp1 := by
    simp only [Value.ownBlock]; rintro k ⟨rfl⟩ hk; have := hk1.fpl _ hk; omega
  have hst := Append_any (hk1.k hcA) [97] (by decide) O1.out.1 _ [120, 121] b1 (by decide) (fun _ => hlow) (.inr (by rw [R1.out]; decide))
  replace hc1 := hc1.k hcA
  clear hcA hlow b1 hk1
  refine (hst).mono ?_
  rintro e w3 ⟨rfl, h⟩
  generalize appendE F1 [97] [120, 121] = e2
  obtain ⟨fp2, hk2, hc2, hf2⟩ := (show DkOut _ _ _ F2 _ from h).ds hc1 hf1
  clear h hst hc1 hf1
  go_wp2_with fail
  refine (Sync_any hk2 [97] (by decide) O1.out.2.1).mono ?_
  rintro e w4 ⟨rfl, h⟩
  generalize syncE F2 [97] = e3
  obtain ⟨fp3, hk3, hc3, hf3⟩ := (show DkOut _ _ _ F3 _ from h).ds hc2 hf2
  clear h hk2 hc2 hf2
  go_wp2_with fail
  refine (DirSync_any hk3 O1.out.2.2.1).mono ?_
  rintro e w5 ⟨rfl, h⟩
  generalize opE F3 = e4
  obtain ⟨fp4, hk4, hc4, hf4⟩ := (show DkOut _ _ _ F4 _ from h).ds hc3 hf3
  clear h hk3 hc3 hf3
  have b1 := Bs.marked w5 [122] #[.int .u8 122] 1 rfl rfl (by decide)
  go_wp2_with fail
  have hcA := (Chg.refl [] w5).alloc (.cells #[.int .u8 122] 5 (1, 2))
  have hlow : ∀ k, (Value.slice (some ⟨w5.heap.size, 0, none⟩) 1 1).ownBlock = some k → k ∉ fp4 := by
    simp only [Value.ownBlock]; rintro k ⟨rfl⟩ hk; have := hk4.fpl _ hk; omega
  have hst := Append_any (hk4.k hcA) [97] (by decide) O1.out.2.2.2.1 _ [122] b1 (by decide) (fun _ => hlow) (.inr (by rw [R4.out]; decide))
  replace hc4 := hc4.k hcA
  clear hcA hlow b1 hk4
  refine (hst).mono ?_
  rintro e w6 ⟨rfl, h⟩
  generalize appendE F4 [97] [122] = e5
  obtain ⟨fp5, hk5, hc5, hf5⟩ := (show DkOut _ _ _ F5 _ from h).ds hc4 hf4
  clear h hst hc4 hf4
  go_wp2_with fail
  refine (Create_any hk5 [98] (by decide) O1.out.2.2.2.2.1).mono ?_
  rintro e w7 ⟨rfl, h⟩
  generalize createE F5 [98] = e6
  obtain ⟨fp6, hk6, hc6, hf6⟩ := (show DkOut _ _ _ F6 _ from h).ds hc5 hf5
  clear h hk5 hc5 hf5
  have hcr := Crash_any hk6 0 (.slice none 0 0) [] (OwI.nil w7 0).fs (by simp [Value.ownBlock])
  go_wp2_with fail
  refine (hcr).mono ?_
  rintro e w8 ⟨rfl, h⟩
  obtain ⟨fp7, hk7, hc7, hf7⟩ := (show DkOut _ _ _ F7 _ from h).ds hc6 hf6
  clear h hcr hk6 hc6 hf6
  go_wp2_with fail
  refine (List_any hk7 O1.out.2.2.2.2.2.2.1).mono ?_
  rintro e w9 hL
  obtain ⟨hk8, hc8, hL⟩ := hL
  rcases hL with ⟨hne, -⟩ | ⟨-, ao, c, rfl, hrow⟩
  · exact absurd Z1.out hne
  have hD8 := DS.same hk8 hk7 hc7 hf7 hc8
  rw [Z2.out]
  clear hrow hk7 hc7 hf7 hc8 hk8
  obtain ⟨fp8, hk8, hc8, hf8⟩ := hD8
  go_wp2_with fail
  refine (Read_any hk8 [97] (by decide) O1.out.2.2.2.2.2.2.2).mono ?_
  rintro e w10 ⟨ao9, n9, c9, rfl, hb9, hk9, hc9⟩
  have hfin := (DS.same hk9 hk8 hc8 hf8 hc9).chg
  rw [Z3.out, if_pos rfl, Z4.out] at hb9
  rw [Z3.out]
  obtain ⟨ao', c', e⟩ := hb9.form
  simp only [Value.slice.injEq] at e
  obtain ⟨rfl, rfl, rfl⟩ := e
  have hbs := hb9.bs
  have HFIN := hd hfin
  clear hfin hk9 hk8 hc8 hf8 hc9 hb9
  go_wp2_with (refine wpStr rfl _ rfl _ _ rfl hbs ?_)
  go_ret
  exact ⟨rfl, HFIN.out⟩
end Go.Proofs.Ytpoohpmcopjklaa

/- DiskArms: the walk. -/
namespace Go.Proofs.Ytpoohpmcopjklaa
open Go.RowKit

def dA (dn fl : Nat) (i sz : Nat) : Dsk := ⟨1048576, [(List.replicate sz 1, 0)], [([97], 0)], [], [([], [97], 0)], 1 + i, 1 + dn, 1 + fl, decide (dn < i)⟩
theorem dA_start (dn fl : Nat) (h1 : dn < 20) (h2 : fl < 24) : armD (createD (newD 1048576) [97]) dn fl = dA dn fl 0 0 := by
  have e : createD (newD 1048576) [97] = ⟨1048576, [([], 0)], [([97], 0)], [], [([], [97], 0)], 1, -1, -1, false⟩ := by kernel_rfl
  unfold armD
  rw [e]
  have l1 : latD 1 dn = 1 + dn := by unfold latD; rw [if_neg (by omega)]
  have l2 : latD 1 fl = 1 + fl := by unfold latD; rw [if_neg (by omega)]
  simp only [l1, l2, dA]
  simp
theorem dA_opE (dn fl i sz : Nat) : opE (dA dn fl i sz) = if dn ≤ i then 8 else if i = fl then 7 else 0 := by
  unfold opE dA
  simp only
  by_cases h1 : dn ≤ i
  · rw [if_pos h1, if_pos (.inr ⟨by omega, by omega⟩)]
  · rw [if_neg h1, if_neg (by simp; omega)]
    by_cases h2 : i = fl
    · rw [if_pos h2, if_pos ⟨by omega, by omega⟩]
    · rw [if_neg h2, if_neg (by omega)]
theorem dA_get (dn fl i sz : Nat) : nget (dA dn fl i sz).names [97] = some 0 := by unfold dA; rfl
theorem dA_size (dn fl i sz : Nat) : sizeD (dA dn fl i sz) = sz := by simp [sizeD, dA]
theorem dA_opD (dn fl i sz : Nat) : opD (dA dn fl i sz) = dA dn fl (i + 1) sz := by
  unfold opD dA
  simp only [Dsk.mk.injEq, true_and]
  refine ⟨by omega, ?_⟩
  rw [Bool.eq_iff_iff]
  simp
  omega
theorem dA_append (dn fl i sz : Nat) (hs : sz ≤ 1000) : appendE (dA dn fl i sz) [97] [1] = (if dn ≤ i then 8 else if i = fl then 7 else 0) ∧
    appendD (dA dn fl i sz) [97] [1] = dA dn fl (i + 1) (if dn ≤ i ∨ i = fl then sz else sz + 1) := by
  have hE : appendE (dA dn fl i sz) [97] [1] = (if dn ≤ i then 8 else if i = fl then 7 else 0) := by
    unfold appendE
    rw [dA_opE, dA_get, dA_size]
    by_cases h1 : dn ≤ i
    · simp [h1]
    · by_cases h2 : i = fl
      · rw [if_neg h1, if_pos h2]; simp
      · have : (dA dn fl i sz).room = 1048576 := rfl
        simp [h1, h2, this]; omega
  refine ⟨hE, ?_⟩
  unfold appendD
  rw [hE, dA_get]
  by_cases h1 : dn ≤ i
  · rw [if_pos h1, if_pos (by decide), if_pos (.inl h1), dA_opD]
  · by_cases h2 : i = fl
    · rw [if_neg h1, if_pos h2, if_pos (by decide), if_pos (.inr h2), dA_opD]
    · rw [if_neg h1, if_neg h2, if_neg (by simp), if_neg (by omega)]
      rw [dA_opD]
      unfold setF dA
      simp [List.replicate_succ']
theorem dA_crash (dn fl sz : Nat) : opE (crashD (dA dn fl 30 sz) 1 [5]) = 0 ∧ syncE (crashD (dA dn fl 30 sz) 1 [5]) [97] = 0 ∧ (bytesD (crashD (dA dn fl 30 sz) 1 [5]) [97]).length = min sz 5 ∧ (opD (crashD (dA dn fl 30 sz) 1 [5])).off = false ∧ (crashD (dA dn fl 30 sz) 1 [5]).ops = 31 := by
  have hn : ((dA dn fl 30 sz).changes.take (min (max 1 0) ((dA dn fl 30 sz).changes.length : Int)).toNat).foldl turnD (dA dn fl 30 sz).sure = [([97], 0)] := rfl
  have hc : ∃ m, cutF (dA dn fl 30 sz).files [5] = [(List.replicate m 1, 0)] ∧ m = min sz 5 := by
    unfold dA cutF
    by_cases h : 0 < sz
    · refine ⟨min sz 5, ?_, rfl⟩
      simp only [List.length_replicate]
      rw [if_pos h, List.take_replicate]
      simp only [cutF, List.headD_cons]
      congr 3
      omega
    · refine ⟨sz, ?_, by omega⟩
      simp only [List.length_replicate]
      rw [if_neg h]
      rfl
  obtain ⟨m, hm, hm2⟩ := hc
  have e : crashD (dA dn fl 30 sz) 1 [5] = ⟨1048576, [(List.replicate m 1, m)], [([97], 0)], [([97], 0)], [], 31, -1, -1, false⟩ := by
    unfold crashD
    rw [hn, hm]
    unfold settleD dA
    have h1 : keepF [([97], 0)] [(List.replicate m (1 : UInt8), 0)] 1 = [(List.replicate m 1, m)] := by
      unfold keepF
      have : (List.range 1).filter (namedN [([97], 0)]) = [0] := by decide
      rw [this]; simp
    have h2 : movedN [([97], 0)] = [([97], 0)] := by decide
    simp only [List.length_cons, List.length_nil, h1, h2]
    rfl
  rw [e, ← hm2]
  refine ⟨rfl, rfl, ?_, rfl, rfl⟩
  show (List.replicate m (1 : UInt8)).length = m
  simp

theorem Bs.lit1 (w : World) : Bs (w.alloc (.cells #[.int .u8 1] 5)) (.slice (some ⟨w.heap.size, 0, none⟩) 1 1) [1] := (OwB.one w w.heap.size 1 1 rfl (Nat.le_refl _)).bs
theorem Size_dk {w : World} {fp : List Nat} {b : Nat} {d : Dsk} (h : Dk w fp b d) : Calls Try.prog 35 #[.pointer (some ⟨b, 0, none⟩)] w fun e w' => e = .returned (.int .i64 (sizeD d : Int)) ∧ Chg [] w w' :=
  let ⟨_, _, _, _, _, h⟩ := h; Size_any h
set_option maxRecDepth 100000 in
set_option maxHeartbeats 2000000 in
theorem DiskArms_law (n k : UInt8) (w : World) : Calls Try.prog 8 #[.int .u8 (n8 n), .int .u8 (n8 k)] w fun e w' => e = .returned (.bool true) ∧ Chg [] w w' := by
  have n0 := n8_lo n
  have n1 := n8_hi n
  have k0 := n8_lo k
  have k1 := n8_hi k
  go_enter Try.func8, Try.ntmps8
  go_wp2_with fail
  refine (fit17_any _).mono ?_
  rintro e w1 ⟨rfl, hc⟩
  go_upto_region 4 with (fail)
  obtain ⟨dn, hdn⟩ : ∃ dn : Nat, n8 n % 20 = (dn : Int) := ⟨(n8 n % 20).toNat, by omega⟩
  obtain ⟨fl, hfl⟩ : ∃ fl : Nat, n8 k % 24 = (fl : Int) := ⟨(n8 k % 24).toNat, by omega⟩
  have hd4 : dn < 20 := by omega
  have hf4 : fl < 24 := by omega
  rw [hdn, hfl]
  have hst := dA_start dn fl hd4 hf4
  have HST := hd hst
  clear hdn hfl hst n0 n1 k0 k1
  go_wp2_with fail
  refine (DNew_any _ 1048576 (by decide)).mono ?_
  rintro e w2 ⟨b, fp, rfl, hk2, hc2, hf2⟩
  replace hc2 := hc.k hc2
  replace hf2 := fun k hk => Nat.le_trans hc.size (hf2 k hk)
  clear hc
  go_wp2_with fail
  refine (Create_any hk2 [97] (by decide) (by decide)).mono ?_
  rintro e w3 ⟨rfl, h⟩
  obtain ⟨fp3, hk3, hc3, hf3⟩ := h.ds hc2 hf2
  have hal : Hd ((createD (newD 1048576) [97]).ops = 1) := hd (by kernel_rfl)
  generalize createE (newD 1048576) [97] = e1
  clear h hk2 hc2 hf2
  go_wp2_with fail
  refine (Arm_any hk3 dn fl).mono ?_
  rintro e w4 ⟨rfl, h⟩
  rw [HST.out] at h
  obtain ⟨fp4, hk4, hc4, hf4'⟩ := h.ds hc3 hf3
  clear h hk3 hc3 hf3 hal HST
  go_wp2_with fail
  refine (Ops_any hk4).mono ?_
  rintro e wx ⟨rfl, rfl⟩
  have ho4 : (dA dn fl 0 0).ops = 1 := rfl
  rw [ho4]
  have HS : Hd (DS w w4 b (dA dn fl 0 0)) := hd ⟨fp4, hk4, hc4, hf4'⟩
  clear hk4 hc4 hf4' ho4
  go_wp2_with fail
  go_loopw [9, 10, 11, 31] (fun t9 _ _ t31 wr => ∃ i sz : Nat, i ≤ 30 ∧ sz ≤ i ∧ t31 = .int .i64 i ∧ t9 = .int .i64 sz ∧ Hd (DS w wr b (dA dn fl i sz))) (fun _ _ _ t31 _ => 30 - (intOf t31).toNat)
  case atStart => exact ⟨0, 0, by omega, by omega, rfl, rfl, HS⟩
  case round =>
    obtain ⟨i, sz, hi, hs, rfl, rfl, hS⟩ := hrel
    by_cases hil : i < 30
    · obtain ⟨fpx, hkx, hcx, hfx⟩ := hS.out
      obtain ⟨hAE, hAD⟩ := dA_append dn fl i sz (by omega)
      have hop : (dA dn fl i sz).ops < 1073741824 := by show (1 : Int) + i < _; omega
      have hrm : (dA dn fl i sz).room ≤ 4294967296 := by show (1048576 : Int) ≤ _; decide
      clear hS HS
      have kx := Bs.lit1 wr
      have HAE := hd hAE
      have HAD := hd hAD
      have HOPS := hd hop
      have HRM := hd hrm
      clear hAE hAD hop hrm
      go_upto_region 12 with (fail)
      have hAE := HAE.out
      have hAD := HAD.out
      have hop := HOPS.out
      have hrm := HRM.out
      clear HAE HAD HOPS HRM
      have hcA := (Chg.refl [] wr).alloc (.cells #[.int .u8 1] 5)
      have hlow : ∀ k, (Value.slice (some ⟨wr.heap.size, 0, none⟩) 1 1).ownBlock = some k → k ∉ fpx := by
        simp only [Value.ownBlock]; rintro k ⟨rfl⟩ hk; have := hkx.fpl _ hk; omega
      have hap := Append_any (hkx.k hcA) [97] (by decide) hop _ [1] kx (by decide) (fun _ => hlow) (.inr hrm)
      have hcy := hcx.k hcA
      clear hlow hkx hcx hcA kx hop hrm
      by_cases h1 : dn ≤ i
      · have h1' : (dn : Int) ≤ (i : Int) := by omega
        have hAE1 : appendE (dA dn fl i sz) [97] [1] = 8 := by rw [hAE, if_pos h1]
        have hAD1 : appendD (dA dn fl i sz) [97] [1] = dA dn fl (i + 1) sz := by rw [hAD, if_pos (.inl h1)]
        rw [hAE1] at hap
        rw [hAD1] at hap
        have HAP := hd hap
        clear hap hAE hAD hAE1 hAD1
        go_wp2_with fail
        refine (HAP.out).mono ?_
        rintro e w6 ⟨rfl, h⟩
        obtain ⟨fp6, hk6, hc6, hf6⟩ := h.ds hcy hfx
        have hof : (dA dn fl (i + 1) sz).off = decide (dn < i + 1) := rfl
        have hop1 : (dA dn fl (i + 1) sz).ops = 1 + (i : Int) + 1 := by show (1 : Int) + ((i + 1 : Nat) : Int) = _; omega
        have hsz1 := dA_size dn fl (i + 1) sz
        have HOF := hd hof
        have HOP := hd hop1
        have HSZ := hd hsz1
        have HK6 := hd hk6
        have HFIN : Hd (DS w w6 b (dA dn fl (i + 1) sz)) := hd ⟨fp6, hk6, hc6, hf6⟩
        clear h hof hop1 hsz1 hk6 hc6 hf6 HAP hcy hfx
        go_wp2_with fail
        refine (Down_any HK6.out).mono ?_
        rintro e w7 ⟨rfl, rfl⟩
        rw [HOF.out, decide_eq_true (show dn < i + 1 by omega)]
        go_wp2_with fail
        refine (Size_dk HK6.out).mono ?_
        rintro e w7 ⟨rfl, hc7⟩
        rw [HSZ.out]
        replace HK6 := hd (HK6.out.k hc7)
        replace HFIN := hd (HFIN.out.k hc7)
        clear hc7
        go_wp2_with fail
        refine (Ops_any HK6.out).mono ?_
        rintro e w8 ⟨rfl, rfl⟩
        rw [HOP.out]
        go_wp2_with fail
        go_roundw
        case rel => exact ⟨i + 1, sz, by omega, by omega, by go_num, by first | rfl | go_num, HFIN⟩
        case measure => simp [intOf]; omega
      by_cases h2 : i = fl
      · have h1' : ¬ (dn : Int) ≤ (i : Int) := by omega
        have h2' : ((i : Int) == (fl : Int)) = true := by rw [beq_iff_eq]; omega
        have hAE1 : appendE (dA dn fl i sz) [97] [1] = 7 := by rw [hAE, if_neg h1, if_pos h2]
        have hAD1 : appendD (dA dn fl i sz) [97] [1] = dA dn fl (i + 1) sz := by rw [hAD, if_pos (.inr h2)]
        have H2 := hd h2
        clear h2
        rw [hAE1] at hap
        rw [hAD1] at hap
        have HAP := hd hap
        clear hap hAE hAD hAE1 hAD1
        go_wp2_with fail
        refine (HAP.out).mono ?_
        rintro e w6 ⟨rfl, h⟩
        obtain ⟨fp6, hk6, hc6, hf6⟩ := h.ds hcy hfx
        have hof : (dA dn fl (i + 1) sz).off = decide (dn < i + 1) := rfl
        have hop1 : (dA dn fl (i + 1) sz).ops = 1 + (i : Int) + 1 := by show (1 : Int) + ((i + 1 : Nat) : Int) = _; omega
        have hsz1 := dA_size dn fl (i + 1) sz
        have HOF := hd hof
        have HOP := hd hop1
        have HSZ := hd hsz1
        have HK6 := hd hk6
        have HFIN : Hd (DS w w6 b (dA dn fl (i + 1) sz)) := hd ⟨fp6, hk6, hc6, hf6⟩
        clear h hof hop1 hsz1 hk6 hc6 hf6 HAP hcy hfx
        go_wp2_with fail
        refine (Size_dk HK6.out).mono ?_
        rintro e w7 ⟨rfl, hc7⟩
        rw [HSZ.out]
        replace HK6 := hd (HK6.out.k hc7)
        replace HFIN := hd (HFIN.out.k hc7)
        clear hc7
        go_wp2_with fail
        refine (Ops_any HK6.out).mono ?_
        rintro e w8 ⟨rfl, rfl⟩
        rw [HOP.out]
        go_wp2_with fail
        go_roundw
        case rel => exact ⟨i + 1, sz, by omega, by omega, by go_num, by first | rfl | go_num, HFIN⟩
        case measure => simp [intOf]; omega
      · have h1' : ¬ (dn : Int) ≤ (i : Int) := by omega
        have h2' : ((i : Int) == (fl : Int)) = false := by rw [beq_eq_false_iff_ne]; omega
        have hAE1 : appendE (dA dn fl i sz) [97] [1] = 0 := by rw [hAE, if_neg h1, if_neg h2]
        have hAD1 : appendD (dA dn fl i sz) [97] [1] = dA dn fl (i + 1) (sz + 1) := by rw [hAD, if_neg (by omega)]
        have H2 := hd h2
        clear h2
        rw [hAE1] at hap
        rw [hAD1] at hap
        have HAP := hd hap
        clear hap hAE hAD hAE1 hAD1
        go_wp2_with fail
        refine (HAP.out).mono ?_
        rintro e w6 ⟨rfl, h⟩
        obtain ⟨fp6, hk6, hc6, hf6⟩ := h.ds hcy hfx
        have hof : (dA dn fl (i + 1) (sz + 1)).off = decide (dn < i + 1) := rfl
        have hop1 : (dA dn fl (i + 1) (sz + 1)).ops = 1 + (i : Int) + 1 := by show (1 : Int) + ((i + 1 : Nat) : Int) = _; omega
        have hsz1 := dA_size dn fl (i + 1) (sz + 1)
        have HOF := hd hof
        have HOP := hd hop1
        have HSZ := hd hsz1
        have HK6 := hd hk6
        have HFIN : Hd (DS w w6 b (dA dn fl (i + 1) (sz + 1))) := hd ⟨fp6, hk6, hc6, hf6⟩
        clear h hof hop1 hsz1 hk6 hc6 hf6 HAP hcy hfx
        go_wp2_with fail
        refine (Size_dk HK6.out).mono ?_
        rintro e w7 ⟨rfl, hc7⟩
        rw [HSZ.out]
        replace HK6 := hd (HK6.out.k hc7)
        replace HFIN := hd (HFIN.out.k hc7)
        clear hc7
        go_wp2_with fail
        refine (Ops_any HK6.out).mono ?_
        rintro e w8 ⟨rfl, rfl⟩
        rw [HOP.out]
        go_wp2_with fail
        go_roundw
        case rel => exact ⟨i + 1, (sz + 1), by omega, by omega, by go_num, by first | rfl | go_num, HFIN⟩
        case measure => simp [intOf]; omega
    · obtain rfl : i = 30 := by omega
      obtain ⟨c1, c2, c3, c4, c5⟩ := dA_crash dn fl sz
      obtain ⟨fpx, hkx, hcx, hfx⟩ := hS.out
      clear hS HS
      go_upto_region 25 with (fail)
      have hlit := Fs.lit wr [5] #[.int .i64 5] 3 1 rfl rfl (by simp)
      have hcA := (Chg.refl [] wr).alloc (.cells #[.int .i64 5] 3)
      have hlow : ∀ k, (Value.slice (some ⟨wr.heap.size, 0, none⟩) 1 1).ownBlock = some k → k ∉ fpx := by
        simp only [Value.ownBlock]; rintro k ⟨rfl⟩ hk; have := hkx.fpl _ hk; omega
      have hcr := Crash_any (hkx.k hcA) 1 _ [5] hlit hlow
      have hcy := hcx.k hcA
      clear hlow hkx hcx hcA hlit
      go_wp2_with fail
      refine (hcr).mono ?_
      rintro e w6 ⟨rfl, h⟩
      obtain ⟨fp6, hk6, hc6, hf6⟩ := h.ds hcy hfx
      clear h hcr hcy hfx
      generalize crashD (dA dn fl 30 sz) 1 [5] = d1 at *
      go_wp2_with fail
      refine (Read_any hk6 [97] (by decide) (by omega)).mono ?_
      rintro e w7 ⟨ao7, n7, c7, rfl, hb7, hk7, hc7⟩
      have hfin := (DS.same hk7 hk6 hc6 hf6 hc7).chg
      rw [c2, if_pos rfl] at hb7
      rw [c2]
      obtain ⟨ao', c', e⟩ := hb7.form
      simp only [Value.slice.injEq] at e
      obtain ⟨rfl, rfl, rfl⟩ := e
      rw [c3]
      have HFIN := hd hfin
      have HC4 := hd c4
      have HK7 := hd hk7
      clear hfin hk6 hc6 hf6 hb7 hk7 hc7 c1 c2 c3 c5 c4
      have hm : (if (5 : Int) < (sz : Int) then (5 : Int) else (sz : Int)) = ((min sz 5 : Nat) : Int) := by split <;> omega
      by_cases h5 : 5 < sz
      · have h5' : min sz 5 = 5 := by omega
        have h5'' : (5 : Int) < (sz : Int) := by omega
        rw [h5']
        clear hm h5' h5
        have hmin : min (sz : Int) 5 = 5 := by omega
        clear h5''
        go_wp2_with fail
        refine (Down_any HK7.out).mono ?_
        rintro e w8 ⟨rfl, rfl⟩
        rw [HC4.out]
        go_wp2_with fail
        go_ret
        exact ⟨rfl, HFIN.out⟩
      · have h5' : min sz 5 = sz := by omega
        have h5'' : ¬ (5 : Int) < (sz : Int) := by omega
        rw [h5']
        clear hm h5' h5
        have hmin : min (sz : Int) 5 = (sz : Int) := by omega
        clear h5''
        go_wp2_with fail
        refine (Down_any HK7.out).mono ?_
        rintro e w8 ⟨rfl, rfl⟩
        rw [HC4.out]
        go_wp2_with fail
        go_ret
        exact ⟨rfl, HFIN.out⟩
end Go.Proofs.Ytpoohpmcopjklaa

/- The disk of DiskNames, as plain data. -/
namespace Go.Proofs.Ytpoohpmcopjklaa
open Go.RowKit

def nmF (i : Nat) : List UInt8 := [102, UInt8.ofNat (97 + i / 10), UInt8.ofNat (48 + i % 10)]
theorem nmF_ok : ∀ i, i < 70 → nameD (nmF i) = true ∧ nmF i ≠ [] ∧ (nmF i).length = 3 := by decide
theorem nmF_inj : ∀ i, i < 70 → ∀ j, j < 70 → nmF i = nmF j → i = j := by
  intro i hi j hj h
  unfold nmF at h
  simp only [List.cons.injEq, true_and, and_true] at h
  have h1 := congrArg UInt8.toNat h.1
  have h2 := congrArg UInt8.toNat h.2
  simp only [UInt8.toNat_ofNat', Nat.reducePow] at h1 h2
  omega
theorem nmF_z : ∀ j, j < 70 → ([122] : List UInt8) ≠ nmF j := by
  intro j _ h
  unfold nmF at h
  simp at h
def nmsF (m : Nat) : Nm := (List.range m).map fun j => (nmF j, j)
def dN (m : Nat) (ops : Int) : Dsk := ⟨10, List.replicate m ([], 0), nmsF m, [], (List.range m).map fun j => ([], nmF j, j), ops, -1, -1, false⟩
theorem nmsF_length (m : Nat) : (nmsF m).length = m := by simp [nmsF]
theorem nmsF_none {m : Nat} {s : List UInt8} (h : ∀ j, j < m → s ≠ nmF j) : nget (nmsF m) s = none := by
  unfold nget
  rw [Option.map_eq_none_iff, List.find?_eq_none]
  intro p hp
  obtain ⟨j, hj, rfl⟩ := List.mem_map.1 hp
  have := h j (List.mem_range.1 hj)
  simpa using fun e => this e.symm
theorem ndel_none {es : Nm} {s : List UInt8} (h : nget es s = none) : ndel es s = es := by
  unfold ndel
  rw [List.filter_eq_self]
  intro p hp
  unfold nget at h
  rw [Option.map_eq_none_iff, List.find?_eq_none] at h
  have := h p hp
  simpa using this
theorem dN_opE (m : Nat) (ops : Int) : opE (dN m ops) = 0 := opE_of rfl rfl rfl
theorem dN_opD (m : Nat) (ops : Int) : opD (dN m ops) = dN m (ops + 1) := rfl
theorem dN_createE {m : Nat} {ops : Int} {s : List UInt8} (hm : m ≤ 64) (hs : nameD s = true) (hno : ∀ j, j < m → s ≠ nmF j) : createE (dN m ops) s = if m < 64 then 0 else 3 := by
  unfold createE
  have h1 : nget (dN m ops).names s = none := nmsF_none hno
  have h2 : (dN m ops).names.length = m := nmsF_length m
  rw [dN_opE, h1, h2]
  by_cases h : m < 64
  · rw [if_pos h, if_neg (by decide), if_neg (by simp [hs]), if_neg (by simp), if_neg (by omega)]
  · rw [if_neg h, if_neg (by decide), if_neg (by simp [hs]), if_neg (by simp), if_pos (by omega)]
theorem dN_create {i : Nat} (hi : i < 70) : createE (dN (min i 64) i) (nmF i) = (if i < 64 then 0 else 3) ∧ createD (dN (min i 64) i) (nmF i) = dN (min (i + 1) 64) ((i + 1 : Nat) : Int) := by
  have hno : ∀ j, j < min i 64 → nmF i ≠ nmF j := fun j hj e => by have := nmF_inj i hi j (by omega) e; omega
  have hE := dN_createE (m := min i 64) (ops := (i : Int)) (by omega) (nmF_ok i hi).1 hno
  have hE2 : createE (dN (min i 64) i) (nmF i) = (if i < 64 then 0 else 3) := by
    rw [hE]
    by_cases h : i < 64
    · rw [if_pos (by omega), if_pos h]
    · rw [if_neg (by omega), if_neg h]
  refine ⟨hE2, ?_⟩
  unfold createD
  rw [hE2]
  by_cases h : i < 64
  · rw [if_pos h, if_neg (by decide)]
    have e1 : min i 64 = i := by omega
    have e2 : min (i + 1) 64 = i + 1 := by omega
    rw [e1] at hno ⊢
    rw [e2]
    unfold changeD turnD
    simp only [if_true, (nmF_ok i hi).2.1]
    have hnd : ndel (dN i i).names (nmF i) = nmsF i := ndel_none (nmsF_none hno)
    unfold nput
    rw [show ndel (opD (dN i ↑i)).names (nmF i) = nmsF i from hnd]
    unfold dN opD
    simp only [Dsk.mk.injEq, true_and]
    refine ⟨by rw [List.replicate_succ'], by rw [List.length_replicate]; simp [nmsF, List.range_succ], by rw [List.length_replicate]; simp [List.range_succ], by omega, by simp⟩
  · rw [if_neg h, if_pos (by decide)]
    have e1 : min i 64 = 64 := by omega
    have e2 : min (i + 1) 64 = 64 := by omega
    rw [e1, e2, dN_opD]
    congr 1
theorem dN_remove {m : Nat} {ops : Int} (h0 : 0 < m) (hm : m ≤ 64) : removeE (dN m ops) [102, 97, 48] = 0 ∧ createE (removeD (dN m ops) [102, 97, 48]) [122] = 0 ∧ (removeD (dN m ops) [102, 97, 48]).ops = ops + 1 := by
  have hg : nget (nmsF m) [102, 97, 48] = some 0 := by
    have hn : ((nmsF m).map (·.1)).Nodup := by
      unfold nmsF
      rw [List.map_map]
      refine List.pairwise_map.2 (List.Pairwise.imp_of_mem ?_ (List.pairwise_lt_range (n := m)))
      intro a b ha hb hab e
      have ha := List.mem_range.1 ha
      have hb := List.mem_range.1 hb
      have := nmF_inj a (by omega) b (by omega) e
      omega
    exact mem_nget hn (List.mem_map.2 ⟨0, List.mem_range.2 h0, rfl⟩)
  have hE : removeE (dN m ops) [102, 97, 48] = 0 := by
    unfold removeE
    rw [dN_opE, show nget (dN m ops).names [102, 97, 48] = some 0 from hg]
    rfl
  refine ⟨hE, ?_, ?_⟩
  · unfold removeD
    rw [hE, if_neg (by decide)]
    have hnames : (changeD (opD (dN m ops)) ([102, 97, 48], [], 0)).names = ndel (nmsF m) [102, 97, 48] := rfl
    unfold createE
    rw [hnames]
    have h1 : opE (changeD (opD (dN m ops)) ([102, 97, 48], [], 0)) = 0 := opE_of rfl rfl rfl
    have h2 : nget (ndel (nmsF m) [102, 97, 48]) [122] = none := by
      rw [nget_del_other (by decide)]
      exact nmsF_none fun j hj => nmF_z j (by omega)
    have h3 : (ndel (nmsF m) [102, 97, 48]).length < 64 := by
      have hn : ((nmsF m).map (·.1)).Nodup := by
        unfold nmsF
        rw [List.map_map]
        refine List.pairwise_map.2 (List.Pairwise.imp_of_mem ?_ (List.pairwise_lt_range (n := m)))
        intro a b ha hb hab e
        have ha := List.mem_range.1 ha
        have hb := List.mem_range.1 hb
        have := nmF_inj a (by omega) b (by omega) e
        omega
      have := length_ndel hn [102, 97, 48]
      rw [hg, nmsF_length] at this
      simp at this
      omega
    rw [h1, h2, if_neg (by decide), if_neg (by decide), if_neg (by decide), if_neg (by omega)]
  · unfold removeD
    rw [hE, if_neg (by decide)]
    rfl
theorem sortN_lt {es : Nm} (hn : (es.map (·.1)).Nodup) (i : Nat) (hi : i + 1 < (sortN es).length) : Op.bytesLess (sortN es)[i] (sortN es)[i + 1] = true := by
  rw [bytesLess_eq, decide_eq_true_eq]
  have tr : ∀ a b c : List UInt8, decide (a ≤ b) = true → decide (b ≤ c) = true → decide (a ≤ c) = true := fun a b c h1 h2 => by simp only [decide_eq_true_eq] at *; exact List.le_trans h1 h2
  have tot : ∀ a b : List UInt8, (decide (a ≤ b) || decide (b ≤ a)) = true := fun a b => by simp only [Bool.or_eq_true, decide_eq_true_eq]; exact List.le_total a b
  have hp := List.pairwise_mergeSort tr tot (es.map (·.1))
  have hle := (List.pairwise_iff_getElem.1 hp) i (i + 1) (by unfold sortN at hi; omega) (by unfold sortN at hi; omega) (by omega)
  have hnd : (sortN es).Nodup := (sortN_perm es).nodup_iff.2 hn
  have hne := (List.pairwise_iff_getElem.1 hnd) i (i + 1) (by omega) hi (by omega)
  have hle' : (sortN es)[i] ≤ (sortN es)[i + 1] := by
    simp only [decide_eq_true_eq] at hle
    exact hle
  rcases List.le_iff_lt_or_eq.1 hle' with h | h
  · exact h
  · exact absurd h hne
end Go.Proofs.Ytpoohpmcopjklaa

/- DiskNames: the walk. -/
namespace Go.Proofs.Ytpoohpmcopjklaa
open Go.RowKit

theorem n8_ofNat (m : Nat) (h : m < 256) : n8 (UInt8.ofNat m) = (m : Int) := by
  unfold n8; rw [UInt8.toNat_ofNat', Nat.mod_eq_of_lt (by omega)]
theorem nmF_lit (w : World) (i : Nat) (hi : i < 70) : Bs (w.alloc (.cells #[.int .u8 (97 + (i : Int) / 10), .int .u8 (48 + (i : Int) % 10)] 5)) (.slice (some ⟨w.heap.size, 0, none⟩) 2 2) [UInt8.ofNat (97 + i / 10), UInt8.ofNat (48 + i % 10)] := by
  refine (OwB.lit w w.heap.size [UInt8.ofNat (97 + i / 10), UInt8.ofNat (48 + i % 10)] _ ?_ (Nat.le_refl _) (by simp)).bs
  have e1 := n8_ofNat (97 + i / 10) (by omega)
  have e2 := n8_ofNat (48 + i % 10) (by omega)
  simp only [List.map_cons, List.map_nil, vb, e1, e2]
  congr 3 <;> omega
theorem nmF_cat (i : Nat) : (⟨#[102]⟩ : ByteArray) ++ strB [UInt8.ofNat (97 + i / 10), UInt8.ofNat (48 + i % 10)] = strB (nmF i) := by
  apply ByteArray.ext
  simp [strB, nmF]
set_option maxRecDepth 100000 in
set_option maxHeartbeats 2000000 in
theorem DiskNames_law (s0 : ByteArray) (n : UInt8) (w : World) (_hs : s0.size ≤ 140737488351232) : Calls Try.prog 7 #[.string s0, .int .u8 (n8 n)] w fun e w' => e = .returned (.bool true) ∧ Chg [] w w' := by
  have n0 := n8_lo n
  have n1 := n8_hi n
  obtain ⟨s, rfl⟩ : ∃ s, s0 = strB s := ⟨_, (strB_ofData s0).symm⟩
  have hsz : (strB s).size = s.length := strB_size s
  rw [hsz] at _hs
  go_enter Try.func7, Try.ntmps7
  go_wp2_with fail
  refine (fit17_any _).mono ?_
  rintro e w1 ⟨rfl, hc⟩
  by_cases h200 : s.length ≤ 200
  case neg =>
    have h200' : (200 : Int) < (s.length : Int) := by omega
    go_wp2_with fail
    go_ret
    exact ⟨rfl, hc⟩
  have h200' : ¬ (200 : Int) < (s.length : Int) := by omega
  obtain ⟨R0, hR0⟩ : ∃ R0, (decide (s ≠ []) && decide (s.length ≤ 24)) = R0 := ⟨_, rfl⟩
  have HR0 := hd hR0
  have hse : s = [] ↔ s.length = 0 := by cases s <;> simp
  have HSE := hd hse
  clear hR0 hse
  go_upto_region 5 with (fail)
  clear h200'
  go_cut [5] from 17 (fun t5 wx => t5 = .bool R0 ∧ wx = w1)
  case first =>
    by_cases hl1 : (1 : Int) ≤ (s.length : Int)
    · by_cases hl2 : (s.length : Int) ≤ 24
      · have hr : R0 = true := by
          rw [← HR0.out, decide_eq_true (show s ≠ [] from fun e => by have := HSE.out.1 e; omega), decide_eq_true (by omega)]; rfl
        have HR := hd hr
        clear hr
        go_wp2_with fail
        go_meet
        case rel => exact ⟨by rw [HR.out], rfl⟩
      · have hr : R0 = false := by
          rw [← HR0.out, decide_eq_false (show ¬ s.length ≤ 24 by omega)]; simp
        have HR := hd hr
        clear hr
        go_wp2_with fail
        go_meet
        case rel => exact ⟨by rw [HR.out], rfl⟩
    · have hr : R0 = false := by
        have h0 : s = [] := HSE.out.2 (by omega)
        rw [← HR0.out, h0]; rfl
      have HR := hd hr
      clear hr
      go_wp2_with fail
      go_meet
      case rel => exact ⟨by rw [HR.out], rfl⟩
  case rest =>
    obtain ⟨rfl, rfl⟩ := hcut
    go_wp2_with fail
    go_loopw [5, 6, 7, 32] (fun t5 _ _ t32 wr => ∃ k : Nat, k ≤ s.length ∧ t32 = .int .i64 k ∧ t5 = .bool (R0 && (s.take k).all signD) ∧ wr = wc) (fun _ _ _ t32 _ => s.length - (intOf t32).toNat)
    case atStart => exact ⟨0, by omega, rfl, by simp, rfl⟩
    case round =>
      obtain ⟨k, hk, rfl, rfl, rfl⟩ := hrel
      by_cases hlt : k < s.length
      · have hsz2 : k < (strB s).size := by rw [hsz]; exact hlt
        have hlti : (k : Int) < (s.length : Int) := by omega
        go_upto_region 10 with (fail)
        obtain ⟨c, hcd⟩ : ∃ c, c = s[k]'hlt := ⟨_, rfl⟩
        have e1 : ((strB s)[k].toNat : Int) = n8 c := by rw [hcd]; unfold n8; congr 1
        rw [e1]
        have hall : (s.take (k + 1)).all signD = ((s.take k).all signD && signD c) := by
          rw [List.take_succ_eq_append_getElem hlt, List.all_append, hcd]; simp only [List.all_cons, List.all_nil, Bool.and_true]
        have hsg : signD c = ((decide (97 ≤ n8 c) && decide (n8 c ≤ 122)) || (decide (48 ≤ n8 c) && decide (n8 c ≤ 57)) || n8 c == 45) := by
          unfold signD n8
          rw [Bool.eq_iff_iff]
          simp
          omega
        have hz0 := n8_lo c
        have hz1 := n8_hi c
        have HSG := hd hsg
        have HALL := hd hall
        clear hsg hall e1 hsz2 hcd
        generalize n8 c = z at *
        generalize signD c = sg at *
        generalize (s.take k).all signD = q at *
        obtain ⟨pq, hpq⟩ : ∃ pq, (R0 && q) = pq := ⟨_, rfl⟩
        have HPQ := hd hpq
        rw [hpq]
        clear hpq
        by_cases hP : pq = true
        case neg =>
          obtain rfl : pq = false := by simpa using hP
          clear hP
          go_wp2_with fail
          go_roundw
          case rel => exact ⟨k + 1, by omega, by go_num, by rw [HALL.out, ← Bool.and_assoc, HPQ.out]; rfl, by trivial⟩
          case measure => simp [intOf]; omega
        subst hP
        by_cases h1 : z < 97
        · by_cases h3 : z < 48
          · by_cases h5 : z = 45
            · have h5' : (z == 45) = true := by simpa using h5
              have hs' : sg = true := by rw [HSG.out, h5']; simp
              have HS' := hd hs'
              clear hs'
              go_wp2_with fail
              go_roundw
              case rel => exact ⟨k + 1, by omega, by go_num, by rw [HALL.out, ← Bool.and_assoc, HPQ.out, HS'.out]; first | rfl | (simp; omega), by trivial⟩
              case measure => simp [intOf]; omega
            · have h5' : (z == 45) = false := by simpa using h5
              have hs' : sg = false := by rw [HSG.out, h5']; simp <;> omega
              have HS' := hd hs'
              clear hs'
              go_wp2_with fail
              go_roundw
              case rel => exact ⟨k + 1, by omega, by go_num, by rw [HALL.out, ← Bool.and_assoc, HPQ.out, HS'.out]; first | rfl | (simp; omega), by trivial⟩
              case measure => simp [intOf]; omega
          · by_cases h4 : 57 < z
            · have h5' : (z == 45) = false := by simp; omega
              have hs' : sg = false := by rw [HSG.out, h5']; simp <;> omega
              have HS' := hd hs'
              clear hs'
              go_wp2_with fail
              go_roundw
              case rel => exact ⟨k + 1, by omega, by go_num, by rw [HALL.out, ← Bool.and_assoc, HPQ.out, HS'.out]; first | rfl | (simp; omega), by trivial⟩
              case measure => simp [intOf]; omega
            · have hs' : sg = true := by rw [HSG.out]; simp <;> omega
              have HS' := hd hs'
              clear hs'
              go_wp2_with fail
              go_roundw
              case rel => exact ⟨k + 1, by omega, by go_num, by rw [HALL.out, ← Bool.and_assoc, HPQ.out, HS'.out]; first | rfl | (simp; omega), by trivial⟩
              case measure => simp [intOf]; omega
        · by_cases h2 : 122 < z
          · have h3 : ¬ z < 48 := by omega
            have h4 : 57 < z := by omega
            have h5' : (z == 45) = false := by simp; omega
            have hs' : sg = false := by rw [HSG.out, h5']; simp <;> omega
            have HS' := hd hs'
            clear hs'
            go_wp2_with fail
            go_roundw
            case rel => exact ⟨k + 1, by omega, by go_num, by rw [HALL.out, ← Bool.and_assoc, HPQ.out, HS'.out]; first | rfl | (simp; omega), by trivial⟩
            case measure => simp [intOf]; omega
          · have hs' : sg = true := by rw [HSG.out]; simp <;> omega
            have HS' := hd hs'
            clear hs'
            go_wp2_with fail
            go_roundw
            case rel => exact ⟨k + 1, by omega, by go_num, by rw [HALL.out, ← Bool.and_assoc, HPQ.out, HS'.out]; first | rfl | (simp; omega), by trivial⟩
            case measure => simp [intOf]; omega
      · obtain rfl : k = s.length := by omega
        have hN : (R0 && (s.take s.length).all signD) = nameD s := by
          rw [List.take_length, ← HR0.out]
          unfold nameD
          rw [Bool.and_comm]
        rw [hN]
        clear hN
        have hsl : s.length ≤ 140737488355328 := by omega
        have hCE : createE (newD 10) s = if nameD s = true then 0 else 2 := by
          unfold createE
          rw [opE_of rfl rfl rfl]
          have hg : nget (newD 10).names s = none := rfl
          rw [hg]
          by_cases hn : nameD s = true
          · rw [if_neg (by decide), if_neg (by simp [hn]), if_neg (by decide), if_neg (by decide), if_pos hn]
          · rw [if_neg (by decide), if_pos hn, if_neg hn]
        have HCE := hd hCE
        clear hCE hlt hk hsz n0 n1
        go_wp2_with fail
        refine (DNew_any wr 10 (by decide)).mono ?_
        rintro e w3 ⟨b3, fp3, rfl, hk3, hc3, hf3⟩
        go_wp2_with fail
        refine (Create_any hk3 s hsl (by decide)).mono ?_
        rintro e w4 ⟨rfl, h⟩
        obtain ⟨fp4, hk4, hc4, hf4⟩ := h.ds (hc.k hc3) (fun k hk => Nat.le_trans hc.size (hf3 k hk))
        have HC4 := hd hc4
        rw [HCE.out]
        clear h hk3 hc3 hf3 hc hk4 hc4 hf4 hsl
        go_upto_region 14 with (fail)
        go_cut [5, 9, 75] from 17 (fun _ _ t75 wx => t75 = .bool false ∧ wx = w4)
        case first =>
          by_cases hn : nameD s = true
          · rw [if_pos hn, hn]
            clear hn
            go_wp2_with fail
            go_meet
            case rel => exact ⟨rfl, rfl⟩
          · rw [if_neg hn]
            have hnf : nameD s = false := by simpa using hn
            rw [hnf]
            clear hn hnf
            go_wp2_with fail
            go_meet
            case rel => exact ⟨rfl, rfl⟩
        case rest =>
          obtain ⟨rfl, rfl⟩ := hcut
          have hc := HC4.out
          have n0 := n8_lo n
          have n1 := n8_hi n
          obtain ⟨K, hK⟩ : ∃ K : Nat, 60 + n8 n % 10 = (K : Int) := ⟨(60 + n8 n % 10).toNat, by omega⟩
          have hK1 : 60 ≤ K := by omega
          have hK2 : K ≤ 69 := by omega
          have hw1 : IntKind.i64.wrap (60 + n8 n % 10) = (K : Int) := by rw [IntWalk.i64_in _ (by omega)]; exact hK
          clear HC4 HCE HR0 HSE
          go_wp2_with fail
          refine (DNew_any wc 10 (by decide)).mono ?_
          rintro e w5 ⟨b, fp, rfl, hk5, hc5, hf5⟩
          have hS5 : DS w w5 b (dN (min 0 64) ((0 : Nat) : Int)) := ⟨fp, hk5, hc.k hc5, fun k hk => Nat.le_trans hc.size (hf5 k hk)⟩
          have HS5 := hd hS5
          clear hk5 hc5 hf5 hc hS5
          go_upto_region 18 with (fail)
          clear hK hw1 n0 n1
          go_wp2_with fail
          go_loopw [12, 13, 82] (fun _ _ t82 wr => ∃ i : Nat, i ≤ K ∧ t82 = .int .i64 i ∧ Hd (DS w wr b (dN (min i 64) (i : Nat)))) (fun _ _ t82 _ => K - (intOf t82).toNat)
          case atStart => exact ⟨0, by omega, rfl, HS5⟩
          case round =>
            obtain ⟨i, hi, rfl, hS⟩ := hrel
            by_cases hlt : i < K
            · have hlti : (i : Int) < (K : Int) := by omega
              obtain ⟨hCE, hCD⟩ := dN_create (i := i) (by omega)
              have HCE := hd hCE
              have HCD := hd hCD
              have hd0 : 0 ≤ (i : Int) / 10 := by omega
              have hd1 : (i : Int) / 10 ≤ 6 := by omega
              have hm0 : 0 ≤ (i : Int) % 10 := by omega
              have hm1 : (i : Int) % 10 ≤ 9 := by omega
              clear hCE hCD
              have hlit := run_str (nmF_lit wr i (by omega))
              have hcat := nmF_cat i
              have hTs : (strB [UInt8.ofNat (97 + i / 10), UInt8.ofNat (48 + i % 10)]).size = 2 := strB_size _
              generalize [UInt8.ofNat (97 + i / 10), UInt8.ofNat (48 + i % 10)] = T at *
              have HCAT := hd hcat
              clear hcat
              go_wp2_with fail
              rw [HCAT.out]
              obtain ⟨fpx, hkx, hcx, hfx⟩ := hS.out
              have hcA := (Chg.refl [] wr).alloc (.cells #[.int .u8 (97 + (i : Int) / 10), .int .u8 (48 + (i : Int) % 10)] 5)
              have hcr := Create_any (hkx.k hcA) (nmF i) (by rw [(nmF_ok i (by omega)).2.2]; decide) (by show (i : Int) < _; omega)
              rw [HCE.out, HCD.out] at hcr
              replace hcx := hcx.k hcA
              clear hcA hkx hlit hTs
              refine (hcr).mono ?_
              rintro e w6 ⟨rfl, h⟩
              have HS6 := hd (h.ds hcx hfx)
              clear h hcr hcx hfx hS
              by_cases h64 : i < 64
              · have h64' : (i : Int) < 64 := by omega
                rw [if_pos h64]
                clear h64
                go_wp2_with fail
                go_roundw
                case rel => exact ⟨i + 1, by omega, by go_num, HS6⟩
                case measure => simp [intOf]; omega
              · have h64' : ¬ (i : Int) < 64 := by omega
                rw [if_neg h64]
                clear h64
                go_wp2_with fail
                go_roundw
                case rel => exact ⟨i + 1, by omega, by go_num, HS6⟩
                case measure => simp [intOf]; omega
            · obtain rfl : i = K := by omega
              obtain ⟨fpx, hkx, hcx, hfx⟩ := hS.out
              obtain ⟨m, hm⟩ : ∃ m, m = min i 64 := ⟨_, rfl⟩
              rw [← hm] at hkx
              have hm1 : 60 ≤ m := by omega
              have hm2 : m ≤ 64 := by omega
              have hmi : min (i : Int) 64 = (m : Int) := by omega
              have HM := hd hm
              have HMI := hd hmi
              clear hS HS5 hm hmi
              go_wp2_with fail
              refine (List_any hkx (by show (i : Int) < _; omega)).mono ?_
              rintro e w6 hL
              obtain ⟨hk6, hc6, hL⟩ := hL
              rcases hL with ⟨hne, -⟩ | ⟨-, ao, c, rfl, hrow⟩
              · exact absurd (dN_opE _ _) hne
              have hD6 := DS.same hk6 hkx hcx hfx hc6
              rw [dN_opD] at hD6
              have hnl : (dN m (i : Int)).names.length = m := nmsF_length m
              have hnd : ((dN m (i : Int)).names.map (·.1)).Nodup := let ⟨_, _, _, _, _, hp⟩ := hkx; hp.names.nodup
              rw [hnl] at hrow ⊢
              have hex : ∃ L : List (List UInt8), L.length = m ∧ StrL w6 wr.heap.size (.slice ao m c) L ∧ ∀ j (hj : j + 1 < L.length), Op.bytesLess L[j] L[j + 1] = true := ⟨_, by rw [sortN_length, hnl], hrow, fun j hj => sortN_lt hnd j hj⟩
              clear hrow
              obtain ⟨L, hsl, hrow, hlts⟩ := hex
              have HLT := hd hlts
              have HSL := hd hsl
              have HROW := hd hrow
              have HD6 := hd hD6
              clear hlts hsl hrow hnd hnl hk6 hc6 hkx hcx hfx hD6
              go_wp2_with fail
              go_loopw [16, 119] (fun _ t119 wr => ∃ j : Nat, j ≤ m ∧ t119 = .int .i64 j ∧ Chg [] w6 wr) (fun _ t119 _ => m - (intOf t119).toNat)
              case atStart => exact ⟨0, by omega, rfl, Chg.refl _ _⟩
              case round =>
                obtain ⟨j, hj, rfl, hcj⟩ := hrel
                by_cases hjl : j < m
                · have hjl' : (j : Int) < (m : Int) := by omega
                  rcases j with _ | q
                  · go_upto_region 29 with (fail)
                    refine anyH_start (n := 14) (L := #[false, false, false, false, false, false, false, false, false, false, false, false, false, false]) (by kernel_rfl) (by kernel_rfl) (S := (fun wx => Chg [] w6 wx)) hcj.drew (fun hHeld => ?_)
                    refine anyH_take (i := 0) (d := 122) (L' := #[true, false, false, false, false, false, false, false, false, false, false, false, false, false]) (v := ?v8) rfl rfl (by kernel_rfl) (fun _ _ _ h => h) (by rfl) ?hy8 (by assumption) ?rest8
                    case hy8 => (intro wx hSw; (try dsimp only at hSw); (skip); go_simp; (try with_reducible rfl))
                    simp only [Act.put, List.setIfInBounds_toArray, List.set_cons_zero, List.set_cons_succ]
                    refine anyH_take (i := 1) (d := 123) (L' := #[true, true, false, false, false, false, false, false, false, false, false, false, false, false]) (v := ?v9) rfl rfl (by kernel_rfl) (fun _ _ _ h => h) (by rfl) ?hy9 (by assumption) ?rest9
                    case hy9 => (intro wx hSw; (try dsimp only at hSw); (skip); go_simp; (try with_reducible rfl))
                    simp only [Act.put, List.setIfInBounds_toArray, List.set_cons_zero, List.set_cons_succ]
                    refine anyH_take (i := 2) (d := 124) (L' := #[true, true, true, false, false, false, false, false, false, false, false, false, false, false]) (v := ?v10) rfl rfl (by kernel_rfl) (fun _ _ _ h => h) (by rfl) ?hy10 (by assumption) ?rest10
                    case hy10 => (intro wx hSw; (try dsimp only at hSw); (skip); go_simp; (try with_reducible rfl))
                    simp only [Act.put, List.setIfInBounds_toArray, List.set_cons_zero, List.set_cons_succ]
                    refine anyH_skip (i := 3) (d := 125) (L' := #[true, true, true, true, false, false, false, false, false, false, false, false, false, false]) rfl rfl (by kernel_rfl) (fun _ _ _ h => h) (by rfl) (by assumption) ?_
                    simp only [Act.put, List.setIfInBounds_toArray, List.set_cons_zero, List.set_cons_succ]
                    refine anyH_skip (i := 4) (d := 126) (L' := #[true, true, true, true, true, false, false, false, false, false, false, false, false, false]) rfl rfl (by kernel_rfl) (fun _ _ _ h => h) (by rfl) (by assumption) ?_
                    simp only [Act.put, List.setIfInBounds_toArray, List.set_cons_zero, List.set_cons_succ]
                    refine anyH_skip (i := 5) (d := 127) (L' := #[true, true, true, true, true, true, false, false, false, false, false, false, false, false]) rfl rfl (by kernel_rfl) (fun _ _ _ h => h) (by rfl) (by assumption) ?_
                    simp only [Act.put, List.setIfInBounds_toArray, List.set_cons_zero, List.set_cons_succ]
                    refine anyH_skip (i := 6) (d := 128) (L' := #[true, true, true, true, true, true, true, false, false, false, false, false, false, false]) rfl rfl (by kernel_rfl) (fun _ _ _ h => h) (by rfl) (by assumption) ?_
                    simp only [Act.put, List.setIfInBounds_toArray, List.set_cons_zero, List.set_cons_succ]
                    refine anyH_skip (i := 7) (d := 129) (L' := #[true, true, true, true, true, true, true, true, false, false, false, false, false, false]) rfl rfl (by kernel_rfl) (fun _ _ _ h => h) (by rfl) (by assumption) ?_
                    simp only [Act.put, List.setIfInBounds_toArray, List.set_cons_zero, List.set_cons_succ]
                    refine anyH_skip (i := 8) (d := 130) (L' := #[true, true, true, true, true, true, true, true, true, false, false, false, false, false]) rfl rfl (by kernel_rfl) (fun _ _ _ h => h) (by rfl) (by assumption) ?_
                    simp only [Act.put, List.setIfInBounds_toArray, List.set_cons_zero, List.set_cons_succ]
                    refine anyH_skip (i := 9) (d := 131) (L' := #[true, true, true, true, true, true, true, true, true, true, false, false, false, false]) rfl rfl (by kernel_rfl) (fun _ _ _ h => h) (by rfl) (by assumption) ?_
                    simp only [Act.put, List.setIfInBounds_toArray, List.set_cons_zero, List.set_cons_succ]
                    refine anyH_skip (i := 10) (d := 132) (L' := #[true, true, true, true, true, true, true, true, true, true, true, false, false, false]) rfl rfl (by kernel_rfl) (fun _ _ _ h => h) (by rfl) (by assumption) ?_
                    simp only [Act.put, List.setIfInBounds_toArray, List.set_cons_zero, List.set_cons_succ]
                    refine anyH_skip (i := 11) (d := 133) (L' := #[true, true, true, true, true, true, true, true, true, true, true, true, false, false]) rfl rfl (by kernel_rfl) (fun _ _ _ h => h) (by rfl) (by assumption) ?_
                    simp only [Act.put, List.setIfInBounds_toArray, List.set_cons_zero, List.set_cons_succ]
                    refine anyH_skip (i := 12) (d := 134) (L' := #[true, true, true, true, true, true, true, true, true, true, true, true, true, false]) rfl rfl (by kernel_rfl) (fun _ _ _ h => h) (by rfl) (by assumption) ?_
                    simp only [Act.put, List.setIfInBounds_toArray, List.set_cons_zero, List.set_cons_succ]
                    refine anyH_take (i := 13) (d := 135) (L' := #[true, true, true, true, true, true, true, true, true, true, true, true, true, true]) (v := ?v21) rfl rfl (by kernel_rfl) (fun _ _ _ h => h) (by rfl) ?hy21 (by assumption) ?rest21
                    case hy21 => (intro wx hSw; (try dsimp only at hSw); (skip); go_simp; (try with_reducible rfl))
                    simp only [Act.put, List.setIfInBounds_toArray, List.set_cons_zero, List.set_cons_succ]
                    refine wpAnyH_done (by kernel_rfl) ?_ _
                    go_wp2_with fail
                    go_roundw
                    case rel => exact ⟨1, by omega, by go_num, hcj.drew⟩
                    case measure => simp [intOf]; omega
                  · have hql : q + 1 < L.length := by rw [HSL.out]; exact hjl
                    obtain ⟨g, cg, hg⟩ : ∃ g cg, Value.slice ao m c = .slice (some ⟨g, 0, none⟩) m cg := by
                      rcases HROW.out.2 with ⟨e, hz⟩ | ⟨g, cap, cur, e, _⟩
                      · have := HSL.out; omega
                      · rw [HSL.out] at e; exact ⟨g, _, e⟩
                    simp only [Value.slice.injEq, true_and] at hg
                    obtain ⟨rfl, rfl⟩ := hg
                    have hrw := HROW.out
                    unfold StrL at hrw
                    rw [HSL.out] at hrw
                    have c0 := World.ownsRow.cellAt hrw q (by omega)
                    have c1 := World.ownsRow.cellAt hrw (q + 1) (by omega)
                    rw [List.getElem?_map, List.getElem?_eq_getElem (by omega)] at c0
                    rw [List.getElem?_map, List.getElem?_eq_getElem hql] at c1
                    simp only [Option.map_some] at c0 c1
                    have hb := HLT.out q hql
                    generalize L[q]'(by omega) = A at *
                    generalize L[q + 1]'hql = B at *
                    have C0 := hd c0
                    have C1 := hd c1
                    have hcast : ((q + 1 : Nat) : Int) = (q : Int) + 1 := by omega
                    rw [hcast] at hjl' ⊢
                    have hq1 : (q : Int) < (m : Int) := by omega
                    have hq0 : 0 ≤ (q : Int) + 1 := by omega
                    clear c0 c1 hrw hcast hql
                    have hwq : IntKind.i64.wrap (q : Int) = (q : Int) := IntWalk.i64_in _ (by omega)
                    go_upto_region 29 with (fail)
                    refine anyH_start (n := 14) (L := #[false, false, false, false, false, false, false, false, false, false, false, false, false, false]) (by kernel_rfl) (by kernel_rfl) (S := (fun wx => Chg [] w6 wx)) hcj.drew (fun hHeld => ?_)
                    refine anyH_take (i := 0) (d := 122) (L' := #[true, false, false, false, false, false, false, false, false, false, false, false, false, false]) (v := ?v24) rfl rfl (by kernel_rfl) (fun _ _ _ h => h) (by rfl) ?hy24 (by assumption) ?rest24
                    case hy24 => (intro wx hSw; (try dsimp only at hSw); (have t0 := hSw.cellS C0.out; have t1 := hSw.cellS C1.out); go_simp; (try with_reducible rfl))
                    simp only [Act.put, List.setIfInBounds_toArray, List.set_cons_zero, List.set_cons_succ]
                    refine anyH_take (i := 1) (d := 123) (L' := #[true, true, false, false, false, false, false, false, false, false, false, false, false, false]) (v := ?v25) rfl rfl (by kernel_rfl) (fun _ _ _ h => h) (by rfl) ?hy25 (by assumption) ?rest25
                    case hy25 => (intro wx hSw; (try dsimp only at hSw); (have t0 := hSw.cellS C0.out; have t1 := hSw.cellS C1.out); go_simp; (try with_reducible rfl))
                    simp only [Act.put, List.setIfInBounds_toArray, List.set_cons_zero, List.set_cons_succ]
                    refine anyH_take (i := 2) (d := 124) (L' := #[true, true, true, false, false, false, false, false, false, false, false, false, false, false]) (v := ?v26) rfl rfl (by kernel_rfl) (fun _ _ _ h => h) (by rfl) ?hy26 (by assumption) ?rest26
                    case hy26 => (intro wx hSw; (try dsimp only at hSw); (have t0 := hSw.cellS C0.out; have t1 := hSw.cellS C1.out); go_simp; (try with_reducible rfl))
                    simp only [Act.put, List.setIfInBounds_toArray, List.set_cons_zero, List.set_cons_succ]
                    refine anyH_take (i := 3) (d := 125) (L' := #[true, true, true, true, false, false, false, false, false, false, false, false, false, false]) (v := ?v27) rfl rfl (by kernel_rfl) (fun _ _ _ h => h) (by rfl) ?hy27 (by assumption) ?rest27
                    case hy27 => (intro wx hSw; (try dsimp only at hSw); (have t0 := hSw.cellS C0.out; have t1 := hSw.cellS C1.out); go_simp; (try with_reducible rfl))
                    simp only [Act.put, List.setIfInBounds_toArray, List.set_cons_zero, List.set_cons_succ]
                    refine anyH_take (i := 4) (d := 126) (L' := #[true, true, true, true, true, false, false, false, false, false, false, false, false, false]) (v := ?v28) rfl rfl (by kernel_rfl) (fun _ _ _ h => h) (by rfl) ?hy28 (by assumption) ?rest28
                    case hy28 => (intro wx hSw; (try dsimp only at hSw); (have t0 := hSw.cellS C0.out; have t1 := hSw.cellS C1.out); go_simp; (try with_reducible rfl))
                    simp only [Act.put, List.setIfInBounds_toArray, List.set_cons_zero, List.set_cons_succ]
                    refine anyH_take (i := 5) (d := 127) (L' := #[true, true, true, true, true, true, false, false, false, false, false, false, false, false]) (v := ?v29) rfl rfl (by kernel_rfl) (fun _ _ _ h => h) (by rfl) ?hy29 (by assumption) ?rest29
                    case hy29 => (intro wx hSw; (try dsimp only at hSw); (have t0 := hSw.cellS C0.out; have t1 := hSw.cellS C1.out); go_simp; (try with_reducible rfl))
                    simp only [Act.put, List.setIfInBounds_toArray, List.set_cons_zero, List.set_cons_succ]
                    refine anyH_take (i := 6) (d := 128) (L' := #[true, true, true, true, true, true, true, false, false, false, false, false, false, false]) (v := ?v30) rfl rfl (by kernel_rfl) (fun _ _ _ h => h) (by rfl) ?hy30 (by assumption) ?rest30
                    case hy30 => (intro wx hSw; (try dsimp only at hSw); (have t0 := hSw.cellS C0.out; have t1 := hSw.cellS C1.out); go_simp; (try with_reducible rfl))
                    simp only [Act.put, List.setIfInBounds_toArray, List.set_cons_zero, List.set_cons_succ]
                    refine anyH_take (i := 7) (d := 129) (L' := #[true, true, true, true, true, true, true, true, false, false, false, false, false, false]) (v := ?v31) rfl rfl (by kernel_rfl) (fun _ _ _ h => h) (by rfl) ?hy31 (by assumption) ?rest31
                    case hy31 => (intro wx hSw; (try dsimp only at hSw); (have t0 := hSw.cellS C0.out; have t1 := hSw.cellS C1.out); go_simp; (try with_reducible rfl))
                    simp only [Act.put, List.setIfInBounds_toArray, List.set_cons_zero, List.set_cons_succ]
                    refine anyH_take (i := 8) (d := 130) (L' := #[true, true, true, true, true, true, true, true, true, false, false, false, false, false]) (v := ?v32) rfl rfl (by kernel_rfl) (fun _ _ _ h => h) (by rfl) ?hy32 (by assumption) ?rest32
                    case hy32 => (intro wx hSw; (try dsimp only at hSw); (have t0 := hSw.cellS C0.out; have t1 := hSw.cellS C1.out); go_simp; (try with_reducible rfl))
                    simp only [Act.put, List.setIfInBounds_toArray, List.set_cons_zero, List.set_cons_succ]
                    refine anyH_take (i := 9) (d := 131) (L' := #[true, true, true, true, true, true, true, true, true, true, false, false, false, false]) (v := ?v33) rfl rfl (by kernel_rfl) (fun _ _ _ h => h) (by rfl) ?hy33 (by assumption) ?rest33
                    case hy33 => (intro wx hSw; (try dsimp only at hSw); (have t0 := hSw.cellS C0.out; have t1 := hSw.cellS C1.out); go_simp; (try with_reducible rfl))
                    simp only [Act.put, List.setIfInBounds_toArray, List.set_cons_zero, List.set_cons_succ]
                    refine anyH_take (i := 10) (d := 132) (L' := #[true, true, true, true, true, true, true, true, true, true, true, false, false, false]) (v := ?v34) rfl rfl (by kernel_rfl) (fun _ _ _ h => h) (by rfl) ?hy34 (by assumption) ?rest34
                    case hy34 => (intro wx hSw; (try dsimp only at hSw); (have t0 := hSw.cellS C0.out; have t1 := hSw.cellS C1.out); go_simp; (try with_reducible rfl))
                    simp only [Act.put, List.setIfInBounds_toArray, List.set_cons_zero, List.set_cons_succ]
                    refine anyH_take (i := 11) (d := 133) (L' := #[true, true, true, true, true, true, true, true, true, true, true, true, false, false]) (v := ?v35) rfl rfl (by kernel_rfl) (fun _ _ _ h => h) (by rfl) ?hy35 (by assumption) ?rest35
                    case hy35 => (intro wx hSw; (try dsimp only at hSw); (have t0 := hSw.cellS C0.out; have t1 := hSw.cellS C1.out); go_simp; (try with_reducible rfl))
                    simp only [Act.put, List.setIfInBounds_toArray, List.set_cons_zero, List.set_cons_succ]
                    refine anyH_take (i := 12) (d := 134) (L' := #[true, true, true, true, true, true, true, true, true, true, true, true, true, false]) (v := ?v36) rfl rfl (by kernel_rfl) (fun _ _ _ h => h) (by rfl) ?hy36 (by assumption) ?rest36
                    case hy36 => (intro wx hSw; (try dsimp only at hSw); (have t0 := hSw.cellS C0.out; have t1 := hSw.cellS C1.out); go_simp; (try with_reducible rfl))
                    simp only [Act.put, List.setIfInBounds_toArray, List.set_cons_zero, List.set_cons_succ]
                    refine anyH_take (i := 13) (d := 135) (L' := #[true, true, true, true, true, true, true, true, true, true, true, true, true, true]) (v := ?v37) rfl rfl (by kernel_rfl) (fun _ _ _ h => h) (by rfl) ?hy37 (by assumption) ?rest37
                    case hy37 => (intro wx hSw; (try dsimp only at hSw); (have t0 := hSw.cellS C0.out; have t1 := hSw.cellS C1.out); go_simp; (try with_reducible rfl))
                    simp only [Act.put, List.setIfInBounds_toArray, List.set_cons_zero, List.set_cons_succ]
                    refine wpAnyH_done (by kernel_rfl) ?_ _
                    clear hwq
                    go_wp2_with fail
                    go_roundw
                    case rel => exact ⟨q + 1 + 1, by omega, by go_num, hcj.drew⟩
                    case measure => simp [intOf]; omega
                · obtain rfl : j = m := by omega
                  obtain ⟨fp7, hk7, hc7, hf7⟩ := HD6.out.k hcj
                  obtain ⟨r1, r2, r3⟩ := dN_remove (m := j) (ops := (i : Int) + 1) (by omega) hm2
                  have hrm := Remove_any hk7 [102, 97, 48] (by decide) (by show (i : Int) + 1 < _; omega)
                  rw [r1] at hrm
                  have hmi := HMI.out
                  have R2 := hd r2
                  have R3 := hd r3
                  clear r1 r2 r3 HD6 hk7 hcj HROW HLT HSL HM hj hjl
                  go_wp2_with fail
                  refine (hrm).mono ?_
                  rintro e w8 ⟨rfl, h⟩
                  obtain ⟨fp8, hk8, hc8, hf8⟩ := h.ds hc7 hf7
                  have hcr := Create_any hk8 [122] (by decide) (by rw [R3.out]; omega)
                  rw [R2.out] at hcr
                  clear h hrm hc7 hf7 hmi
                  go_wp2_with fail
                  refine (hcr).mono ?_
                  rintro e w9 ⟨rfl, h⟩
                  obtain ⟨_, _, hc9, -⟩ := h.ds hc8 hf8
                  have HFIN := hd hc9
                  clear h hcr hc8 hf8 hc9 hk8
                  go_wp2_with fail
                  go_ret
                  exact ⟨rfl, HFIN.out⟩
end Go.Proofs.Ytpoohpmcopjklaa
