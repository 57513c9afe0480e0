/- Words and walks that DiskBends rests on, part 5. -/
import Derived.Test.YtpoohpmcopjklaaRows
import Derived.Shelf.SlIter.Nil
import Derived.Shelf.SortM.Plain
import Derived.Shelf.SortM.SortNone
import Derived.Ground.GgzProg
import Derived.Ground.SlgmProg
import Derived.Shelf.SlGeneric
import Derived.Test.YtpoohpmcopjklaaWDiskBends1
import Derived.Sort.KeysCollected
import Derived.Test.YtpoohpmcopjklaaWDiskBends3
import Derived.Test.YtpoohpmcopjklaaWDiskBends4
/- The contracts on slices.Sorted(maps.Keys(m)) at this program, one application each. -/
namespace Go.Proofs.Ytpoohpmcopjklaa
open Go.RowKit Go.Maps Go.Sort Go.Shelf

def keys60_ren : Go.Shelf.Ren := ⟨fun | 7 => 60 | 10 => 78 | n => n, fun | 23 => 81 | 26 => 9 | 3 => 3 | 28 => 103 | 0 => 0 | 27 => 102 | 33 => 106 | 4 => 4 | n => n, fun | n => n⟩
theorem keys60 : Go.Proofs.SlLaysZ.n7 Try.prog keys60_ren := {
  mixed := by kernel_rfl
  f7 := ⟨Try.f60.name, by decide, Try.func60.trans (congrArg some (by kernel_rfl))⟩
  f10 := ⟨Try.f78.name, by decide, Try.func78.trans (congrArg some (by kernel_rfl))⟩
  t0 := Try.underlying0
  a0 := Try.isAgg0
  z0 := Try.sizeOf0
  v0 := Try.zeroValue0
  t4 := Try.underlying4
  a4 := Try.isAgg4
  z4 := Try.sizeOf4
  v4 := Try.zeroValue4
  t23 := Try.underlying81
  a23 := Try.isAgg81
  z23 := Try.sizeOf81
  v23 := Try.zeroValue81
  t26 := Try.underlying9
  a26 := Try.isAgg9
  z26 := Try.sizeOf9
  v26 := Try.zeroValue9
  t27 := Try.underlying102
  a27 := Try.isAgg102
  z27 := Try.sizeOf102
  v27 := Try.zeroValue102
  t28 := Try.underlying103
  a28 := Try.isAgg103
  z28 := Try.sizeOf103
  v28 := Try.zeroValue103
  t33 := Try.underlying106
  a33 := Try.isAgg106
  z33 := Try.sizeOf106
  v33 := Try.zeroValue106 }
def sorted59_ren : Go.Shelf.Ren := ⟨fun | 6 => 59 | 8 => 76 | 9 => 77 | 11 => 89 | 13 => 91 | 12 => 90 | 23 => 105 | 24 => 106 | 14 => 96 | 15 => 97 | 16 => 98 | 17 => 99 | 18 => 100 | 19 => 101 | 20 => 102 | 21 => 103 | 22 => 104 | 25 => 108 | 26 => 109 | 27 => 110 | 28 => 111 | 29 => 112 | 30 => 113 | 31 => 114 | n => n, fun | 26 => 9 | 28 => 103 | 24 => 57 | 0 => 0 | 3 => 3 | 37 => 39 | 48 => 23 | 50 => 167 | 4 => 4 | 40 => 159 | 39 => 158 | 45 => 105 | 5 => 5 | 9 => 9 | 51 => 170 | 55 => 174 | 57 => 176 | 58 => 177 | 33 => 106 | n => n, fun | n => n⟩
theorem sorted59 : Go.Proofs.SlLaysZ.n6 Try.prog sorted59_ren := {
  mixed := by kernel_rfl
  f6 := ⟨Try.f59.name, by decide, Try.func59.trans (congrArg some (by kernel_rfl))⟩
  f8 := ⟨Try.f76.name, by decide, Try.func76.trans (congrArg some (by kernel_rfl))⟩
  f11 := ⟨Try.f89.name, by decide, Try.func89.trans (congrArg some (by kernel_rfl))⟩
  t0 := Try.underlying0
  a0 := Try.isAgg0
  z0 := Try.sizeOf0
  v0 := Try.zeroValue0
  t24 := Try.underlying57
  a24 := Try.isAgg57
  z24 := Try.sizeOf57
  v24 := Try.zeroValue57
  t26 := Try.underlying9
  a26 := Try.isAgg9
  z26 := Try.sizeOf9
  v26 := Try.zeroValue9
  t28 := Try.underlying103
  a28 := Try.isAgg103
  z28 := Try.sizeOf103
  v28 := Try.zeroValue103
  i26 := by kernel_rfl }
def sort77_ren : Go.Shelf.Ren := ⟨fun | 6 => 77 | 8 => 91 | 9 => 90 | 19 => 105 | 20 => 106 | 21 => 96 | 22 => 97 | 23 => 98 | 24 => 99 | 25 => 100 | 26 => 101 | 27 => 102 | 28 => 103 | 29 => 104 | 36 => 108 | 31 => 109 | 32 => 110 | 37 => 111 | 38 => 112 | 39 => 113 | 41 => 114 | n => n, fun | 27 => 57 | 29 => 9 | 3 => 3 | 32 => 39 | 26 => 57 | 0 => 0 | 44 => 23 | 46 => 167 | 4 => 4 | 36 => 159 | 35 => 158 | 41 => 105 | 5 => 5 | 9 => 9 | 53 => 170 | 57 => 174 | 63 => 176 | 64 => 177 | n => n, fun | n => n⟩
theorem sort77 : Go.Proofs.SlLaysM.n6 Try.prog sort77_ren := {
  mixed := by kernel_rfl
  f6 := ⟨Try.f77.name, by decide, Try.func77.trans (congrArg some (by kernel_rfl))⟩
  f8 := Try.func91.trans (congrArg some (by kernel_rfl))
  f9 := ⟨Try.f90.name, by decide, Try.func90.trans (congrArg some (by kernel_rfl))⟩
  f19 := Try.func105.trans (congrArg some (by kernel_rfl))
  f20 := Try.func106.trans (congrArg some (by kernel_rfl))
  f21 := ⟨Try.f96.name, by decide, Try.func96.trans (congrArg some (by kernel_rfl))⟩
  f22 := ⟨Try.f97.name, by decide, Try.func97.trans (congrArg some (by kernel_rfl))⟩
  f23 := ⟨Try.f98.name, by decide, Try.func98.trans (congrArg some (by kernel_rfl))⟩
  f24 := ⟨Try.f99.name, by decide, Try.func99.trans (congrArg some (by kernel_rfl))⟩
  f25 := ⟨Try.f100.name, by decide, Try.func100.trans (congrArg some (by kernel_rfl))⟩
  f26 := ⟨Try.f101.name, by decide, Try.func101.trans (congrArg some (by kernel_rfl))⟩
  f27 := ⟨Try.f102.name, by decide, Try.func102.trans (congrArg some (by kernel_rfl))⟩
  f28 := ⟨Try.f103.name, by decide, Try.func103.trans (congrArg some (by kernel_rfl))⟩
  f29 := ⟨Try.f104.name, by decide, Try.func104.trans (congrArg some (by kernel_rfl))⟩
  f31 := Try.func109.trans (congrArg some (by kernel_rfl))
  f32 := Try.func110.trans (congrArg some (by kernel_rfl))
  f36 := ⟨Try.f108.name, by decide, Try.func108.trans (congrArg some (by kernel_rfl))⟩
  f37 := ⟨Try.f111.name, by decide, Try.func111.trans (congrArg some (by kernel_rfl))⟩
  f38 := ⟨Try.f112.name, by decide, Try.func112.trans (congrArg some (by kernel_rfl))⟩
  f39 := ⟨Try.f113.name, by decide, Try.func113.trans (congrArg some (by kernel_rfl))⟩
  f41 := ⟨Try.f114.name, by decide, Try.func114.trans (congrArg some (by kernel_rfl))⟩
  t0 := Try.underlying0
  a0 := Try.isAgg0
  z0 := Try.sizeOf0
  v0 := Try.zeroValue0
  t3 := Try.underlying3
  a3 := Try.isAgg3
  z3 := Try.sizeOf3
  v3 := Try.zeroValue3
  t4 := Try.underlying4
  a4 := Try.isAgg4
  z4 := Try.sizeOf4
  v4 := Try.zeroValue4
  t5 := Try.underlying5
  a5 := Try.isAgg5
  z5 := Try.sizeOf5
  v5 := Try.zeroValue5
  t9 := Try.underlying9
  a9 := Try.isAgg9
  z9 := Try.sizeOf9
  v9 := Try.zeroValue9
  t26 := Try.underlying57
  a26 := Try.isAgg57
  z26 := Try.sizeOf57
  v26 := Try.zeroValue57
  t27 := Try.underlying57
  a27 := Try.isAgg57
  z27 := Try.sizeOf57
  v27 := Try.zeroValue57
  t29 := Try.underlying9
  a29 := Try.isAgg9
  z29 := Try.sizeOf9
  v29 := Try.zeroValue9
  t32 := Try.underlying39
  a32 := Try.isAgg39
  z32 := Try.sizeOf39
  v32 := Try.zeroValue39
  t35 := Try.underlying158
  a35 := Try.isAgg158
  z35 := Try.sizeOf158
  v35 := Try.zeroValue158
  t36 := Try.underlying159
  a36 := Try.isAgg159
  z36 := Try.sizeOf159
  v36 := Try.zeroValue159
  t41 := Try.underlying105
  a41 := Try.isAgg105
  z41 := Try.sizeOf105
  v41 := Try.zeroValue105
  t44 := Try.underlying23
  a44 := Try.isAgg23
  z44 := Try.sizeOf23
  v44 := Try.zeroValue23
  t46 := Try.underlying167
  a46 := Try.isAgg167
  z46 := Try.sizeOf167
  v46 := Try.zeroValue167
  t53 := Try.underlying170
  a53 := Try.isAgg170
  z53 := Try.sizeOf170
  v53 := Try.zeroValue170
  t57 := Try.underlying174
  a57 := Try.isAgg174
  z57 := Try.sizeOf174
  v57 := Try.zeroValue174
  t63 := Try.underlying176
  a63 := Try.isAgg176
  z63 := Try.sizeOf176
  v63 := Try.zeroValue176
  t64 := Try.underlying177
  a64 := Try.isAgg177
  z64 := Try.sizeOf177
  v64 := Try.zeroValue177 }

/-- slices.Sort's two contracts at this dump, at the fence that asks nothing. -/
theorem sorts59 (m : Nat) : AnyZ.SortsIn Try.prog sorted59_ren Fence.wide m :=
  ⟨fun blk off cap ss W hH hblk hsz => callsIn_wide.2 (AnyM.slices_Sort_string sort77 blk off cap ss W hH hblk hsz),
   fun p cap W => callsIn_wide.2 (AnyM.slices_Sort_string_none sort77 p cap W)⟩

/-- **maps.Keys[map[string]int,string,int], at whatever map, the nil one too:** a function value over ONE NEW BLOCK, which holds the map. -/
theorem maps_Keys_60 (mb : Option Nat) (W : World) : CallsIn Fence.wide 5 Try.prog 60 #[.map mb] W fun e w' => e = .returned (.func (.func 78) #[] #[.pointer (some ⟨W.heap.size, 0, none⟩)]) ∧ w' = W.alloc (.cells #[.map mb] 81) :=
  AnyZ.keys_in keys60 Fence.wide 5 trivial rfl mb W

set_option maxHeartbeats 1000000 in
/-- **slices.Sorted[string] AT WHAT maps.Keys[map[string]int,string,int] HANDED BACK FOR A MAP THAT IS NOT nil** ('w': the world AHEAD of maps.Keys' call): A NEW SLICE THAT HOLDS THE MAP's KEYS, SORTED; nil just where it has none; nothing that lay before has turned. -/
theorem slices_Sorted_keys_59_60 {H : Type} (b nn : Nat) (D0 : DataW H) (R : Value → Option (DataW H × List MemPlace)) (w : World) (hown : w.ownsMap Try.prog 9 R b nn D0) (hmax : Maps.size D0 ≤ maxLen) (hbytes : Maps.size D0 * 16 ≤ 140737488355328) :
    CallsIn Fence.wide 5 Try.prog 59 #[.func (.func 78) #[] #[.pointer (some ⟨w.heap.size, 0, none⟩)]] (w.alloc (.cells #[.map (some b)] 81)) fun e w' => ∃ (v : Value) (ss : List (List UInt8)), e = .returned v ∧ ss.Perm (strKeys D0) ∧
      w'.ownsRow (w.alloc (.cells #[.map (some b)] 81)).heap.size 9 1 v ss.length ((ss.mergeSort (fun x y => decide (x ≤ y))).map encStr) ∧ (v = .slice none 0 0 ↔ ss = []) ∧ Below (w.alloc (.cells #[.map (some b)] 81)).heap.size (w.alloc (.cells #[.map (some b)] 81)) w' := by
  have hbl := hown.lt
  have hseq : SeqGives Fence.wide 2 Try.prog 78 #[.pointer (some ⟨w.heap.size, 0, none⟩)] encStr (fun ss => ss.Perm (strKeys D0)) (Maps.size D0) (w.alloc (.cells #[.map (some b)] 81)) :=
    AnyZ.keys_gives (ρ := keys60_ren) { keys60 with } Fence.wide _ trivial rfl (by omega) w.heap.size b nn D0 _ (by simp) (by simp) (by
      obtain ⟨es, clock, hb, Ft, hs, hD⟩ := hown
      exact ⟨es, clock, (Below.heap_alloc _ _ b hbl).trans hb, Ft, hs, hD⟩)
  exact AnyZ.sorted_in sorted59 Fence.wide 5 trivial trivial trivial trivial rfl (by omega) (sorts59 _) (enters_of Try.func77 (by kernel_rfl) rfl) 78 #[.pointer (some ⟨w.heap.size, 0, none⟩)] trivial (enters_of Try.func78 (by kernel_rfl) rfl) _ _ hmax hbytes _ hseq

set_option maxHeartbeats 1000000 in
/-- **.. AND FOR THE nil MAP: nil.** -/
theorem slices_Sorted_keys_nil_59_60 (w : World) :
    CallsIn Fence.wide 5 Try.prog 59 #[.func (.func 78) #[] #[.pointer (some ⟨w.heap.size, 0, none⟩)]] (w.alloc (.cells #[.map none] 81)) fun e w' => ∃ (v : Value) (ss : List (List UInt8)), e = .returned v ∧ ss = [] ∧
      w'.ownsRow (w.alloc (.cells #[.map none] 81)).heap.size 9 1 v ss.length ((ss.mergeSort (fun x y => decide (x ≤ y))).map encStr) ∧ (v = .slice none 0 0 ↔ ss = []) ∧ Below (w.alloc (.cells #[.map none] 81)).heap.size (w.alloc (.cells #[.map none] 81)) w' := by
  have hseq : SeqGives Fence.wide 2 Try.prog 78 #[.pointer (some ⟨w.heap.size, 0, none⟩)] encStr (fun ss : List (List UInt8) => ss = []) 0 (w.alloc (.cells #[.map none] 81)) :=
    AnyZ.keys_gives_nil (ρ := keys60_ren) { keys60 with } Fence.wide _ trivial rfl w.heap.size _ (by simp) (by simp)
  exact AnyZ.sorted_in sorted59 Fence.wide 5 trivial trivial trivial trivial rfl (by omega) (sorts59 _) (enters_of Try.func77 (by kernel_rfl) rfl) 78 #[.pointer (some ⟨w.heap.size, 0, none⟩)] trivial (enters_of Try.func78 (by kernel_rfl) rfl) _ 0 (Nat.zero_le _) (by omega) _ hseq
end Go.Proofs.Ytpoohpmcopjklaa

/- Disk.List. -/
namespace Go.Proofs.Ytpoohpmcopjklaa
open Go.RowKit

variable {w w' : World} {fp : List Nat} {b : Nat} {d : Dsk}

/-- The names, rising. -/
def sortN (es : Nm) : List (List UInt8) := (es.map (·.1)).mergeSort (fun x y => decide (x ≤ y))
theorem sortN_length (es : Nm) : (sortN es).length = es.length := by unfold sortN; rw [List.length_mergeSort, List.length_map]
theorem sortN_perm (es : Nm) : (sortN es).Perm (es.map (·.1)) := List.mergeSort_perm _ _
/-- v is a row of strings of the call's own. -/
def StrL (w : World) (base : Nat) (v : Value) (L : List (List UInt8)) : Prop := w.ownsRow base 9 1 v L.length (L.map fun s => Value.string (strB s))
theorem StrL.k {w w' : World} {base : Nat} {v : Value} {L : List (List UInt8)} (h : StrL w base v L) (hc : Chg [] w w') : StrL w' base v L := ownsRow_k h hc
theorem StrL.form {w : World} {base : Nat} {v : Value} {L : List (List UInt8)} (h : StrL w base v L) : ∃ ao c, v = .slice ao L.length c := by
  rcases h.2 with ⟨rfl, hz⟩ | ⟨g, cap, cur, rfl, _⟩
  · exact ⟨none, 0, by rw [hz]⟩
  · exact ⟨_, cap, rfl⟩
theorem encStr_strB (s : List UInt8) : Go.Proofs.encStr s = Value.string (strB s) := rfl

theorem Keys_any (b : Nat) (W : World) : Calls Try.prog 60 #[.map (some b)] W fun e w' => e = .returned (.func (.func 78) #[] #[.pointer (some ⟨W.heap.size, 0, none⟩)]) ∧ w' = W.alloc (.cells #[.map (some b)] 81) :=
  (callsIn_wide (n := 5)).1 (maps_Keys_60 (some b) W)
theorem names_perm {es : Nm} (h : MapAt w b es) : ∃ D : DataW Unit, w.ownsMap Try.prog 9 (plainElem Try.prog 3) b es.length D ∧ Maps.size D = es.length ∧ (es.map (·.1)).Perm (strKeys D) := by
  obtain ⟨D, hown, hr⟩ := h
  refine ⟨D, hown, hr.size, Collected.perm (left := fun _ => false) ⟨hr.nodup, fun x => ?_⟩ hown strKeyed undString (fun _ => rfl)⟩
  rw [hr.has]
  constructor
  · intro hx
    obtain ⟨p, hp, rfl⟩ := List.mem_map.1 hx
    exact ⟨nget_mem_isSome' hp, rfl⟩
  · rintro ⟨hx, -⟩
    obtain ⟨i, hi⟩ := Option.isSome_iff_exists.1 hx
    exact List.mem_map.2 ⟨_, nget_some_mem hi, rfl⟩
theorem SortedK_any {es : Nm} (h : MapAt w b es) (hl : es.length ≤ 1000000000000) :
    Calls Try.prog 59 #[.func (.func 78) #[] #[.pointer (some ⟨w.heap.size, 0, none⟩)]] (w.alloc (.cells #[.map (some b)] 81)) fun e w' => ∃ ao c, e = .returned (.slice ao es.length c) ∧ StrL w' w.heap.size (.slice ao es.length c) (sortN es) ∧ Chg [] w w' := by
  obtain ⟨D, hown, hsz, hp⟩ := names_perm h
  refine ((callsIn_wide (n := 5)).1 (slices_Sorted_keys_59_60 b _ D _ w hown (by rw [hsz]; unfold maxLen; omega) (by rw [hsz]; omega))).mono ?_
  rintro e w' ⟨v, ss, rfl, hS, hrow, -, hb⟩
  have hms : ss.mergeSort (fun x y => decide (x ≤ y)) = sortN es := mergeSort_of_perm (hS.trans hp.symm)
  have hlen : ss.length = es.length := by rw [hS.length_eq, ← hp.length_eq, List.length_map]
  rw [hms] at hrow
  have hrow2 : StrL w' w.heap.size v (sortN es) := by
    unfold StrL
    rw [sortN_length]
    rw [hlen] at hrow
    exact ownsRow_mono hrow (by simp)
  obtain ⟨ao, c, rfl⟩ := hrow2.form
  rw [sortN_length] at hrow2 ⊢
  exact ⟨ao, c, rfl, hrow2, ((Chg.refl [] w).alloc _).k (Chg.ofBelow hb)⟩

def ListOut (w : World) (fp : List Nat) (b : Nat) (d : Dsk) (e : Ending) (w' : World) : Prop :=
  Dk w' fp b (opD d) ∧ Chg [b] w w' ∧ ((opE d ≠ 0 ∧ e = .returned (.tuple #[.slice none 0 0, .int .i64 (opE d)])) ∨
    (opE d = 0 ∧ ∃ ao c, e = .returned (.tuple #[.slice ao d.names.length c, .int .i64 0]) ∧ StrL w' w.heap.size (.slice ao d.names.length c) (sortN d.names)))

set_option maxHeartbeats 1000000 in
theorem List_any (h : Dk w fp b d) (hops : d.ops < 1073741824) : Calls Try.prog 30 #[.pointer (some ⟨b, 0, none⟩)] w (ListOut w fp b d) := by
  obtain ⟨fv, cv, nb, sb, hs, h⟩ := h
  have hnl : d.names.length ≤ 1073741824 := by have := h.good.nnames; have := h.good.ops; omega
  go_enter Try.func30, Try.ntmps30
  go_wp2_with fail
  refine (op_any h hops).mono ?_
  rintro e w1 ⟨rfl, h1, hc1, hz1⟩
  clear h
  by_cases hE : opE d = 0
  case neg =>
    have hE' : (opE d == 0) = false := by simpa using hE
    have H : Hd (ListOut w fp b d (.returned (.tuple #[.slice none 0 0, .int .i64 (opE d)])) w1) := hd ⟨⟨_, _, _, _, _, h1⟩, hc1, .inl ⟨hE, rfl⟩⟩
    clear hE h1 hc1 hz1
    go_wp2_with fail
    refine bodyPost_ret (v := .tuple #[.slice none 0 0, .int .i64 (opE d)]) ?_ rfl H.out
    simp only [results]; go_simp
  have hm : MapAt w1 nb d.names := h1.names
  have q2 := h1.box.cell 2
  simp [boxCells] at q2
  have fin : ∀ w' ao c, Chg [] w1 w' → StrL w' w1.heap.size (.slice ao d.names.length c) (sortN d.names) → ListOut w fp b d (.returned (.tuple #[.slice ao d.names.length c, .int .i64 0])) w' := fun w' ao c hc hs =>
    ⟨⟨_, _, _, _, _, h1.k hc⟩, hc1.trans hc (by simp), .inr ⟨hE, ao, c, rfl, ownsRow_mono hs hc1.size⟩⟩
  have FIN := hd fin
  rw [hE]
  clear fin hE h1 hc1 hz1
  go_wp2_with fail
  refine (Keys_any nb w1).mono ?_
  rintro e w2 ⟨rfl, rfl⟩
  have hso := SortedK_any hm (by omega)
  clear hm q2
  go_wp2_with fail
  refine (hso).mono ?_
  rintro e w3 ⟨ao, c, rfl, hr, hc3⟩
  have HF := hd (FIN.out _ _ _ hc3 hr)
  clear hso hr hc3
  go_wp2_with fail
  refine bodyPost_ret (v := .tuple #[.slice ao d.names.length c, .int .i64 0]) ?_ rfl HF.out
  simp only [results]; go_simp
end Go.Proofs.Ytpoohpmcopjklaa

/- bagatellelaw17.fit. -/
namespace Go.Proofs.Ytpoohpmcopjklaa
open Go.RowKit

def F1 : Dsk := createD (newD 100) [97]
def F2 : Dsk := appendD F1 [97] [120, 121]
def F3 : Dsk := syncD F2 [97]
def F4 : Dsk := dirSyncD F3
def F5 : Dsk := appendD F4 [97] [122]
def F6 : Dsk := createD F5 [98]
def F7 : Dsk := crashD F6 0 []
theorem F_ops : F1.ops = 1 ∧ F2.ops = 2 ∧ F3.ops = 3 ∧ F4.ops = 4 ∧ F5.ops = 5 ∧ F6.ops = 6 ∧ F7.ops = 6 := by decide
theorem F_room : F1.room = 100 ∧ F4.room = 100 := by decide
theorem F_fin : opE F7 = 0 ∧ F7.names.length = 1 ∧ syncE (opD F7) [97] = 0 ∧ bytesD (opD F7) [97] = [120, 121] := by decide

set_option maxHeartbeats 2000000 in
theorem fit17_any (w : World) : Calls Try.prog 31 #[] w fun e w' => e = .returned (.bool true) ∧ Chg [] w w' := by
  have kc := bsConst
  obtain ⟨o1, o2, o3, o4, o5, o6, o7⟩ := F_ops
  obtain ⟨r1, r4⟩ := F_room
  obtain ⟨z1, z2, z3, z4⟩ := F_fin
  have O1 : Hd (F1.ops < 1073741824 ∧ F2.ops < 1073741824 ∧ F3.ops < 1073741824 ∧ F4.ops < 1073741824 ∧ F5.ops < 1073741824 ∧ F6.ops < 1073741824 ∧ F7.ops < 1073741824 ∧ (opD F7).ops < 1073741824) := hd ⟨by omega, by omega, by omega, by omega, by omega, by omega, by omega, by show F7.ops + 1 < _; omega⟩
  have R1 := hd r1
  have R4 := hd r4
  have Z1 := hd z1
  have Z2 := hd z2
  have Z3 := hd z3
  have Z4 := hd z4
  clear o1 o2 o3 o4 o5 o6 o7 r1 r4 z1 z2 z3 z4
  go_enter Try.func31, Try.ntmps31
  go_wp2_with fail
  refine (DNew_any w 100 (by decide)).mono ?_
  rintro e w1 ⟨b, fp, rfl, hk, hc, hf⟩
  go_wp2_with fail
  refine (Create_any hk [97] (by decide) (by decide)).mono ?_
  rintro e w2 ⟨rfl, h⟩
  generalize createE (newD 100) [97] = e1
  obtain ⟨fp1, hk1, hc1, hf1⟩ := (show DkOut _ _ _ F1 _ from h).ds hc hf
  clear h hk hc hf
  have b1 := Bs.marked w2 [120, 121] #[.int .u8 120, .int .u8 121] 2 rfl rfl (by decide)
  go_wp2_with fail
  have hcA := (Chg.refl [] w2).alloc (.cells #[.int .u8 120, .int .u8 121] 5 (2, 3))
  have hlow : ∀ k, (Value.slice (some ⟨w2.heap.size, 0, none⟩) 2 2).ownBlock = some k → k ∉ fp1 := by
    simp only [Value.ownBlock]; rintro k ⟨rfl⟩ hk; have := hk1.fpl _ hk; omega
  have hst := Append_any (hk1.k hcA) [97] (by decide) O1.out.1 _ [120, 121] b1 (by decide) (fun _ => hlow) (.inr (by rw [R1.out]; decide))
  replace hc1 := hc1.k hcA
  clear hcA hlow b1 hk1
  refine (hst).mono ?_
  rintro e w3 ⟨rfl, h⟩
  generalize appendE F1 [97] [120, 121] = e2
  obtain ⟨fp2, hk2, hc2, hf2⟩ := (show DkOut _ _ _ F2 _ from h).ds hc1 hf1
  clear h hst hc1 hf1
  go_wp2_with fail
  refine (Sync_any hk2 [97] (by decide) O1.out.2.1).mono ?_
  rintro e w4 ⟨rfl, h⟩
  generalize syncE F2 [97] = e3
  obtain ⟨fp3, hk3, hc3, hf3⟩ := (show DkOut _ _ _ F3 _ from h).ds hc2 hf2
  clear h hk2 hc2 hf2
  go_wp2_with fail
  refine (DirSync_any hk3 O1.out.2.2.1).mono ?_
  rintro e w5 ⟨rfl, h⟩
  generalize opE F3 = e4
  obtain ⟨fp4, hk4, hc4, hf4⟩ := (show DkOut _ _ _ F4 _ from h).ds hc3 hf3
  clear h hk3 hc3 hf3
  have b1 := Bs.marked w5 [122] #[.int .u8 122] 1 rfl rfl (by decide)
  go_wp2_with fail
  have hcA := (Chg.refl [] w5).alloc (.cells #[.int .u8 122] 5 (1, 2))
  have hlow : ∀ k, (Value.slice (some ⟨w5.heap.size, 0, none⟩) 1 1).ownBlock = some k → k ∉ fp4 := by
    simp only [Value.ownBlock]; rintro k ⟨rfl⟩ hk; have := hk4.fpl _ hk; omega
  have hst := Append_any (hk4.k hcA) [97] (by decide) O1.out.2.2.2.1 _ [122] b1 (by decide) (fun _ => hlow) (.inr (by rw [R4.out]; decide))
  replace hc4 := hc4.k hcA
  clear hcA hlow b1 hk4
  refine (hst).mono ?_
  rintro e w6 ⟨rfl, h⟩
  generalize appendE F4 [97] [122] = e5
  obtain ⟨fp5, hk5, hc5, hf5⟩ := (show DkOut _ _ _ F5 _ from h).ds hc4 hf4
  clear h hst hc4 hf4
  go_wp2_with fail
  refine (Create_any hk5 [98] (by decide) O1.out.2.2.2.2.1).mono ?_
  rintro e w7 ⟨rfl, h⟩
  generalize createE F5 [98] = e6
  obtain ⟨fp6, hk6, hc6, hf6⟩ := (show DkOut _ _ _ F6 _ from h).ds hc5 hf5
  clear h hk5 hc5 hf5
  have hcr := Crash_any hk6 0 (.slice none 0 0) [] (OwI.nil w7 0).fs (by simp [Value.ownBlock])
  go_wp2_with fail
  refine (hcr).mono ?_
  rintro e w8 ⟨rfl, h⟩
  obtain ⟨fp7, hk7, hc7, hf7⟩ := (show DkOut _ _ _ F7 _ from h).ds hc6 hf6
  clear h hcr hk6 hc6 hf6
  go_wp2_with fail
  refine (List_any hk7 O1.out.2.2.2.2.2.2.1).mono ?_
  rintro e w9 hL
  obtain ⟨hk8, hc8, hL⟩ := hL
  rcases hL with ⟨hne, -⟩ | ⟨-, ao, c, rfl, hrow⟩
  · exact absurd Z1.out hne
  have hD8 := DS.same hk8 hk7 hc7 hf7 hc8
  rw [Z2.out]
  clear hrow hk7 hc7 hf7 hc8 hk8
  obtain ⟨fp8, hk8, hc8, hf8⟩ := hD8
  go_wp2_with fail
  refine (Read_any hk8 [97] (by decide) O1.out.2.2.2.2.2.2.2).mono ?_
  rintro e w10 ⟨ao9, n9, c9, rfl, hb9, hk9, hc9⟩
  have hfin := (DS.same hk9 hk8 hc8 hf8 hc9).chg
  rw [Z3.out, if_pos rfl, Z4.out] at hb9
  rw [Z3.out]
  obtain ⟨ao', c', e⟩ := hb9.form
  simp only [Value.slice.injEq] at e
  obtain ⟨rfl, rfl, rfl⟩ := e
  have hbs := hb9.bs
  have HFIN := hd hfin
  clear hfin hk9 hk8 hc8 hf8 hc9 hb9
  go_wp2_with (refine wpStr rfl _ rfl _ _ rfl hbs ?_)
  go_ret
  exact ⟨rfl, HFIN.out⟩
end Go.Proofs.Ytpoohpmcopjklaa

/- DiskArms: the walk. -/
namespace Go.Proofs.Ytpoohpmcopjklaa
open Go.RowKit

def dA (dn fl : Nat) (i sz : Nat) : Dsk := ⟨1048576, [(List.replicate sz 1, 0)], [([97], 0)], [], [([], [97], 0)], 1 + i, 1 + dn, 1 + fl, decide (dn < i)⟩
theorem dA_start (dn fl : Nat) (h1 : dn < 20) (h2 : fl < 24) : armD (createD (newD 1048576) [97]) dn fl = dA dn fl 0 0 := by
  have e : createD (newD 1048576) [97] = ⟨1048576, [([], 0)], [([97], 0)], [], [([], [97], 0)], 1, -1, -1, false⟩ := by kernel_rfl
  unfold armD
  rw [e]
  have l1 : latD 1 dn = 1 + dn := by unfold latD; rw [if_neg (by omega)]
  have l2 : latD 1 fl = 1 + fl := by unfold latD; rw [if_neg (by omega)]
  simp only [l1, l2, dA]
  simp
theorem dA_opE (dn fl i sz : Nat) : opE (dA dn fl i sz) = if dn ≤ i then 8 else if i = fl then 7 else 0 := by
  unfold opE dA
  simp only
  by_cases h1 : dn ≤ i
  · rw [if_pos h1, if_pos (.inr ⟨by omega, by omega⟩)]
  · rw [if_neg h1, if_neg (by simp; omega)]
    by_cases h2 : i = fl
    · rw [if_pos h2, if_pos ⟨by omega, by omega⟩]
    · rw [if_neg h2, if_neg (by omega)]
theorem dA_get (dn fl i sz : Nat) : nget (dA dn fl i sz).names [97] = some 0 := by unfold dA; rfl
theorem dA_size (dn fl i sz : Nat) : sizeD (dA dn fl i sz) = sz := by simp [sizeD, dA]
theorem dA_opD (dn fl i sz : Nat) : opD (dA dn fl i sz) = dA dn fl (i + 1) sz := by
  unfold opD dA
  simp only [Dsk.mk.injEq, true_and]
  refine ⟨by omega, ?_⟩
  rw [Bool.eq_iff_iff]
  simp
  omega
theorem dA_append (dn fl i sz : Nat) (hs : sz ≤ 1000) : appendE (dA dn fl i sz) [97] [1] = (if dn ≤ i then 8 else if i = fl then 7 else 0) ∧
    appendD (dA dn fl i sz) [97] [1] = dA dn fl (i + 1) (if dn ≤ i ∨ i = fl then sz else sz + 1) := by
  have hE : appendE (dA dn fl i sz) [97] [1] = (if dn ≤ i then 8 else if i = fl then 7 else 0) := by
    unfold appendE
    rw [dA_opE, dA_get, dA_size]
    by_cases h1 : dn ≤ i
    · simp [h1]
    · by_cases h2 : i = fl
      · rw [if_neg h1, if_pos h2]; simp
      · have : (dA dn fl i sz).room = 1048576 := rfl
        simp [h1, h2, this]; omega
  refine ⟨hE, ?_⟩
  unfold appendD
  rw [hE, dA_get]
  by_cases h1 : dn ≤ i
  · rw [if_pos h1, if_pos (by decide), if_pos (.inl h1), dA_opD]
  · by_cases h2 : i = fl
    · rw [if_neg h1, if_pos h2, if_pos (by decide), if_pos (.inr h2), dA_opD]
    · rw [if_neg h1, if_neg h2, if_neg (by simp), if_neg (by omega)]
      rw [dA_opD]
      unfold setF dA
      simp [List.replicate_succ']
theorem dA_crash (dn fl sz : Nat) : opE (crashD (dA dn fl 30 sz) 1 [5]) = 0 ∧ syncE (crashD (dA dn fl 30 sz) 1 [5]) [97] = 0 ∧ (bytesD (crashD (dA dn fl 30 sz) 1 [5]) [97]).length = min sz 5 ∧ (opD (crashD (dA dn fl 30 sz) 1 [5])).off = false ∧ (crashD (dA dn fl 30 sz) 1 [5]).ops = 31 := by
  have hn : ((dA dn fl 30 sz).changes.take (min (max 1 0) ((dA dn fl 30 sz).changes.length : Int)).toNat).foldl turnD (dA dn fl 30 sz).sure = [([97], 0)] := rfl
  have hc : ∃ m, cutF (dA dn fl 30 sz).files [5] = [(List.replicate m 1, 0)] ∧ m = min sz 5 := by
    unfold dA cutF
    by_cases h : 0 < sz
    · refine ⟨min sz 5, ?_, rfl⟩
      simp only [List.length_replicate]
      rw [if_pos h, List.take_replicate]
      simp only [cutF, List.headD_cons]
      congr 3
      omega
    · refine ⟨sz, ?_, by omega⟩
      simp only [List.length_replicate]
      rw [if_neg h]
      rfl
  obtain ⟨m, hm, hm2⟩ := hc
  have e : crashD (dA dn fl 30 sz) 1 [5] = ⟨1048576, [(List.replicate m 1, m)], [([97], 0)], [([97], 0)], [], 31, -1, -1, false⟩ := by
    unfold crashD
    rw [hn, hm]
    unfold settleD dA
    have h1 : keepF [([97], 0)] [(List.replicate m (1 : UInt8), 0)] 1 = [(List.replicate m 1, m)] := by
      unfold keepF
      have : (List.range 1).filter (namedN [([97], 0)]) = [0] := by decide
      rw [this]; simp
    have h2 : movedN [([97], 0)] = [([97], 0)] := by decide
    simp only [List.length_cons, List.length_nil, h1, h2]
    rfl
  rw [e, ← hm2]
  refine ⟨rfl, rfl, ?_, rfl, rfl⟩
  show (List.replicate m (1 : UInt8)).length = m
  simp

theorem Bs.lit1 (w : World) : Bs (w.alloc (.cells #[.int .u8 1] 5)) (.slice (some ⟨w.heap.size, 0, none⟩) 1 1) [1] := (OwB.one w w.heap.size 1 1 rfl (Nat.le_refl _)).bs
theorem Size_dk {w : World} {fp : List Nat} {b : Nat} {d : Dsk} (h : Dk w fp b d) : Calls Try.prog 35 #[.pointer (some ⟨b, 0, none⟩)] w fun e w' => e = .returned (.int .i64 (sizeD d : Int)) ∧ Chg [] w w' :=
  let ⟨_, _, _, _, _, h⟩ := h; Size_any h
set_option maxRecDepth 100000 in
set_option maxHeartbeats 2000000 in
theorem DiskArms_law (n k : UInt8) (w : World) : Calls Try.prog 8 #[.int .u8 (n8 n), .int .u8 (n8 k)] w fun e w' => e = .returned (.bool true) ∧ Chg [] w w' := by
  have n0 := n8_lo n
  have n1 := n8_hi n
  have k0 := n8_lo k
  have k1 := n8_hi k
  go_enter Try.func8, Try.ntmps8
  go_wp2_with fail
  refine (fit17_any _).mono ?_
  rintro e w1 ⟨rfl, hc⟩
  go_upto_region 4 with (fail)
  obtain ⟨dn, hdn⟩ : ∃ dn : Nat, n8 n % 20 = (dn : Int) := ⟨(n8 n % 20).toNat, by omega⟩
  obtain ⟨fl, hfl⟩ : ∃ fl : Nat, n8 k % 24 = (fl : Int) := ⟨(n8 k % 24).toNat, by omega⟩
  have hd4 : dn < 20 := by omega
  have hf4 : fl < 24 := by omega
  rw [hdn, hfl]
  have hst := dA_start dn fl hd4 hf4
  have HST := hd hst
  clear hdn hfl hst n0 n1 k0 k1
  go_wp2_with fail
  refine (DNew_any _ 1048576 (by decide)).mono ?_
  rintro e w2 ⟨b, fp, rfl, hk2, hc2, hf2⟩
  replace hc2 := hc.k hc2
  replace hf2 := fun k hk => Nat.le_trans hc.size (hf2 k hk)
  clear hc
  go_wp2_with fail
  refine (Create_any hk2 [97] (by decide) (by decide)).mono ?_
  rintro e w3 ⟨rfl, h⟩
  obtain ⟨fp3, hk3, hc3, hf3⟩ := h.ds hc2 hf2
  have hal : Hd ((createD (newD 1048576) [97]).ops = 1) := hd (by kernel_rfl)
  generalize createE (newD 1048576) [97] = e1
  clear h hk2 hc2 hf2
  go_wp2_with fail
  refine (Arm_any hk3 dn fl).mono ?_
  rintro e w4 ⟨rfl, h⟩
  rw [HST.out] at h
  obtain ⟨fp4, hk4, hc4, hf4'⟩ := h.ds hc3 hf3
  clear h hk3 hc3 hf3 hal HST
  go_wp2_with fail
  refine (Ops_any hk4).mono ?_
  rintro e wx ⟨rfl, rfl⟩
  have ho4 : (dA dn fl 0 0).ops = 1 := rfl
  rw [ho4]
  have HS : Hd (DS w w4 b (dA dn fl 0 0)) := hd ⟨fp4, hk4, hc4, hf4'⟩
  clear hk4 hc4 hf4' ho4
  go_wp2_with fail
  go_loopw [9, 10, 11, 31] (fun t9 _ _ t31 wr => ∃ i sz : Nat, i ≤ 30 ∧ sz ≤ i ∧ t31 = .int .i64 i ∧ t9 = .int .i64 sz ∧ Hd (DS w wr b (dA dn fl i sz))) (fun _ _ _ t31 _ => 30 - (intOf t31).toNat)
  case atStart => exact ⟨0, 0, by omega, by omega, rfl, rfl, HS⟩
  case round =>
    obtain ⟨i, sz, hi, hs, rfl, rfl, hS⟩ := hrel
    by_cases hil : i < 30
    · obtain ⟨fpx, hkx, hcx, hfx⟩ := hS.out
      obtain ⟨hAE, hAD⟩ := dA_append dn fl i sz (by omega)
      have hop : (dA dn fl i sz).ops < 1073741824 := by show (1 : Int) + i < _; omega
      have hrm : (dA dn fl i sz).room ≤ 4294967296 := by show (1048576 : Int) ≤ _; decide
      clear hS HS
      have kx := Bs.lit1 wr
      have HAE := hd hAE
      have HAD := hd hAD
      have HOPS := hd hop
      have HRM := hd hrm
      clear hAE hAD hop hrm
      go_upto_region 12 with (fail)
      have hAE := HAE.out
      have hAD := HAD.out
      have hop := HOPS.out
      have hrm := HRM.out
      clear HAE HAD HOPS HRM
      have hcA := (Chg.refl [] wr).alloc (.cells #[.int .u8 1] 5)
      have hlow : ∀ k, (Value.slice (some ⟨wr.heap.size, 0, none⟩) 1 1).ownBlock = some k → k ∉ fpx := by
        simp only [Value.ownBlock]; rintro k ⟨rfl⟩ hk; have := hkx.fpl _ hk; omega
      have hap := Append_any (hkx.k hcA) [97] (by decide) hop _ [1] kx (by decide) (fun _ => hlow) (.inr hrm)
      have hcy := hcx.k hcA
      clear hlow hkx hcx hcA kx hop hrm
      by_cases h1 : dn ≤ i
      · have h1' : (dn : Int) ≤ (i : Int) := by omega
        have hAE1 : appendE (dA dn fl i sz) [97] [1] = 8 := by rw [hAE, if_pos h1]
        have hAD1 : appendD (dA dn fl i sz) [97] [1] = dA dn fl (i + 1) sz := by rw [hAD, if_pos (.inl h1)]
        rw [hAE1] at hap
        rw [hAD1] at hap
        have HAP := hd hap
        clear hap hAE hAD hAE1 hAD1
        go_wp2_with fail
        refine (HAP.out).mono ?_
        rintro e w6 ⟨rfl, h⟩
        obtain ⟨fp6, hk6, hc6, hf6⟩ := h.ds hcy hfx
        have hof : (dA dn fl (i + 1) sz).off = decide (dn < i + 1) := rfl
        have hop1 : (dA dn fl (i + 1) sz).ops = 1 + (i : Int) + 1 := by show (1 : Int) + ((i + 1 : Nat) : Int) = _; omega
        have hsz1 := dA_size dn fl (i + 1) sz
        have HOF := hd hof
        have HOP := hd hop1
        have HSZ := hd hsz1
        have HK6 := hd hk6
        have HFIN : Hd (DS w w6 b (dA dn fl (i + 1) sz)) := hd ⟨fp6, hk6, hc6, hf6⟩
        clear h hof hop1 hsz1 hk6 hc6 hf6 HAP hcy hfx
        go_wp2_with fail
        refine (Down_any HK6.out).mono ?_
        rintro e w7 ⟨rfl, rfl⟩
        rw [HOF.out, decide_eq_true (show dn < i + 1 by omega)]
        go_wp2_with fail
        refine (Size_dk HK6.out).mono ?_
        rintro e w7 ⟨rfl, hc7⟩
        rw [HSZ.out]
        replace HK6 := hd (HK6.out.k hc7)
        replace HFIN := hd (HFIN.out.k hc7)
        clear hc7
        go_wp2_with fail
        refine (Ops_any HK6.out).mono ?_
        rintro e w8 ⟨rfl, rfl⟩
        rw [HOP.out]
        go_wp2_with fail
        go_roundw
        case rel => exact ⟨i + 1, sz, by omega, by omega, by go_num, by first | rfl | go_num, HFIN⟩
        case measure => simp [intOf]; omega
      by_cases h2 : i = fl
      · have h1' : ¬ (dn : Int) ≤ (i : Int) := by omega
        have h2' : ((i : Int) == (fl : Int)) = true := by rw [beq_iff_eq]; omega
        have hAE1 : appendE (dA dn fl i sz) [97] [1] = 7 := by rw [hAE, if_neg h1, if_pos h2]
        have hAD1 : appendD (dA dn fl i sz) [97] [1] = dA dn fl (i + 1) sz := by rw [hAD, if_pos (.inr h2)]
        have H2 := hd h2
        clear h2
        rw [hAE1] at hap
        rw [hAD1] at hap
        have HAP := hd hap
        clear hap hAE hAD hAE1 hAD1
        go_wp2_with fail
        refine (HAP.out).mono ?_
        rintro e w6 ⟨rfl, h⟩
        obtain ⟨fp6, hk6, hc6, hf6⟩ := h.ds hcy hfx
        have hof : (dA dn fl (i + 1) sz).off = decide (dn < i + 1) := rfl
        have hop1 : (dA dn fl (i + 1) sz).ops = 1 + (i : Int) + 1 := by show (1 : Int) + ((i + 1 : Nat) : Int) = _; omega
        have hsz1 := dA_size dn fl (i + 1) sz
        have HOF := hd hof
        have HOP := hd hop1
        have HSZ := hd hsz1
        have HK6 := hd hk6
        have HFIN : Hd (DS w w6 b (dA dn fl (i + 1) sz)) := hd ⟨fp6, hk6, hc6, hf6⟩
        clear h hof hop1 hsz1 hk6 hc6 hf6 HAP hcy hfx
        go_wp2_with fail
        refine (Size_dk HK6.out).mono ?_
        rintro e w7 ⟨rfl, hc7⟩
        rw [HSZ.out]
        replace HK6 := hd (HK6.out.k hc7)
        replace HFIN := hd (HFIN.out.k hc7)
        clear hc7
        go_wp2_with fail
        refine (Ops_any HK6.out).mono ?_
        rintro e w8 ⟨rfl, rfl⟩
        rw [HOP.out]
        go_wp2_with fail
        go_roundw
        case rel => exact ⟨i + 1, sz, by omega, by omega, by go_num, by first | rfl | go_num, HFIN⟩
        case measure => simp [intOf]; omega
      · have h1' : ¬ (dn : Int) ≤ (i : Int) := by omega
        have h2' : ((i : Int) == (fl : Int)) = false := by rw [beq_eq_false_iff_ne]; omega
        have hAE1 : appendE (dA dn fl i sz) [97] [1] = 0 := by rw [hAE, if_neg h1, if_neg h2]
        have hAD1 : appendD (dA dn fl i sz) [97] [1] = dA dn fl (i + 1) (sz + 1) := by rw [hAD, if_neg (by omega)]
        have H2 := hd h2
        clear h2
        rw [hAE1] at hap
        rw [hAD1] at hap
        have HAP := hd hap
        clear hap hAE hAD hAE1 hAD1
        go_wp2_with fail
        refine (HAP.out).mono ?_
        rintro e w6 ⟨rfl, h⟩
        obtain ⟨fp6, hk6, hc6, hf6⟩ := h.ds hcy hfx
        have hof : (dA dn fl (i + 1) (sz + 1)).off = decide (dn < i + 1) := rfl
        have hop1 : (dA dn fl (i + 1) (sz + 1)).ops = 1 + (i : Int) + 1 := by show (1 : Int) + ((i + 1 : Nat) : Int) = _; omega
        have hsz1 := dA_size dn fl (i + 1) (sz + 1)
        have HOF := hd hof
        have HOP := hd hop1
        have HSZ := hd hsz1
        have HK6 := hd hk6
        have HFIN : Hd (DS w w6 b (dA dn fl (i + 1) (sz + 1))) := hd ⟨fp6, hk6, hc6, hf6⟩
        clear h hof hop1 hsz1 hk6 hc6 hf6 HAP hcy hfx
        go_wp2_with fail
        refine (Size_dk HK6.out).mono ?_
        rintro e w7 ⟨rfl, hc7⟩
        rw [HSZ.out]
        replace HK6 := hd (HK6.out.k hc7)
        replace HFIN := hd (HFIN.out.k hc7)
        clear hc7
        go_wp2_with fail
        refine (Ops_any HK6.out).mono ?_
        rintro e w8 ⟨rfl, rfl⟩
        rw [HOP.out]
        go_wp2_with fail
        go_roundw
        case rel => exact ⟨i + 1, (sz + 1), by omega, by omega, by go_num, by first | rfl | go_num, HFIN⟩
        case measure => simp [intOf]; omega
    · obtain rfl : i = 30 := by omega
      obtain ⟨c1, c2, c3, c4, c5⟩ := dA_crash dn fl sz
      obtain ⟨fpx, hkx, hcx, hfx⟩ := hS.out
      clear hS HS
      go_upto_region 25 with (fail)
      have hlit := Fs.lit wr [5] #[.int .i64 5] 3 1 rfl rfl (by simp)
      have hcA := (Chg.refl [] wr).alloc (.cells #[.int .i64 5] 3)
      have hlow : ∀ k, (Value.slice (some ⟨wr.heap.size, 0, none⟩) 1 1).ownBlock = some k → k ∉ fpx := by
        simp only [Value.ownBlock]; rintro k ⟨rfl⟩ hk; have := hkx.fpl _ hk; omega
      have hcr := Crash_any (hkx.k hcA) 1 _ [5] hlit hlow
      have hcy := hcx.k hcA
      clear hlow hkx hcx hcA hlit
      go_wp2_with fail
      refine (hcr).mono ?_
      rintro e w6 ⟨rfl, h⟩
      obtain ⟨fp6, hk6, hc6, hf6⟩ := h.ds hcy hfx
      clear h hcr hcy hfx
      generalize crashD (dA dn fl 30 sz) 1 [5] = d1 at *
      go_wp2_with fail
      refine (Read_any hk6 [97] (by decide) (by omega)).mono ?_
      rintro e w7 ⟨ao7, n7, c7, rfl, hb7, hk7, hc7⟩
      have hfin := (DS.same hk7 hk6 hc6 hf6 hc7).chg
      rw [c2, if_pos rfl] at hb7
      rw [c2]
      obtain ⟨ao', c', e⟩ := hb7.form
      simp only [Value.slice.injEq] at e
      obtain ⟨rfl, rfl, rfl⟩ := e
      rw [c3]
      have HFIN := hd hfin
      have HC4 := hd c4
      have HK7 := hd hk7
      clear hfin hk6 hc6 hf6 hb7 hk7 hc7 c1 c2 c3 c5 c4
      have hm : (if (5 : Int) < (sz : Int) then (5 : Int) else (sz : Int)) = ((min sz 5 : Nat) : Int) := by split <;> omega
      by_cases h5 : 5 < sz
      · have h5' : min sz 5 = 5 := by omega
        have h5'' : (5 : Int) < (sz : Int) := by omega
        rw [h5']
        clear hm h5' h5
        have hmin : min (sz : Int) 5 = 5 := by omega
        clear h5''
        go_wp2_with fail
        refine (Down_any HK7.out).mono ?_
        rintro e w8 ⟨rfl, rfl⟩
        rw [HC4.out]
        go_wp2_with fail
        go_ret
        exact ⟨rfl, HFIN.out⟩
      · have h5' : min sz 5 = sz := by omega
        have h5'' : ¬ (5 : Int) < (sz : Int) := by omega
        rw [h5']
        clear hm h5' h5
        have hmin : min (sz : Int) 5 = (sz : Int) := by omega
        clear h5''
        go_wp2_with fail
        refine (Down_any HK7.out).mono ?_
        rintro e w8 ⟨rfl, rfl⟩
        rw [HC4.out]
        go_wp2_with fail
        go_ret
        exact ⟨rfl, HFIN.out⟩
end Go.Proofs.Ytpoohpmcopjklaa

/- DiskBends: the walk. -/
namespace Go.Proofs.Ytpoohpmcopjklaa
open Go.RowKit

/-- The disk with one file, a. -/
def dB (B : List UInt8) (ops : Int) : Dsk := ⟨1048576, [(B, 0)], [([97], 0)], [], [([], [97], 0)], ops, -1, -1, false⟩
theorem B1 : createD (newD 1048576) [97] = dB [] 1 := by kernel_rfl
theorem B2 (B : List UInt8) (h : B.length ≤ 500) : appendE (dB [] 1) [97] B = 0 ∧ appendD (dB [] 1) [97] B = dB B 2 := by
  have hE : appendE (dB [] 1) [97] B = 0 := by
    unfold appendE
    rw [opE_of rfl rfl rfl]
    have h1 : sizeD (dB [] 1) = 0 := rfl
    have h2 : (nget (dB [] 1).names [97]).isNone = false := rfl
    have h3 : (dB [] 1).room = 1048576 := rfl
    rw [h1, h2, h3, if_neg (by decide), if_neg (by decide), if_neg (by simp; omega)]
  refine ⟨hE, ?_⟩
  unfold appendD
  rw [hE, if_neg (by decide)]
  rfl
theorem B3 (B : List UInt8) (at_ : Int) (M : UInt32) : bendDsk (dB B 2) [97] at_ M = dB (bendB B at_ M) 2 ∧ (nget (dB B 2).names [97]).isSome = true := ⟨rfl, rfl⟩
theorem B4 (B : List UInt8) (at_ : Int) (M : UInt32) : bendDsk (dB B 2) [98] at_ M = dB B 2 ∧ (nget (dB B 2).names [98]).isSome = false := ⟨rfl, rfl⟩
theorem B5 (B : List UInt8) : syncE (dB B 2) [97] = 0 ∧ bytesD (dB B 2) [97] = B ∧ opD (dB B 2) = dB B 3 ∧ sizeD (dB B 3) = B.length := ⟨rfl, rfl, rfl, by simp [sizeD, dB]⟩
theorem dB_lt {B : List UInt8} {o : Int} (h : o < 1073741824) : (dB B o).ops < 1073741824 := h
theorem dB_room {B : List UInt8} {o : Int} : (dB B o).room ≤ 4294967296 := by show (1048576 : Int) ≤ _; decide

set_option maxRecDepth 100000 in
set_option maxHeartbeats 2000000 in
theorem DiskBends_law (v0 : Value) (B : List UInt8) (at_ : Int) (mask : UInt32) (w : World) (h0 : Bs w v0 B) (_hl0 : B.length ≤ 140737488351232) (_lo : -9223372036854775808 ≤ at_) (_hi : at_ ≤ 9223372036854775807) :
    Calls Try.prog 10 #[v0, .int .i64 at_, .int .u32 (n32 mask)] w fun e w' => e = .returned (.bool true) ∧ Chg [] w w' := by
  obtain ⟨ao0, cap0, b0, off0, rfl, -⟩ := h0.open
  have H0 := hd h0
  clear h0
  go_enter Try.func10, Try.ntmps10
  go_wp2_with fail
  refine (fit17_any _).mono ?_
  rintro e w1 ⟨rfl, hc⟩
  by_cases hlt : B.length ≤ 500
  case neg =>
    have hlt' : (500 : Int) < (B.length : Int) := by omega
    go_wp2_with fail
    go_ret
    exact ⟨rfl, hc⟩
  have hlt' : ¬ (500 : Int) < (B.length : Int) := by omega
  by_cases ha1 : at_ < -1099511627776
  · go_wp2_with fail
    go_ret
    exact ⟨rfl, hc⟩
  by_cases ha2 : 1099511627776 < at_
  · go_wp2_with fail
    go_ret
    exact ⟨rfl, hc⟩
  go_wp2_with fail
  refine (DNew_any _ 1048576 (by decide)).mono ?_
  rintro e w2 ⟨b, fp, rfl, hk2, hc2, hf2⟩
  replace hc2 := hc.k hc2
  replace hf2 := fun k hk => Nat.le_trans hc.size (hf2 k hk)
  clear hc hlt'
  go_wp2_with fail
  refine (Create_any hk2 [97] (by decide) (by decide)).mono ?_
  rintro e w3 ⟨rfl, h⟩
  rw [B1] at h
  obtain ⟨fp3, hk3, hc3, hf3⟩ := h.ds hc2 hf2
  generalize createE (newD 1048576) [97] = e1
  clear h hk2 hc2 hf2
  have hap := Append_any hk3 [97] (by decide) (by decide) _ B (H0.out.k hc3) (by omega) (fun hp k hk hf => by have h1 := hf3 k hf; have h2 := H0.out.lt hp k hk; omega) (.inr (by decide))
  go_wp2_with fail
  refine (hap).mono ?_
  rintro e w4 ⟨rfl, h⟩
  rw [(B2 B hlt).2] at h
  rw [(B2 B hlt).1]
  obtain ⟨fp4, hk4, hc4, hf4⟩ := h.ds hc3 hf3
  clear h hk3 hc3 hf3 hap
  go_wp2_with fail
  refine (Copy_any hk4).mono ?_
  rintro e w5 ⟨b5, fp5, rfl, hk5, hc5, hf5⟩
  have hap5 : ∀ k ∈ fp5, k ∉ fp4 := fun k hk hk2 => by have h1 := hf5 k hk; have h2 := hk4.fpl k hk2; omega
  have hf5' : ∀ k ∈ fp5, w.heap.size ≤ k := fun k hk => by have h1 := hf5 k hk; have h3 := hc4.size; omega
  replace hk4 := hk4.k hc5
  replace hc4 := hc4.k hc5
  have hbe := DBend_any hk4 [97] (by decide) at_ mask (by omega) (by omega)
  rw [(B3 B at_ mask).1, (B3 B at_ mask).2] at hbe
  obtain ⟨X, hX⟩ : ∃ X, bendB B at_ mask = X := ⟨_, rfl⟩
  have hXl : X.length = B.length := by rw [← hX, bendB_length]
  rw [hX] at hbe
  have HXL := hd hXl
  clear hXl
  have HX := hd hX
  clear hX hc5 hf5
  go_wp2_with fail
  refine (hbe).mono ?_
  rintro e w6 ⟨rfl, h⟩
  obtain ⟨fp6, hk6, hc6, hf6⟩ := h.ds hc4 hf4
  obtain ⟨fp6', hk6', hch6, hgr6⟩ := h
  have hap6 : ∀ k ∈ fp5, k ∉ fp6' := fun k hk hk2 => by
    rcases hgr6 k hk2 with h1 | h1
    · exact hap5 k hk h1
    · have := hk5.fpl k hk; omega
  have hf6' : ∀ k ∈ fp6', w.heap.size ≤ k := fun k hk => by
    rcases hgr6 k hk with h1 | h1
    · exact hf4 k h1
    · have := hc4.size; omega
  replace hk5 := hk5.chg hch6 hap5
  clear hbe hk4 hc4 hf4 hk6 hf6 hgr6 hch6 hap5
  have hbe := DBend_any hk6' [98] (by decide) at_ mask (by omega) (by omega)
  rw [(B4 X at_ mask).1, (B4 X at_ mask).2] at hbe
  go_wp2_with fail
  refine (hbe).mono ?_
  rintro e w7 ⟨rfl, h⟩
  obtain ⟨_, _, hc7, -⟩ := h.ds hc6 hf6'
  obtain ⟨fp7, hk7, hch7, hgr7⟩ := h
  have hap7 : ∀ k ∈ fp5, k ∉ fp7 := fun k hk hk2 => by
    rcases hgr7 k hk2 with h1 | h1
    · exact hap6 k hk h1
    · have := hk5.fpl k hk; omega
  have hf7 : ∀ k ∈ fp7, w.heap.size ≤ k := fun k hk => by
    rcases hgr7 k hk with h1 | h1
    · exact hf6' k h1
    · have := hc6.size; omega
  replace hk5 := hk5.chg hch7 hap6
  clear hbe hk6' hc6 hf6' hgr7 hch7 hap6
  obtain ⟨r1, r2, r3, r4⟩ := B5 X
  have h5l' : ∀ k ∈ fp5, k < w7.heap.size := hk5.fpl
  have hbm : b ∈ fp7 := let ⟨_, _, _, _, _, hp⟩ := hk7; hp.fpb
  go_wp2_with fail
  refine (Read_any hk7 [97] (by decide) (dB_lt (by decide))).mono ?_
  rintro e w8 ⟨ao8, n8', c8, rfl, hb8, hk8, hc8⟩
  rw [r1, if_pos rfl, r2] at hb8
  rw [r1]
  rw [r3] at hk8
  obtain ⟨ao', c', e⟩ := hb8.form
  simp only [Value.slice.injEq] at e
  obtain ⟨rfl, rfl, rfl⟩ := e
  have hx8 := (DS.same hk8 hk7 hc7 hf7 hc8).chg
  replace hk5 := hk5.chg hc8 (fun k hk => by simp only [List.mem_singleton]; rintro rfl; exact hap7 k hk hbm)
  have h5l := hk5.fpl
  clear hk7 hc7 hc8 r1 r2 r3
  obtain ⟨y1, y2, y3, -⟩ := B5 B
  go_wp2_with fail
  refine (Read_any hk5 [97] (by decide) (dB_lt (by decide))).mono ?_
  rintro e w9 ⟨ao9, n9, c9, rfl, hb9, hk9, hc9⟩
  rw [y1, if_pos rfl, y2] at hb9
  rw [y1]
  obtain ⟨ao', c', e⟩ := hb9.form
  simp only [Value.slice.injEq] at e
  obtain ⟨rfl, rfl, rfl⟩ := e
  have hx9 := (DS.same hk9 hk5 hx8 hf5' hc9).chg
  have hb5m : b5 ∈ fp5 := let ⟨_, _, _, _, _, hp⟩ := hk5; hp.fpb
  have hk9' := hk8.chg hc9 (fun k hk => by simp only [List.mem_singleton]; rintro rfl; exact hap7 k hb5m hk)
  have hb8' := hb8.chg hc9 (fun k hk => by
    simp only [List.mem_singleton]
    rintro rfl
    have h1 := (hb8.lo k hk).1
    have h2 := h5l' k hb5m
    omega)
  have HS8 := hd hb8'.bs.strs
  have HS9 := hd hb9.bs.strs
  have HS0 := hd (H0.out.k hx9).strs
  have HB0 := hd (H0.out.k hx9)
  have HK9 := hd hk9'
  have HX9 := hd hx9
  have HR4 := hd r4
  have hl1 : -4611686018427387904 ≤ at_ := by omega
  have hl2 : at_ ≤ 4611686018427387904 := by omega
  clear hk9 hk9' hb8 hb8' hb9 hx8 hx9 hc9 y1 y2 y3 r4 hk5 hk8 hap7 hf7 hf5' h5l h5l' hbm hb5m ha1 ha2
  go_upto_region 13 with (fail)
  refine anyH_start (n := 23) (L := #[false, false, false, false, false, false, false, false, false, false, false, false, false, false, false, false, false, false, false, false, false, false, false]) (by kernel_rfl) (by kernel_rfl) (S := (fun wx => Chg [] w9 wx)) ((Chg.refl _ _).drew) (fun hHeld => ?_)
  refine anyH_take (i := 0) (d := 55) (L' := #[true, false, false, false, false, false, false, false, false, false, false, false, false, false, false, false, false, false, false, false, false, false, false]) (v := ?v11) rfl rfl (by kernel_rfl) (fun _ _ _ h => h) (by rfl) ?hy11 (by assumption) ?rest11
  case hy11 => (intro wx hSw; (try dsimp only at hSw); (skip); go_simp; (try with_reducible rfl))
  simp only [Act.put, List.setIfInBounds_toArray, List.set_cons_zero, List.set_cons_succ]
  refine anyH_take (i := 1) (d := 56) (L' := #[true, true, false, false, false, false, false, false, false, false, false, false, false, false, false, false, false, false, false, false, false, false, false]) (v := ?v12) rfl rfl (by kernel_rfl) (fun _ _ _ h => h) (by rfl) ?hy12 (by assumption) ?rest12
  case hy12 => (intro wx hSw; (try dsimp only at hSw); (have t1 := HS8.out _ hSw); go_simp; (try with_reducible rfl))
  simp only [Act.put, List.setIfInBounds_toArray, List.set_cons_zero, List.set_cons_succ]
  refine anyH_take (i := 2) (d := 57) (L' := #[true, true, true, false, false, false, false, false, false, false, false, false, false, false, false, false, false, false, false, false, false, false, false]) (v := ?v13) rfl rfl (by kernel_rfl) (fun _ _ _ h => h) (by rfl) ?hy13 (by assumption) ?rest13
  case hy13 => (intro wx hSw; (try dsimp only at hSw); (skip); go_simp; (try with_reducible rfl))
  simp only [Act.put, List.setIfInBounds_toArray, List.set_cons_zero, List.set_cons_succ]
  refine anyH_take (i := 3) (d := 58) (L' := #[true, true, true, true, false, false, false, false, false, false, false, false, false, false, false, false, false, false, false, false, false, false, false]) (v := ?v14) rfl rfl (by kernel_rfl) (fun _ _ _ h => h) (by rfl) ?hy14 (by assumption) ?rest14
  case hy14 => (intro wx hSw; (try dsimp only at hSw); (skip); go_simp; (try with_reducible rfl))
  simp only [Act.put, List.setIfInBounds_toArray, List.set_cons_zero, List.set_cons_succ]
  refine anyH_take (i := 4) (d := 59) (L' := #[true, true, true, true, true, false, false, false, false, false, false, false, false, false, false, false, false, false, false, false, false, false, false]) (v := ?v15) rfl rfl (by kernel_rfl) (fun _ _ _ h => h) (by rfl) ?hy15 (by assumption) ?rest15
  case hy15 => (intro wx hSw; (try dsimp only at hSw); (skip); go_simp; (try with_reducible rfl))
  simp only [Act.put, List.setIfInBounds_toArray, List.set_cons_zero, List.set_cons_succ]
  refine anyH_run (i := 5) (L' := #[true, true, true, true, true, true, false, false, false, false, false, false, false, false, false, false, false, false, false, false, false, false, false]) rfl (by kernel_rfl) (by rfl) (fun KK hKK => ?_)
  go_simp
  (refine (Bend_any _ B at_ mask _ (HB0.out.k hHeld) hl1 hl2 (by omega)).mono ?_; rintro e w10 ⟨ao10, c10, rfl, hb10, hc10⟩; rw [HX.out] at hb10; have hm10 := Chg.k hHeld hc10; have s10 := run_str hb10.bs; clear hb10 hc10; (try go_simp))
  refine hKK.out _ _ (by assumption) (fun hHeld => ?_)
  clear hKK KK
  try simp only [Act.put, List.setIfInBounds_toArray, List.set_cons_zero, List.set_cons_succ]
  refine anyH_run (i := 6) (L' := #[true, true, true, true, true, true, true, false, false, false, false, false, false, false, false, false, false, false, false, false, false, false, false]) rfl (by kernel_rfl) (by rfl) (fun KK hKK => ?_)
  go_simp
  (skip)
  refine hKK.out _ _ (by assumption) (fun hHeld => ?_)
  clear hKK KK
  try simp only [Act.put, List.setIfInBounds_toArray, List.set_cons_zero, List.set_cons_succ]
  refine anyH_run (i := 7) (L' := #[true, true, true, true, true, true, true, true, false, false, false, false, false, false, false, false, false, false, false, false, false, false, false]) rfl (by kernel_rfl) (by rfl) (fun KK hKK => ?_)
  go_simp
  (skip)
  refine hKK.out _ _ (by assumption) (fun hHeld => ?_)
  clear hKK KK
  try simp only [Act.put, List.setIfInBounds_toArray, List.set_cons_zero, List.set_cons_succ]
  refine anyH_run (i := 8) (L' := #[true, true, true, true, true, true, true, true, true, false, false, false, false, false, false, false, false, false, false, false, false, false, false]) rfl (by kernel_rfl) (by rfl) (fun KK hKK => ?_)
  go_simp
  (skip)
  refine hKK.out _ _ (by assumption) (fun hHeld => ?_)
  clear hKK KK
  try simp only [Act.put, List.setIfInBounds_toArray, List.set_cons_zero, List.set_cons_succ]
  refine anyH_take (i := 9) (d := 64) (L' := #[true, true, true, true, true, true, true, true, true, true, false, false, false, false, false, false, false, false, false, false, false, false, false]) (v := ?v20) rfl rfl (by kernel_rfl) (fun _ _ _ h => h) (by rfl) ?hy20 (by assumption) ?rest20
  case hy20 => (intro wx hSw; (try dsimp only at hSw); (skip); go_simp; (try with_reducible rfl))
  simp only [Act.put, List.setIfInBounds_toArray, List.set_cons_zero, List.set_cons_succ]
  refine anyH_take (i := 10) (d := 65) (L' := #[true, true, true, true, true, true, true, true, true, true, true, false, false, false, false, false, false, false, false, false, false, false, false]) (v := ?v21) rfl rfl (by kernel_rfl) (fun _ _ _ h => h) (by rfl) ?hy21 (by assumption) ?rest21
  case hy21 => (intro wx hSw; (try dsimp only at hSw); (have t2 := HS9.out _ hSw); go_simp; (try with_reducible rfl))
  simp only [Act.put, List.setIfInBounds_toArray, List.set_cons_zero, List.set_cons_succ]
  refine anyH_take (i := 11) (d := 66) (L' := #[true, true, true, true, true, true, true, true, true, true, true, true, false, false, false, false, false, false, false, false, false, false, false]) (v := ?v22) rfl rfl (by kernel_rfl) (fun _ _ _ h => h) (by rfl) ?hy22 (by assumption) ?rest22
  case hy22 => (intro wx hSw; (try dsimp only at hSw); (skip); go_simp; (try with_reducible rfl))
  simp only [Act.put, List.setIfInBounds_toArray, List.set_cons_zero, List.set_cons_succ]
  refine anyH_take (i := 12) (d := 67) (L' := #[true, true, true, true, true, true, true, true, true, true, true, true, true, false, false, false, false, false, false, false, false, false, false]) (v := ?v23) rfl rfl (by kernel_rfl) (fun _ _ _ h => h) (by rfl) ?hy23 (by assumption) ?rest23
  case hy23 => (intro wx hSw; (try dsimp only at hSw); (have t3 := HS0.out _ hSw); go_simp; (try with_reducible rfl))
  simp only [Act.put, List.setIfInBounds_toArray, List.set_cons_zero, List.set_cons_succ]
  refine anyH_take (i := 13) (d := 68) (L' := #[true, true, true, true, true, true, true, true, true, true, true, true, true, true, false, false, false, false, false, false, false, false, false]) (v := ?v24) rfl rfl (by kernel_rfl) (fun _ _ _ h => h) (by rfl) ?hy24 (by assumption) ?rest24
  case hy24 => (intro wx hSw; (try dsimp only at hSw); (skip); go_simp; (try with_reducible rfl))
  simp only [Act.put, List.setIfInBounds_toArray, List.set_cons_zero, List.set_cons_succ]
  refine anyH_run (i := 14) (L' := #[true, true, true, true, true, true, true, true, true, true, true, true, true, true, true, false, false, false, false, false, false, false, false]) rfl (by kernel_rfl) (by rfl) (fun KK hKK => ?_)
  go_simp
  (skip)
  refine hKK.out _ _ (by assumption) (fun hHeld => ?_)
  clear hKK KK
  try simp only [Act.put, List.setIfInBounds_toArray, List.set_cons_zero, List.set_cons_succ]
  refine anyH_run (i := 15) (L' := #[true, true, true, true, true, true, true, true, true, true, true, true, true, true, true, true, false, false, false, false, false, false, false]) rfl (by kernel_rfl) (by rfl) (fun KK hKK => ?_)
  go_simp
  (skip)
  refine hKK.out _ _ (by assumption) (fun hHeld => ?_)
  clear hKK KK
  try simp only [Act.put, List.setIfInBounds_toArray, List.set_cons_zero, List.set_cons_succ]
  refine anyH_take (i := 16) (d := 71) (L' := #[true, true, true, true, true, true, true, true, true, true, true, true, true, true, true, true, true, false, false, false, false, false, false]) (v := ?v27) rfl rfl (by kernel_rfl) (fun _ _ _ h => h) (by rfl) ?hy27 (by assumption) ?rest27
  case hy27 => (intro wx hSw; (try dsimp only at hSw); (skip); go_simp; (try with_reducible rfl))
  simp only [Act.put, List.setIfInBounds_toArray, List.set_cons_zero, List.set_cons_succ]
  refine anyH_take (i := 18) (d := 73) (L' := #[true, true, true, true, true, true, true, true, true, true, true, true, true, true, true, true, true, false, true, false, false, false, false]) (v := ?v28) rfl rfl (by kernel_rfl) (fun _ _ _ h => h) (by rfl) ?hy28 (by assumption) ?rest28
  case hy28 => (intro wx hSw; (try dsimp only at hSw); (skip); go_simp; (try with_reducible rfl))
  simp only [Act.put, List.setIfInBounds_toArray, List.set_cons_zero, List.set_cons_succ]
  refine anyH_take (i := 19) (d := 74) (L' := #[true, true, true, true, true, true, true, true, true, true, true, true, true, true, true, true, true, false, true, true, false, false, false]) (v := ?v29) rfl rfl (by kernel_rfl) (fun _ _ _ h => h) (by rfl) ?hy29 (by assumption) ?rest29
  case hy29 => (intro wx hSw; (try dsimp only at hSw); (skip); go_simp; (try with_reducible rfl))
  simp only [Act.put, List.setIfInBounds_toArray, List.set_cons_zero, List.set_cons_succ]
  refine anyH_run (i := 17) (L' := #[true, true, true, true, true, true, true, true, true, true, true, true, true, true, true, true, true, true, true, true, false, false, false]) rfl (by kernel_rfl) (by rfl) (fun KK hKK => ?_)
  go_simp
  (refine (Size_dk (HK9.out.k hm10)).mono ?_; rintro e w11 ⟨rfl, hc11⟩; rw [HR4.out, HXL.out]; have hm11 := Chg.k hm10 hc11; (try go_simp))
  refine hKK.out _ _ (by assumption) (fun hHeld => ?_)
  clear hKK KK
  try simp only [Act.put, List.setIfInBounds_toArray, List.set_cons_zero, List.set_cons_succ]
  refine anyH_run (i := 20) (L' := #[true, true, true, true, true, true, true, true, true, true, true, true, true, true, true, true, true, true, true, true, true, false, false]) rfl (by kernel_rfl) (by rfl) (fun KK hKK => ?_)
  go_simp
  (skip)
  refine hKK.out _ _ (by assumption) (fun hHeld => ?_)
  clear hKK KK
  try simp only [Act.put, List.setIfInBounds_toArray, List.set_cons_zero, List.set_cons_succ]
  refine anyH_run (i := 21) (L' := #[true, true, true, true, true, true, true, true, true, true, true, true, true, true, true, true, true, true, true, true, true, true, false]) rfl (by kernel_rfl) (by rfl) (fun KK hKK => ?_)
  go_simp
  (skip)
  refine hKK.out _ _ (by assumption) (fun hHeld => ?_)
  clear hKK KK
  try simp only [Act.put, List.setIfInBounds_toArray, List.set_cons_zero, List.set_cons_succ]
  refine anyH_run (i := 22) (L' := #[true, true, true, true, true, true, true, true, true, true, true, true, true, true, true, true, true, true, true, true, true, true, true]) rfl (by kernel_rfl) (by rfl) (fun KK hKK => ?_)
  go_simp
  (skip)
  refine hKK.out _ _ (by assumption) (fun hHeld => ?_)
  clear hKK KK
  try simp only [Act.put, List.setIfInBounds_toArray, List.set_cons_zero, List.set_cons_succ]
  refine wpAnyH_done (by kernel_rfl) ?_ _
  have HFIN := hd (HX9.out.k hm11)
  clear hm11
  go_wp2_with fail
  go_ret
  exact ⟨rfl, HFIN.out⟩
end Go.Proofs.Ytpoohpmcopjklaa
