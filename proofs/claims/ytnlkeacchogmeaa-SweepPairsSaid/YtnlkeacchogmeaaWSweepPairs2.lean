/- Words and walks that SweepPairs rests on, part 2. -/
import Derived.Test.YtnlkeacchogmeaaWSweepPairs1
import Derived.Shelf.SlSortCmp.InsertionK
import Derived.Test.YtnlkeacchogmeaaRows
import Derived.Shelf.SlSortCmp.WholeK
import Derived.Shelf.SlicesG.Cmp
import Derived.Shelf.SlGeneric
import Derived.Shelf.SlSortCmp.NoneTotal
import Derived.Lib.SliceRun
import Derived.Deep.Cut
import Derived.WalkMore
import Derived.Laws.StructEq
import Derived.Maps.Keyed
import Derived.Maps.Own
import Derived.DeepKeys4
import Derived.WideKeyPair
/- Rows of what lies in some cells each: a row of the call's own, before and behind a sort. -/
namespace Go.Proofs.Ytnlkeacchogmeaa
open Go.RowKit Go.Sort Go.Shelf

section
variable {α : Type} (enc : α → List Value) (k : Nat)
theorem flat_len (hk : ∀ x, (enc x).length = k) : ∀ l : List α, (l.flatMap enc).length = l.length * k
  | [] => by simp
  | x :: l => by rw [List.flatMap_cons, List.length_append, hk, flat_len hk l, List.length_cons, Nat.succ_mul, Nat.add_comm]
theorem flat_get (hk : ∀ x, (enc x).length = k) (l : List α) (i j : Nat) (hi : i < l.length) (hj : j < k) : (l.flatMap enc)[i * k + j]? = (enc l[i])[j]? := by
  rw [List.flatMap_def, flatten_get (size := k) (fun i h => by rw [List.getElem_map]; exact hk _) i j (by simpa using hi) hj, List.getElem_map]
theorem flatK_eq [Inhabited α] (hk : ∀ x, (enc x).length = k) (l : List α) : flatK enc k l.toArray = (l.flatMap enc).toArray := by
  refine ext_get! (by rw [size_flatK, List.size_toArray, List.size_toArray, flat_len enc k hk]) fun t ht => ?_
  have ht' : t < l.toArray.size * k := by simpa using ht
  have k0 : 0 < k := by
    rcases Nat.eq_zero_or_pos k with h | h
    · subst h; simp at ht'
    · exact h
  have h1 : t / k < l.length := by
    rw [List.size_toArray] at ht'
    exact (Nat.div_lt_iff_lt_mul k0).2 ht'
  have h2 : t % k < k := Nat.mod_lt _ k0
  have e : t = t / k * k + t % k := by rw [Nat.mul_comm]; exact (Nat.div_add_mod t k).symm
  rw [get_flatK _ _ _ _ ht']
  have hg := flat_get enc k hk l (t / k) (t % k) h1 h2
  rw [← e] at hg
  have a1 : l.toArray[t / k]! = l[t / k] := by rw [getElem!_pos l.toArray _ (by simpa using h1)]; simp
  have a2 : (enc l[t / k])[t % k]? = some (enc l[t / k])[t % k]! := by
    have hlt : t % k < (enc l[t / k]).length := by rw [hk]; exact h2
    rw [List.getElem?_eq_getElem hlt, getElem!_pos (enc l[t / k]) (t % k) hlt]
  rw [a1]
  rw [a2] at hg
  rw [Array.getElem!_eq_getD, Array.getD_eq_getD_getElem?, List.getElem?_toArray, hg]
  rfl
theorem flat_one (h1 : ∀ x, ∀ v ∈ enc x, v.oneCell' = true) (l : List α) : ∀ v ∈ l.flatMap enc, v.oneCell' = true := by
  intro v hv
  obtain ⟨x, -, hx⟩ := List.mem_flatMap.1 hv
  exact h1 x v hx
/-- A row of the call's own holds what it holds, in the sort's words. -/
theorem own_holds [Inhabited α] (hk : ∀ x, (enc x).length = k) {w : World} {base : Nat} {e : TypeId} {g c : Nat} {l : List α} (h : w.ownsRow base e k (.slice (some ⟨g, 0, none⟩) l.length c) l.length (l.flatMap enc)) :
    HoldsK enc k w g 0 l.toArray ∧ g < w.heap.size := by
  have hc := h.cells (g := g) rfl
  obtain ⟨hl, ⟨h, -⟩ | ⟨g', cap, cur, he, hb, hg, -, -, -, ht⟩⟩ := h
  · simp at h
  · simp only [Value.slice.injEq, Option.some.injEq, Addr.mk.injEq] at he
    obtain ⟨⟨rfl, -⟩, -, rfl⟩ := he
    refine ⟨?_, lt_of_block hg⟩
    unfold HoldsK
    rw [flatK_eq enc k hk]
    intro j hj
    have hj' : j < (l.flatMap enc).length := by simpa using hj
    refine ⟨?_, frozen_of_row w g _ cur e hg⟩
    have := hc j _ (List.getElem?_eq_getElem hj')
    rw [getElem!_pos _ j hj]
    have ea : (⟨g, 0 + j, none⟩ : Addr) = (⟨g, 0, none⟩ : Addr).add j := by
      unfold Addr.add
      by_cases hz : j = 0 <;> simp [hz]
    rw [ea, this]
    rfl
/-- Behind the sort. -/
theorem own_sorted [Inhabited α] (hk : ∀ x, (enc x).length = k) {w : World} {base : Nat} {e : TypeId} {g c : Nat} {l l' : List α} (h : w.ownsRow base e k (.slice (some ⟨g, 0, none⟩) l.length c) l.length (l.flatMap enc)) (hl' : l'.length = l.length) (n : Nat) (os : Array Obj) :
    (sortWorldK enc k w g 0 n l'.toArray os).ownsRow base e k (.slice (some ⟨g, 0, none⟩) l'.length c) l'.length (l'.flatMap enc) ∧ Chg [g] w (sortWorldK enc k w g 0 n l'.toArray os) := by
  obtain ⟨hH, hlt⟩ := own_holds enc k hk h
  obtain ⟨hl, ⟨h, -⟩ | ⟨g', cap, cur, he, hb, hg, hnc, hcm, hcs, ht⟩⟩ := h
  · simp at h
  simp only [Value.slice.injEq, Option.some.injEq, Addr.mk.injEq] at he
  obtain ⟨⟨rfl, -⟩, -, rfl⟩ := he
  have hH' : HoldsK enc k (putRowK enc k (Go.Sort.ahead w n) g 0 l'.toArray) g 0 l'.toArray := holdsK_putRowK enc k _ g 0 l.toArray l'.toArray (holdsK_ahead enc k w n g 0 _ hH) (by simpa using hl')
  have hp : (putRowK enc k (Go.Sort.ahead w n) g 0 l'.toArray).heap[g]? = some (.cells (putCells id 0 (flatK enc k l'.toArray) cur) e (0, 0)) := by
    unfold putRowK putRow mapBlock
    simp only [Array.getElem?_modify]
    rw [if_pos trivial]
    show (w.heap[g]?).map _ = _
    rw [hg]
    rfl
  have hg2 : (sortWorldK enc k w g 0 n l'.toArray os).heap[g]? = some (.cells (putCells id 0 (flatK enc k l'.toArray) cur) e (0, 0)) := by
    unfold sortWorldK
    rw [heap_grow_old _ os (lt_of_block hp), hp]
  refine ⟨⟨flat_len enc k hk l', .inr ⟨g, c, _, rfl, hb, hg2, by omega, hcm, ?_, ?_⟩⟩, ⟨rfl, rfl, rfl, ?_, fun i hi hS => ?_⟩⟩
  · simp only [putCells, Array.size_mapIdx]; exact hcs
  · apply List.ext_getElem?
    intro j
    have hfl := flat_len enc k hk l'
    have hle : l'.length * k ≤ c * k := Nat.mul_le_mul_right k (by omega)
    by_cases hj : j < l'.length * k
    · have h1 := (hH' j (by rw [size_flatK]; simpa using hj)).1
      rw [cell_of_row _ g _ _ _ _ hp, flatK_eq enc k hk, Nat.zero_add] at h1
      rw [List.getElem?_take, if_pos hj, Array.getElem?_toList, flatK_eq enc k hk, h1]
      rw [List.getElem?_eq_getElem (by rw [hfl]; exact hj), getElem!_pos _ j (by rw [List.size_toArray, hfl]; exact hj)]
      rfl
    · rw [List.getElem?_take, if_neg hj, List.getElem?_eq_none (by rw [hfl]; omega)]
  · unfold sortWorldK
    rw [size_grow]
    show w.heap.size ≤ (putRow id _ _ _ _).heap.size + _
    rw [size_putRow]
    exact Nat.le_add_right _ _
  · have hne : g ≠ i := fun h => hS (by simp [h])
    unfold sortWorldK
    rw [heap_grow_old _ os (by show i < (putRow id _ _ _ _).heap.size; rw [size_putRow]; exact hi)]
    unfold putRowK putRow mapBlock
    simp only [Array.getElem?_modify]
    rw [if_neg hne]
    rfl
end
end Go.Proofs.Ytnlkeacchogmeaa

/- The shelf's layings of slices.SortFunc and cmp.Compare at this program. -/
namespace Go.Proofs.Ytnlkeacchogmeaa
open Go.RowKit Go.Sort Go.Shelf

def sortLItem_ren : Go.Shelf.Ren := ⟨fun | 6 => 12 | 15 => 24 | 14 => 23 | 28 => 39 | 29 => 40 | 20 => 31 | 21 => 32 | 22 => 33 | 23 => 34 | 24 => 35 | 25 => 36 | 26 => 37 | 27 => 38 | 46 => 49 | 47 => 50 | 48 => 51 | 49 => 52 | 50 => 53 | 57 => 57 | n => n, fun | 22 => 23 | 24 => 30 | 25 => 44 | 3 => 3 | 39 => 53 | 0 => 0 | 53 => 71 | 55 => 73 | 4 => 4 | 46 => 64 | 45 => 63 | 50 => 68 | 5 => 5 | 9 => 9 | 66 => 79 | 70 => 83 | 76 => 87 | 77 => 88 | n => n, fun | n => n⟩
theorem sortLItem : Go.Proofs.SlLaysF0.n6 Try.prog sortLItem_ren := {
  mixed := by kernel_rfl
  f6 := ⟨Try.f12.name, by decide, Try.func12.trans (congrArg some (by kernel_rfl))⟩
  f14 := ⟨Try.f23.name, by decide, Try.func23.trans (congrArg some (by kernel_rfl))⟩
  f15 := Try.func24.trans (congrArg some (by kernel_rfl))
  f20 := ⟨Try.f31.name, by decide, Try.func31.trans (congrArg some (by kernel_rfl))⟩
  f21 := ⟨Try.f32.name, by decide, Try.func32.trans (congrArg some (by kernel_rfl))⟩
  f22 := ⟨Try.f33.name, by decide, Try.func33.trans (congrArg some (by kernel_rfl))⟩
  f23 := ⟨Try.f34.name, by decide, Try.func34.trans (congrArg some (by kernel_rfl))⟩
  f24 := ⟨Try.f35.name, by decide, Try.func35.trans (congrArg some (by kernel_rfl))⟩
  f25 := ⟨Try.f36.name, by decide, Try.func36.trans (congrArg some (by kernel_rfl))⟩
  f26 := ⟨Try.f37.name, by decide, Try.func37.trans (congrArg some (by kernel_rfl))⟩
  f27 := ⟨Try.f38.name, by decide, Try.func38.trans (congrArg some (by kernel_rfl))⟩
  f28 := Try.func39.trans (congrArg some (by kernel_rfl))
  f29 := Try.func40.trans (congrArg some (by kernel_rfl))
  f46 := ⟨Try.f49.name, by decide, Try.func49.trans (congrArg some (by kernel_rfl))⟩
  f47 := Try.func50.trans (congrArg some (by kernel_rfl))
  f48 := Try.func51.trans (congrArg some (by kernel_rfl))
  f49 := ⟨Try.f52.name, by decide, Try.func52.trans (congrArg some (by kernel_rfl))⟩
  f50 := ⟨Try.f53.name, by decide, Try.func53.trans (congrArg some (by kernel_rfl))⟩
  f57 := ⟨Try.f57.name, by decide, Try.func57.trans (congrArg some (by kernel_rfl))⟩
  t0 := Try.underlying0
  a0 := Try.isAgg0
  z0 := Try.sizeOf0
  v0 := Try.zeroValue0
  t3 := Try.underlying3
  a3 := Try.isAgg3
  z3 := Try.sizeOf3
  v3 := Try.zeroValue3
  t4 := Try.underlying4
  a4 := Try.isAgg4
  z4 := Try.sizeOf4
  v4 := Try.zeroValue4
  t5 := Try.underlying5
  a5 := Try.isAgg5
  z5 := Try.sizeOf5
  v5 := Try.zeroValue5
  t9 := Try.underlying9
  a9 := Try.isAgg9
  z9 := Try.sizeOf9
  v9 := Try.zeroValue9
  t22 := Try.underlying23
  a22 := Try.isAgg23
  z22 := Try.sizeOf23
  v22 := Try.zeroValue23
  t25 := Try.underlying44
  a25 := Try.isAgg44
  z25 := Try.sizeOf44
  v25 := Try.zeroValue44
  t39 := Try.underlying53
  a39 := Try.isAgg53
  z39 := Try.sizeOf53
  v39 := Try.zeroValue53
  t45 := Try.underlying63
  a45 := Try.isAgg63
  z45 := Try.sizeOf63
  v45 := Try.zeroValue63
  t46 := Try.underlying64
  a46 := Try.isAgg64
  z46 := Try.sizeOf64
  v46 := Try.zeroValue64
  t50 := Try.underlying68
  a50 := Try.isAgg68
  z50 := Try.sizeOf68
  v50 := Try.zeroValue68
  t53 := Try.underlying71
  a53 := Try.isAgg71
  z53 := Try.sizeOf71
  v53 := Try.zeroValue71
  t55 := Try.underlying73
  a55 := Try.isAgg73
  z55 := Try.sizeOf73
  v55 := Try.zeroValue73
  t66 := Try.underlying79
  a66 := Try.isAgg79
  z66 := Try.sizeOf79
  v66 := Try.zeroValue79
  t70 := Try.underlying83
  a70 := Try.isAgg83
  z70 := Try.sizeOf83
  v70 := Try.zeroValue83
  t76 := Try.underlying87
  a76 := Try.isAgg87
  z76 := Try.sizeOf87
  v76 := Try.zeroValue87
  t77 := Try.underlying88
  a77 := Try.isAgg88
  z77 := Try.sizeOf88
  v77 := Try.zeroValue88 }
def cmpLF_ren : Go.Shelf.Ren := ⟨fun | 5 => 14 | 7 => 25 | n => n, fun | 22 => 24 | 3 => 3 | 4 => 4 | n => n, fun | n => n⟩
theorem cmpLF : Go.Proofs.SlLaysC2.n5 Try.prog cmpLF_ren := {
  mixed := by kernel_rfl
  f5 := ⟨Try.f14.name, by decide, Try.func14.trans (congrArg some (by kernel_rfl))⟩
  f7 := ⟨Try.f25.name, by decide, Try.func25.trans (congrArg some (by kernel_rfl))⟩
  t3 := Try.underlying3
  a3 := Try.isAgg3
  z3 := Try.sizeOf3
  v3 := Try.zeroValue3
  t4 := Try.underlying4
  a4 := Try.isAgg4
  z4 := Try.sizeOf4
  v4 := Try.zeroValue4
  t22 := Try.underlying24
  a22 := Try.isAgg24
  z22 := Try.sizeOf24
  v22 := Try.zeroValue24 }
def sortLP2_ren : Go.Shelf.Ren := ⟨fun | 6 => 18 | 15 => 24 | 14 => 27 | 28 => 39 | 29 => 40 | 20 => 41 | 21 => 42 | 22 => 43 | 23 => 44 | 24 => 45 | 25 => 46 | 26 => 47 | 27 => 48 | 46 => 54 | 47 => 50 | 48 => 51 | 49 => 55 | 50 => 56 | 57 => 58 | n => n, fun | 22 => 31 | 24 => 33 | 25 => 51 | 3 => 3 | 39 => 53 | 0 => 0 | 53 => 71 | 55 => 73 | 4 => 4 | 46 => 64 | 45 => 63 | 50 => 68 | 5 => 5 | 9 => 9 | 66 => 79 | 70 => 83 | 76 => 87 | 77 => 88 | n => n, fun | n => n⟩
theorem sortLP2 : Go.Proofs.SlLaysF0.n6 Try.prog sortLP2_ren := {
  mixed := by kernel_rfl
  f6 := ⟨Try.f18.name, by decide, Try.func18.trans (congrArg some (by kernel_rfl))⟩
  f14 := ⟨Try.f27.name, by decide, Try.func27.trans (congrArg some (by kernel_rfl))⟩
  f15 := Try.func24.trans (congrArg some (by kernel_rfl))
  f20 := ⟨Try.f41.name, by decide, Try.func41.trans (congrArg some (by kernel_rfl))⟩
  f21 := ⟨Try.f42.name, by decide, Try.func42.trans (congrArg some (by kernel_rfl))⟩
  f22 := ⟨Try.f43.name, by decide, Try.func43.trans (congrArg some (by kernel_rfl))⟩
  f23 := ⟨Try.f44.name, by decide, Try.func44.trans (congrArg some (by kernel_rfl))⟩
  f24 := ⟨Try.f45.name, by decide, Try.func45.trans (congrArg some (by kernel_rfl))⟩
  f25 := ⟨Try.f46.name, by decide, Try.func46.trans (congrArg some (by kernel_rfl))⟩
  f26 := ⟨Try.f47.name, by decide, Try.func47.trans (congrArg some (by kernel_rfl))⟩
  f27 := ⟨Try.f48.name, by decide, Try.func48.trans (congrArg some (by kernel_rfl))⟩
  f28 := Try.func39.trans (congrArg some (by kernel_rfl))
  f29 := Try.func40.trans (congrArg some (by kernel_rfl))
  f46 := ⟨Try.f54.name, by decide, Try.func54.trans (congrArg some (by kernel_rfl))⟩
  f47 := Try.func50.trans (congrArg some (by kernel_rfl))
  f48 := Try.func51.trans (congrArg some (by kernel_rfl))
  f49 := ⟨Try.f55.name, by decide, Try.func55.trans (congrArg some (by kernel_rfl))⟩
  f50 := ⟨Try.f56.name, by decide, Try.func56.trans (congrArg some (by kernel_rfl))⟩
  f57 := ⟨Try.f58.name, by decide, Try.func58.trans (congrArg some (by kernel_rfl))⟩
  t0 := Try.underlying0
  a0 := Try.isAgg0
  z0 := Try.sizeOf0
  v0 := Try.zeroValue0
  t3 := Try.underlying3
  a3 := Try.isAgg3
  z3 := Try.sizeOf3
  v3 := Try.zeroValue3
  t4 := Try.underlying4
  a4 := Try.isAgg4
  z4 := Try.sizeOf4
  v4 := Try.zeroValue4
  t5 := Try.underlying5
  a5 := Try.isAgg5
  z5 := Try.sizeOf5
  v5 := Try.zeroValue5
  t9 := Try.underlying9
  a9 := Try.isAgg9
  z9 := Try.sizeOf9
  v9 := Try.zeroValue9
  t22 := Try.underlying31
  a22 := Try.isAgg31
  z22 := Try.sizeOf31
  v22 := Try.zeroValue31
  t25 := Try.underlying51
  a25 := Try.isAgg51
  z25 := Try.sizeOf51
  v25 := Try.zeroValue51
  t39 := Try.underlying53
  a39 := Try.isAgg53
  z39 := Try.sizeOf53
  v39 := Try.zeroValue53
  t45 := Try.underlying63
  a45 := Try.isAgg63
  z45 := Try.sizeOf63
  v45 := Try.zeroValue63
  t46 := Try.underlying64
  a46 := Try.isAgg64
  z46 := Try.sizeOf64
  v46 := Try.zeroValue64
  t50 := Try.underlying68
  a50 := Try.isAgg68
  z50 := Try.sizeOf68
  v50 := Try.zeroValue68
  t53 := Try.underlying71
  a53 := Try.isAgg71
  z53 := Try.sizeOf71
  v53 := Try.zeroValue71
  t55 := Try.underlying73
  a55 := Try.isAgg73
  z55 := Try.sizeOf73
  v55 := Try.zeroValue73
  t66 := Try.underlying79
  a66 := Try.isAgg79
  z66 := Try.sizeOf79
  v66 := Try.zeroValue79
  t70 := Try.underlying83
  a70 := Try.isAgg83
  z70 := Try.sizeOf83
  v70 := Try.zeroValue83
  t76 := Try.underlying87
  a76 := Try.isAgg87
  z76 := Try.sizeOf87
  v76 := Try.zeroValue87
  t77 := Try.underlying88
  a77 := Try.isAgg88
  z77 := Try.sizeOf88
  v77 := Try.zeroValue88 }
def cmpLint_ren : Go.Shelf.Ren := ⟨fun | 5 => 21 | 7 => 28 | n => n, fun | 22 => 3 | 3 => 3 | 4 => 4 | n => n, fun | n => n⟩
theorem cmpLint : Go.Proofs.SlLaysC2.n5 Try.prog cmpLint_ren := {
  mixed := by kernel_rfl
  f5 := ⟨Try.f21.name, by decide, Try.func21.trans (congrArg some (by kernel_rfl))⟩
  f7 := ⟨Try.f28.name, by decide, Try.func28.trans (congrArg some (by kernel_rfl))⟩
  t3 := Try.underlying3
  a3 := Try.isAgg3
  z3 := Try.sizeOf3
  v3 := Try.zeroValue3
  t4 := Try.underlying4
  a4 := Try.isAgg4
  z4 := Try.sizeOf4
  v4 := Try.zeroValue4
  t22 := Try.underlying3
  a22 := Try.isAgg3
  z22 := Try.sizeOf3
  v22 := Try.zeroValue3 }
end Go.Proofs.Ytnlkeacchogmeaa

/- The two sorts of a sweep: by the left edge; pairs, lesser first. -/
-- NT
namespace Go.Proofs.Ytnlkeacchogmeaa
open Go.RowKit Go.Sort Go.Shelf

def cI (x : Itm) : List Value := [.int .i64 x.id, .int .i64 x.lx, .int .i64 x.ly, .int .i64 x.hx, .int .i64 x.hy, .bool x.still]
def cP (p : Int × Int) : List Value := [.int .i64 p.1, .int .i64 p.2]
instance : Inhabited Itm := ⟨⟨0, 0, 0, 0, 0, false⟩⟩
theorem cI_len (x : Itm) : (cI x).length = 6 := rfl
theorem cP_len (x : Int × Int) : (cP x).length = 2 := rfl
theorem cI_one (x : Itm) : ∀ v ∈ cI x, v.oneCell' = true := by intro v hv; simp [cI] at hv; rcases hv with rfl | rfl | rfl | rfl | rfl | rfl <;> rfl
theorem cP_one (x : Int × Int) : ∀ v ∈ cP x, v.oneCell' = true := by intro v hv; simp [cP] at hv; rcases hv with rfl | rfl <;> rfl

def cfI (x y : Itm) : Int := Lib.compareInt x.lx y.lx
def orI (a b : Int) : Int := if a = 0 then b else a
def cfP (x y : Int × Int) : Int := orI (Lib.compareInt x.1 y.1) (Lib.compareInt x.2 y.2)
theorem ltI (x y : Itm) : ltOf cfI x y = decide (x.lx < y.lx) := by
  unfold ltOf cfI Lib.compareInt
  by_cases h1 : x.lx < y.lx
  · simp [h1]
  · by_cases h2 : y.lx < x.lx <;> simp [h1, h2]
theorem ltP (x y : Int × Int) : ltOf cfP x y = decide (x.1 < y.1 ∨ (x.1 = y.1 ∧ x.2 < y.2)) := by
  unfold ltOf cfP orI Lib.compareInt
  rw [decide_eq_decide]
  split <;> split <;> (try split) <;> (try split) <;> omega
theorem swoI : SWO (ltOf cfI) :=
  ⟨fun x => by rw [ltI]; simp, fun x y z h1 h2 => by rw [ltI] at *; simp at *; omega, fun x y z h1 h2 => by rw [ltI] at *; simp at *; omega⟩
theorem swoP : SWO (ltOf cfP) :=
  ⟨fun x => by rw [ltP]; simp, fun x y z h1 h2 => by rw [ltP] at *; simp only [decide_eq_true_eq] at *; omega, fun x y z h1 h2 => by rw [ltP] at *; simp only [decide_eq_false_iff_not] at *; omega⟩
/-- Draws and new blocks alone. -/
def GrowN (w w' : World) : Prop := ∃ q os, w' = grow (w.drewN q) os
theorem GrowN.refl (w : World) : GrowN w w := ⟨0, #[], by rw [grow_empty]; rfl⟩
theorem GrowN.alloc {w w' : World} (h : GrowN w w') (o : Obj) : GrowN w (w'.alloc o) := by
  obtain ⟨q, os, rfl⟩ := h
  exact ⟨q, os ++ #[o], by rw [alloc_eq_grow, grow_grow]⟩
theorem GrowN.drew {w w' : World} (h : GrowN w w') : GrowN w w'.drew := by
  obtain ⟨q, os, rfl⟩ := h
  exact ⟨q + 1, os, rfl⟩
theorem cmpF_any (x y : Int) (W : World) : Calls Try.prog 14 #[.int .i64 x, .int .i64 y] W fun e w' => e = .returned (.int .i64 (Lib.compareInt x y)) ∧ w' = W := AnyG.cmp_Compare_int cmpLF x y W
theorem cmpInt_any (x y : Int) (W : World) : Calls Try.prog 21 #[.int .i64 x, .int .i64 y] W fun e w' => e = .returned (.int .i64 (Lib.compareInt x y)) ∧ w' = W := AnyG.cmp_Compare_int cmpLint x y W

set_option maxHeartbeats 1000000 in
theorem cmpItem_any (x y : Itm) (W : World) : Calls Try.prog 13 #[.agg (cI x).toArray, .agg (cI y).toArray] W fun e w' => e = .returned (.int .i64 (cfI x y)) ∧ GrowN W w' := by
  have hcon := fun W' => cmpF_any x.lx y.lx W'
  unfold cfI
  generalize Lib.compareInt x.lx y.lx = r at hcon ⊢
  unfold cI
  go_enter Try.func13, Try.ntmps13
  go_wp2_with (go_at_call 14; refine (hcon _).mono ?_; rintro e w' ⟨rfl, rfl⟩)
  go_ret
  exact ⟨rfl, ((GrowN.refl W).alloc _).alloc _⟩

theorem cmpOr_any (w : World) (b : Nat) (c : Nat) (x y : Int) (hb : Blk w b #[.int .i64 x, .int .i64 y] 3) : Calls Try.prog 20 #[.slice (some ⟨b, 0, none⟩) 2 c] w fun e w' => e = .returned (.int .i64 (orI x y)) ∧ w' = w := by
  have q0 := hb.cell 0
  have q1 := hb.cell 1
  simp at q0 q1
  clear hb
  go_enter Try.func20, Try.ntmps20
  go_wp2
  refine wp_loop_rounds 3 ?_
  rw [rounds_succ]
  by_cases hx : x = 0
  · subst hx
    go_wp2
    rw [rounds_succ]
    by_cases hy : y = 0
    · subst hy
      go_wp2
      rw [rounds_succ]
      go_wp2
      go_ret
      exact ⟨rfl, rfl⟩
    · have hy' : (y == 0) = false := by simpa using hy
      go_wp2
      go_ret
      exact ⟨by simp [orI], rfl⟩
  · have hx' : (x == 0) = false := by simpa using hx
    go_wp2
    go_ret
    exact ⟨by simp [orI, hx], rfl⟩

set_option maxHeartbeats 2000000 in
theorem cmpPair_any (x y : Int × Int) (W : World) : Calls Try.prog 19 #[.agg (cP x).toArray, .agg (cP y).toArray] W fun e w' => e = .returned (.int .i64 (cfP x y)) ∧ GrowN W w' := by
  obtain ⟨x1, x2⟩ := x
  obtain ⟨y1, y2⟩ := y
  have hcon := fun a b W' => cmpInt_any a b W'
  unfold cfP
  simp only
  obtain ⟨F, hF⟩ : ∃ F, F = Lib.compareInt := ⟨_, rfl⟩
  rw [← hF] at hcon ⊢
  clear hF
  unfold cP
  simp only
  go_enter Try.func19, Try.ntmps19
  go_upto_region 1 with (fail)
  have hz1 : (W.alloc (.cells #[.int .i64 x1, .int .i64 x2] 33)).heap.size = W.heap.size + 1 := by simp
  have k1 := (Blk.new W #[.int .i64 x1, .int .i64 x2] 33).alloc (.cells #[.int .i64 y1, .int .i64 y2] 33)
  have k2 := Blk.new (W.alloc (.cells #[.int .i64 x1, .int .i64 x2] 33)) #[.int .i64 y1, .int .i64 y2] 33
  have hg := ((GrowN.refl W).alloc (.cells #[.int .i64 x1, .int .i64 x2] 33)).alloc (.cells #[.int .i64 y1, .int .i64 y2] 33)
  rw [hz1] at k2
  generalize (W.alloc (.cells #[.int .i64 x1, .int .i64 x2] 33)).alloc (.cells #[.int .i64 y1, .int .i64 y2] 33) = w0 at *
  have q0 := k1.cell 0
  have q1 := k1.cell 1
  have q2 := k2.cell 0
  have q3 := k2.cell 1
  simp at q0 q1 q2 q3
  have Q0 := hd q0
  have Q1 := hd q1
  have Q2 := hd q2
  have Q3 := hd q3
  have HG := hd hg
  clear q0 q1 q2 q3 k1 k2 hg hz1
  refine anyH_start (n := 13) (L := #[false, false, false, false, false, false, false, false, false, false, false, false, false]) (by kernel_rfl) (by kernel_rfl) (S := (fun wx => Chg [] w0 wx)) ((Chg.refl _ _).drew) (fun hHeld => ?_)
  refine anyH_take (i := 0) (d := 5) (L' := #[true, false, false, false, false, false, false, false, false, false, false, false, false]) (v := ?v2) rfl rfl (by kernel_rfl) (fun _ _ _ h => h) (by rfl) ?hy2 (by assumption) ?rest2
  case hy2 => (intro wx hSw; (try dsimp only at hSw); (have t0 := Chg.cellS hSw Q0.out; have t1 := Chg.cellS hSw Q1.out; have t2 := Chg.cellS hSw Q2.out; have t3 := Chg.cellS hSw Q3.out); go_simp; (try with_reducible rfl))
  simp only [Act.put, List.setIfInBounds_toArray, List.set_cons_zero, List.set_cons_succ]
  refine anyH_take (i := 1) (d := 6) (L' := #[true, true, false, false, false, false, false, false, false, false, false, false, false]) (v := ?v3) rfl rfl (by kernel_rfl) (fun _ _ _ h => h) (by rfl) ?hy3 (by assumption) ?rest3
  case hy3 => (intro wx hSw; (try dsimp only at hSw); (have t0 := Chg.cellS hSw Q0.out; have t1 := Chg.cellS hSw Q1.out; have t2 := Chg.cellS hSw Q2.out; have t3 := Chg.cellS hSw Q3.out); go_simp; (try with_reducible rfl))
  simp only [Act.put, List.setIfInBounds_toArray, List.set_cons_zero, List.set_cons_succ]
  refine anyH_take (i := 2) (d := 7) (L' := #[true, true, true, false, false, false, false, false, false, false, false, false, false]) (v := ?v4) rfl rfl (by kernel_rfl) (fun _ _ _ h => h) (by rfl) ?hy4 (by assumption) ?rest4
  case hy4 => (intro wx hSw; (try dsimp only at hSw); (have t0 := Chg.cellS hSw Q0.out; have t1 := Chg.cellS hSw Q1.out; have t2 := Chg.cellS hSw Q2.out; have t3 := Chg.cellS hSw Q3.out); go_simp; (try with_reducible rfl))
  simp only [Act.put, List.setIfInBounds_toArray, List.set_cons_zero, List.set_cons_succ]
  refine anyH_take (i := 3) (d := 8) (L' := #[true, true, true, true, false, false, false, false, false, false, false, false, false]) (v := ?v5) rfl rfl (by kernel_rfl) (fun _ _ _ h => h) (by rfl) ?hy5 (by assumption) ?rest5
  case hy5 => (intro wx hSw; (try dsimp only at hSw); (have t0 := Chg.cellS hSw Q0.out; have t1 := Chg.cellS hSw Q1.out; have t2 := Chg.cellS hSw Q2.out; have t3 := Chg.cellS hSw Q3.out); go_simp; (try with_reducible rfl))
  simp only [Act.put, List.setIfInBounds_toArray, List.set_cons_zero, List.set_cons_succ]
  refine anyH_take (i := 5) (d := 10) (L' := #[true, true, true, true, false, true, false, false, false, false, false, false, false]) (v := ?v6) rfl rfl (by kernel_rfl) (fun _ _ _ h => h) (by rfl) ?hy6 (by assumption) ?rest6
  case hy6 => (intro wx hSw; (try dsimp only at hSw); (have t0 := Chg.cellS hSw Q0.out; have t1 := Chg.cellS hSw Q1.out; have t2 := Chg.cellS hSw Q2.out; have t3 := Chg.cellS hSw Q3.out); go_simp; (try with_reducible rfl))
  simp only [Act.put, List.setIfInBounds_toArray, List.set_cons_zero, List.set_cons_succ]
  refine anyH_take (i := 6) (d := 11) (L' := #[true, true, true, true, false, true, true, false, false, false, false, false, false]) (v := ?v7) rfl rfl (by kernel_rfl) (fun _ _ _ h => h) (by rfl) ?hy7 (by assumption) ?rest7
  case hy7 => (intro wx hSw; (try dsimp only at hSw); (have t0 := Chg.cellS hSw Q0.out; have t1 := Chg.cellS hSw Q1.out; have t2 := Chg.cellS hSw Q2.out; have t3 := Chg.cellS hSw Q3.out); go_simp; (try with_reducible rfl))
  simp only [Act.put, List.setIfInBounds_toArray, List.set_cons_zero, List.set_cons_succ]
  refine anyH_take (i := 7) (d := 12) (L' := #[true, true, true, true, false, true, true, true, false, false, false, false, false]) (v := ?v8) rfl rfl (by kernel_rfl) (fun _ _ _ h => h) (by rfl) ?hy8 (by assumption) ?rest8
  case hy8 => (intro wx hSw; (try dsimp only at hSw); (have t0 := Chg.cellS hSw Q0.out; have t1 := Chg.cellS hSw Q1.out; have t2 := Chg.cellS hSw Q2.out; have t3 := Chg.cellS hSw Q3.out); go_simp; (try with_reducible rfl))
  simp only [Act.put, List.setIfInBounds_toArray, List.set_cons_zero, List.set_cons_succ]
  refine anyH_take (i := 8) (d := 13) (L' := #[true, true, true, true, false, true, true, true, true, false, false, false, false]) (v := ?v9) rfl rfl (by kernel_rfl) (fun _ _ _ h => h) (by rfl) ?hy9 (by assumption) ?rest9
  case hy9 => (intro wx hSw; (try dsimp only at hSw); (have t0 := Chg.cellS hSw Q0.out; have t1 := Chg.cellS hSw Q1.out; have t2 := Chg.cellS hSw Q2.out; have t3 := Chg.cellS hSw Q3.out); go_simp; (try with_reducible rfl))
  simp only [Act.put, List.setIfInBounds_toArray, List.set_cons_zero, List.set_cons_succ]
  refine anyH_run (i := 4) (L' := #[true, true, true, true, true, true, true, true, true, false, false, false, false]) rfl (by kernel_rfl) (by rfl) (fun KK hKK => ?_)
  go_simp
  (refine (hcon _ _ _).mono ?_; rintro e w' ⟨rfl, rfl⟩; (try go_simp))
  refine hKK.out _ _ (by assumption) (fun hHeld => ?_)
  clear hKK KK
  try simp only [Act.put, List.setIfInBounds_toArray, List.set_cons_zero, List.set_cons_succ]
  refine anyH_run (i := 9) (L' := #[true, true, true, true, true, true, true, true, true, true, false, false, false]) rfl (by kernel_rfl) (by rfl) (fun KK hKK => ?_)
  go_simp
  (refine (hcon _ _ _).mono ?_; rintro e w' ⟨rfl, rfl⟩; (try go_simp))
  refine hKK.out _ _ (by assumption) (fun hHeld => ?_)
  clear hKK KK
  try simp only [Act.put, List.setIfInBounds_toArray, List.set_cons_zero, List.set_cons_succ]
  refine anyH_run (i := 10) (L' := #[true, true, true, true, true, true, true, true, true, true, true, false, false]) rfl (by kernel_rfl) (by rfl) (fun KK hKK => ?_)
  go_simp
  (have hm10 := hHeld.alloc (.cells #[.int .i64 (F x1 y1), .int .i64 (F x2 y2)] 3))
  refine hKK.out _ _ (by assumption) (fun hHeld => ?_)
  clear hKK KK
  try simp only [Act.put, List.setIfInBounds_toArray, List.set_cons_zero, List.set_cons_succ]
  refine anyH_run (i := 11) (L' := #[true, true, true, true, true, true, true, true, true, true, true, true, false]) rfl (by kernel_rfl) (by rfl) (fun KK hKK => ?_)
  go_simp
  (have hb11 : Blk (w0.alloc (.cells #[.int .i64 (F x1 y1), .int .i64 (F x2 y2)] 3)).drew w0.heap.size _ _ := Blk.new w0.drew #[.int .i64 (F x1 y1), .int .i64 (F x2 y2)] 3; refine (cmpOr_any _ _ _ _ _ hb11).mono ?_; rintro e w' ⟨rfl, rfl⟩; (try go_simp))
  refine hKK.out _ _ (by assumption) (fun hHeld => ?_)
  clear hKK KK
  try simp only [Act.put, List.setIfInBounds_toArray, List.set_cons_zero, List.set_cons_succ]
  refine anyH_run (i := 12) (L' := #[true, true, true, true, true, true, true, true, true, true, true, true, true]) rfl (by kernel_rfl) (by rfl) (fun KK hKK => ?_)
  go_simp
  (skip)
  refine hKK.out _ _ (by assumption) (fun hHeld => ?_)
  clear hKK KK
  try simp only [Act.put, List.setIfInBounds_toArray, List.set_cons_zero, List.set_cons_succ]
  refine wpAnyH_done (by kernel_rfl) ?_ _
  go_wp2_with fail; refine bodyPost_ret (v := .int .i64 (orI (F x1 y1) (F x2 y2))) (by simp only [results]; go_simp) rfl ⟨rfl, ?_⟩; exact (HG.out.alloc _).drew
end Go.Proofs.Ytnlkeacchogmeaa

/- The sweep's small functions: Clone, the sorts, Meet, who is done with. -/
namespace Go.Proofs.Ytnlkeacchogmeaa
open Go.RowKit Go.Sort Go.Shelf

theorem undItems : Try.prog.underlying 23 = some (.slice 30) := by kernel_rfl
theorem rowItem : RowT Try.prog 23 30 6 48 := RowT.mk (z := .agg #[.int .i64 0, .int .i64 0, .int .i64 0, .int .i64 0, .int .i64 0, .bool false]) (by kernel_rfl) (by kernel_rfl) rfl (by decide)
theorem rowPair : RowT Try.prog 31 33 2 16 := RowT.mk (z := .agg #[.int .i64 0, .int .i64 0]) (by kernel_rfl) (by kernel_rfl) rfl (by decide)
/-- Items of the call's own; items that are read; pairs of the call's own. -/
def ItR (w : World) (base : Nat) (v : Value) (l : List Itm) : Prop := w.ownsRow base 30 6 v l.length (l.flatMap cI)
def ItS (w : World) (v : Value) (l : List Itm) : Prop := Rd w 6 v l.length (l.flatMap cI)
def PrR (w : World) (base : Nat) (v : Value) (l : List (Int × Int)) : Prop := w.ownsRow base 33 2 v l.length (l.flatMap cP)
theorem ItR.s {w : World} {base : Nat} {v : Value} {l : List Itm} (h : ItR w base v l) : ItS w v l := Rd.ofOwn h
theorem ItR.k {w w' : World} {base : Nat} {v : Value} {l : List Itm} (h : ItR w base v l) (hc : Chg [] w w') : ItR w' base v l := ownsRow_k h hc
theorem PrR.k {w w' : World} {base : Nat} {v : Value} {l : List (Int × Int)} (h : PrR w base v l) (hc : Chg [] w w') : PrR w' base v l := ownsRow_k h hc
theorem ItS.k {w w' : World} {v : Value} {l : List Itm} (h : ItS w v l) (hc : Chg [] w w') : ItS w' v l := Rd.keep h hc (by simp)
theorem ItR.form {w : World} {base : Nat} {v : Value} {l : List Itm} (h : ItR w base v l) : ∃ ao c, v = .slice ao l.length c ∧ ((ao = none ∧ l = []) ∨ ∃ g, ao = some ⟨g, 0, none⟩ ∧ base ≤ g ∧ g < w.heap.size) := by
  rcases h.2 with ⟨rfl, hz⟩ | ⟨g, cap, cur, rfl, hb, hg, _⟩
  · exact ⟨none, 0, by rw [hz], .inl ⟨rfl, List.eq_nil_of_length_eq_zero hz⟩⟩
  · exact ⟨_, cap, rfl, .inr ⟨g, rfl, hb, lt_of_block hg⟩⟩
theorem PrR.form {w : World} {base : Nat} {v : Value} {l : List (Int × Int)} (h : PrR w base v l) : ∃ ao c, v = .slice ao l.length c ∧ ((ao = none ∧ l = []) ∨ ∃ g, ao = some ⟨g, 0, none⟩ ∧ base ≤ g ∧ g < w.heap.size) := by
  rcases h.2 with ⟨rfl, hz⟩ | ⟨g, cap, cur, rfl, hb, hg, _⟩
  · exact ⟨none, 0, by rw [hz], .inl ⟨rfl, List.eq_nil_of_length_eq_zero hz⟩⟩
  · exact ⟨_, cap, rfl, .inr ⟨g, rfl, hb, lt_of_block hg⟩⟩

set_option maxHeartbeats 400000 in
theorem CloneI_any (w : World) (v : Value) (l : List Itm) (hv : ItS w v l) (hl : l.length ≤ 100000000000) :
    Calls Try.prog 11 #[v] w fun e w' => ∃ ao c, e = .returned (.slice ao l.length c) ∧ ItR w' w.heap.size (.slice ao l.length c) l ∧ Chg [] w w' := by
  unfold ItS at hv
  unfold ItR
  have h1 := flat_one cI cI_one l
  generalize l.flatMap cI = xs at *
  generalize l.length = n at *
  obtain ⟨hx, ao, cap, b, off, rfl, -, -, hn, -, -⟩ := id hv
  rcases ao with _ | a
  · obtain ⟨rfl, rfl⟩ := hn rfl
    obtain rfl : xs = [] := List.length_eq_zero_iff.1 (by simpa using hx)
    clear hn hv hl h1 hx
    have hq := fun w => Lib.run_eql_slice_nil (P := Try.prog) w 23 30 none 0 0 0 0 undItems
    go_enter Try.func11, Try.ntmps11
    go_wp2_with fail
    refine bodyPost_ret (v := .slice none 0 0) ?_ rfl ⟨none, 0, rfl, World.ownsRow_nil _ _ _ _, Chg.refl _ _⟩
    simp only [results]; go_simp
  · have hB : (w.alloc (.cells #[] 30)).ownsRow w.heap.size 30 6 (.slice (some ⟨w.heap.size, 0, none⟩) 0 0) 0 [] := World.ownsRow_lit w #[] 0 (Nat.le_refl _) (by decide) rfl
    have hv1 := Rd.keep hv ((Chg.refl [] w).alloc (.cells #[] 30)) (by simp)
    clear hn hv hx
    have hq := fun w => Lib.run_eql_slice_nil (P := Try.prog) w 23 30 (some a) n cap 0 0 undItems
    go_enter Try.func11, Try.ntmps11
    go_wp2_with (at_builtin; refine wpApp rowItem rfl _ _ rfl w.heap.size _ 0 [] rfl hB _ n xs rfl hv1 h1 (by omega) (by omega) (by simp) ?_; intro ao1 c1 w1 k1 k2 k3 _)
    have hc : Chg [] w w1 := ((Chg.refl [] w).alloc _).ownGrow hB k2 (Nat.le_refl _)
    simp only [List.nil_append, Nat.zero_add] at k1 ⊢
    refine bodyPost_ret (v := .slice ao1 n c1) ?_ rfl ⟨ao1, c1, rfl, k1, hc⟩
    simp only [results]; go_simp

theorem permIn_all {α : Type} [Inhabited α] {l : List α} {d : Array α} (h : PermIn 0 l.toArray.size l.toArray d) : d.toList.Perm l ∧ d.toList.length = l.length := by
  obtain ⟨h1, -, h3⟩ := h
  have e1 : d.extract 0 l.toArray.size = d := by rw [← h1]; exact Array.extract_size
  have e2 : l.toArray.extract 0 l.toArray.size = l.toArray := Array.extract_size
  rw [e1, e2] at h3
  exact ⟨h3, by rw [Array.length_toList, h1, List.size_toArray]⟩
theorem sortedIn_get {α : Type} [Inhabited α] {lt : α → α → Bool} {n : Nat} {d : Array α} (hn : d.size = n) (h : SortedIn lt 0 n d) : d.toList.Pairwise fun a b => lt b a = false := by
  rw [List.pairwise_iff_getElem]
  intro i j hi hj hij
  rw [Array.length_toList] at hi hj
  have := h i j (Nat.zero_le _) hij (by omega)
  rw [getElem!_pos d j hj, getElem!_pos d i hi] at this
  exact this

/-- Behind a sort: what the row holds now, and that nothing elder turned. -/
def SortOut {α : Type} (enc : α → List Value) (k : Nat) (et : TypeId) (lt : α → α → Bool) (base : Nat) (ao : Option Addr) (c : Nat) (l : List α) (w w' : World) : Prop :=
  ∃ l' : List α, l'.Perm l ∧ l'.Pairwise (fun a b => lt b a = false) ∧ w'.ownsRow base et k (.slice ao l.length c) l.length (l'.flatMap enc) ∧ Chg ((Value.slice ao l.length c).ownBlock.toList) w w'
theorem sortOut_mk {α : Type} [Inhabited α] {enc : α → List Value} {k : Nat} (hk : ∀ x, (enc x).length = k) {et : TypeId} {lt : α → α → Bool} {base g c : Nat} {l : List α} {w w' : World}
    (h : w.ownsRow base et k (.slice (some ⟨g, 0, none⟩) l.length c) l.length (l.flatMap enc)) {d : Array α} {n : Nat} {os : Array Obj} (hp : PermIn 0 l.toArray.size l.toArray d) (hs : SortedIn lt 0 l.toArray.size d) (hw : w' = sortWorldK enc k w g 0 n d os) :
    SortOut enc k et lt base (some ⟨g, 0, none⟩) c l w w' := by
  obtain ⟨p1, p2⟩ := permIn_all hp
  obtain ⟨s1, s2⟩ := own_sorted enc k hk h p2 n os
  rw [Array.toArray_toList, ← hw, p2] at s1
  rw [Array.toArray_toList, ← hw] at s2
  refine ⟨d.toList, p1, sortedIn_get hp.1 hs, s1, ?_⟩
  simpa [Value.ownBlock] using s2
theorem SortI_any (w : World) (base : Nat) (ao : Option Addr) (c : Nat) (l : List Itm) (h : ItR w base (.slice ao l.length c) l) (hl : l.length < 4611686018427387904) :
    Calls Try.prog 12 #[.slice ao l.length c, .func (.func 13) #[] #[]] w fun e w' => e = .returned (.tuple #[]) ∧ SortOut cI 6 30 (ltOf cfI) base ao c l w w' := by
  obtain ⟨ao', c', he, ⟨rfl, rfl⟩ | ⟨g, rfl, -, hg⟩⟩ := h.form
  · simp only [Value.slice.injEq] at he
    obtain ⟨rfl, -, rfl⟩ := he
    refine (AnyF.slices_SortFunc_none sortLItem none c (.func (.func 13) #[] #[]) w).mono ?_
    rintro e w' ⟨he, hw⟩
    subst hw
    exact ⟨he, [], .refl _, .nil, h, Chg.refl _ _⟩
  · simp only [Value.slice.injEq] at he
    obtain ⟨rfl, -, rfl⟩ := he
    have eg : ∀ args w, (callFunc 13 args).run Try.prog w = .ok (.enter 13 args) w := enters_of Try.func13 (by kernel_rfl) rfl
    obtain ⟨hH, hlt⟩ := own_holds cI 6 cI_len h
    refine (AnyQ.slices_SortFunc sortLItem 6 Try.isAgg30 Try.sizeOf30 cI cI_len cI_one cfI swoI 13 #[] g 0 c l.toArray w eg (fun _ _ _ _ x y => cmpItem_any x y _) hH hlt (by simpa using hl)).mono ?_
    rintro e w' ⟨he, d, n, os, hp, hs, hw⟩
    exact ⟨he, sortOut_mk cI_len h hp hs hw⟩
theorem SortP_any (w : World) (base : Nat) (ao : Option Addr) (c : Nat) (l : List (Int × Int)) (h : PrR w base (.slice ao l.length c) l) (hl : l.length < 4611686018427387904) :
    Calls Try.prog 18 #[.slice ao l.length c, .func (.func 19) #[] #[]] w fun e w' => e = .returned (.tuple #[]) ∧ SortOut cP 2 33 (ltOf cfP) base ao c l w w' := by
  obtain ⟨ao', c', he, ⟨rfl, rfl⟩ | ⟨g, rfl, -, hg⟩⟩ := h.form
  · simp only [Value.slice.injEq] at he
    obtain ⟨rfl, -, rfl⟩ := he
    refine (AnyF.slices_SortFunc_none sortLP2 none c (.func (.func 19) #[] #[]) w).mono ?_
    rintro e w' ⟨he, hw⟩
    subst hw
    exact ⟨he, [], .refl _, .nil, h, Chg.refl _ _⟩
  · simp only [Value.slice.injEq] at he
    obtain ⟨rfl, -, rfl⟩ := he
    have eg : ∀ args w, (callFunc 19 args).run Try.prog w = .ok (.enter 19 args) w := enters_of Try.func19 (by kernel_rfl) rfl
    obtain ⟨hH, hlt⟩ := own_holds cP 2 cP_len h
    refine (AnyQ.slices_SortFunc sortLP2 2 Try.isAgg33 Try.sizeOf33 cP cP_len cP_one cfP swoP 19 #[] g 0 c l.toArray w eg (fun _ _ _ _ x y => cmpPair_any x y _) hH hlt (by simpa using hl)).mono ?_
    rintro e w' ⟨he, d, n, os, hp, hs, hw⟩
    exact ⟨he, sortOut_mk cP_len h hp hs hw⟩

def rI (x : Itm) : Value := .agg #[.int .i64 x.lx, .int .i64 x.ly, .int .i64 x.hx, .int .i64 x.hy]
set_option maxHeartbeats 1000000 in
theorem Meet_any (w : World) (a b : Itm) : Calls Try.prog 17 #[rI a, rI b] w fun e w' => e = .returned (.bool (meetI a b)) ∧ Chg [] w w' := by
  obtain ⟨_, alx, aly, ahx, ahy, _⟩ := a
  obtain ⟨_, blx, bly, bhx, bhy, _⟩ := b
  unfold rI meetI
  simp only
  go_enter Try.func17, Try.ntmps17
  have hc := ((Chg.refl [] w).alloc (.cells #[.int .i64 alx, .int .i64 aly, .int .i64 ahx, .int .i64 ahy] 28)).alloc (.cells #[.int .i64 blx, .int .i64 bly, .int .i64 bhx, .int .i64 bhy] 28)
  by_cases h1 : alx ≤ bhx <;> by_cases h2 : blx ≤ ahx <;> by_cases h3 : aly ≤ bhy <;> by_cases h4 : bly ≤ ahy <;> (
    go_wp2_with fail
    go_ret
    refine ⟨?_, hc⟩
    simp [h1, h2, h3, h4])
end Go.Proofs.Ytnlkeacchogmeaa

/- The sweep's slices.IndexFunc and slices.DeleteFunc: those that end ahead of an item go. -/
namespace Go.Proofs.Ytnlkeacchogmeaa
open Go.RowKit Go.Sort Go.Shelf

def doneI (z : Int) (o : Itm) : Bool := decide (o.hx < z)
theorem goesP_eq (z : Int) (l : List Itm) : goesP z l = l.filter fun o => !doneI z o := rfl
def aI (x : Itm) : Value := .agg #[.int .i64 x.id, .int .i64 x.lx, .int .i64 x.ly, .int .i64 x.hx, .int .i64 x.hy, .bool x.still]
set_option maxHeartbeats 1000000 in
theorem EndsI_any (w : World) (xb : Nat) (o : Itm) (z : Int) (hz : w.cell? ⟨xb, 1, none⟩ = some (.int .i64 z)) :
    Calls Try.prog 16 #[aI o, .pointer (some ⟨xb, 0, none⟩)] w fun e w' => e = .returned (.bool (doneI z o)) ∧ Chg [] w w' := by
  have hc := (Chg.refl [] w).alloc (.cells #[.int .i64 o.id, .int .i64 o.lx, .int .i64 o.ly, .int .i64 o.hx, .int .i64 o.hy, .bool o.still] 30)
  have hz1 := Chg.cellS hc hz
  unfold aI doneI
  go_enter Try.func16, Try.ntmps16
  go_wp2_with fail
  go_ret
  exact ⟨rfl, hc⟩
theorem ItS.at {w : World} {b off n c : Nat} {l : List Itm} (h : ItS w (.slice (some ⟨b, off, none⟩) n c) l) (i : Nat) (hi : i < l.length) :
    w.cell? ⟨b, off + i * 6, none⟩ = some (.int .i64 l[i].id) ∧ w.cell? ⟨b, off + i * 6 + 1, none⟩ = some (.int .i64 l[i].lx) ∧ w.cell? ⟨b, off + i * 6 + 2, none⟩ = some (.int .i64 l[i].ly) ∧
    w.cell? ⟨b, off + i * 6 + 3, none⟩ = some (.int .i64 l[i].hx) ∧ w.cell? ⟨b, off + i * 6 + 4, none⟩ = some (.int .i64 l[i].hy) ∧ w.cell? ⟨b, off + i * 6 + 5, none⟩ = some (.bool l[i].still) := by
  obtain ⟨h0, ao, cap, b', off', he, h2, h3, h4, h5, h6⟩ := h
  have h5 := h5 (by omega)
  simp only [Value.slice.injEq] at he
  obtain ⟨rfl, -, -⟩ := he
  simp only [Option.some.injEq, Addr.mk.injEq, and_true] at h5
  obtain ⟨rfl, rfl⟩ := h5
  have g := fun j hj => flat_get cI 6 cI_len l i j hi hj
  refine ⟨?_, ?_, ?_, ?_, ?_, ?_⟩
  · exact h6 (i * 6) _ (g 0 (by decide))
  · rw [Nat.add_assoc]; exact h6 (i * 6 + 1) _ (g 1 (by decide))
  · rw [Nat.add_assoc]; exact h6 (i * 6 + 2) _ (g 2 (by decide))
  · rw [Nat.add_assoc]; exact h6 (i * 6 + 3) _ (g 3 (by decide))
  · rw [Nat.add_assoc]; exact h6 (i * 6 + 4) _ (g 4 (by decide))
  · rw [Nat.add_assoc]; exact h6 (i * 6 + 5) _ (g 5 (by decide))

theorem ItR.free {w : World} {base g n c : Nat} {l : List Itm} (h : ItR w base (.slice (some ⟨g, 0, none⟩) n c) l) (j : Nat) : w.frozen? ⟨g, j, none⟩ = false := by
  rcases h.2 with ⟨he, _⟩ | ⟨g', cap, cur, he, hb, hg, _⟩
  · simp at he
  · simp only [Value.slice.injEq, Option.some.injEq, Addr.mk.injEq, and_true] at he
    obtain ⟨rfl, _⟩ := he
    exact frozen_of_row w g j cur _ hg
/-- A record of a row is written anew, cell by cell. -/
def set6 (w : World) (g o : Nat) (x : Itm) : World :=
  (((((w.setCell ⟨g, o, none⟩ (.int .i64 x.id)).setCell ⟨g, o + 1, none⟩ (.int .i64 x.lx)).setCell ⟨g, o + 2, none⟩ (.int .i64 x.ly)).setCell ⟨g, o + 3, none⟩ (.int .i64 x.hx)).setCell ⟨g, o + 4, none⟩ (.int .i64 x.hy)).setCell ⟨g, o + 5, none⟩ (.bool x.still)
theorem flat_set {α : Type} (enc : α → List Value) (k : Nat) (hk : ∀ x, (enc x).length = k) (l : List α) (i : Nat) (hi : i < l.length) (x : α) (j : Nat) :
    ((l.set i x).flatMap enc)[j]? = if i * k ≤ j ∧ j < i * k + k then (enc x)[j - i * k]? else (l.flatMap enc)[j]? := by
  have hl := flat_len enc k hk l
  have hl2 := flat_len enc k hk (l.set i x)
  rw [List.length_set] at hl2
  rcases Nat.eq_zero_or_pos k with rfl | hk0
  · rw [List.getElem?_eq_none (by rw [hl2]; omega), if_neg (by omega), List.getElem?_eq_none (by rw [hl]; omega)]
  by_cases hj : j < l.length * k
  · have h1 : j / k < l.length := (Nat.div_lt_iff_lt_mul hk0).2 hj
    have h2 : j % k < k := Nat.mod_lt _ hk0
    have e : j / k * k + j % k = j := by rw [Nat.mul_comm]; exact Nat.div_add_mod j k
    have a1 := flat_get enc k hk (l.set i x) (j / k) (j % k) (by simpa using h1) h2
    have a2 := flat_get enc k hk l (j / k) (j % k) h1 h2
    rw [e] at a1 a2
    rw [a1, a2]
    by_cases hij : j / k = i
    · have hc : i * k ≤ j ∧ j < i * k + k := by rw [← hij]; omega
      have hx : j - i * k = j % k := by rw [← hij]; omega
      rw [if_pos hc, hx]
      congr 1
      simp [hij]
    · have hc : ¬ (i * k ≤ j ∧ j < i * k + k) := by
        rintro ⟨c1, c2⟩
        exact hij (Nat.div_eq_of_lt_le c1 (by rw [Nat.succ_mul]; exact c2))
      rw [if_neg hc]
      congr 1
      rw [List.getElem_set_ne (fun h => hij h.symm)]
  · rw [List.getElem?_eq_none (by rw [hl2]; omega), if_neg, List.getElem?_eq_none (by rw [hl]; omega)]
    rintro ⟨-, c2⟩
    have : i * k + k ≤ l.length * k := by rw [← Nat.succ_mul]; exact Nat.mul_le_mul_right _ hi
    omega
theorem ItR.set6 {w : World} {base g n c : Nat} {l : List Itm} (h : ItR w base (.slice (some ⟨g, 0, none⟩) n c) l) (i : Nat) (hi : i < l.length) (x : Itm) : ItR (set6 w g (i * 6) x) base (.slice (some ⟨g, 0, none⟩) n c) (l.set i x) ∧ Chg [g] w (Go.Proofs.Ytnlkeacchogmeaa.set6 w g (i * 6) x) := by
  refine ⟨⟨by rw [List.length_set]; exact flat_len cI 6 cI_len _ |>.trans (by rw [List.length_set]), ?_⟩, ?_⟩
  · rcases h.2 with ⟨he, _⟩ | ⟨g', cap, cur, he, hb, hg, hnc, hcm, hcs, ht⟩
    · simp at he
    · simp only [Value.slice.injEq, Option.some.injEq, Addr.mk.injEq, and_true] at he
      obtain ⟨rfl, rfl, rfl⟩ := he
      have hB : Blk w g cur 30 := hg
      have hB2 := (((((hB.set (i * 6) (.int .i64 x.id)).set (i * 6 + 1) (.int .i64 x.lx)).set (i * 6 + 2) (.int .i64 x.ly)).set (i * 6 + 3) (.int .i64 x.hx)).set (i * 6 + 4) (.int .i64 x.hy)).set (i * 6 + 5) (.bool x.still)
      refine .inr ⟨g, c, _, by simp, hb, hB2, by simpa using hnc, hcm, by simpa using hcs, ?_⟩
      rw [List.length_set]
      apply List.ext_getElem?
      intro j
      rw [flat_set cI 6 cI_len l i hi x j]
      have hle : l.length * 6 ≤ c * 6 := Nat.mul_le_mul_right 6 hnc
      have hi6 : i * 6 + 6 ≤ l.length * 6 := by omega
      rw [← ht, List.getElem?_take, List.getElem?_take]
      by_cases hj : j < l.length * 6
      · rw [if_pos hj, if_pos hj]
        simp only [Array.toList_setIfInBounds, List.getElem?_set, List.length_set, Array.length_toList]
        by_cases hc : i * 6 ≤ j ∧ j < i * 6 + 6
        · rw [if_pos hc]
          have : j = i * 6 ∨ j = i * 6 + 1 ∨ j = i * 6 + 2 ∨ j = i * 6 + 3 ∨ j = i * 6 + 4 ∨ j = i * 6 + 5 := by omega
          have hsz : cur.size = c * 6 := hcs
          rcases this with rfl | rfl | rfl | rfl | rfl | rfl <;> simp [cI, hsz] <;> omega
        · rw [if_neg hc]
          repeat rw [if_neg (by omega)]
      · rw [if_neg hj, if_neg hj, if_neg (by omega)]
  · unfold Go.Proofs.Ytnlkeacchogmeaa.set6
    exact ((((((Chg.refl _ _).setCell _ _ (by simp)).setCell _ _ (by simp)).setCell _ _ (by simp)).setCell _ _ (by simp)).setCell _ _ (by simp)).setCell _ _ (by simp)

/-- What IndexFunc finds. -/
def FoundI (p : Itm → Bool) (l : List Itm) (e : Ending) : Prop :=
  (e = .returned (.int .i64 (-1)) ∧ ∀ o ∈ l, p o = false) ∨ ∃ k : Nat, e = .returned (.int .i64 (k : Int)) ∧ ∃ h : k < l.length, p l[k] = true ∧ ∀ o ∈ l.take k, p o = false
set_option maxHeartbeats 2000000 in
theorem IndexI_any (w : World) (v : Value) (l : List Itm) (hv : ItS w v l) (hl : l.length ≤ 100000000000) (xb : Nat) (z : Int) (hz : w.cell? ⟨xb, 1, none⟩ = some (.int .i64 z)) :
    Calls Try.prog 26 #[v, .func (.func 16) #[] #[.pointer (some ⟨xb, 0, none⟩)]] w fun e w' => FoundI (doneI z) l e ∧ Chg [] w w' := by
  have HZ := hd hz
  have HV := hd hv
  clear hz
  obtain ⟨-, ao, cap, b, off, rfl, -, -, -, hpos, -⟩ := hv
  have Hpos := hd hpos
  clear hpos
  go_enter Try.func26, Try.ntmps26
  go_wp2_with fail

  go_loopw [8] (fun i wr => ∃ k : Nat, i = .int .i64 (k : Int) ∧ k ≤ l.length ∧ Hd (∀ o ∈ l.take k, doneI z o = false) ∧ Chg [] w wr) (fun i _ => (l.length - (intOf i).toNat))
  case atStart => exact ⟨0, rfl, Nat.zero_le _, hd (by simp), Chg.refl _ _⟩
  case round =>
    obtain ⟨k, rfl, hk, hno, hc⟩ := hrel
    by_cases hlt : k < l.length
    · obtain rfl := Hpos.out (by omega)
      obtain ⟨q0, q1, q2, q3, q4, q5⟩ := (HV.out.k hc).at k hlt
      have hcon := fun W (hW : Chg [] w W) => EndsI_any W xb l[k] z (hW.cellS HZ.out)
      have hsnoc : l.take (k + 1) = l.take k ++ [l[k]] := by rw [List.take_succ_eq_append_getElem hlt]
      have HS := hd hsnoc
      clear hsnoc
      unfold aI at hcon
      obtain ⟨d, hd'⟩ : ∃ d, doneI z l[k] = d := ⟨_, rfl⟩
      simp only [hd'] at hcon
      have HD := hd hd'
      clear hd'
      cases d
      · go_wp2_with (go_at_call 16; refine (hcon _ (by assumption)).mono ?_; rintro e w2 ⟨rfl, hc2⟩)
        go_roundw
        case rel => exact ⟨k + 1, by go_num, by omega, hd (by rw [HS.out]; intro o ho; rcases List.mem_append.1 ho with h | h; exact hno.out o h; obtain rfl := List.mem_singleton.1 h; exact HD.out), hc.k hc2⟩
        case measure => simp [intOf]; omega
      · go_wp2_with (go_at_call 16; refine (hcon _ (by assumption)).mono ?_; rintro e w2 ⟨rfl, hc2⟩)
        go_ret
        exact ⟨.inr ⟨k, rfl, hlt, HD.out, hno.out⟩, hc.k hc2⟩
    · go_wp2_with fail
      go_ret
      exact ⟨.inl ⟨rfl, by have := hno.out; rwa [List.take_of_length_le (by omega)] at this⟩, hc⟩

theorem Blk.setCells {g : Nat} {t : TypeId} : ∀ (vs : List Value) (o : Nat) {w : World} {cur : Array Value}, Blk w g cur t → ∃ cur', Blk (w.setCells g o vs) g cur' t ∧ cur'.size = cur.size ∧ ∀ j, j < o → cur'[j]? = cur[j]?
  | [], _, _, cur, h => ⟨cur, h, rfl, fun _ _ => rfl⟩
  | v :: vs, o, _, cur, h => by
    obtain ⟨c', h1, h2, h3⟩ := Blk.setCells vs (o + 1) (h.set o v)
    refine ⟨c', h1, by simpa using h2, fun j hj => ?_⟩
    rw [h3 j (by omega), Array.getElem?_setIfInBounds_ne (by omega)]
theorem Chg.setCells {g : Nat} : ∀ (vs : List Value) (o : Nat) {w0 w : World}, Chg [g] w0 w → Chg [g] w0 (w.setCells g o vs)
  | [], _, _, _, h => h
  | v :: vs, o, _, _, h => Chg.setCells vs (o + 1) (h.setCell _ _ (by simp))
theorem ItR.cap {w : World} {base g n c : Nat} {l : List Itm} (h : ItR w base (.slice (some ⟨g, 0, none⟩) n c) l) : n ≤ c := by
  rcases h.2 with ⟨he, _⟩ | ⟨g', cap, cur, he, hb, hg, hnc, _⟩
  · simp at he
  · simp only [Value.slice.injEq] at he
    omega
/-- 'clear(s[a:])' of a row of the call's own, cut to [:a] behind it. -/
theorem clearI {w : World} {base g n c : Nat} {l : List Itm} (h : ItR w base (.slice (some ⟨g, 0, none⟩) n c) l) (a : Nat) (ha : a < n) (hn : n = l.length) :
    ∃ w', (∀ ty, (Builtin.clear_ #[23] ty #[.slice (some ⟨g, a * 6, none⟩) (n - a) (c - a)]).run Try.prog w = .ok (.tuple #[]) w') ∧ ItR w' base (.slice (some ⟨g, 0, none⟩) (l.take a).length c) (l.take a) ∧ Chg [g] w w' := by
  subst hn
  have hv : ∀ w, (zeroValue 30).run Try.prog w = .ok (.agg #[.int .i64 0, .int .i64 0, .int .i64 0, .int .i64 0, .int .i64 0, .bool false]) w := fun w => by kernel_rfl
  have hlen : (l.take a).length = a := by rw [List.length_take]; omega
  rcases h.2 with ⟨he, _⟩ | ⟨g', cap, cur, he, hb, hg, hnc, hcm, hcs, ht⟩
  · simp at he
  · simp only [Value.slice.injEq, Option.some.injEq, Addr.mk.injEq, and_true] at he
    obtain ⟨rfl, -, rfl⟩ := he
    have hB : Blk w g cur 30 := hg
    obtain ⟨Z, hZ⟩ : ∃ Z, Z = Builtin.zeroCells (Value.agg #[.int .i64 0, .int .i64 0, .int .i64 0, .int .i64 0, .int .i64 0, .bool false]).cells (l.length - a) := ⟨_, rfl⟩
    have hZs : Z.size = (l.length - a) * 6 := by rw [hZ, Builtin.zeroCells]; simp [Value.cells]
    have hZ1 : ∀ v ∈ Z.toList, v.oneCell' = true := by
      intro v hv
      rw [hZ, Builtin.zeroCells] at hv
      simp only [Value.cells, Array.toList_map, List.mem_map] at hv
      obtain ⟨i, -, rfl⟩ := hv
      have : i % 6 = 0 ∨ i % 6 = 1 ∨ i % 6 = 2 ∨ i % 6 = 3 ∨ i % 6 = 4 ∨ i % 6 = 5 := by omega
      rcases this with e | e | e | e | e | e <;> simp [e] <;> rfl
    have hlt : ∀ j, j < Z.toList.length → a * 6 + j < cur.size := by
      intro j hj
      rw [Array.length_toList, hZs] at hj
      have : l.length * 6 ≤ c * 6 := Nat.mul_le_mul_right 6 hnc
      omega
    have hst := run_storeCells_cells (P := Try.prog) g (a * 6) Z.toList 0 w
      (fun j hj => by rw [Nat.add_zero, hB.cell]; have := hlt j hj; simp [this])
      (fun j hj => hB.free _) hZ1
    obtain ⟨cur', hB2, hs2, hj2⟩ := hB.setCells Z.toList (a * 6)
    refine ⟨w.setCells g (a * 6) Z.toList, fun ty => ?_, ⟨by rw [flat_len cI 6 cI_len, List.length_take], .inr ⟨g, c, cur', rfl, hb, hB2, by rw [hlen]; omega, hcm, by rw [hs2]; exact hcs, ?_⟩⟩, Chg.setCells _ _ (Chg.refl _ _)⟩
    · obtain ⟨m, hm⟩ : ∃ m, l.length - a = m + 1 := ⟨l.length - a - 1, by omega⟩
      rw [hm] at hZ ⊢
      simp only [Nat.add_zero, hZ] at hst
      simp [Builtin.clear_, run_underlying undItems, hv]
      rw [hZ, show (Value.agg #[.int .i64 0, .int .i64 0, .int .i64 0, .int .i64 0, .int .i64 0, .bool false]).cells = #[.int .i64 0, .int .i64 0, .int .i64 0, .int .i64 0, .int .i64 0, .bool false] from rfl] at *
      rw [hst]
      rfl
    · rw [hlen]
      apply List.ext_getElem?
      intro j
      have ht' := congrArg (fun L => L[j]?) ht
      simp only [List.getElem?_take] at ht' ⊢
      by_cases hj : j < a * 6
      · rw [if_pos hj, Array.getElem?_toList, hj2 j hj]
        rw [if_pos (by omega), Array.getElem?_toList] at ht'
        rw [ht']
        have e : (l.take a ++ l.drop a).flatMap cI = l.flatMap cI := by rw [List.take_append_drop]
        rw [← e, List.flatMap_append, List.getElem?_append_left (by rw [flat_len cI 6 cI_len, hlen]; exact hj)]
      · rw [if_neg hj, List.getElem?_eq_none (by rw [flat_len cI 6 cI_len, hlen]; omega)]
theorem goesP_snoc (z : Int) (l : List Itm) (b : Nat) (h : b < l.length) : goesP z (l.take (b + 1)) = goesP z (l.take b) ++ (if doneI z l[b] then [] else [l[b]]) := by
  rw [List.take_succ_eq_append_getElem h, goesP_eq, List.filter_append, goesP_eq]
  congr 1
  cases h : doneI z l[b] <;> simp [h]
theorem drop_get {l l2 : List Itm} {b : Nat} (hl : l2.length = l.length) (h : b < l.length) (hd : l2.drop b = l.drop b) : l2[b] = l[b] ∧ l2.drop (b + 1) = l.drop (b + 1) := by
  rw [List.drop_eq_getElem_cons (by omega), List.drop_eq_getElem_cons h] at hd
  injection hd with h1 h2
  exact ⟨h1, h2⟩
theorem keep_no {z : Int} {l l2 : List Itm} {a b : Nat} {o : Itm} (h : b < l.length) (hl : l2.length = l.length) (ho : l2[b] = o) (hd : doneI z o = true) (ht : l2.take a = goesP z (l.take b)) (hdr : l2.drop b = l.drop b) (ha : a = (goesP z (l.take b)).length) :
    l2.take a = goesP z (l.take (b + 1)) ∧ l2.drop (b + 1) = l.drop (b + 1) ∧ a = (goesP z (l.take (b + 1))).length := by
  obtain ⟨h1, h2⟩ := drop_get hl h hdr
  have e : goesP z (l.take (b + 1)) = goesP z (l.take b) := by rw [goesP_snoc z l b h, ← h1, ho, hd]; simp
  rw [e]
  exact ⟨ht, h2, ha⟩
theorem keep_yes {z : Int} {l l2 : List Itm} {a b : Nat} {o : Itm} (hl : l2.length = l.length) (h : b < l.length) (ho : l2[b] = o) (hd : doneI z o = false) (ht : l2.take a = goesP z (l.take b)) (hdr : l2.drop b = l.drop b) (ha : a = (goesP z (l.take b)).length) (hab : a < b) :
    (l2.set a o).take (a + 1) = goesP z (l.take (b + 1)) ∧ (l2.set a o).drop (b + 1) = l.drop (b + 1) ∧ a + 1 = (goesP z (l.take (b + 1))).length := by
  obtain ⟨h1, h2⟩ := drop_get hl h hdr
  have e : goesP z (l.take (b + 1)) = goesP z (l.take b) ++ [o] := by rw [goesP_snoc z l b h, ← h1, ho, hd]; rfl
  rw [e]
  refine ⟨?_, ?_, by rw [List.length_append, ← ha]; rfl⟩
  · rw [List.take_succ_eq_append_getElem (by rw [List.length_set]; omega), List.getElem_set_self, List.take_set_of_le (Nat.le_refl _), ht]
  · rw [List.drop_set_of_lt (by omega), h2]
theorem keep_start {z : Int} {l : List Itm} {k : Nat} (hk : k < l.length) (hy : doneI z l[k] = true) (hno : ∀ o ∈ l.take k, doneI z o = false) : l.take k = goesP z (l.take (k + 1)) ∧ k = (goesP z (l.take (k + 1))).length := by
  have e : goesP z (l.take (k + 1)) = l.take k := by
    rw [goesP_snoc z l k hk, hy, if_pos rfl, List.append_nil, goesP_eq, List.filter_eq_self]
    intro o ho; rw [hno o ho]; rfl
  rw [e]
  exact ⟨rfl, by rw [List.length_take]; omega⟩
set_option maxHeartbeats 2000000 in
theorem DeleteI_any (w : World) (base : Nat) (v : Value) (l : List Itm) (hv : ItR w base v l) (hl : l.length ≤ 100000000000) (xb : Nat) (z : Int) (hz : w.cell? ⟨xb, 1, none⟩ = some (.int .i64 z)) (hx : v.ownBlock ≠ some xb) :
    Calls Try.prog 15 #[v, .func (.func 16) #[] #[.pointer (some ⟨xb, 0, none⟩)]] w fun e w' => ∃ ao c, e = .returned (.slice ao (goesP z l).length c) ∧ ItR w' base (.slice ao (goesP z l).length c) (goesP z l) ∧ Chg v.ownBlock.toList w w' ∧ (∀ k, (Value.slice ao (goesP z l).length c).ownBlock = some k → v.ownBlock = some k) := by
  have HZ := hd hz
  have HV := hd hv
  have HX := hd hx
  have hfind := IndexI_any w v l hv.s hl xb z hz
  clear hz hx
  obtain ⟨ao, c, rfl, hform⟩ := hv.form
  have HF := hd hform
  clear hv hform
  go_enter Try.func15, Try.ntmps15
  go_wp2_with (go_at_call 26; refine hfind.mono ?_; rintro e w2 ⟨hfnd, hc2⟩; rcases hfnd with ⟨rfl, hno⟩ | ⟨k, rfl, hk, hyes, hno⟩)
  · go_ret
    have e : goesP z l = l := by
      rw [goesP_eq, List.filter_eq_self]
      intro o ho; rw [hno o ho]; rfl
    rw [e]
    exact ⟨ao, c, rfl, HV.out.k hc2, hc2.mono (by simp), fun _ h => h⟩
  · obtain ⟨g, hg⟩ : ∃ g, ao = some ⟨g, 0, none⟩ := by
      rcases HF.out with ⟨-, rfl⟩ | ⟨g, h, -⟩
      · simp at hk
      · exact ⟨g, h⟩
    subst hg
    have HG : Hd (xb ≠ g) := hd (fun e => HX.out (by simp [Value.ownBlock, e]))
    have HNO := hd hno
    have HYES := hd hyes
    clear hno hyes
    have HC2 := hd hc2
    clear hc2
    have hne : ((k : Int) == -1) = false := by simp
    go_wp2_with fail
    go_loopw [5, 6] (fun i j wr => ∃ (a b : Nat) (l2 : List Itm), i = .int .i64 (a : Int) ∧ j = .int .i64 (b : Int) ∧ a < b ∧ b ≤ l.length ∧ Hd (l2.length = l.length) ∧ Hd (l2.take a = goesP z (l.take b)) ∧ Hd (l2.drop b = l.drop b) ∧ Hd (a = (goesP z (l.take b)).length) ∧
        ItR wr base (.slice (some ⟨g, 0, none⟩) l2.length c) l2 ∧ Chg [g] w wr ∧ Hd (wr.cell? ⟨xb, 1, none⟩ = some (.int .i64 z))) (fun _ j _ => (l.length - (intOf j).toNat))
    case atStart =>
      have HK := keep_start hk HYES.out HNO.out
      exact ⟨k, k + 1, l, rfl, by go_num, by omega, by omega, hd rfl, hd HK.1, hd rfl, hd HK.2, HV.out.k HC2.out, HC2.out.mono (by simp), hd (HC2.out.cellS HZ.out)⟩
    case round =>
      obtain ⟨a, b, l2, rfl, rfl, hab, hbl, hl2, ht, hdr, ha, hw, hc, hz⟩ := hrel
      by_cases hlt : b < l.length
      · have hb2 : b < l2.length := by rw [hl2.out]; exact hlt
        obtain ⟨q0, q1, q2, q3, q4, q5⟩ := hw.s.at b hb2
        simp only [Nat.zero_add] at q0 q1 q2 q3 q4 q5
        have hcon := fun W (hW : Chg [] wr W) => EndsI_any W xb l2[b] z (hW.cellS hz.out)
        unfold aI at hcon
        obtain ⟨d, hd'⟩ : ∃ d, doneI z l2[b] = d := ⟨_, rfl⟩
        simp only [hd'] at hcon
        have HD := hd hd'
        clear hd'
        generalize hoe : l2[b] = o at *
        have HO := hd hoe
        clear hoe
        cases d
        · obtain ⟨p0, p1, p2, p3, p4, p5⟩ := hw.s.at a (by omega)
          simp only [Nat.zero_add] at p0 p1 p2 p3 p4 p5
          have ha' : a < l.length := by omega
          have f0 := hw.free (a * 6)
          have f1 := hw.free (a * 6 + 1)
          have f2 := hw.free (a * 6 + 2)
          have f3 := hw.free (a * 6 + 3)
          have f4 := hw.free (a * 6 + 4)
          have f5 := hw.free (a * 6 + 5)
          go_wp2_with (go_at_call 16; refine (hcon _ ((Chg.refl _ _).alloc _)).mono ?_; rintro e w3 ⟨rfl, hc3⟩; have hb3 := (Blk.new wr #[.int .i64 o.id, .int .i64 o.lx, .int .i64 o.ly, .int .i64 o.hx, .int .i64 o.hy, .bool o.still] 30).k hc3; have hc4 := ((Chg.refl [] wr).alloc _).k hc3; have b0 := hb3.cell 0; have b1 := hb3.cell 1; have b2 := hb3.cell 2; have b3 := hb3.cell 3; have b4 := hb3.cell 4; have b5 := hb3.cell 5; simp at b0 b1 b2 b3 b4 b5; replace f0 := (hc4.frozenS p0).trans f0; replace f1 := (hc4.frozenS p1).trans f1; replace f2 := (hc4.frozenS p2).trans f2; replace f3 := (hc4.frozenS p3).trans f3; replace f4 := (hc4.frozenS p4).trans f4; replace f5 := (hc4.frozenS p5).trans f5; replace p0 := hc4.cellS p0; replace p1 := hc4.cellS p1; replace p2 := hc4.cellS p2; replace p3 := hc4.cellS p3; replace p4 := hc4.cellS p4; replace p5 := hc4.cellS p5)
          go_roundw
          case rel =>
            obtain ⟨s1, s2⟩ := (hw.k hc4).set6 a (by omega) o
            have HK := keep_yes hl2.out hlt HO.out HD.out ht.out hdr.out ha.out hab
            (repeat apply Exists.intro)
            exact ⟨⟨a + 1, b + 1, l2.set a o, by go_num, by go_num, by omega, by omega, hd (by rw [List.length_set]; exact hl2.out), hd HK.1, hd HK.2.1, hd HK.2.2, (by rw [List.length_set]; exact s1), hc.k' hc4 |>.trans s2 (by simp), hd ((s2.cell (World.block_lt_of_cell? _ _ (hc4.cellS hz.out)) (by simpa using HG.out)).trans (hc4.cellS hz.out))⟩, rfl⟩
          case measure => simp [intOf]; omega
        · go_wp2_with (go_at_call 16; refine (hcon _ ((Chg.refl _ _).alloc _)).mono ?_; rintro e w3 ⟨rfl, hc3⟩)
          go_roundw
          case rel =>
            have hc4 := ((Chg.refl [] wr).alloc _).k hc3
            have HK := keep_no hlt hl2.out HO.out HD.out ht.out hdr.out ha.out
            (repeat apply Exists.intro)
            exact ⟨⟨a, b + 1, l2, rfl, by go_num, by omega, by omega, hl2, hd HK.1, hd HK.2.1, hd HK.2.2, hw.k hc4, hc.k' hc4, hd (hc4.cellS hz.out)⟩, rfl⟩
          case measure => simp [intOf]; omega
      · have hb : b = l.length := by omega
        subst hb
        have hlr : l.length = l2.length := hl2.out.symm
        have hca : ¬ c = a := by have := hw.cap; omega
        have hcb : a ≤ c := by have := hw.cap; omega
        obtain ⟨w5, hrun, hr5, hc5⟩ := clearI hw a (by omega) rfl
        rw [hl2.out] at hrun
        have e1 : l2.take a = goesP z l := by rw [ht.out, List.take_of_length_le (Nat.le_refl _)]
        rw [e1] at hr5
        have hle : (goesP z l).length ≤ l.length := List.length_filter_le _ _
        have e2 : a = (goesP z l).length := by rw [ha.out, List.take_of_length_le (Nat.le_refl _)]
        subst e2
        have HR := hd hr5
        have HCC := hd (hc.trans hc5 (by simp))
        clear hc5 hr5 e1 hlr hw hc hfind ht ha
        go_wp2_with fail
        go_ret
        exact ⟨_, c, rfl, HR.out, by simpa [Value.ownBlock] using HCC.out, fun _ h => h⟩
end Go.Proofs.Ytnlkeacchogmeaa

/- sweep.Pairs: the pairs that meet, rising. -/
namespace Go.Proofs.Ytnlkeacchogmeaa
open Go.RowKit Go.Sort Go.Shelf

theorem newP_len (l : List Itm) (x : Itm) : (newP l x).length ≤ l.length := by unfold newP; rw [List.length_map]; exact List.length_filter_le _ _
theorem accP_len (s : List Itm) : ∀ k, k ≤ s.length → (accP s k).length ≤ k * s.length
  | 0, _ => by simp [accP]
  | k + 1, h => by
    rw [accP_succ s k (by omega), List.length_append, Nat.succ_mul]
    have h1 := accP_len s k (by omega)
    have h2 := newP_len (s.take k) s[k]
    rw [List.length_take] at h2
    have : min k s.length ≤ s.length := Nat.min_le_right _ _
    omega
theorem pairsS_len (l : List Itm) : (pairsS l).length ≤ l.length * l.length := by
  have h1 := accP_len l l.length (Nat.le_refl _)
  have h2 := (accP_all l l.length (Nat.le_refl _)).length_eq
  rw [List.take_length] at h2
  have h3 : (pairsS l).length = (allP l).length := (List.mergeSort_perm _ _).length_eq
  omega
theorem newP_snoc (l : List Itm) (x : Itm) (j : Nat) (h : j < l.length) : newP (l.take (j + 1)) x = newP (l.take j) x ++ (if hitI l[j] x then [pairI l[j] x] else []) := by
  rw [List.take_succ_eq_append_getElem h, newP_app]
  congr 1
  unfold newP
  cases hh : hitI l[j] x <;> simp [hh]
theorem sorted_lx {s : List Itm} (h : s.Pairwise fun a b => ltOf cfI b a = false) : ∀ i j (hi : i < s.length) (hj : j < s.length), i ≤ j → s[i].lx ≤ s[j].lx := by
  intro i j hi hj hij
  rcases Nat.lt_or_ge i j with h1 | h1
  · have := List.pairwise_iff_getElem.1 h i j hi hj h1
    rw [ltI] at this
    simpa using this
  · obtain rfl : i = j := by omega
    exact Int.le_refl _
/-- Behind Pairs. -/
def PairsOut (l : List Itm) (w : World) (e : Ending) (w' : World) : Prop := ∃ ao c, e = .returned (.slice ao (pairsS l).length c) ∧ PrR w' w.heap.size (.slice ao (pairsS l).length c) (pairsS l) ∧ Chg [] w w'
/-- What the rounds keep. -/
structure SwP (w : World) (s : List Itm) (aos : Option Addr) (cs : Nat) (k : Nat) (op : List Itm) (vo vp : Value) (wr : World) : Prop where
  items : ItR wr w.heap.size (.slice aos s.length cs) s
  out : PrR wr w.heap.size vo (accP s k)
  open_ : ItR wr w.heap.size vp op
  opp : OpenP s k op
  opl : op.length ≤ k
  ne : ∀ j, vp.ownBlock = some j → (Value.slice aos s.length cs).ownBlock ≠ some j
  chg : Chg [] w wr
theorem SwP.k {w : World} {s : List Itm} {aos : Option Addr} {cs n : Nat} {op : List Itm} {vo vp : Value} {wr wr' : World} (h : SwP w s aos cs n op vo vp wr) (hc : Chg [] wr wr') : SwP w s aos cs n op vo vp wr' :=
  { h with items := h.items.k hc, out := h.out.k hc, open_ := h.open_.k hc, chg := h.chg.k hc }
/-- What the rounds of the inner loop keep. -/
structure SwI (w : World) (s : List Itm) (aos : Option Addr) (cs : Nat) (x : Itm) (xb : Nat) (acc : List (Int × Int)) (op : List Itm) (vo vp : Value) (j : Nat) (wr : World) : Prop where
  items : ItR wr w.heap.size (.slice aos s.length cs) s
  out : PrR wr w.heap.size vo (acc ++ newP (op.take j) x)
  open_ : ItR wr w.heap.size vp op
  box : Blk wr xb #[.int .i64 x.id, .int .i64 x.lx, .int .i64 x.ly, .int .i64 x.hx, .int .i64 x.hy, .bool x.still] 30
  ne : ∀ j, vp.ownBlock = some j → (Value.slice aos s.length cs).ownBlock ≠ some j
  chg : Chg [] w wr
theorem SwI.k {w : World} {s : List Itm} {aos : Option Addr} {cs : Nat} {x : Itm} {xb : Nat} {acc : List (Int × Int)} {op : List Itm} {vo vp : Value} {j : Nat} {wr wr' : World} (h : SwI w s aos cs x xb acc op vo vp j wr) (hc : Chg [] wr wr') : SwI w s aos cs x xb acc op vo vp j wr' :=
  { h with items := h.items.k hc, out := h.out.k hc, open_ := h.open_.k hc, box := h.box.k hc, chg := h.chg.k hc }
/-- A pair more. -/
theorem SwI.next {w : World} {s : List Itm} {aos : Option Addr} {cs : Nat} {x : Itm} {xb : Nat} {acc cur : List (Int × Int)} {op : List Itm} {vo v5 vp : Value} {j : Nat} {p : Int × Int} {w3 w4 w5 : World} (h : SwI w s aos cs x xb acc op vo vp j w3) (hc : Chg [] w3 w4) (ho : PrR w4 w.heap.size vo cur)
    (h5 : w5.ownsRow w.heap.size 33 2 v5 (cur.length + 1) (cur.flatMap cP ++ cP p)) (hg : w4.grownBy w5 vo.ownBlock) (hnew : acc ++ newP (op.take (j + 1)) x = cur ++ [p]) : SwI w s aos cs x xb acc op v5 vp (j + 1) w5 where
  items := ownsRow_grow (h.items.k hc) ho (by decide) hg
  out := by rw [hnew]; unfold PrR; rw [List.length_append, List.flatMap_append]; simpa using h5
  open_ := ownsRow_grow (h.open_.k hc) ho (by decide) hg
  box := (h.box.k hc).grown hg (ownsRow_apart ho (h.box.k hc) (by decide))
  ne := h.ne
  chg := (h.chg.k hc).ownGrow ho hg (Nat.le_refl _)
/-- Behind the inner loop: the item joins those that are open. -/
theorem SwI.close {w : World} {s : List Itm} {aos : Option Addr} {cs : Nat} {x : Itm} {xb : Nat} {acc : List (Int × Int)} {op op2 : List Itm} {vo vp v5 : Value} {k : Nat} {w3 w4 w5 : World} (h : SwI w s aos cs x xb acc op2 vo vp op2.length w3) (hk : k < s.length) (hl : op2.length ≤ k) (hx : s[k] = x)
    (hst : goesP x.lx op = goesP x.lx (s.take k) ∧ OpenP s (k + 1) (goesP x.lx op ++ [x])) (ho2 : goesP x.lx op = op2) (hacc : accP s k = acc) (ho : ItR w4 w.heap.size vp op2) (hc : Chg [] w3 w4)
    (h5 : w5.ownsRow w.heap.size 30 6 v5 (op2.length + 1) (op2.flatMap cI ++ cI x)) (hg : w4.grownBy w5 vp.ownBlock) (hm : Moved w4 vp v5) : SwP w s aos cs (k + 1) (op2 ++ [x]) vo v5 w5 := by
  have hit := h.items.k hc
  have hne : ∀ j, (Value.slice aos s.length cs).ownBlock = some j → vp.ownBlock ≠ some j := fun j hj hj' => h.ne j hj' hj
  have hout : accP s (k + 1) = acc ++ newP op2 x := by
    rw [accP_succ s k hk, hacc, hx, ← ho2, hst.1, goesP_hit _ _ _ rfl]
  exact
  { items := World.ownsRow.kept hit hg (by
      rcases hb : (Value.slice aos s.length cs).ownBlock with _ | j
      · exact .inl rfl
      · exact .inr fun e => hne j hb e.symm)
    out := by
      rw [hout]
      have := h.out
      rw [List.take_length] at this
      exact ownsRow_grow (this.k hc) ho (by decide) hg
    open_ := by unfold ItR; rw [List.length_append, List.flatMap_append]; simpa using h5
    opp := by rw [← ho2]; exact hst.2
    opl := by rw [List.length_append]; simp; omega
    ne := fun j hj hj' => by
      rcases hm with he | he
      · exact h.ne j (he ▸ hj) hj'
      · have h1 := he j hj
        have h2 := (World.ownsRow.lt hit j hj').2
        omega
    chg := (h.chg.k hc).ownGrow ho hg (Nat.le_refl _) }
/-- Behind DeleteFunc. -/
theorem SwI.start {w : World} {s : List Itm} {aos : Option Addr} {cs n : Nat} {op op2 : List Itm} {vo vp v2 : Value} {w1 w2 : World} {x : Itm} {xb : Nat} (h : SwP w s aos cs n op vo vp w1) (hb : Blk w1 xb #[.int .i64 x.id, .int .i64 x.lx, .int .i64 x.ly, .int .i64 x.hx, .int .i64 x.hy, .bool x.still] 30)
    (hne : vp.ownBlock ≠ some xb) (hr : ItR w2 w.heap.size v2 op2) (hc : Chg vp.ownBlock.toList w1 w2) (hv : ∀ k, v2.ownBlock = some k → vp.ownBlock = some k) : SwI w s aos cs x xb (accP s n) op2 vo v2 0 w2 where
  items := ownsRow_chg h.items hc fun k hk hm => h.ne k (by simpa using hm) hk
  out := by
    rw [List.take_zero]
    show PrR w2 w.heap.size vo (accP s n ++ [])
    rw [List.append_nil]
    refine ownsRow_chg h.out hc fun k hk hm => ?_
    have hm' : vp.ownBlock = some k := by simpa using hm
    rcases h.open_.2 with ⟨rfl, _⟩ | ⟨g, cap, cur, rfl, _, hg, _⟩
    · simp [Value.ownBlock] at hm'
    · simp only [Value.ownBlock, Option.some.injEq] at hm'
      subst hm'
      exact ownsRow_apart h.out (b := g) hg (by decide) hk
  open_ := hr
  box := hb.chg hc (by simpa using hne)
  ne := fun j hj => h.ne j (hv j hj)
  chg := h.chg.trans hc fun k hk hlt => by
    have := (World.ownsRow.lt h.open_ k (by simpa using hk)).1
    omega

set_option maxRecDepth 100000 in
set_option maxHeartbeats 4000000 in
theorem Pairs_any (w : World) (v : Value) (l : List Itm) (hv : ItS w v l) (hl : l.length ≤ 65536) :
    Calls Try.prog 8 #[v] w fun e w' => PairsOut l w e w' := by
  have hclone := CloneI_any w v l hv (by omega)
  obtain ⟨ao0, c0, hv0⟩ : ∃ ao c, v = .slice ao l.length c := by
    obtain ⟨_, ao, cap, b, off, rfl, _⟩ := hv
    exact ⟨ao, cap, rfl⟩
  subst hv0
  clear hv
  go_enter Try.func8, Try.ntmps8
  go_wp2_with (first
    | (go_at_call 11; refine hclone.mono ?_; rintro e w1 ⟨aos, cs, rfl, hr1, hc1⟩; clear hclone)
    | (go_at_call 12; refine (SortI_any _ _ _ _ _ hr1 (by omega)).mono ?_; rintro e w2 ⟨rfl, s, hperm, hsort, hr2, hc2⟩)
    | fail)
  have hsl : s.length = l.length := hperm.length_eq
  have hcw : Chg [] w w2 := hc1.trans hc2 (fun x hx hlt => by
    have := World.ownsRow.lt hr1 x (by simpa using hx)
    omega)
  rw [← hsl] at hr2 hl ⊢
  have HP := hd hperm
  have HS := hd hsort
  have HL := hd hsl
  clear hr1 hc1 hc2 hperm hsort hsl
  go_loopw [4, 5, 16] (fun vo vp i wr => ∃ (k : Nat) (op : List Itm), i = .int .i64 (k : Int) ∧ k ≤ s.length ∧ Hd (SwP w s aos cs k op vo vp wr))
    (fun _ _ i _ => s.length - (intOf i).toNat)
  case atStart =>
    exact ⟨0, [], rfl, Nat.zero_le _, hd ⟨hr2, World.ownsRow_nil _ _ _ _, World.ownsRow_nil _ _ _ _, OpenP.start s, Nat.le_refl _, fun j hj => by simp [Value.ownBlock] at hj, hcw⟩⟩
  case round =>
    obtain ⟨k, op, rfl, hk, hI⟩ := hrel
    by_cases hlt : k < s.length
    · obtain ⟨g, rfl⟩ : ∃ g, aos = some ⟨g, 0, none⟩ := by
        obtain ⟨ao, c, he, ⟨rfl, rfl⟩ | ⟨g, rfl, -⟩⟩ := hI.out.items.form
        · simp at hlt
        · simp only [Value.slice.injEq] at he
          exact ⟨g, he.1⟩
      obtain ⟨q0, q1, q2, q3, q4, q5⟩ := hI.out.items.s.at k hlt
      simp only [Nat.zero_add] at q0 q1 q2 q3 q4 q5
      have hstep := OpenP.step hI.out.opp hlt (sorted_lx HS.out)
      have HST := hd hstep
      clear hstep
      generalize hx : s[k] = x at *
      have HX := hd hx
      clear hx
      go_upto_region 8 with (fail)
      have hb1 := Blk.new wr #[.int .i64 x.id, .int .i64 x.lx, .int .i64 x.ly, .int .i64 x.hx, .int .i64 x.hy, .bool x.still] 30
      have hcx := (Chg.refl [] wr).alloc (.cells #[.int .i64 x.id, .int .i64 x.lx, .int .i64 x.ly, .int .i64 x.hx, .int .i64 x.hy, .bool x.still] 30)
      have hxb : wr.heap.size < (wr.alloc (.cells #[.int .i64 x.id, .int .i64 x.lx, .int .i64 x.ly, .int .i64 x.hx, .int .i64 x.hy, .bool x.still] 30)).heap.size := hb1.lt
      generalize wr.alloc (.cells #[.int .i64 x.id, .int .i64 x.lx, .int .i64 x.ly, .int .i64 x.hx, .int .i64 x.hy, .bool x.still] 30) = w1 at *
      have hI1 := hI.out.k hcx
      have HI1 := hd hI1
      have hopl : op.length ≤ 65536 := by have := hI1.opl; omega
      have hne : u5.ownBlock ≠ some wr.heap.size := by
        intro e
        have := (World.ownsRow.lt hI.out.open_ _ e).2
        omega
      have hz : w1.cell? ⟨wr.heap.size, 1, none⟩ = some (.int .i64 x.lx) := by rw [hb1.cell]; rfl
      have hdel := DeleteI_any w1 w.heap.size u5 op hI1.open_ (by omega) wr.heap.size x.lx hz hne
      have HNE := hd hne
      have HB1 := hd hb1
      clear hz hne hb1 hxb
      obtain ⟨op2, hop2⟩ : ∃ op2, goesP x.lx op = op2 := ⟨_, rfl⟩
      have HO2 := hd hop2
      have hopk : op2.length ≤ k := by rw [← hop2]; exact Nat.le_trans (List.length_filter_le _ _) hI1.opl
      simp only [hop2] at hdel
      clear hop2 hI hI1 q0 q1 q2 q3 q4 q5
      go_step3
      go_wp2_with (go_at_call 15; refine hdel.mono ?_; rintro e w2 ⟨ao2, c2, rfl, hr2, hc2, hb2⟩; clear hdel; have HSI := hd (SwI.start HI1.out HB1.out HNE.out hr2 hc2 hb2); clear hc2 hb2 hr2 HI1 HNE HB1)
      go_step3
      go_wp2_with fail
      have hol : op2.length ≤ 65536 := by rw [← HO2.out]; exact Nat.le_trans (List.length_filter_le _ _) hopl
      generalize wr.heap.size = xb at *
      clear hcx w1 hcw wr
      obtain ⟨acc, hacc⟩ : ∃ acc, accP s k = acc := ⟨_, rfl⟩
      rw [hacc] at HSI
      have HACC := hd hacc
      have haccl : acc.length ≤ 4294967296 := by
        rw [← hacc]
        have h1 := accP_len s k hk
        have h2 : k * s.length ≤ 65536 * 65536 := Nat.mul_le_mul (by omega) hl
        omega
      clear hacc
      go_loopw [4, 25] (fun vo j wr => ∃ jj : Nat, j = .int .i64 (jj : Int) ∧ jj ≤ op2.length ∧ Hd (SwI w s (some ⟨g, 0, none⟩) cs x xb acc op2 vo (.slice ao2 op2.length c2) jj wr))
        (fun _ j _ => op2.length - (intOf j).toNat)
      case atStart => exact ⟨0, rfl, Nat.zero_le _, HSI⟩
      case round =>
        obtain ⟨j, rfl, hj, hJ⟩ := hrel
        by_cases hjl : j < op2.length
        · obtain ⟨g2, rfl⟩ : ∃ g, ao2 = some ⟨g, 0, none⟩ := by
            obtain ⟨ao, c, he, ⟨rfl, h0⟩ | ⟨g, rfl, -⟩⟩ := hJ.out.open_.form
            · rw [h0] at hjl; simp at hjl
            · simp only [Value.slice.injEq] at he
              exact ⟨g, he.1⟩
          obtain ⟨q0, q1, q2, q3, q4, q5⟩ := hJ.out.open_.s.at j hjl
          simp only [Nat.zero_add] at q0 q1 q2 q3 q4 q5
          have hsn := newP_snoc op2 x j hjl
          generalize op2[j] = o at *
          have HSN := hd hsn
          clear hsn
          go_upto_region 12 with (fail)
          have hb1 := Blk.new wr #[.int .i64 o.id, .int .i64 o.lx, .int .i64 o.ly, .int .i64 o.hx, .int .i64 o.hy, .bool o.still] 30
          have hJ1 := hd (hJ.out.k ((Chg.refl [] wr).alloc (.cells #[.int .i64 o.id, .int .i64 o.lx, .int .i64 o.ly, .int .i64 o.hx, .int .i64 o.hy, .bool o.still] 30)))
          clear q0 q1 q2 q3 q4 q5 hJ
          generalize wr.alloc (.cells #[.int .i64 o.id, .int .i64 o.lx, .int .i64 o.ly, .int .i64 o.hx, .int .i64 o.hy, .bool o.still] 30) = w3 at *
          generalize wr.heap.size = ob at *
          clear wr
          have q0 := hb1.cell 0
          have q1 := hb1.cell 1
          have q2 := hb1.cell 2
          have q3 := hb1.cell 3
          have q4 := hb1.cell 4
          have q5 := hb1.cell 5
          have x0 := hJ1.out.box.cell 0
          have x1 := hJ1.out.box.cell 1
          have x2 := hJ1.out.box.cell 2
          have x3 := hJ1.out.box.cell 3
          have x4 := hJ1.out.box.cell 4
          have x5 := hJ1.out.box.cell 5
          simp at q0 q1 q2 q3 q4 q5 x0 x1 x2 x3 x4 x5
          have HBO := hd hb1
          clear hb1
          have hmeet := fun W => Meet_any W o x
          unfold rI at hmeet
          have hov : ((acc ++ newP (op2.take j) x).length + 1) * 16 ≤ 140737488355328 := by
            have := newP_len (op2.take j) x
            rw [List.length_take] at this
            have h2 : min j op2.length ≤ op2.length := Nat.min_le_right _ _
            rw [List.length_append]
            omega
          have hhit : hitI o x = (!(o.still && x.still) && meetI o x) := rfl
          obtain ⟨m, hm⟩ : ∃ m, meetI o x = m := ⟨_, rfl⟩
          rw [hm] at hhit
          simp only [hm] at hmeet
          clear hm
          have hnext : ∀ W', Chg [] w3 W' → hitI o x = false → SwI w s (some ⟨g, 0, none⟩) cs x xb acc op2 u4 (.slice (some ⟨g2, 0, none⟩) op2.length c2) (j + 1) W' := fun W' hW hh => by
            have h1 := hJ1.out.k hW
            refine { h1 with out := ?_ }
            rw [HSN.out, hh]
            simpa using h1.out
          have HNX := hd hnext
          clear hnext
          have HHIT := hd hhit
          clear hhit
          obtain ⟨bo, hos⟩ : ∃ b, o.still = b := ⟨_, rfl⟩
          obtain ⟨bx, hxs⟩ : ∃ b, x.still = b := ⟨_, rfl⟩
          rw [hos] at q5
          rw [hxs] at x5
          have HOS := hd hos
          have HXS := hd hxs
          clear hos hxs
          cases bo <;> cases bx
          case true.true =>
            have hh : hitI o x = false := by rw [HHIT.out, HOS.out, HXS.out]; rfl
            have HH := hd (HNX.out w3 (Chg.refl _ _) hh)
            clear hh
            go_wp2_with fail
            go_roundw
            case rel => exact ⟨j + 1, by go_num, by omega, HH⟩
            case measure => simp [intOf]; omega
          all_goals
            cases m
            · go_wp2_with (go_at_call 17; refine (hmeet _).mono ?_; rintro e w4 ⟨rfl, hc4⟩)
              have hh : hitI o x = false := by rw [HHIT.out, Bool.and_false]
              have HH := hd (HNX.out w4 hc4 hh)
              clear hh
              go_roundw
              case rel => exact ⟨j + 1, by go_num, by omega, HH⟩
              case measure => simp [intOf]; omega
            · have hh : hitI o x = true := by rw [HHIT.out, HOS.out, HXS.out]; rfl
              obtain ⟨cur, hcur⟩ : ∃ cur, acc ++ newP (op2.take j) x = cur := ⟨_, rfl⟩
              have hout := hJ1.out.out
              rw [hcur] at hov hout
              have HNEW : Hd (acc ++ newP (op2.take (j + 1)) x = cur ++ [pairI o x]) := hd (by rw [HSN.out, hh, ← hcur, List.append_assoc]; rfl)
              have HOUT := hd hout
              have hbase := hJ1.out.chg.size
              clear hh hcur hout HNX
              go_wp2_with (first
                | (go_at_call 17; refine (hmeet _).mono ?_; rintro e w4 ⟨rfl, hc4⟩; replace q0 := hc4.cellS q0; replace x0 := hc4.cellS x0)
                | (at_builtin; refine wpApp rowPair rfl _ _ rfl w.heap.size u4 cur.length _ rfl (World.ownsRow.alloc (HOUT.out.k hc4) _) _ 1 (cP (pairI o x)) rfl (Rd.lit _ 2 1 (cP (pairI o x)) _ _ rfl rfl (by decide)) (cP_one _) hov (by omega) (by have := hc4.size; simp; omega) ?_; intro ao5 c5 w5 h5 hg5 _ _; have HH := hd (hJ1.out.next (hc4.alloc _) (World.ownsRow.alloc (HOUT.out.k hc4) _) h5 hg5 HNEW.out); clear h5 hg5))
              go_roundw
              case rel => exact ⟨j + 1, by go_num, by omega, HH⟩
              case measure => simp [intOf]; omega
        · obtain rfl : j = op2.length := by omega
          have hout := hJ.out.open_
          have HOUT := hd hout
          have hbase := hJ.out.chg.size
          have x0 := hJ.out.box.cell 0
          have x1 := hJ.out.box.cell 1
          have x2 := hJ.out.box.cell 2
          have x3 := hJ.out.box.cell 3
          have x4 := hJ.out.box.cell 4
          have x5 := hJ.out.box.cell 5
          simp at x0 x1 x2 x3 x4 x5
          clear hout
          go_wp2_with (at_builtin; refine wpApp rowItem rfl _ _ rfl w.heap.size (.slice ao2 op2.length c2) op2.length _ rfl (World.ownsRow.alloc HOUT.out _) _ 1 (cI x) rfl (Rd.lit _ 6 1 (cI x) _ _ rfl rfl (by decide)) (cI_one _) (by omega) (by omega) (by simp; omega) ?_; intro ao5 c5 w5 h5 hg5 hm5 _; have HH := hd (SwI.close hJ.out hlt hopk HX.out HST.out HO2.out HACC.out (World.ownsRow.alloc HOUT.out _) ((Chg.refl [] _).alloc _) h5 hg5 hm5); clear h5 hg5 hm5)
          clear hJ HOUT x0 x1 x2 x3 x4 x5
          apply_assumption -exfalso -symm
          go_wp2_with fail

          go_roundw
          case rel => exact ⟨k + 1, op2 ++ [x], by go_num, by omega, HH⟩
          case measure => simp [intOf]; omega
    · obtain rfl : k = s.length := by omega
      obtain ⟨aoo, co, rfl, -⟩ := hI.out.out.form
      have hsort := SortP_any wr w.heap.size aoo co (accP s s.length) hI.out.out (by
        have h1 := accP_len s s.length (Nat.le_refl _)
        have h2 : s.length * s.length ≤ 65536 * 65536 := Nat.mul_le_mul hl hl
        omega)
      have HI := hd hI.out.out
      have HC := hd hI.out.chg
      clear hI
      go_wp2_with (go_at_call 18; refine hsort.mono ?_; rintro e w5 ⟨rfl, hso⟩)
      go_ret
      obtain ⟨l', p1, p2, p3, p4⟩ := hso
      have el : l' = pairsS l := by
        refine pairsS_of (p1.trans ((accP_all s s.length (Nat.le_refl _)).trans ?_)) (p2.imp fun {a b} h => ?_)
        · rw [List.take_length]; exact allP_perm HP.out
        · rw [ltP] at h
          unfold leP
          simp only [decide_eq_false_iff_not, decide_eq_true_eq] at h ⊢
          omega
      rw [← p1.length_eq, el] at p3 ⊢
      exact ⟨aoo, co, rfl, p3, HC.out.trans p4 fun x hx hlt => by
        have := (World.ownsRow.lt HI.out x (by simpa using hx)).1
        omega⟩
end Go.Proofs.Ytnlkeacchogmeaa

/- The sweep laws' own example. -/
namespace Go.Proofs.Ytnlkeacchogmeaa
open Go.RowKit Go.Sort Go.Shelf

theorem pairs_fit1 : pairsS [⟨7, 0, 0, 4, 4, false⟩, ⟨3, 0, 0, 4, 4, true⟩] = [(3, 7)] := (pairsS_of (by decide) (by simp)).symm
theorem pairs_fit2 : pairsS [⟨1, 0, 0, 4, 4, true⟩, ⟨2, 0, 0, 4, 4, true⟩] = [] := (pairsS_of (by decide) (by simp)).symm
theorem pairsS_nil : pairsS [] = [] := (pairsS_of (by decide) (by simp)).symm
theorem PrR.at {w : World} {base g n c : Nat} {l : List (Int × Int)} (h : PrR w base (.slice (some ⟨g, 0, none⟩) n c) l) (i : Nat) (hi : i < l.length) :
    w.cell? ⟨g, i * 2, none⟩ = some (.int .i64 l[i].1) ∧ w.cell? ⟨g, i * 2 + 1, none⟩ = some (.int .i64 l[i].2) := by
  have g2 := fun j hj => flat_get cP 2 cP_len l i j hi hj
  have hc := fun j u (hu : (l.flatMap cP)[j]? = some u) => World.ownsRow.cells h (g := g) rfl j u hu
  have e : ∀ j, (⟨g, 0, none⟩ : Addr).add j = ⟨g, j, none⟩ := by intro j; unfold Addr.add; split <;> simp_all
  simp only [e] at hc
  exact ⟨hc (i * 2) _ (g2 0 (by decide)), hc (i * 2 + 1) _ (g2 1 (by decide))⟩
theorem PrR.addr {w : World} {base n c : Nat} {ao : Option Addr} {l : List (Int × Int)} (h : PrR w base (.slice ao n c) l) (hp : 0 < l.length) : ∃ g, ao = some ⟨g, 0, none⟩ := by
  obtain ⟨ao', c', he, ⟨rfl, h0⟩ | ⟨g, rfl, -⟩⟩ := h.form
  · rw [h0] at hp; simp at hp
  · simp only [Value.slice.injEq] at he
    exact ⟨g, he.1⟩
theorem ItS.lit (w : World) (l : List Itm) (cs : Array Value) (e : TypeId) (n : Nat) (hcs : cs = (l.flatMap cI).toArray) (hn : n = l.length) (hl : l.length ≤ 140737488355328) : ItS (w.alloc (.cells cs e)) (.slice (some ⟨w.heap.size, 0, none⟩) n n) l := by
  subst hn
  exact Rd.lit w 6 l.length (l.flatMap cI) cs e hcs (flat_len cI 6 cI_len l) hl

@[go_sem] theorem eqPair (a b c d : Int) (w : World) : (Op.equalIn 10000 33 (.agg #[.int .i64 a, .int .i64 b]) (.agg #[.int .i64 c, .int .i64 d])).run Try.prog w = .ok (a == c && b == d) w := by
  have u3 := Try.underlying3
  have a3 := Try.isAgg3
  have z3 := Try.sizeOf3
  rw [show (10000 : Nat) = 9999 + 1 from rfl, Op.equalIn]
  simp only [Sem.run_bind, run_underlying Try.underlying33, Result.andThen_ok]
  simp only [Std.Legacy.Range.forIn_eq_forIn_range', Std.Legacy.Range.size, Nat.sub_zero, Nat.add_sub_cancel, Nat.div_one, List.range'_succ, List.range'_zero, List.forIn_cons, List.forIn_nil]
  go_simp
  by_cases h1 : a = c <;> by_cases h2 : b = d <;> simp [h1, h2]
set_option maxRecDepth 100000 in
set_option maxHeartbeats 4000000 in
theorem fit08_any (w : World) : Calls Try.prog 7 #[] w fun e w' => e = .returned (.bool true) ∧ Chg [] w w' := by
  go_enter Try.func7, Try.ntmps7
  go_upto_region 2 with (fail)
  have hcW := (Chg.refl [] w).alloc (.cells #[.int .i64 0, .int .i64 0, .int .i64 4, .int .i64 4] 28)
  have hcb1 := (Chg.refl [] w).alloc (.cells #[.int .i64 0, .int .i64 0, .int .i64 4, .int .i64 4] 28)
  have hb1 := Blk.new w #[.int .i64 0, .int .i64 0, .int .i64 4, .int .i64 4] 28
  generalize w.alloc (.cells #[.int .i64 0, .int .i64 0, .int .i64 4, .int .i64 4] 28) = w1 at *
  clear hcb1
  have hc1 : Chg [] w w1 := hcW
  generalize w.heap.size = b at *
  have q0 := hb1.cell 0
  have q1 := hb1.cell 1
  have q2 := hb1.cell 2
  have q3 := hb1.cell 3
  simp at q0 q1 q2 q3
  go_upto_region 3 with (go_at_call 8; refine (Pairs_any _ _ [⟨7, 0, 0, 4, 4, false⟩, ⟨3, 0, 0, 4, 4, true⟩] (ItS.lit _ _ _ _ 2 rfl rfl (by decide)) (by decide)).mono ?_; rintro e w2 ⟨ao, c, he, hp, hc2⟩; rw [pairs_fit1] at he hp; subst he)
  replace hc2 := ((Chg.refl [] w1).alloc _).k hc2
  obtain ⟨g, rfl⟩ := hp.addr (by decide)
  obtain ⟨p0, p1⟩ := hp.at 0 (by decide)
  simp at p0 p1
  replace q0 := hc2.cellS q0
  replace q1 := hc2.cellS q1
  replace q2 := hc2.cellS q2
  replace q3 := hc2.cellS q3
  replace hc1 := hc1.k hc2
  clear hb1 hc2 hp
  go_wp2_with (go_at_call 8; refine (Pairs_any _ _ [⟨1, 0, 0, 4, 4, true⟩, ⟨2, 0, 0, 4, 4, true⟩] (ItS.lit _ _ _ _ 2 rfl rfl (by decide)) (by decide)).mono ?_; rintro e w3 ⟨ao3, c3, he, hp3, hc3⟩; rw [pairs_fit2] at he hp3; subst he)
  go_ret
  exact ⟨rfl, hc1.k (((Chg.refl [] _).alloc _).k hc3)⟩
end Go.Proofs.Ytnlkeacchogmeaa

/- A map[[2]int]int of a call's own that says 1 at some pairs; pairs of items are each met once. -/
namespace Go.Proofs.Ytnlkeacchogmeaa
open Go.RowKit

theorem laidOut08 : laidOutB Try.prog = true := by kernel_rfl
theorem pairArr : WideMaps.ArrKey Try.prog 33 3 2 := ⟨Try.underlying33, by kernel_rfl, by kernel_rfl, by kernel_rfl⟩
theorem pairKeyed : Maps.Keyed Try.prog 33 := Maps.Keyed.of_law (deep_law_laid laidOut08 (m := 2) (by omega) (of_decide_eq_true (by kernel_rfl)) (by kernel_rfl) (by rw [Try.underlying33]))
theorem undInt08 : Try.prog.underlying 3 = some (.int .i64) := by kernel_rfl
theorem undMapP : Try.prog.underlying 36 = some (.map 33 3) := by kernel_rfl
theorem zeroInt08 (w : World) : (zeroValue 3).run Try.prog w = .ok (.int .i64 0) w := by kernel_rfl
def OkP (p : Int × Int) : Prop := (0 ≤ p.1 ∧ p.1 < 4294967296) ∧ 0 ≤ p.2 ∧ p.2 < 4294967296
def kP (p : Int × Int) : Lit := .string (keyBytes [.int .i64 p.1, .int .i64 p.2])
def vP (p : Int × Int) : Value := .agg #[.int .i64 p.1, .int .i64 p.2]
theorem wfP {i : Int} (h : 0 ≤ i ∧ i < 4294967296) : (Lit.int .i64 i).wf = true := by
  simp [Lit.wf, IntKind.min, IntKind.max, IntKind.signed, IntKind.bits]; omega
theorem keyP {p : Int × Int} (h : OkP p) : keyOf Try.prog 33 (vP p) = some (kP p) :=
  WideMaps.keyOf_pair pairArr undInt08 ⟨Try.prog.types.size - 1, by kernel_rfl⟩ (wfP h.1) (wfP h.2)
theorem kP_ne {p q : Int × Int} (hp : OkP p) (hq : OkP q) (h : p ≠ q) : kP p ≠ kP q := by
  intro e
  have h1 := keyP hp
  have h2 := keyP hq
  rw [← e] at h2
  have := pairKeyed.inj h1 h2
  unfold vP at this
  simp at this
  exact h (Prod.ext this.1 this.2)
theorem kP_lit {p : Int × Int} (h : OkP p) : WideAt.IsKeyLit (kP p) := pairKeyed.key (keyP h)
structure ReadsP (D : DataW Unit) (T : List (Int × Int)) : Prop where
  ok : ∀ p ∈ T, OkP p
  nodup : T.Nodup
  at_ : ∀ p z, OkP p → D.atKey (kP p) z = if p ∈ T then .lit (.int .i64 1) else z
  has : ∀ p, OkP p → Maps.has D (kP p) = decide (p ∈ T)
  size : Maps.size D = T.length
  tidy : Maps.Tidy D
theorem ReadsP.empty : ReadsP (.map []) [] := ⟨by simp, by simp, fun _ _ _ => rfl, fun _ _ => rfl, rfl, Maps.tidy_empty⟩
theorem ReadsP.put {D : DataW Unit} {T : List (Int × Int)} (h : ReadsP D T) (p : Int × Int) (hp : OkP p) (hn : p ∉ T) : ReadsP (D.put (kP p) (.lit (.int .i64 1))) (T ++ [p]) := by
  have hl := kP_lit hp
  refine ⟨?_, ?_, fun j z hj0 => ?_, fun j hj0 => ?_, ?_, h.tidy.put hl _⟩
  · intro q hq
    rcases List.mem_append.1 hq with hq | hq
    · exact h.ok q hq
    · obtain rfl := List.mem_singleton.1 hq; exact hp
  · rw [List.nodup_append]; exact ⟨h.nodup, by simp, fun a ha b hb => by simp at hb; subst hb; exact fun e => hn (e ▸ ha)⟩
  · by_cases hj : j = p
    · subst hj; rw [Maps.atKey_put_same h.tidy.isMap hl]; simp
    · rw [Maps.atKey_put_other (kP_ne hj0 hp hj), h.at_ j z hj0]; simp [hj]
  · by_cases hj : j = p
    · subst hj; rw [Maps.has_put_same h.tidy.isMap hl]; simp
    · rw [Maps.has_put_other (kP_ne hj0 hp hj), h.has j hj0]; simp [hj]
  · rw [Maps.size_put h.tidy, h.has p hp, h.size, decide_eq_false hn]; simp
/-- Block b is such a map. -/
def MapP (w : World) (b : Nat) (T : List (Int × Int)) : Prop := ∃ (D : DataW Unit), w.ownsMap Try.prog 33 (plainElem Try.prog 3) b T.length D ∧ ReadsP D T
theorem MapP.of {w : World} {b n : Nat} {T : List (Int × Int)} {D : DataW Unit} (h : w.ownsMap Try.prog 33 (plainElem Try.prog 3) b n D) (hr : ReadsP D T) : MapP w b T := by
  refine ⟨D, ?_, hr⟩
  have hsz := hr.size
  obtain ⟨xs, clock, hb, F, hs, hD⟩ := h
  refine ⟨xs, clock, hb, F, ?_, hD⟩
  rw [hD, Maps.size_eq, length_read] at hsz
  omega
theorem MapP.lt {w : World} {b : Nat} {T : List (Int × Int)} (h : MapP w b T) : b < w.heap.size := let ⟨_, h1, _⟩ := h; h1.lt
theorem MapP.block {w w' : World} {b : Nat} {T : List (Int × Int)} (h : MapP w b T) (hc : w'.heap[b]? = w.heap[b]?) : MapP w' b T := by
  obtain ⟨D, ⟨xs, clock, hb, r⟩, hr⟩ := h
  exact ⟨D, ⟨xs, clock, hc.trans hb, r⟩, hr⟩
theorem MapP.chg {S : List Nat} {w w' : World} {b : Nat} {T : List (Int × Int)} (h : MapP w b T) (hc : Chg S w w') (hn : b ∉ S) : MapP w' b T := h.block (hc.block b h.lt hn)
theorem MapP.k {w w' : World} {b : Nat} {T : List (Int × Int)} (h : MapP w b T) (hc : Chg [] w w') : MapP w' b T := h.chg hc (by simp)
theorem MapP.new (w : World) : MapP (w.alloc (.map #[] 0)) w.heap.size [] := ⟨.map [], World.ownsMap_made w _ _ _, ReadsP.empty⟩
theorem MapP.look {w : World} {b : Nat} {T : List (Int × Int)} (h : MapP w b T) (p : Int × Int) (hp : OkP p) :
    (Instr.lookup 36 (.map (some b)) (vP p) false).run Try.prog w = .ok (.int .i64 (if p ∈ T then 1 else 0)) w := by
  obtain ⟨D, hown, hr⟩ := h
  obtain ⟨c, hrun, hc, -⟩ := hown.lookup_int pairKeyed undMapP undInt08 (zeroInt08 w) (keyP hp)
  rw [hr.at_ p _ hp] at hc
  rw [hrun]
  by_cases h : p ∈ T
  · rw [if_pos h] at hc ⊢; simp at hc; rw [← hc]
  · rw [if_neg h] at hc ⊢; simp at hc; rw [← hc]
theorem MapP.len {w : World} {b : Nat} {T : List (Int × Int)} (h : MapP w b T) (ty : TypeId) : (Builtin.len_ #[36] ty #[.map (some b)]).run Try.prog w = .ok (.int .i64 (T.length : Int)) w := by
  obtain ⟨D, hown, hr⟩ := h
  rw [hown.len undMapP ty, hr.size]
theorem wpPutP {w : World} {ops : Array Oper} {rest : List Oper} {o : Oper} {a : Act} {Q : Exit → Act → World → Prop} (hg : o.guard = none) (hdst : o.dst = none) (m x v : Operand) (hop : o.op = Op.mapUpdate 36 m x v)
    (b : Nat) (T : List (Int × Int)) (p : Int × Int) (hm : a.eval m = .map (some b)) (hx : a.eval x = vP p) (hv : a.eval v = .int .i64 1) (h : MapP w b T) (hp : OkP p) (hno : p ∉ T) (hn : T.length ≤ 10000000000)
    (hK : ∀ w', MapP w' b (T ++ [p]) → w.grownBy w' (some b) → wpList Try.prog ops Q rest a w') : wpList Try.prog ops Q (o :: rest) a w := by
  obtain ⟨D, hown, hr⟩ := h
  refine wpList_mapUpdate_own w hg m x v _ hop 33 3 pairKeyed undMapP _ b _ D hm hown (by unfold maxLen; omega) _ _ _ hx hv (keyP hp) (.lit (.int .i64 1)) [] (plainElem_int undInt08 (by decide)) fun w' h1 h2 => ?_
  have e : a.put o.dst undef = a := by rw [hdst]; rfl
  rw [e]
  exact hK w' (MapP.of h1 (hr.put p hp hno)) h2

/- Pairs of items with IDs of their own: each once. -/
theorem newP_nodup {l : List Itm} {x : Itm} (h : (l.map (·.id)).Nodup) : (newP l x).Nodup := by
  unfold newP
  have h1 : (l.filter (hitI · x)).Pairwise (fun a b => a.id ≠ b.id) := by
    have : l.Pairwise (fun a b => a.id ≠ b.id) := by rw [List.Nodup, List.pairwise_map] at h; exact h
    exact this.filter _
  rw [List.Nodup, List.pairwise_map]
  refine h1.imp fun {a b} hab e => hab ?_
  unfold pairI at e
  simp only [Prod.mk.injEq] at e
  omega
theorem allP_nodup : ∀ {l : List Itm}, (l.map (·.id)).Nodup → (allP l).Nodup
  | [], _ => by simp [allP]
  | x :: l, h => by
    rw [List.map_cons, List.nodup_cons] at h
    simp only [allP]
    rw [List.nodup_append]
    refine ⟨newP_nodup h.2, allP_nodup h.2, fun p hp q hq e => ?_⟩
    subst e
    have h1 := newP_in hp
    obtain ⟨⟨a, ha, h2⟩, b, hb, h3⟩ := allP_ids hq
    have n1 : a.id ≠ x.id := fun e => h.1 (e ▸ List.mem_map.2 ⟨a, ha, rfl⟩)
    have n2 : b.id ≠ x.id := fun e => h.1 (e ▸ List.mem_map.2 ⟨b, hb, rfl⟩)
    unfold freeP at h1
    simp only [Bool.not_eq_false', Bool.or_eq_true, beq_iff_eq] at h1
    omega
theorem accP_nodup {l : List Itm} (h : (l.map (·.id)).Nodup) (k : Nat) (hk : k ≤ l.length) : (accP l k).Nodup :=
  (accP_all l k hk).nodup_iff.2 (allP_nodup (by
    have : (l.take k).map (·.id) = (l.map (·.id)).take k := by rw [List.map_take]
    rw [this]; exact h.take))
/-- A pair that is met is new. -/
theorem acc_new {l : List Itm} (h : (l.map (·.id)).Nodup) (k j : Nat) (hk : k < l.length) (hj : j < (l.take k).length) (hit : hitI (l.take k)[j] l[k] = true) : pairI (l.take k)[j] l[k] ∉ accP l k ++ newP ((l.take k).take j) l[k] := by
  have h1 := accP_nodup h (k + 1) hk
  rw [accP_succ l k hk] at h1
  have e : newP (l.take k) l[k] = newP ((l.take k).take (j + 1)) l[k] ++ newP ((l.take k).drop (j + 1)) l[k] := by rw [← newP_app, List.take_append_drop]
  have e2 : newP ((l.take k).take (j + 1)) l[k] = newP ((l.take k).take j) l[k] ++ [pairI (l.take k)[j] l[k]] := by
    rw [newP_snoc _ _ j hj, hit]; rfl
  rw [e, e2] at h1
  rw [← List.append_assoc, ← List.append_assoc] at h1
  rw [List.nodup_append] at h1
  have h2 := h1.1
  rw [List.nodup_append] at h2
  exact fun hm => h2.2.2 _ hm _ (by simp) rfl
theorem pairsS_lt {l : List Itm} (h : (l.map (·.id)).Nodup) {i : Nat} (hi : i + 1 < (pairsS l).length) : (pairsS l)[i].1 < (pairsS l)[i + 1].1 ∨ ((pairsS l)[i].1 = (pairsS l)[i + 1].1 ∧ (pairsS l)[i].2 < (pairsS l)[i + 1].2) := by
  have hs : (pairsS l).Pairwise fun a b => leP a b = true := List.pairwise_mergeSort leP_trans leP_total _
  have hn : (pairsS l).Nodup := (List.mergeSort_perm _ _).nodup_iff.2 (allP_nodup h)
  have h1 := List.pairwise_iff_getElem.1 hs i (i + 1) (by omega) hi (by omega)
  have h2 := List.pairwise_iff_getElem.1 hn i (i + 1) (by omega) hi (by omega)
  unfold leP at h1
  simp only [decide_eq_true_eq] at h1
  have h3 : (pairsS l)[i].1 ≠ (pairsS l)[i + 1].1 ∨ (pairsS l)[i].2 ≠ (pairsS l)[i + 1].2 := by
    by_cases e1 : (pairsS l)[i].1 = (pairsS l)[i + 1].1
    · by_cases e2 : (pairsS l)[i].2 = (pairsS l)[i + 1].2
      · exact absurd (Prod.ext e1 e2) h2
      · exact .inr e2
    · exact .inl e1
  omega
end Go.Proofs.Ytnlkeacchogmeaa
