/- A map from strings to ints as a list of names: what the map's datum says. -/
import Derived.Test.YtdmokfplkhmijaaKitB
import Derived.Maps.OwnSet
import Derived.Maps.Views
import Derived.Maps.RangeWalk
import Derived.StringKeys
namespace Go.Proofs.Ytdmokfplkhmijaa
open Go.RowKit

abbrev Nm := List (List UInt8 × Nat)
def nget (es : Nm) (s : List UInt8) : Option Nat := (es.find? fun p => p.1 == s).map (·.2)
def ndel (es : Nm) (s : List UInt8) : Nm := es.filter fun p => !(p.1 == s)
def nput (es : Nm) (s : List UInt8) (i : Nat) : Nm := ndel es s ++ [(s, i)]

theorem nget_nil (s : List UInt8) : nget [] s = none := rfl
theorem find_ndel_other {es : Nm} {s k : List UInt8} (h : k ≠ s) : (ndel es s).find? (fun p => p.1 == k) = es.find? (fun p => p.1 == k) := by
  unfold ndel
  induction es with
  | nil => rfl
  | cons p es ih =>
    by_cases hp : p.1 = s
    · have hk : (p.1 == k) = false := by rw [hp]; simpa using fun e => h e.symm
      rw [List.filter_cons_of_neg (by simp [hp]), List.find?_cons_of_neg (by simp [hk]), ih]
    · rw [List.filter_cons_of_pos (by simp [hp])]
      by_cases hk : p.1 = k
      · rw [List.find?_cons_of_pos (by simp [hk]), List.find?_cons_of_pos (by simp [hk])]
      · rw [List.find?_cons_of_neg (by simp [hk]), List.find?_cons_of_neg (by simp [hk]), ih]
theorem nget_del_same (es : Nm) (s : List UInt8) : nget (ndel es s) s = none := by
  unfold nget ndel
  rw [List.find?_eq_none.2 (fun p hp => by simpa using (List.mem_filter.1 hp).2)]; rfl
theorem nget_del_other {es : Nm} {s k : List UInt8} (h : k ≠ s) : nget (ndel es s) k = nget es k := by
  unfold nget; rw [find_ndel_other h]
theorem nget_put_same (es : Nm) (s : List UInt8) (i : Nat) : nget (nput es s i) s = some i := by
  have h := nget_del_same es s
  unfold nget at h ⊢
  unfold nput
  rw [List.find?_append]
  simp only [Option.map_eq_none_iff] at h
  rw [h]; simp
theorem nget_put_other {es : Nm} {s k : List UInt8} (h : k ≠ s) (i : Nat) : nget (nput es s i) k = nget es k := by
  rw [← nget_del_other (es := es) h]
  unfold nget nput
  rw [List.find?_append]
  have : [(s, i)].find? (fun p => p.1 == k) = none := by simp; exact fun e => h e.symm
  rw [this]; simp
theorem ndel_keys (es : Nm) (s : List UInt8) : ((ndel es s).map (·.1)) = (es.map (·.1)).filter fun k => !(k == s) := by
  unfold ndel; rw [List.filter_map]; rfl
theorem nodup_del {es : Nm} (h : (es.map (·.1)).Nodup) (s : List UInt8) : ((ndel es s).map (·.1)).Nodup := by rw [ndel_keys]; exact h.filter _
theorem nodup_put {es : Nm} (h : (es.map (·.1)).Nodup) (s : List UInt8) (i : Nat) : ((nput es s i).map (·.1)).Nodup := by
  unfold nput
  rw [List.map_append, List.nodup_append]
  refine ⟨nodup_del h s, by simp, ?_⟩
  intro a ha b hb
  rw [ndel_keys] at ha
  have h1 := (List.mem_filter.1 ha).2
  simp at hb h1
  rw [hb]; exact h1
theorem nget_some_mem {es : Nm} {s : List UInt8} {i : Nat} (h : nget es s = some i) : (s, i) ∈ es := by
  unfold nget at h
  obtain ⟨p, hp, rfl⟩ := Option.map_eq_some_iff.1 h
  have h1 := List.mem_of_find?_eq_some hp
  have h2 := List.find?_some hp
  simp at h2
  rw [← h2]; exact h1
theorem mem_nget {es : Nm} (hn : (es.map (·.1)).Nodup) {s : List UInt8} {i : Nat} (h : (s, i) ∈ es) : nget es s = some i := by
  induction es with
  | nil => cases h
  | cons p es ih =>
    unfold nget
    rw [List.map_cons, List.nodup_cons] at hn
    rcases List.mem_cons.1 h with rfl | h'
    · rw [List.find?_cons_of_pos (by simp)]; rfl
    · have hne : p.1 ≠ s := fun e => hn.1 (e ▸ List.mem_map.2 ⟨(s, i), h', rfl⟩)
      rw [List.find?_cons_of_neg (by simpa using hne)]
      exact ih hn.2 h'
theorem length_ndel {es : Nm} (hn : (es.map (·.1)).Nodup) (s : List UInt8) : (ndel es s).length + (if (nget es s).isSome then 1 else 0) = es.length := by
  induction es with
  | nil => simp [ndel, nget]
  | cons p es ih =>
    rw [List.map_cons, List.nodup_cons] at hn
    have ih := ih hn.2
    by_cases hp : p.1 = s
    · have hno : nget es s = none := by
        rcases h : nget es s with _ | i
        · rfl
        · exact absurd (List.mem_map.2 ⟨(s, i), nget_some_mem h, rfl⟩) (hp ▸ hn.1)
      have h1 : ndel (p :: es) s = ndel es s := by unfold ndel; rw [List.filter_cons_of_neg (by simp [hp])]
      have h2 : nget (p :: es) s = some p.2 := by unfold nget; rw [List.find?_cons_of_pos (by simp [hp])]; rfl
      rw [h1, h2]
      rw [hno] at ih
      simp at ih ⊢
      exact ih
    · have h1 : ndel (p :: es) s = p :: ndel es s := by unfold ndel; rw [List.filter_cons_of_pos (by simp [hp])]
      have h2 : nget (p :: es) s = nget es s := by unfold nget; rw [List.find?_cons_of_neg (by simpa using hp)]
      rw [h1, h2]
      simp only [List.length_cons]
      omega

/-- What the map's datum says, in these words. -/
structure ReadsN (D : DataW Unit) (es : Nm) : Prop where
  nodup : (es.map (·.1)).Nodup
  at_ : ∀ k z, D.atKey (.string k) z = ((nget es k).map fun i => DataW.lit (.int .i64 (i : Int))).getD z
  has : ∀ k, Maps.has D (.string k) = (nget es k).isSome
  size : Maps.size D = es.length
  tidy : Maps.Tidy D
  wf : ∀ p ∈ es, p.2 ≤ 4611686018427387904
theorem ReadsN.empty : ReadsN (.map []) [] := ⟨by simp, fun _ _ => rfl, fun _ => rfl, rfl, Maps.tidy_empty, by simp⟩
theorem str_ne {a b : List UInt8} (h : a ≠ b) : (Lit.string a) ≠ Lit.string b := fun e => h (by injection e)
theorem ReadsN.put {D : DataW Unit} {es : Nm} (h : ReadsN D es) (s : List UInt8) (i : Nat) (hi : i ≤ 4611686018427387904) : ReadsN (D.put (.string s) (.lit (.int .i64 (i : Int)))) (nput es s i) := by
  have hk : WideAt.IsKeyLit (.string s) := trivial
  refine ⟨nodup_put h.nodup s i, fun k z => ?_, fun k => ?_, ?_, h.tidy.put hk _, ?_⟩
  · by_cases hks : k = s
    · subst hks; rw [Maps.atKey_put_same h.tidy.isMap hk, nget_put_same]; rfl
    · rw [Maps.atKey_put_other (str_ne hks), nget_put_other hks, h.at_]
  · by_cases hks : k = s
    · subst hks; rw [Maps.has_put_same h.tidy.isMap hk, nget_put_same]; rfl
    · rw [Maps.has_put_other (str_ne hks), nget_put_other hks, h.has]
  · rw [Maps.size_put h.tidy, h.has, h.size]
    have := length_ndel h.nodup s
    unfold nput
    rw [List.length_append]
    cases hs : (nget es s).isSome <;> rw [hs] at this <;> simp at this ⊢ <;> omega
  · intro p hp
    unfold nput at hp
    rcases List.mem_append.1 hp with hp | hp
    · exact h.wf p (List.mem_filter.1 hp).1
    · obtain rfl : p = (s, i) := by simpa using hp
      exact hi
theorem ReadsN.del {D : DataW Unit} {es : Nm} (h : ReadsN D es) (s : List UInt8) : ReadsN (D.del (.string s)) (ndel es s) := by
  refine ⟨nodup_del h.nodup s, fun k z => ?_, fun k => ?_, ?_, h.tidy.del _, fun p hp => h.wf p (List.mem_filter.1 hp).1⟩
  · by_cases hks : k = s
    · subst hks; rw [Maps.atKey_del_same, nget_del_same]; rfl
    · rw [Maps.atKey_del_other (str_ne hks), nget_del_other hks, h.at_]
  · by_cases hks : k = s
    · subst hks; rw [Maps.has_del_same, nget_del_same]; rfl
    · rw [Maps.has_del_other (str_ne hks), nget_del_other hks, h.has]
  · have h1 := Maps.size_del (k := .string s) h.tidy
    rw [h.has, h.size] at h1
    have := length_ndel h.nodup s
    omega
end Go.Proofs.Ytdmokfplkhmijaa

/- The disk as plain data. -/
namespace Go.Proofs.Ytdmokfplkhmijaa
open Go.RowKit

structure Dsk where
  room : Int
  files : List (List UInt8 × Nat)
  names : Nm
  sure : Nm
  changes : List (List UInt8 × List UInt8 × Nat)
  ops : Int
  down : Int
  fail : Int
  off : Bool

def newD (room : Int) : Dsk := ⟨max room 0, [], [], [], [], 0, -1, -1, false⟩
/-- An operation begins: the disk behind it, and its error. -/
def opD (d : Dsk) : Dsk := { d with ops := d.ops + 1, off := d.off || decide (0 ≤ d.down ∧ d.down ≤ d.ops) }
def opE (d : Dsk) : Int := if d.off ∨ (0 ≤ d.down ∧ d.down ≤ d.ops) then 8 else if 0 ≤ d.fail ∧ d.ops = d.fail then 7 else 0
def turnD (es : Nm) (c : List UInt8 × List UInt8 × Nat) : Nm :=
  let es := if c.1 = [] then es else ndel es c.1
  if c.2.1 = [] then es else nput es c.2.1 c.2.2
def changeD (d : Dsk) (c : List UInt8 × List UInt8 × Nat) : Dsk := { d with names := turnD d.names c, changes := d.changes ++ [c] }
def signD (c : UInt8) : Bool := (97 ≤ c.toNat && c.toNat ≤ 122) || (48 ≤ c.toNat && c.toNat ≤ 57) || c.toNat = 45
def nameD (s : List UInt8) : Bool := s.all signD && (s ≠ [] && s.length ≤ 24)
def sizeD (d : Dsk) : Nat := (d.names.map fun p => (d.files.getD p.2 ([], 0)).1.length).sum

def createE (d : Dsk) (s : List UInt8) : Int :=
  if opE d ≠ 0 then opE d else if ¬ nameD s then 2 else if (nget d.names s).isSome then 5 else if 64 ≤ d.names.length then 3 else 0
def createD (d : Dsk) (s : List UInt8) : Dsk :=
  if createE d s ≠ 0 then opD d else changeD { opD d with files := d.files ++ [([], 0)] } ([], s, d.files.length)
def appendE (d : Dsk) (s : List UInt8) (b : List UInt8) : Int :=
  if opE d ≠ 0 then opE d else if (nget d.names s).isNone then 4 else if d.room < (sizeD d : Int) + b.length then 6 else 0
def setF (d : Dsk) (i : Nat) (f : List UInt8 × Nat) : Dsk := { d with files := d.files.set i f }
def appendD (d : Dsk) (s : List UInt8) (b : List UInt8) : Dsk :=
  if appendE d s b ≠ 0 then opD d else
  match nget d.names s with
  | none => opD d
  | some i => setF (opD d) i ((d.files.getD i ([], 0)).1 ++ b, (d.files.getD i ([], 0)).2)
def syncE (d : Dsk) (s : List UInt8) : Int := if opE d ≠ 0 then opE d else if (nget d.names s).isNone then 4 else 0
def syncD (d : Dsk) (s : List UInt8) : Dsk :=
  if syncE d s ≠ 0 then opD d else
  match nget d.names s with
  | none => opD d
  | some i => setF (opD d) i ((d.files.getD i ([], 0)).1, (d.files.getD i ([], 0)).1.length)
def dirSyncD (d : Dsk) : Dsk := if opE d ≠ 0 then opD d else { opD d with sure := d.names, changes := [] }
def bytesD (d : Dsk) (s : List UInt8) : List UInt8 := match nget d.names s with | none => [] | some i => (d.files.getD i ([], 0)).1

/-- A disk as it may be. -/
structure GoodD (d : Dsk) : Prop where
  room : 0 ≤ d.room ∧ d.room ≤ 9223372036854775807
  named : ∀ p ∈ d.names, p.2 < d.files.length
  sured : ∀ p ∈ d.sure, p.2 < d.files.length
  turned : ∀ c ∈ d.changes, c.2.1 ≠ [] → c.2.2 < d.files.length
  idx : ∀ c ∈ d.changes, c.2.2 ≤ d.files.length
  files : ∀ f ∈ d.files, f.2 ≤ f.1.length ∧ (f.1.length : Int) ≤ d.room ∧ f.1.length ≤ 4294967296
  ops : 0 ≤ d.ops ∧ d.ops ≤ 1073741824
  nfiles : (d.files.length : Int) ≤ d.ops
  nnames : (d.names.length : Int) ≤ d.ops
  nchanges : (d.sure.length + d.changes.length : Int) ≤ d.ops
  clens : ∀ c ∈ d.changes, c.1.length ≤ 140737488355328 ∧ c.2.1.length ≤ 140737488355328

theorem GoodD.scal {d d' : Dsk} (h : GoodD d) (e1 : d'.room = d.room) (e2 : d'.files = d.files) (e3 : d'.names = d.names) (e4 : d'.sure = d.sure) (e5 : d'.changes = d.changes) (h1 : d.ops ≤ d'.ops) (h2 : d'.ops ≤ 1073741824) : GoodD d' := by
  have ⟨a0, a1, a2, a3, a4, a5, a6, a7, a8, a9, a10⟩ := h
  refine ⟨?_, ?_, ?_, ?_, ?_, ?_, ⟨?_, h2⟩, ?_, ?_, ?_, ?_⟩ <;> (try simp only [e1, e2, e3, e4, e5]) <;> first | assumption | omega
theorem GoodD.op {d : Dsk} (h : GoodD d) (ho : d.ops < 1073741824) : GoodD (opD d) := h.scal rfl rfl rfl rfl rfl (by simp only [opD]; omega) (by simp only [opD]; omega)
theorem length_nput {es : Nm} (hn : (es.map (·.1)).Nodup) (s : List UInt8) (i : Nat) : (nput es s i).length ≤ es.length + 1 := by
  have := length_ndel hn s
  unfold nput
  rw [List.length_append]
  simp only [List.length_cons, List.length_nil]
  split at this <;> omega
theorem mem_turnD {es : Nm} {c : List UInt8 × List UInt8 × Nat} {p : List UInt8 × Nat} (h : p ∈ turnD es c) : p ∈ es ∨ (c.2.1 ≠ [] ∧ p = (c.2.1, c.2.2)) := by
  unfold turnD at h
  simp only at h
  have hd : ∀ {es : Nm} {s : List UInt8}, p ∈ ndel es s → p ∈ es := fun hp => (List.mem_filter.1 hp).1
  by_cases hc : c.2.1 = []
  · rw [if_pos hc] at h
    split at h
    · exact .inl h
    · exact .inl (hd h)
  · rw [if_neg hc] at h
    unfold nput at h
    rcases List.mem_append.1 h with h | h
    · left
      split at h
      · exact hd h
      · exact hd (hd h)
    · right
      exact ⟨hc, by simpa using h⟩
theorem nodup_turn {es : Nm} (hn : (es.map (·.1)).Nodup) (c : List UInt8 × List UInt8 × Nat) : ((turnD es c).map (·.1)).Nodup := by
  unfold turnD
  have h1 : ((if c.1 = [] then es else ndel es c.1).map (·.1)).Nodup := by split; exact hn; exact nodup_del hn _
  simp only
  split
  · exact h1
  · exact nodup_put h1 _ _
theorem length_turn {es : Nm} (hn : (es.map (·.1)).Nodup) (c : List UInt8 × List UInt8 × Nat) : (turnD es c).length ≤ es.length + 1 := by
  unfold turnD
  have h1 : (if c.1 = [] then es else ndel es c.1).length ≤ es.length := by split; exact Nat.le_refl _; exact List.length_filter_le _ _
  have h2 : ((if c.1 = [] then es else ndel es c.1).map (·.1)).Nodup := by split; exact hn; exact nodup_del hn _
  simp only
  split
  · omega
  · have := length_nput h2 c.2.1 c.2.2; omega
end Go.Proofs.Ytdmokfplkhmijaa

/- A map from strings to ints in memory, and its operations in these words. -/
namespace Go.Proofs.Ytdmokfplkhmijaa
open Go.RowKit

theorem strKeyed : Maps.Keyed Try.prog 9 := Maps.string_keyed undString
theorem undMapN : Try.prog.underlying 81 = some (.map 9 3) := by kernel_rfl
theorem undInt : Try.prog.underlying 3 = some (.int .i64) := by kernel_rfl
theorem zeroInt (w : World) : (zeroValue 3).run Try.prog w = .ok (.int .i64 0) w := by kernel_rfl
def MapAt (w : World) (b : Nat) (es : Nm) : Prop := ∃ D : DataW Unit, w.ownsMap Try.prog 9 (plainElem Try.prog 3) b es.length D ∧ ReadsN D es
theorem MapAt.of {w : World} {b n : Nat} {es : Nm} {D : DataW Unit} (h : w.ownsMap Try.prog 9 (plainElem Try.prog 3) b n D) (hr : ReadsN D es) : MapAt w b es := by
  refine ⟨D, ?_, hr⟩
  have hsz := hr.size
  obtain ⟨xs, clock, hb, F, hs, hD⟩ := h
  refine ⟨xs, clock, hb, F, ?_, hD⟩
  rw [hD, Maps.size_eq, length_read] at hsz
  omega
theorem MapAt.lt {w : World} {b : Nat} {es : Nm} (h : MapAt w b es) : b < w.heap.size := let ⟨_, h1, _⟩ := h; h1.lt
theorem MapAt.block {w w' : World} {b : Nat} {es : Nm} (h : MapAt w b es) (hc : w'.heap[b]? = w.heap[b]?) : MapAt w' b es := by
  obtain ⟨D, ⟨xs, clock, hb, r⟩, hr⟩ := h
  exact ⟨D, ⟨xs, clock, hc.trans hb, r⟩, hr⟩
theorem MapAt.chg {S : List Nat} {w w' : World} {b : Nat} {es : Nm} (h : MapAt w b es) (hc : Chg S w w') (hn : b ∉ S) : MapAt w' b es := h.block (hc.block b h.lt hn)
theorem MapAt.k {w w' : World} {b : Nat} {es : Nm} (h : MapAt w b es) (hc : Chg [] w w') : MapAt w' b es := h.chg hc (by simp)
theorem MapAt.set {w : World} {b : Nat} {es : Nm} (h : MapAt w b es) (p : Addr) (u : Value) (hp : b ≠ p.block) : MapAt (w.setCell p u) b es := by
  obtain ⟨D, h1, hr⟩ := h
  exact ⟨D, h1.setCell hp u, hr⟩
theorem MapAt.alloc {w : World} {b : Nat} {es : Nm} (h : MapAt w b es) (o : Obj) : MapAt (w.alloc o) b es := h.k ((Chg.refl _ _).alloc o)
theorem MapAt.grown {w w' : World} {row : Option Nat} {b : Nat} {es : Nm} (h : MapAt w b es) (hg : w.grownBy w' row) (hn : some b ≠ row) : MapAt w' b es := h.block (hg.block b h.lt hn)
theorem MapAt.new (w : World) : MapAt (w.alloc (.map #[] 0)) w.heap.size [] := ⟨.map [], World.ownsMap_made w _ _ _, ReadsN.empty⟩
theorem strB_list (s : List UInt8) : (strB s).data.toList = s := by simp [strB]
theorem keyStr (s : List UInt8) (hs : s.length ≤ 140737488355328) : keyOf Try.prog 9 (.string (strB s)) = some (.string s) := by
  have := WideMaps.keyOf_string_mk (P := Try.prog) (k := 9) undString (s := strB s) (by rw [strB_size]; unfold maxLen; omega)
  rwa [strB_list] at this
theorem wfNat {i : Nat} (h : i ≤ 4611686018427387904) : (Lit.int .i64 (i : Int)).wf = true := by
  simp [Lit.wf, IntKind.min, IntKind.max, IntKind.signed, IntKind.bits]; omega

theorem wpLook {w : World} {ops : Array Oper} {rest : List Oper} {o : Oper} {a : Act} {Q : Exit → Act → World → Prop} (hg : o.guard = none) (m x : Operand) (hop : o.op = Op.lookup 81 m x true)
    (b : Nat) (es : Nm) (s : List UInt8) (hm : a.eval m = .map (some b)) (hx : a.eval x = .string (strB s)) (h : MapAt w b es) (hs : s.length ≤ 140737488355328)
    (hK : wpList Try.prog ops Q rest (a.put o.dst (.tuple #[.int .i64 (((nget es s).getD 0 : Nat) : Int), .bool (nget es s).isSome])) w) : wpList Try.prog ops Q (o :: rest) a w := by
  obtain ⟨D, hown, hr⟩ := h
  refine wpList_lookup_own_ok_int w hg m x _ hop 9 3 .i64 strKeyed undMapN undInt (zeroInt w) b _ D hm hown _ _ hx (keyStr s hs) fun c hc _ => ?_
  rw [hr.at_] at hc
  have hcc : c = (((nget es s).getD 0 : Nat) : Int) := by
    rcases hn : nget es s with _ | i
    · rw [hn] at hc; simp at hc; simp [← hc]
    · rw [hn] at hc; simp at hc; simp [← hc]
  rw [hcc, hr.has]
  exact hK
theorem wpLenM {w : World} {ops : Array Oper} {rest : List Oper} {o : Oper} {a : Act} {Q : Exit → Act → World → Prop} (hg : o.guard = none) (m : Operand) (hop : o.op = Op.call { callee := Callee.builtin Builtin.len, args := #[m], argTypes := #[81] })
    (b : Nat) (es : Nm) (hm : a.eval m = .map (some b)) (h : MapAt w b es) (hK : wpList Try.prog ops Q rest (a.put o.dst (.int .i64 (es.length : Int))) w) : wpList Try.prog ops Q (o :: rest) a w := by
  obtain ⟨D, hown, hr⟩ := h
  refine wpList_len_own w hg m _ hop 9 3 undMapN _ b _ D hm hown ?_
  rw [hr.size]
  exact hK
theorem wpPut {w : World} {ops : Array Oper} {rest : List Oper} {o : Oper} {a : Act} {Q : Exit → Act → World → Prop} (hg : o.guard = none) (m x v : Operand) (hop : o.op = Op.mapUpdate 81 m x v)
    (b : Nat) (es : Nm) (s : List UInt8) (i : Nat) (hm : a.eval m = .map (some b)) (hx : a.eval x = .string (strB s)) (hv : a.eval v = .int .i64 (i : Int)) (h : MapAt w b es) (hs : s.length ≤ 140737488355328) (hi : i ≤ 4611686018427387904) (hn : es.length ≤ 10000000000000)
    (hK : ∀ w', MapAt w' b (nput es s i) → w.grownBy w' (some b) → wpList Try.prog ops Q rest (a.put o.dst undef) w') : wpList Try.prog ops Q (o :: rest) a w := by
  obtain ⟨D, hown, hr⟩ := h
  refine wpList_mapUpdate_own w hg m x v _ hop 9 3 strKeyed undMapN _ b _ D hm hown (by unfold maxLen; omega) _ _ _ hx hv (keyStr s hs) (.lit (.int .i64 (i : Int))) [] (plainElem_int undInt (wfNat hi)) fun w' h1 h2 => ?_
  exact hK w' (MapAt.of h1 (hr.put s i hi)) h2
theorem wpDel {w : World} {ops : Array Oper} {rest : List Oper} {o : Oper} {a : Act} {Q : Exit → Act → World → Prop} (hg : o.guard = none) (m x : Operand) (hop : o.op = Op.call { callee := Callee.builtin Builtin.delete, args := #[m, x], argTypes := #[81, 9] })
    (b : Nat) (es : Nm) (s : List UInt8) (hm : a.eval m = .map (some b)) (hx : a.eval x = .string (strB s)) (h : MapAt w b es) (hs : s.length ≤ 140737488355328)
    (hK : ∀ w', MapAt w' b (ndel es s) → w.grownBy w' (some b) → wpList Try.prog ops Q rest (a.put o.dst (.tuple #[])) w') : wpList Try.prog ops Q (o :: rest) a w := by
  obtain ⟨D, hown, hr⟩ := h
  refine wpList_delete_own w hg m x _ _ hop 3 strKeyed undMapN _ b _ D hm hown _ _ hx (keyStr s hs) fun w' h1 h2 => ?_
  exact hK w' (MapAt.of h1 (hr.del s)) h2.grown
end Go.Proofs.Ytdmokfplkhmijaa

/- A range over such a map. -/
namespace Go.Proofs.Ytdmokfplkhmijaa
open Go.RowKit

/-- The range at r over the map at b, with 'rest' still to come. -/
def MapRange (w : World) (b r : Nat) (es rest : Nm) : Prop :=
  ∃ (D : DataW Unit) (left : Lit → Bool) (cnt : Nat), w.ranges Try.prog 9 (plainElem Try.prog 3) b r es.length D left cnt ∧ ReadsN D es ∧ (rest.map (·.1)).Nodup ∧ (∀ p ∈ rest, p ∈ es) ∧ ∀ k, left (.string k) = (nget rest k).isSome
theorem MapRange.map {w : World} {b r : Nat} {es rest : Nm} (h : MapRange w b r es rest) : MapAt w b es := by
  obtain ⟨D, left, cnt, h1, h2, _⟩ := h
  exact ⟨D, h1.owns, h2⟩
theorem MapRange.lt {w : World} {b r : Nat} {es rest : Nm} (h : MapRange w b r es rest) : r < w.heap.size := by
  obtain ⟨D, left, cnt, h1, h2, _⟩ := h
  exact h1.lt
theorem MapRange.sub {w : World} {b r : Nat} {es rest : Nm} (h : MapRange w b r es rest) : ∀ p ∈ rest, p ∈ es := let ⟨_, _, _, _, _, _, h, _⟩ := h; h
theorem MapRange.nodup {w : World} {b r : Nat} {es rest : Nm} (h : MapRange w b r es rest) : (rest.map (·.1)).Nodup := let ⟨_, _, _, _, _, h, _, _⟩ := h; h
theorem sameKey_str (a b : List UInt8) : (Lit.string a).sameKey (.string b) = (a == b) := by
  by_cases h : a = b
  · subst h
    have := Maps.has_put_same (H := Unit) (D := .map []) Maps.isMap_empty (k := .string a) trivial (.lit (.bool true))
    have h2 : Maps.has ((DataW.map ([] : List (Lit × DataW Unit))).put (.string a) (.lit (.bool true))) (.string a) = (Lit.string a).sameKey (.string a) := by
      show ([(Lit.string a, DataW.lit (.bool true))] : List (Lit × DataW Unit)).any (fun p => p.1.sameKey (.string a)) = _
      simp
    rw [← h2, this]; simp
  · rw [Maps.sameKey_ne (str_ne h)]; simp; exact h
theorem nget_ndel_some (es : Nm) (s k : List UInt8) : (nget (ndel es s) k).isSome = ((nget es k).isSome && !(k == s)) := by
  by_cases h : k = s
  · subst h; rw [nget_del_same]; simp
  · rw [nget_del_other h]; simp [h]
theorem strB_ofData (x : ByteArray) : strB x.data.toList = x := by simp [strB]

theorem wpRangeM {w : World} {ops : Array Oper} {rest : List Oper} {o : Oper} {a : Act} {Q : Exit → Act → World → Prop} (hg : o.guard = none) (m : Operand) (hop : o.op = Op.range 81 m)
    (b : Nat) (es : Nm) (hm : a.eval m = .map (some b)) (h : MapAt w b es)
    (hK : ∀ w', MapRange w' b w.heap.size es es → Chg [] w w' → wpList Try.prog ops Q rest (a.put o.dst (.pointer (some ⟨w.heap.size, 0, none⟩))) w') : wpList Try.prog ops Q (o :: rest) a w := by
  obtain ⟨D, hown, hr⟩ := h
  refine wpList_range_own w hg m _ hop 9 3 strKeyed undMapN _ b _ D hm hown fun w' h1 h2 _ => ?_
  exact hK w' ⟨D, _, _, h1, hr, hr.nodup, fun _ hp => hp, fun k => hr.has k⟩ ((Chg.refl [] w).grown h2 (by simp))
theorem wpNextM {w : World} {ops : Array Oper} {rest : List Oper} {o : Oper} {a : Act} {Q : Exit → Act → World → Prop} (hg : o.guard = none) (it : Operand) (hop : o.op = Op.next it false)
    (b r : Nat) (es left : Nm) (hit : a.eval it = .pointer (some ⟨r, 0, none⟩)) (h : MapRange w b r es left)
    (hDone : left = [] → wpList Try.prog ops Q rest (a.put o.dst (.tuple #[.bool false])) w)
    (hMore : ∀ (k : List UInt8) (i : Nat) (w' : World), (k, i) ∈ left → MapRange w' b r es (ndel left k) → Chg [r] w w' → w'.rangeLeft b r < w.rangeLeft b r →
      (Instr.entry (.pointer (some ⟨r, 0, none⟩))).run Try.prog w' = .ok (.tuple #[.string (strB k), .int .i64 (i : Int)]) w' → wpList Try.prog ops Q rest (a.put o.dst (.tuple #[.bool true, .string (strB k), .int .i64 (i : Int)])) w') :
    wpList Try.prog ops Q (o :: rest) a w := by
  obtain ⟨D, lf, cnt, hrg, hr, hnd, hsub, hleft⟩ := h
  refine wpList_next_ranges w hg it hop 9 strKeyed (plainElem Try.prog 3) (fun s : ByteArray => Value.string s) (fun c : Int => Value.int .i64 c)
    (fun key kl hk => by obtain ⟨s, rfl, _, _⟩ := WideMaps.string_of_keyOf undString hk; exact ⟨s, rfl⟩) (fun v y hv => by obtain ⟨c, rfl, _⟩ := plainElem_int_inv undInt hv; exact ⟨c, rfl⟩)
    b r _ D lf cnt hit hrg (fun _ hl => hDone ?_) (fun x c kl y w' cnt' hkey hlk hv hat hrg' hlt hgr hsz hen => ?_)
  · rcases left with _ | ⟨p, l⟩
    · rfl
    · exfalso
      have := hleft p.1
      rw [hl] at this
      have h2 : nget (p :: l) p.1 = some p.2 := by unfold nget; rw [List.find?_cons_of_pos (by simp)]; rfl
      rw [h2] at this
      simp at this
  · obtain ⟨s, es', rfl, hsl⟩ := WideMaps.string_of_keyOf undString hkey
    cases es'
    obtain ⟨c', ec, rfl, hwc⟩ := plainElem_int_inv undInt hv
    cases ec
    obtain ⟨k, hk⟩ : ∃ k, x = strB k := ⟨x.data.toList, (strB_ofData x).symm⟩
    subst hk
    rw [strB_list] at hlk hat hrg' 
    have hsome := hleft k
    rw [hlk] at hsome
    obtain ⟨i, hi⟩ := Option.isSome_iff_exists.1 hsome.symm
    have hmem := nget_some_mem hi
    have hes : nget es k = some i := mem_nget hr.nodup (hsub _ hmem)
    have hci : c = (i : Int) := by
      have := hat .nil
      rw [hr.at_, hes] at this
      simp at this
      exact this.symm
    subst hci
    refine hMore k i w' hmem ⟨D, _, cnt', hrg', hr, nodup_del hnd k, fun p hp => hsub p (List.mem_filter.1 hp).1, fun k' => ?_⟩ ((Chg.refl [r] w).grown hgr (by simp)) ?_ hen
    · rw [hleft, nget_ndel_some, sameKey_str]
    · rw [hrg'.left_eq, hrg.left_eq]; exact hlt
end Go.Proofs.Ytdmokfplkhmijaa
