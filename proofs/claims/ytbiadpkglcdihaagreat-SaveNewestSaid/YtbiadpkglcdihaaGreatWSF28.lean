/- Words and walks that SF rests on: MapT. -/
import Derived.Test.YtbiadpkglcdihaaGreatWSF22
/- A map[int]int of a call's own that says 1 at some numbers. -/
namespace Go.Proofs.YtbiadpkglcdihaaGreat
open Go.RowKit

structure ReadsT (D : DataW Unit) (T : List Nat) : Prop where
  nodup : T.Nodup
  at_ : ∀ (k : Nat) z, D.atKey (.int .i64 (k : Int)) z = if k ∈ T then .lit (.int .i64 1) else z
  has : ∀ k : Nat, Maps.has D (.int .i64 (k : Int)) = decide (k ∈ T)
  size : Maps.size D = T.length
  tidy : Maps.Tidy D
theorem ReadsT.empty : ReadsT (.map []) [] := ⟨by simp, fun _ _ => rfl, fun _ => rfl, rfl, Maps.tidy_empty⟩
theorem nat_ne {a b : Nat} (h : a ≠ b) : (Lit.int .i64 (a : Int)) ≠ Lit.int .i64 (b : Int) := fun e => h (by injection e; omega)
theorem keyNat (k : Nat) (h : k ≤ 4611686018427387904) : WideAt.IsKeyLit (Lit.int .i64 (k : Int)) := intKeyed.key (keyInt (wfNat h))
theorem ReadsT.put {D : DataW Unit} {T : List Nat} (h : ReadsT D T) (k : Nat) (hk : k ≤ 4611686018427387904) (hn : k ∉ T) : ReadsT (D.put (.int .i64 (k : Int)) (.lit (.int .i64 1))) (T ++ [k]) := by
  have hl := keyNat k hk
  refine ⟨?_, fun j z => ?_, fun j => ?_, ?_, h.tidy.put hl _⟩
  · rw [List.nodup_append]; exact ⟨h.nodup, by simp, fun a ha b hb => by simp at hb; subst hb; exact fun e => hn (e ▸ ha)⟩
  · by_cases hj : j = k
    · subst hj; rw [Maps.atKey_put_same h.tidy.isMap hl]; simp
    · rw [Maps.atKey_put_other (nat_ne hj), h.at_]; simp [hj]
  · by_cases hj : j = k
    · subst hj; rw [Maps.has_put_same h.tidy.isMap hl]; simp
    · rw [Maps.has_put_other (nat_ne hj), h.has]; simp [hj]
  · rw [Maps.size_put h.tidy, h.has, h.size, decide_eq_false hn]; simp
theorem ReadsT.del {D : DataW Unit} {T : List Nat} (h : ReadsT D T) (k : Nat) : ReadsT (D.del (.int .i64 (k : Int))) (T.filter (· ≠ k)) := by
  refine ⟨h.nodup.filter _, fun j z => ?_, fun j => ?_, ?_, h.tidy.del _⟩
  · by_cases hj : j = k
    · subst hj; rw [Maps.atKey_del_same]; simp
    · rw [Maps.atKey_del_other (nat_ne hj), h.at_]; simp [hj]
  · by_cases hj : j = k
    · subst hj; rw [Maps.has_del_same]; simp
    · rw [Maps.has_del_other (nat_ne hj), h.has]; simp [hj]
  · have h1 := Maps.size_del (k := .int .i64 (k : Int)) h.tidy
    rw [h.has, h.size] at h1
    have h2 : (T.filter (· ≠ k)).length + (if k ∈ T then 1 else 0) = T.length := by
      have hn := h.nodup
      clear h1 h
      induction T with
      | nil => simp
      | cons a T ih =>
        rw [List.nodup_cons] at hn
        have ih := ih hn.2
        by_cases ha : a = k
        · subst ha
          rw [if_neg hn.1] at ih
          simp at ih ⊢
          omega
        · have e : (a :: T).filter (· ≠ k) = a :: T.filter (· ≠ k) := by rw [List.filter_cons_of_pos (by simpa using ha)]
          have e2 : (k ∈ a :: T) ↔ k ∈ T := by simp; exact fun e => absurd e.symm ha
          rw [e]
          simp only [e2, List.length_cons]
          omega
    by_cases hk : k ∈ T
    · simp only [hk, decide_true, if_true] at h1 h2
      omega
    · rw [decide_eq_false hk, if_neg (by decide)] at h1
      rw [if_neg hk] at h2
      omega
/-- Block b is such a map. -/
def MapT (w : World) (b : Nat) (T : List Nat) : Prop := ∃ (D : DataW Unit), w.ownsMap Tryz.prog 3 (plainElem Tryz.prog 3) b T.length D ∧ ReadsT D T
theorem MapT.of {w : World} {b n : Nat} {T : List Nat} {D : DataW Unit} (h : w.ownsMap Tryz.prog 3 (plainElem Tryz.prog 3) b n D) (hr : ReadsT D T) : MapT w b T := by
  refine ⟨D, ?_, hr⟩
  have hsz := hr.size
  obtain ⟨xs, clock, hb, F, hs, hD⟩ := h
  refine ⟨xs, clock, hb, F, ?_, hD⟩
  rw [hD, Maps.size_eq, length_read] at hsz
  omega
theorem MapT.nodup {w : World} {b : Nat} {T : List Nat} (h : MapT w b T) : T.Nodup := let ⟨_, _, hr⟩ := h; hr.nodup
theorem MapT.lt {w : World} {b : Nat} {T : List Nat} (h : MapT w b T) : b < w.heap.size := let ⟨_, h1, _⟩ := h; h1.lt
theorem MapT.block {w w' : World} {b : Nat} {T : List Nat} (h : MapT w b T) (hc : w'.heap[b]? = w.heap[b]?) : MapT w' b T := by
  obtain ⟨D, ⟨xs, clock, hb, r⟩, hr⟩ := h
  exact ⟨D, ⟨xs, clock, hc.trans hb, r⟩, hr⟩
theorem MapT.chg {S : List Nat} {w w' : World} {b : Nat} {T : List Nat} (h : MapT w b T) (hc : Chg S w w') (hn : b ∉ S) : MapT w' b T := h.block (hc.block b h.lt hn)
theorem MapT.k {w w' : World} {b : Nat} {T : List Nat} (h : MapT w b T) (hc : Chg [] w w') : MapT w' b T := h.chg hc (by simp)
theorem MapT.new (w : World) : MapT (w.alloc (.map #[] 0)) w.heap.size [] := ⟨.map [], World.ownsMap_made w _ _ _, ReadsT.empty⟩
theorem MapT.look {w : World} {b : Nat} {T : List Nat} (h : MapT w b T) (k : Nat) (hk : k ≤ 4611686018427387904) :
    (Instr.lookup 62 (.map (some b)) (.int .i64 (k : Int)) false).run Tryz.prog w = .ok (.int .i64 (if k ∈ T then 1 else 0)) w := by
  obtain ⟨D, hown, hr⟩ := h
  obtain ⟨c, hrun, hc, -⟩ := hown.lookup_int intKeyed undMapII undInt (zeroInt w) (keyInt (wfNat hk))
  rw [hr.at_] at hc
  rw [hrun]
  by_cases h : k ∈ T
  · rw [if_pos h] at hc ⊢; simp at hc; rw [← hc]
  · rw [if_neg h] at hc ⊢; simp at hc; rw [← hc]
theorem MapT.len {w : World} {b : Nat} {T : List Nat} (h : MapT w b T) (ty : TypeId) : (Builtin.len_ #[62] ty #[.map (some b)]).run Tryz.prog w = .ok (.int .i64 (T.length : Int)) w := by
  obtain ⟨D, hown, hr⟩ := h
  rw [hown.len undMapII ty, hr.size]
end Go.Proofs.YtbiadpkglcdihaaGreat
