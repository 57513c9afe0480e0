/- Records one behind the other, and what is read of them. -/
import Derived.Test.YtdmokfplkhmijaaFrameAll
namespace Go.Proofs.Ytdmokfplkhmijaa
open Go.RowKit

def catF (rl : List (Int × List UInt8)) : List UInt8 := rl.flatMap fun r => frameB r.1 r.2
def FineR (rl : List (Int × List UInt8)) : Prop := ∀ r ∈ rl, 0 ≤ r.1 ∧ r.1 ≤ 9223372036854775807 ∧ r.2.length ≤ 200000
theorem catF_length (rl : List (Int × List UInt8)) : (catF rl).length = recLen rl := by
  induction rl with
  | nil => rfl
  | cons r rl ih =>
    have : catF (r :: rl) = frameB r.1 r.2 ++ catF rl := rfl
    rw [this, List.length_append, ih, frameB_length]; rfl
theorem catF_app (a b : List (Int × List UInt8)) : catF (a ++ b) = catF a ++ catF b := by simp [catF]
theorem nextB_nil (most : Int) : nextB [] most = none := by unfold nextB; rw [if_pos (by simp)]
theorem nextB_few (l : List UInt8) (most : Int) (h : l.length < 16) : nextB l most = none := by unfold nextB; rw [if_pos h]
theorem scan_cat (most : Int) (t : List UInt8) (ht : nextB t most = none) : ∀ (rl : List (Int × List UInt8)), FineR rl → (∀ r ∈ rl, (r.2.length : Int) ≤ most) → ∀ f, rl.length < f → scanF most f (catF rl ++ t) = rl := by
  intro rl
  induction rl with
  | nil =>
    intro _ _ f hf
    obtain ⟨f', rfl⟩ : ∃ f', f = f' + 1 := ⟨f - 1, by simp at hf; omega⟩
    simp only [scanF]
    rw [show catF [] ++ t = t from rfl, ht]
  | cons r rl ih =>
    intro h1 h2 f hf
    obtain ⟨f', rfl⟩ : ∃ f', f = f' + 1 := ⟨f - 1, by simp at hf; omega⟩
    obtain ⟨a, b, c⟩ := h1 r (by simp)
    have hy := nextB_yes r.1 r.2 (catF rl ++ t) most a b (by omega) (h2 r (by simp))
    have e : catF (r :: rl) ++ t = frameB r.1 r.2 ++ (catF rl ++ t) := by
      rw [show catF (r :: rl) = frameB r.1 r.2 ++ catF rl from rfl, List.append_assoc]
    simp only [scanF]
    rw [e, hy]
    simp only
    rw [← frameB_length r.1 r.2, List.drop_left, ih (fun x hx => h1 x (by simp [hx])) (fun x hx => h2 x (by simp [hx])) f' (by simp at hf; omega)]
theorem scanB_cat (most : Int) (t : List UInt8) (ht : nextB t most = none) (rl : List (Int × List UInt8)) (h1 : FineR rl) (h2 : ∀ r ∈ rl, (r.2.length : Int) ≤ most) : scanB most (catF rl ++ t) = rl := by
  refine scan_cat most t ht rl h1 h2 _ ?_
  rw [List.length_append, catF_length]
  have := recLen_ge rl
  omega
theorem recLen_take_mono (rl : List (Int × List UInt8)) {i j : Nat} (h : i ≤ j) : recLen (rl.take i) ≤ recLen (rl.take j) := by
  have : rl.take i = (rl.take j).take i := by rw [List.take_take, Nat.min_eq_left h]
  rw [this]
  conv => rhs; rw [← List.take_append_drop i (rl.take j), recLen_app]
  omega
theorem recLen_take_le (rl : List (Int × List UInt8)) (i : Nat) : recLen (rl.take i) ≤ recLen rl := by
  conv => rhs; rw [← List.take_append_drop i rl, recLen_app]
  omega
/-- A cut row of records: whole ones, and a part that is none. -/
theorem cut_cat (most : Int) : ∀ (rl : List (Int × List UInt8)) (k : Nat), FineR rl → k ≤ recLen rl →
    ∃ m t, m ≤ rl.length ∧ recLen (rl.take m) ≤ k ∧ (m < rl.length → k < recLen (rl.take (m + 1))) ∧ (catF rl).take k = catF (rl.take m) ++ t ∧ nextB t most = none := by
  intro rl
  induction rl with
  | nil => intro k _ _; exact ⟨0, [], Nat.le_refl _, by simp [recLen], by simp, by simp [catF], nextB_nil _⟩
  | cons r rl ih =>
    intro k h1 hk
    obtain ⟨a, b, c⟩ := h1 r (by simp)
    have e : catF (r :: rl) = frameB r.1 r.2 ++ catF rl := rfl
    have hl := frameB_length r.1 r.2
    have hr : recLen (r :: rl) = r.2.length + 20 + recLen rl := by simp [recLen]
    by_cases hlt : k < r.2.length + 20
    · refine ⟨0, (frameB r.1 r.2).take k, by simp, by simp [recLen], fun _ => by simp [recLen]; omega, ?_, nextB_cut r.1 r.2 most k a b (by omega) hlt⟩
      rw [e, List.take_append_of_le_length (by omega)]; simp [catF]
    · obtain ⟨m, t, i1, i2, i3, i4, i5⟩ := ih (k - (r.2.length + 20)) (fun x hx => h1 x (by simp [hx])) (by omega)
      refine ⟨m + 1, t, by simpa using i1, ?_, fun h => ?_, ?_, i5⟩
      · simp only [List.take_succ_cons]
        have : recLen (r :: rl.take m) = r.2.length + 20 + recLen (rl.take m) := by simp [recLen]
        omega
      · have := i3 (by simpa using h)
        simp only [List.take_succ_cons]
        have e2 : recLen (r :: rl.take (m + 1)) = r.2.length + 20 + recLen (rl.take (m + 1)) := by simp [recLen]
        omega
      · rw [e, List.take_append, List.take_of_length_le (by omega), hl, i4, List.take_succ_cons]
        rw [show catF (r :: rl.take m) = frameB r.1 r.2 ++ catF (rl.take m) from rfl, List.append_assoc]

def numsR (ps : List (Int × List UInt8)) : List (Int × List UInt8) := ps.map fun x => (x.1 % 4611686018427387904, x.2)
theorem numsR_take (ps : List (Int × List UInt8)) (k : Nat) : (numsR ps).take k = numsR (ps.take k) := by simp [numsR, List.map_take]
theorem numsR_snoc (ps : List (Int × List UInt8)) (k : Nat) (h : k < ps.length) : (numsR ps).take (k + 1) = (numsR ps).take k ++ [(ps[k].1 % 4611686018427387904, ps[k].2)] := by
  rw [List.take_succ_eq_append_getElem (by simpa [numsR] using h)]; simp [numsR]
/-- Where the first k records end. -/
def endsR (rl : List (Int × List UInt8)) (k : Nat) : List Int := (List.range k).map fun i => ((recLen (rl.take (i + 1)) : Nat) : Int)
theorem endsR_length (rl : List (Int × List UInt8)) (k : Nat) : (endsR rl k).length = k := by simp [endsR]
theorem endsR_snoc (rl : List (Int × List UInt8)) (k : Nat) : endsR rl (k + 1) = endsR rl k ++ [((recLen (rl.take (k + 1)) : Nat) : Int)] := by simp [endsR, List.range_succ]
theorem flatten_get2 (css : List (List Value)) (i j : Nat) (hi : i < css.length) (hj : j < 2) (h : ∀ c ∈ css, c.length = 2) : css.flatten[i * 2 + j]? = css[i][j]? := by
  induction css generalizing i with
  | nil => simp at hi
  | cons c css ih =>
    have h0 : c.length = 2 := h c (by simp)
    cases i with
    | zero => simp only [List.flatten_cons, Nat.zero_mul, Nat.zero_add, List.getElem_cons_zero]; rw [List.getElem?_append_left (by omega)]
    | succ i =>
      simp only [List.flatten_cons, List.getElem_cons_succ]
      rw [List.getElem?_append_right (by omega), h0, show (i + 1) * 2 + j - 2 = i * 2 + j by omega]
      exact ih i (by simpa using hi) (fun x hx => h x (by simp [hx]))
/-- The cells of record i, and its payload. -/
theorem RecL.at {w : World} {base : Nat} {v : Value} {rs : List RecV} (h : RecL w base v rs) (hl : 0 < rs.length) : ∃ b cap, v = .slice (some ⟨b, 0, none⟩) rs.length cap ∧
    ∀ i (hi : i < rs.length), ∃ ao c, rs[i].2.1 = .slice ao rs[i].2.2.length c ∧ w.cell? ⟨b, i * 2, none⟩ = some (.int .i64 rs[i].1) ∧ w.cell? ⟨b, i * 2 + 1, none⟩ = some (.slice ao rs[i].2.2.length c) ∧ Bs w (.slice ao rs[i].2.2.length c) rs[i].2.2 := by
  rcases h.1.2 with ⟨rfl, h0⟩ | ⟨g, cap, cur, rfl, _⟩
  · omega
  refine ⟨g, cap, rfl, fun i hi => ?_⟩
  obtain ⟨hb, ao, n, c, hv⟩ := h.2 rs[i] (List.getElem_mem hi)
  have hn : n = rs[i].2.2.length := by
    rw [hv] at hb
    rcases hb.2 with ⟨he, h0⟩ | ⟨_, _, _, he, _⟩
    · injection he with _ hl _; rw [hl, h0]
    · injection he
  subst hn
  have hget : ∀ j, j < 2 → (rs.flatMap recCells)[i * 2 + j]? = (recCells rs[i])[j]? := by
    intro j hj
    have := flatten_get2 (rs.map recCells) i j (by simpa using hi) hj (by intro c hc; obtain ⟨r, -, rfl⟩ := List.mem_map.1 hc; rfl)
    rw [List.flatMap_def]; simpa using this
  have hc := World.ownsRow.cells h.1 (g := g) rfl
  have c0 := hc (i * 2) (.int .i64 rs[i].1) (by have := hget 0 (by decide); simpa [recCells] using this)
  have c1 := hc (i * 2 + 1) rs[i].2.1 (by have := hget 1 (by decide); simpa [recCells] using this)
  have e : ∀ k, (⟨g, 0, none⟩ : Addr).add k = ⟨g, k, none⟩ := by intro k; unfold Addr.add; split <;> simp_all
  rw [e] at c0 c1
  rw [hv] at c1
  refine ⟨ao, c, hv, c0, c1, ?_⟩
  have := hb.bs
  rwa [hv] at this
end Go.Proofs.Ytdmokfplkhmijaa
