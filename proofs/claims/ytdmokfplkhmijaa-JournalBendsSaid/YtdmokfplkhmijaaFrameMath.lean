/- frame.Next as a plain function: what it finds is what begins with a record's bytes. -/
import Derived.Test.YtdmokfplkhmijaaFrameN
namespace Go.Proofs.Ytdmokfplkhmijaa
open Go.RowKit

theorem leB_rdB (l : List UInt8) : leB l.length (rdB l) = l := by
  induction l with
  | nil => rfl
  | cons c l ih =>
    have h0 := n8_lo c
    have h1 := n8_hi c
    have e1 : UInt8.ofInt (n8 c + 256 * rdB l) = c := by apply n8_inj.1; rw [n8_ofInt]; omega
    have e2 : (n8 c + 256 * rdB l) / 256 = rdB l := by omega
    simp only [List.length_cons, rdB, leB, e1, e2, ih]
theorem leB_mod (n : Nat) (x y : Int) (h : x % 256 ^ n = y % 256 ^ n) : leB n x = leB n y := by
  have hx : rdB (leB n x) = rdB (leB n y) := by rw [rdB_leB, rdB_leB, h]
  have h1 := leB_rdB (leB n x)
  have h2 := leB_rdB (leB n y)
  rw [leB_length] at h1 h2
  rw [← h1, hx, h2]
theorem wrap_mod (n : Nat) (h : n ≤ 8) (x : Int) : wrap64 x % 256 ^ n = x % 256 ^ n := by
  have e : (256 : Int) ^ n = 2 ^ (8 * n) := by rw [Int.pow_mul]; rfl
  have hd : (256 : Int) ^ n ∣ 18446744073709551616 := by
    refine ⟨2 ^ (64 - 8 * n), ?_⟩
    rw [e, ← Int.pow_add, show 8 * n + (64 - 8 * n) = 64 by omega]; rfl
  rw [← Int.emod_emod_of_dvd (wrap64 x) hd, ← Int.emod_emod_of_dvd x hd]
  congr 1
  unfold wrap64
  omega
theorem leB_rdNum (l : List UInt8) (h : l.length ≤ 8) : leB l.length (rdNum l) = l := by
  rw [leB_mod _ (rdNum l) (rdB l) (wrap_mod _ h _), leB_rdB]
theorem rdNum_leB8 (x : Int) (h0 : -9223372036854775808 ≤ x) (h1 : x ≤ 9223372036854775807) : rdNum (leB 8 x) = x := by
  unfold rdNum
  rw [rdB_leB, show (256 : Int) ^ 8 = 18446744073709551616 by decide]
  unfold wrap64
  omega
theorem rdNum_leB4 (x : Int) (h0 : 0 ≤ x) (h1 : x < 4294967296) : rdNum (leB 4 x) = x := by
  unfold rdNum
  rw [rdB_leB, show (256 : Int) ^ 4 = 4294967296 by decide]
  unfold wrap64
  omega

theorem nextB_yes (no : Int) (p r : List UInt8) (most : Int) (h0 : 0 ≤ no) (h1 : no ≤ 9223372036854775807) (hl : p.length < 4294967296) (hm : (p.length : Int) ≤ most) :
    nextB (frameB no p ++ r) most = some (no, p, p.length + 20) := by
  have hlen : (frameB no p ++ r).length = p.length + 20 + r.length := by rw [List.length_append, frameB_length]
  have hs : frameB no p ++ r = sealB (leB 4 p.length ++ leB 8 no) ++ (sealB p ++ r) := by unfold frameB; rw [List.append_assoc]
  have hS : (sealB (leB 4 (p.length : Int) ++ leB 8 no)).length = 16 := by rw [sealB_length, List.length_append, leB_length, leB_length]
  have t16 : (frameB no p ++ r).take 16 = sealB (leB 4 p.length ++ leB 8 no) := by rw [hs, ← hS]; exact List.take_left
  have d16 : (frameB no p ++ r).drop 16 = sealB p ++ r := by rw [hs, ← hS]; exact List.drop_left
  have e4 : (leB 4 (p.length : Int) ++ leB 8 no).take 4 = leB 4 p.length := by
    have := List.take_left (l₁ := leB 4 (p.length : Int)) (l₂ := leB 8 no)
    rwa [leB_length] at this
  have e8 : ((leB 4 (p.length : Int) ++ leB 8 no).drop 4).take 8 = leB 8 no := by
    have := List.drop_left (l₁ := leB 4 (p.length : Int)) (l₂ := leB 8 no)
    rw [leB_length] at this
    rw [this]; exact List.take_of_length_le (by simp)
  have n4 : rdNum (leB 4 (p.length : Int)) = p.length := rdNum_leB4 _ (by omega) (by omega)
  have n8' : rdNum (leB 8 no) = no := rdNum_leB8 _ (by omega) h1
  have tp : (sealB p ++ r).take (p.length + 4) = sealB p := by rw [← sealB_length]; exact List.take_left
  unfold nextB
  rw [if_neg (by rw [hlen]; omega), t16, openB_seal]
  simp only
  rw [e4, e8, n4, n8', if_neg (by rw [hlen]; omega), d16, Int.toNat_natCast, tp, openB_seal]
  simp only [Option.some.injEq, Prod.mk.injEq, true_and]
  omega

theorem nextB_some {l : List UInt8} {most no : Int} {p : List UInt8} {q : Nat} (h : nextB l most = some (no, p, q)) :
    q = p.length + 20 ∧ (p.length : Int) ≤ most ∧ 0 ≤ no ∧ no ≤ 9223372036854775807 ∧ p.length < 4294967296 ∧ l.take q = frameB no p ∧ q ≤ l.length := by
  unfold nextB at h
  split at h
  · cases h
  rename_i h16
  split at h
  · cases h
  rename_i H hO
  split at h
  · cases h
  rename_i hc
  split at h
  · cases h
  rename_i p' hO2
  simp only [Option.some.injEq, Prod.mk.injEq] at h
  obtain ⟨hno, rfl, hq⟩ := h
  have hH := openB_some hO
  have hP := openB_some hO2
  have hHl : H.length = 12 := by have := sealB_length H; rw [← hH, List.length_take] at this; omega
  have hN4 := rdNum4 (H.take 4) (by rw [List.length_take]; omega)
  have h1 : ¬ rdNum (H.take 4) > most := fun h => hc (.inl h)
  have h2 : ¬ rdNum ((H.drop 4).take 8) < 0 := fun h => hc (.inr (.inl h))
  have h3 : ¬ (l.length : Int) < 16 + rdNum (H.take 4) + 4 := fun h => hc (.inr (.inr h))
  have hpl : p'.length = (rdNum (H.take 4)).toNat := by
    have := sealB_length p'
    rw [← hP, List.length_take, List.length_drop] at this
    omega
  have e4 : leB 4 (p'.length : Int) = H.take 4 := by
    have h4l : (H.take 4).length = 4 := by rw [List.length_take]; omega
    have := leB_rdNum (H.take 4) (by omega)
    rw [h4l] at this
    rw [← this, hpl, Int.toNat_of_nonneg hN4.1]
  have e8 : leB 8 no = H.drop 4 := by
    have h8l : ((H.drop 4).take 8).length = 8 := by rw [List.length_take, List.length_drop]; omega
    have := leB_rdNum ((H.drop 4).take 8) (by omega)
    rw [h8l, hno] at this
    rw [this]; exact List.take_of_length_le (by rw [List.length_drop]; omega)
  have hwr : no ≤ 9223372036854775807 := by
    rw [← hno]; unfold rdNum wrap64; omega
  refine ⟨by omega, by omega, by omega, hwr, by omega, ?_, by omega⟩
  unfold frameB
  rw [e4, e8, List.take_append_drop, ← hH, ← hP, ← hq]
  have : 16 + (rdNum (H.take 4)).toNat + 4 = 16 + ((rdNum (H.take 4)).toNat + 4) := by omega
  rw [this, List.take_add]

/-- What begins with a record's bytes begins with no other's. -/
theorem nextB_cut (no : Int) (p : List UInt8) (most : Int) (k : Nat) (h0 : 0 ≤ no) (h1 : no ≤ 9223372036854775807) (hl : p.length < 4294967296) (hk : k < p.length + 20) :
    nextB ((frameB no p).take k) most = none := by
  rcases h : nextB ((frameB no p).take k) most with _ | ⟨no', p', q⟩
  · rfl
  · exfalso
    obtain ⟨hq, hm, g0, g1, gl, ht, hle⟩ := nextB_some h
    have hkl : ((frameB no p).take k).length = k := by rw [List.length_take, frameB_length]; omega
    rw [hkl] at hle
    rw [List.take_take, Nat.min_eq_left hle] at ht
    have hs : frameB no p = frameB no' p' ++ (frameB no p).drop q := by rw [← ht, List.take_append_drop]
    have a := nextB_yes no p [] (p.length + p'.length) h0 h1 hl (by omega)
    have b := nextB_yes no' p' ((frameB no p).drop q) (p.length + p'.length) g0 g1 gl (by omega)
    rw [← hs] at b
    rw [List.append_nil, b] at a
    simp only [Option.some.injEq, Prod.mk.injEq] at a
    obtain ⟨-, rfl, -⟩ := a
    omega
theorem nextB_short (no : Int) (p r : List UInt8) (most : Int) (h0 : 0 ≤ no) (h1 : no ≤ 9223372036854775807) (hl : p.length < 4294967296) (hm : most < p.length) : nextB (frameB no p ++ r) most = none := by
  rcases h : nextB (frameB no p ++ r) most with _ | ⟨no', p', q⟩
  · rfl
  · exfalso
    obtain ⟨hq, hm', g0, g1, gl, ht, hle⟩ := nextB_some h
    have a := nextB_yes no p r (p.length + p'.length) h0 h1 hl (by omega)
    have b := nextB_yes no' p' ((frameB no p ++ r).drop q) (p.length + p'.length) g0 g1 gl (by omega)
    rw [← ht, List.take_append_drop, a] at b
    simp only [Option.some.injEq, Prod.mk.injEq] at b
    obtain ⟨-, rfl, -⟩ := b
    omega
theorem frameB_inj {no no' : Int} {p p' : List UInt8} (h0 : 0 ≤ no) (h1 : no ≤ 9223372036854775807) (hl : p.length < 4294967296) (g0 : 0 ≤ no') (g1 : no' ≤ 9223372036854775807) (gl : p'.length < 4294967296)
    (h : frameB no p = frameB no' p') : no = no' ∧ p = p' := by
  have a := nextB_yes no p [] (p.length + p'.length) h0 h1 hl (by omega)
  have b := nextB_yes no' p' [] (p.length + p'.length) g0 g1 gl (by omega)
  rw [h, b] at a
  simp only [Option.some.injEq, Prod.mk.injEq] at a
  exact ⟨a.1.symm, a.2.1.symm⟩
end Go.Proofs.Ytdmokfplkhmijaa
