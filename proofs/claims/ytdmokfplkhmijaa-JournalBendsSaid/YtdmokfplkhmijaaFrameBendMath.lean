/- A record of which bits within a window of 32 were turned is none. -/
import Derived.Test.YtdmokfplkhmijaaFrameMath
import Derived.Test.YtdmokfplkhmijaaCrcBendMath
namespace Go.Proofs.Ytdmokfplkhmijaa
open Go.RowKit

theorem msg_take (l : List UInt8) (n i : Nat) (h : i < 8 * n) : msg (l.take n) i = msg l i := by
  unfold msg
  rw [List.getD_eq_getElem?_getD, List.getD_eq_getElem?_getD, List.getElem?_take, if_pos (by omega)]
theorem msg_drop (l : List UInt8) (n i : Nat) : msg (l.drop n) i = msg l (i + 8 * n) := by
  unfold msg
  rw [List.getD_eq_getElem?_getD, List.getD_eq_getElem?_getD, List.getElem?_drop]
  rw [show n + i / 8 = (i + 8 * n) / 8 by omega, show i % 8 = (i + 8 * n) % 8 by omega]

theorem leB4_inj {x y : Int} (h0 : 0 ≤ x) (h1 : x < 4294967296) (g0 : 0 ≤ y) (g1 : y < 4294967296) (h : leB 4 x = leB 4 y) : x = y := by
  have := congrArg rdB h
  rw [rdB_leB, rdB_leB, show (256 : Int) ^ 4 = 4294967296 by decide] at this
  omega

theorem nextB_bend (no : Int) (p r : List UInt8) (most : Int) (K : Nat) (mask : UInt32) (_h0 : 0 ≤ no) (_h1 : no ≤ 9223372036854775807) (hl : p.length < 4294967296)
    (hne : bendB (frameB no p) K mask ≠ frameB no p) : nextB (bendB (frameB no p) K mask ++ r) most = none := by
  rcases h : nextB (bendB (frameB no p) K mask ++ r) most with _ | ⟨no', p', q⟩
  · rfl
  exfalso
  apply hne
  obtain ⟨hq, hm, g0, g1, gl, ht, hle⟩ := nextB_some h
  have hF := frameB_length no p
  have hC : (bendB (frameB no p) K mask).length = p.length + 20 := by rw [bendB_length, hF]
  have hbit : ∀ i, i < 8 * (p.length + 20) → (i < K ∨ K + 32 ≤ i) → msg (bendB (frameB no p) K mask) i = msg (frameB no p) i := by
    intro i hi ho
    rw [msg_bend _ _ _ _ (by rw [hF]; exact hi)]
    have : decide ((K : Int) ≤ (i : Int) ∧ (i : Int) - K < 32) = false := by simp only [decide_eq_false_iff_not]; omega
    rw [this]; simp
  generalize bendB (frameB no p) K mask = C at *
  -- the heads
  have s1 : (sealB (leB 4 (p.length : Int) ++ leB 8 no)).length = 16 := by rw [sealB_length, List.length_append, leB_length, leB_length]
  have s2 : (sealB (leB 4 (p'.length : Int) ++ leB 8 no')).length = 16 := by rw [sealB_length, List.length_append, leB_length, leB_length]
  have tF : (frameB no p).take 16 = sealB (leB 4 p.length ++ leB 8 no) := by unfold frameB; rw [← s1]; exact List.take_left
  have dF : (frameB no p).drop 16 = sealB p := by unfold frameB; rw [← s1]; exact List.drop_left
  have tC : C.take 16 = sealB (leB 4 p'.length ++ leB 8 no') := by
    have e1 : (C ++ r).take 16 = C.take 16 := List.take_append_of_le_length (by omega)
    have e2 : ((C ++ r).take q).take 16 = (C ++ r).take 16 := by rw [List.take_take, Nat.min_eq_left (by omega)]
    rw [← e1, ← e2, ht]; unfold frameB; rw [← s2]; exact List.take_left
  have hw := sealed_window (x := leB 4 p'.length ++ leB 8 no') (y := leB 4 p.length ++ leB 8 no) (by rw [s1, s2]) K (fun i hi ho => by
    rw [s2] at hi
    rw [← tC, ← tF, msg_take _ _ _ hi, msg_take _ _ _ hi]
    exact hbit i (by omega) ho)
  have hhead := sealB_inj hw
  have h4 : leB 4 (p'.length : Int) = leB 4 (p.length : Int) := by
    have := congrArg (fun l => l.take 4) hhead
    have a := List.take_left (l₁ := leB 4 (p'.length : Int)) (l₂ := leB 8 no')
    have b := List.take_left (l₁ := leB 4 (p.length : Int)) (l₂ := leB 8 no)
    rw [leB_length] at a b
    rwa [a, b] at this
  have hpl : p'.length = p.length := by have := leB4_inj (by omega) (by omega) (by omega) (by omega) h4; omega
  have hCe : C = frameB no' p' := by
    rw [← ht, hq, hpl, ← hC]; simp
  have dC : C.drop 16 = sealB p' := by rw [hCe]; unfold frameB; rw [← s2]; exact List.drop_left
  have hw2 := sealed_window (x := p') (y := p) (by rw [sealB_length, sealB_length, hpl]) (K - 128) (fun i hi ho => by
    rw [sealB_length, hpl] at hi
    rw [← dC, ← dF, msg_drop, msg_drop]
    exact hbit _ (by omega) (by omega))
  rw [← List.take_append_drop 16 C, ← List.take_append_drop 16 (frameB no p), tC, tF, dC, dF, hw, hw2]
end Go.Proofs.Ytdmokfplkhmijaa
