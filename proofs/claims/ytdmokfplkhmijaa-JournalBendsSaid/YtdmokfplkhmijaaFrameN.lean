/- frame.Next. -/
import Derived.Test.YtdmokfplkhmijaaFrameB
import Derived.Deep.Cut
namespace Go.Proofs.Ytdmokfplkhmijaa
open Go.RowKit

def openB (x : List UInt8) : Option (List UInt8) := if x = sealB (x.take (x.length - 4)) then some (x.take (x.length - 4)) else none
theorem openB_seal (l : List UInt8) : openB (sealB l) = some l := by
  have e : (sealB l).take ((sealB l).length - 4) = l := by rw [sealB_length]; simp [sealB]
  unfold openB; rw [e, if_pos rfl]
theorem openB_some {x l : List UInt8} (h : openB x = some l) : x = sealB l := by
  unfold openB at h
  split at h
  · rename_i hx; cases h; exact hx
  · cases h
theorem openB_none {x : List UInt8} (h : openB x = none) : ∀ l, x ≠ sealB l := by
  intro l e
  rw [e, openB_seal] at h
  cases h

/-- What Next finds at the front: number, body, how far. -/
def nextB (l : List UInt8) (most : Int) : Option (Int × List UInt8 × Nat) :=
  if l.length < 16 then none else
  match openB (l.take 16) with
  | none => none
  | some H =>
    if rdNum (H.take 4) > most ∨ rdNum ((H.drop 4).take 8) < 0 ∨ (l.length : Int) < 16 + rdNum (H.take 4) + 4 then none else
    match openB ((l.drop 16).take ((rdNum (H.take 4)).toNat + 4)) with
    | none => none
    | some p => some (rdNum ((H.drop 4).take 8), p, 16 + (rdNum (H.take 4)).toNat + 4)
def NextPost (w : World) (r : Option (Int × List UInt8 × Nat)) (e : Ending) (w' : World) : Prop :=
  match r with
  | none => e = .returned (.tuple #[.agg #[.int .i64 0, .slice none 0 0], .int .i64 0, .bool false]) ∧ Chg [] w w'
  | some (no, p, q) => ∃ ao c, e = .returned (.tuple #[.agg #[.int .i64 no, .slice ao p.length c], .int .i64 (q : Nat), .bool true]) ∧ OwB w' w.heap.size (.slice ao p.length c) p ∧ Chg [] w w'

theorem rdNum4 (l : List UInt8) (h : l.length ≤ 4) : 0 ≤ rdNum l ∧ rdNum l < 4294967296 := by
  have h1 := rdB_lo l
  have h2 := rdB_hi l
  unfold rdNum
  rcases (by omega : l.length = 0 ∨ l.length = 1 ∨ l.length = 2 ∨ l.length = 3 ∨ l.length = 4) with h | h | h | h | h <;> rw [h] at h2 <;> rw [IntWalk.wrap64_in _ (by omega)] <;> omega

set_option maxRecDepth 100000 in
set_option maxHeartbeats 2000000 in
theorem Next_any (v : Value) (l : List UInt8) (most : Int) (w : World) (hl : Bs w v l) (hlen : l.length ≤ 140737488354000) :
    Calls Try.prog 88 #[v, .int .i64 most] w (NextPost w (nextB l most)) := by
  obtain ⟨ao, cap, b, off, rfl, -⟩ := hl.open
  have hk := Blk.new w #[.int .i64 0, .slice none 0 0] 80
  have hc0 : Chg [] w (w.alloc (.cells #[.int .i64 0, .slice none 0 0] 80)) := (Chg.refl [] w).alloc _
  by_cases h16 : l.length < 16
  · have hn : nextB l most = none := by unfold nextB; rw [if_pos h16]
    rw [hn]
    have q0 := hk.cell 0
    have q1 := hk.cell 1
    have f0 := hk.free 0
    have f1 := hk.free 1
    have hk3 := (hk.set 0 (.int .i64 0)).set 1 (.slice none 0 0)
    have p0 := hk3.cell 0
    have p1 := hk3.cell 1
    simp at q0 q1 p0 p1
    go_enter Try.func88, Try.ntmps88
    go_wp2_with fail
    refine bodyPost_ret (v := .tuple #[.agg #[.int .i64 0, .slice none 0 0], .int .i64 0, .bool false]) ?_ rfl ?_
    · simp only [results]
      go_simp
    · exact ⟨rfl, hc0⟩
  have htl : (l.take 16).length = 16 := by rw [List.length_take]; omega
  -- the end of each way on which nothing is found
  rcases hO : openB (l.take 16) with _ | H
  · have hn : nextB l most = none := by unfold nextB; rw [if_neg h16, hO]
    rw [hn]
    go_enter Try.func88, Try.ntmps88
    go_wp2_with (refine wpCutB rfl _ _ _ rfl _ _ rfl (hl.stays hc0) 0 16 (.inl ⟨rfl, rfl⟩) (.inr ⟨.i64, rfl⟩) (by omega) (by omega) ?_; intro ao1 c1 hcut hblk1)
    refine (Open_no _ _ _ hcut (by simp; omega) (openB_none hO)).mono ?_
    rintro e w1 ⟨rfl, hc1⟩
    have hc1' := hc0.trans hc1 (by simp)
    have hk1 := hk.chg hc1 (by simp)
    have q0 := hk1.cell 0
    have q1 := hk1.cell 1
    have f0 := hk1.free 0
    have f1 := hk1.free 1
    have hk3 := (hk1.set 0 (.int .i64 0)).set 1 (.slice none 0 0)
    have p0 := hk3.cell 0
    have p1 := hk3.cell 1
    simp at q0 q1 p0 p1
    go_wp2_with fail
    refine bodyPost_ret (v := .tuple #[.agg #[.int .i64 0, .slice none 0 0], .int .i64 0, .bool false]) ?_ rfl ?_
    · simp only [results]
      go_simp
    · refine ⟨rfl, ?_⟩
      refine Chg.setCell (Chg.setCell hc1' _ _ ?_) _ _ ?_ <;> simp
  · have hH := openB_some hO
    have hHl : H.length = 12 := by have := sealB_length H; rw [← hH, htl] at this; omega
    have hN4 := rdNum4 (H.take 4) (by rw [List.length_take]; omega)
    have hn : nextB l most = if rdNum (H.take 4) > most ∨ rdNum ((H.drop 4).take 8) < 0 ∨ (l.length : Int) < 16 + rdNum (H.take 4) + 4 then none else
      match openB ((l.drop 16).take ((rdNum (H.take 4)).toNat + 4)) with
      | none => none
      | some p => some (rdNum ((H.drop 4).take 8), p, 16 + (rdNum (H.take 4)).toNat + 4) := by unfold nextB; rw [if_neg h16, hO]
    have HN := hd hn
    clear hn
    go_enter Try.func88, Try.ntmps88
    go_wp2_with (refine wpCutB rfl _ _ _ rfl _ _ rfl (hl.stays hc0) 0 16 (.inl ⟨rfl, rfl⟩) (.inr ⟨.i64, rfl⟩) (by omega) (by omega) ?_; intro ao1 c1 hcut hblk1)
    have hcut' := hcut
    rw [List.drop_zero, show 16 - 0 = 16 from rfl, hH] at hcut'
    refine (Open_yes _ H _ hcut' (by omega)).mono ?_
    rintro e w1 ⟨ao2, c2, rfl, ho, hc1⟩
    rw [hHl] at ho ⊢
    have hc1' := hc0.trans hc1 (by simp)
    have hk1 := hk.chg hc1 (by simp)
    have hz1 := hc1'.size
    clear hcut hcut' hblk1 hk hc0 hc1
    go_wp2_with fail
    refine (New_any _ H _ ho.bs).mono ?_
    rintro e w2 ⟨b', rfl, hb', hr2, hc2⟩
    have hc2' := hc1'.trans hc2 (by simp)
    have hk2 := hk1.chg hc2 (by simp)
    have hkl := hk1.lt
    clear hc1' hk1 hc2 ho
    go_wp2_with fail
    refine (RNum_long 4 b' H false _ hr2 (by decide) (by decide) (by omega)).mono ?_
    rintro e w3 ⟨rfl, hr3, hc3⟩
    rw [show (4 : Int).toNat = 4 from rfl] at hr3 ⊢
    have hc3' : Chg [] w w3 := hc2'.trans hc3 (by intro x hx hlt; simp at hx; omega)
    have hk3 := hk2.chg hc3 (by simp; omega)
    clear hc2' hk2 hc3 hr2
    go_wp2_with fail
    refine (RNum_long 8 b' _ false _ hr3 (by decide) (by decide) (by rw [List.length_drop]; omega)).mono ?_
    rintro e w4 ⟨rfl, hr4, hc4⟩
    rw [show (8 : Int).toNat = 8 from rfl]
    have hc4' : Chg [] w w4 := hc3'.trans hc4 (by intro x hx hlt; simp at hx; omega)
    have hk4 := hk3.chg hc4 (by simp; omega)
    clear hc3' hk3 hc4 hr3 hr4
    obtain ⟨N, hN⟩ : ∃ N, N = rdNum (H.take 4) := ⟨_, rfl⟩
    obtain ⟨no, hno⟩ : ∃ no, no = rdNum ((H.drop 4).take 8) := ⟨_, rfl⟩
    have hn := HN.out
    rw [← hN] at hN4 hn ⊢
    rw [← hno] at hn ⊢
    clear hN hno HN
    obtain ⟨hN0, hN1⟩ := hN4
    by_cases b1 : most < N
    · rw [if_pos (.inl b1)] at hn
      have HN := hd hn
      clear hn
      have q0 := Blk.cell hk4 0
      have q1 := Blk.cell hk4 1
      have f0 := Blk.free hk4 0
      have f1 := Blk.free hk4 1
      have hk3 := Blk.set (Blk.set hk4 0 (.int .i64 0)) 1 (.slice none 0 0)
      have p0 := Blk.cell hk3 0
      have p1 := Blk.cell hk3 1
      simp at q0 q1 p0 p1
      go_wp2_with fail
      refine bodyPost_ret (v := .tuple #[.agg #[.int .i64 0, .slice none 0 0], .int .i64 0, .bool false]) ?_ rfl ?_
      · simp only [results]
        go_simp
      · rw [Hd.out HN]
        refine ⟨rfl, ?_⟩
        refine Chg.setCell (Chg.setCell hc4' _ _ ?_) _ _ ?_ <;> simp
    by_cases b2 : no < 0
    · rw [if_pos (.inr (.inl b2))] at hn
      have HN := hd hn
      clear hn
      have q0 := Blk.cell hk4 0
      have q1 := Blk.cell hk4 1
      have f0 := Blk.free hk4 0
      have f1 := Blk.free hk4 1
      have hk3 := Blk.set (Blk.set hk4 0 (.int .i64 0)) 1 (.slice none 0 0)
      have p0 := Blk.cell hk3 0
      have p1 := Blk.cell hk3 1
      simp at q0 q1 p0 p1
      go_wp2_with fail
      refine bodyPost_ret (v := .tuple #[.agg #[.int .i64 0, .slice none 0 0], .int .i64 0, .bool false]) ?_ rfl ?_
      · simp only [results]
        go_simp
      · rw [Hd.out HN]
        refine ⟨rfl, ?_⟩
        refine Chg.setCell (Chg.setCell hc4' _ _ ?_) _ _ ?_ <;> simp
    by_cases b3 : (l.length : Int) < 16 + N + 4
    · rw [if_pos (.inr (.inr b3))] at hn
      have HN := hd hn
      clear hn
      have q0 := Blk.cell hk4 0
      have q1 := Blk.cell hk4 1
      have f0 := Blk.free hk4 0
      have f1 := Blk.free hk4 1
      have hk3 := Blk.set (Blk.set hk4 0 (.int .i64 0)) 1 (.slice none 0 0)
      have p0 := Blk.cell hk3 0
      have p1 := Blk.cell hk3 1
      simp at q0 q1 p0 p1
      go_wp2_with fail
      refine bodyPost_ret (v := .tuple #[.agg #[.int .i64 0, .slice none 0 0], .int .i64 0, .bool false]) ?_ rfl ?_
      · simp only [results]
        go_simp
      · rw [Hd.out HN]
        refine ⟨rfl, ?_⟩
        refine Chg.setCell (Chg.setCell hc4' _ _ ?_) _ _ ?_ <;> simp
    rw [if_neg (by rintro (h | h | h); exact b1 h; exact b2 h; exact b3 h)] at hn
    obtain ⟨M, hM⟩ := Int.eq_ofNat_of_zero_le hN0
    have hMt : N.toNat = M := by omega
    rw [hMt] at hn
    have hl4 := hl.stays hc4'
    have hbl : ((l.drop 16).take (M + 4)).length = M + 4 := by rw [List.length_take, List.length_drop]; omega
    obtain ⟨Q, hQ⟩ : ∃ Q : Nat, Q = M + 20 := ⟨_, rfl⟩
    have e4 : Q - 16 = M + 4 := by omega
    have HQ : Hd ((16 : Int) + N + 4 = (Q : Int)) := hd (by omega)
    have HQ16 : Hd (16 ≤ Q ∧ Q ≤ l.length) := hd (by omega)
    have HM := hd hM
    clear hQ hMt hM
    have HBL := hd hbl
    have HE4 := hd e4
    clear hbl e4
    have Hn := hd hn
    clear hn hO hH
    go_upto_if 46 with (fail)
    rw [decide_eq_false (Int.not_lt.2 b1), decide_eq_false (Int.not_lt.2 b2), decide_eq_false (Int.not_lt.2 b3)]
    simp only [Bool.or_false]
    clear b1 b2 b3
    go_wp2_with (refine wpCutB rfl _ _ _ rfl _ _ rfl hl4 16 Q (.inr ⟨.i64, rfl⟩) (.inr ⟨.i64, congrArg some (congrArg (Value.int .i64) HQ.out)⟩) HQ16.out.1 HQ16.out.2 ?_; intro ao3 c3 hcut hblk1)
    have hn := Hn.out
    rw [HE4.out] at hcut ⊢
    clear hblk1 Hn
    rcases hO2 : openB ((l.drop 16).take (M + 4)) with _ | p
    · rw [hO2] at hn
      have HN := hd hn
      clear hn
      refine (Open_no _ _ _ hcut (by rw [HBL.out]; have := HQ16.out; have := HE4.out; omega) (openB_none hO2)).mono ?_
      rintro e w5 ⟨rfl, hc5⟩
      have hc5' := hc4'.trans hc5 (by simp)
      have hk5 := hk4.chg hc5 (by simp)
      clear hO2 hcut hc5
      have q0 := Blk.cell hk5 0
      have q1 := Blk.cell hk5 1
      have f0 := Blk.free hk5 0
      have f1 := Blk.free hk5 1
      have hk3 := Blk.set (Blk.set hk5 0 (.int .i64 0)) 1 (.slice none 0 0)
      have p0 := Blk.cell hk3 0
      have p1 := Blk.cell hk3 1
      simp at q0 q1 p0 p1
      go_wp2_with fail
      refine bodyPost_ret (v := .tuple #[.agg #[.int .i64 0, .slice none 0 0], .int .i64 0, .bool false]) ?_ rfl ?_
      · simp only [results]
        go_simp
      · rw [Hd.out HN]
        refine ⟨rfl, ?_⟩
        refine Chg.setCell (Chg.setCell hc5' _ _ ?_) _ _ ?_ <;> simp
    · rw [hO2] at hn
      have HN := hd hn
      have hP := openB_some hO2
      have hpl : p.length = M := by have := sealB_length p; rw [← hP, HBL.out] at this; omega
      have hcut' := hcut
      rw [hP] at hcut'
      refine (Open_yes _ p _ hcut' (by have := HQ16.out; have := HE4.out; omega)).mono ?_
      rintro e w5 ⟨ao5, c5, rfl, ho5, hc5⟩
      rw [hpl] at ho5 ⊢
      have hc5' := hc4'.trans hc5 (by simp)
      have hk5 := hk4.chg hc5 (by simp)
      have hz4 := hc4'.size
      have q0 := hk5.cell 0
      have q1 := hk5.cell 1
      have f0 := hk5.free 0
      have f1 := hk5.free 1
      have hk6 := (hk5.set 0 (.int .i64 no)).set 1 (.slice ao5 M c5)
      have p0 := hk6.cell 0
      have p1 := hk6.cell 1
      simp at q0 q1 p0 p1
      have ho6 := ho5.mono hz4
      have hapart := ho5.apart hk5 (by decide)
      have HPL := hd hpl
      clear hcut hcut' hP hO2 hl4 hn hpl
      go_wp2_with fail
      refine bodyPost_ret (v := .tuple #[.agg #[.int .i64 no, .slice ao5 M c5], .int .i64 (16 + N + 4), .bool true]) ?_ rfl ?_
      · simp only [results]
        go_simp
      · rw [HN.out]
        refine ⟨ao5, c5, ?_, ?_, ?_⟩
        · rw [HPL.out, show (16 + N + 4) = ((16 + M + 4 : Nat) : Int) by have := HM.out; omega]
        · rw [HPL.out]
          exact ownsRow_setCell_other (ownsRow_setCell_other ho6 (a := ⟨w.heap.size, 0, none⟩) hapart _) (a := ⟨w.heap.size, 1, none⟩) hapart _
        · refine Chg.setCell (Chg.setCell hc5' _ _ ?_) _ _ ?_ <;> simp
end Go.Proofs.Ytdmokfplkhmijaa
