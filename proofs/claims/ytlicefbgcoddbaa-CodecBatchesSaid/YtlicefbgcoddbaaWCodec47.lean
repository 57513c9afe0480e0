/- Words and walks that Codec rests on: CodecFwd. -/
import Derived.Test.YtlicefbgcoddbaaWCodec35
/- Right orders are read back as they were: a plain law. -/
namespace Go.Proofs.Ytlicefbgcoddbaa
open Go.RowKit

theorem eq_of_sameO {x y : Ord} (h : sameO x y = true) : x = y := by
  obtain ⟨k, i, a, b, ⟨px, py⟩, ⟨vx, vy⟩, an, sp, de, ln, ⟨sk, sr, p⟩⟩ := x
  obtain ⟨k2, i2, a2, b2, ⟨px2, py2⟩, ⟨vx2, vy2⟩, an2, sp2, de2, ln2, ⟨sk2, sr2, p2⟩⟩ := y
  unfold sameO sameS at h
  simp only [Bool.and_eq_true, decide_eq_true_eq] at h
  obtain ⟨⟨⟨⟨⟨⟨⟨⟨⟨⟨⟨⟨h1, h2⟩, h3⟩, h4⟩, h5⟩, h6⟩, h7⟩, ⟨h8, h9⟩⟩, ⟨h10, h11⟩⟩, h12⟩, h13⟩, h14⟩, h15⟩ := h
  subst h1 h2 h3 h4 h5 h6 h7 h8 h9 h10 h11 h12 h13 h14 h15
  rfl
theorem rd8 (x : Int) (h : I64 x) : rdNum (leB 8 x) = x := by
  rw [rdNum, rdB_leB, show (256 : Int) ^ 8 = 18446744073709551616 from rfl]
  unfold I64 at h
  unfold wrap64
  omega
theorem rd1 (x : Int) (h0 : 0 ≤ x) (h1 : x < 256) : rdNum (leB 1 x) = x := by
  rw [rdNum, rdB_leB, show (256 : Int) ^ 1 = 256 from rfl]
  unfold wrap64
  omega
theorem num8 (x : Int) (h : I64 x) (r : List UInt8) : numR 8 (leB 8 x ++ r, false) = (x, (r, false)) := by rw [numR_app _ _ _ _ (by simp), rd8 x h]
theorem num1 (x : Int) (h0 : 0 ≤ x) (h1 : x < 256) (r : List UInt8) : numR 1 (leB 1 x ++ r, false) = (x, (r, false)) := by rw [numR_app _ _ _ _ (by simp), rd1 x h0 h1]
theorem pl8 (v : V2) (h : IV v) (r : List UInt8) : plR (leB 8 v.1 ++ (leB 8 v.2 ++ r), false) = (v, (r, false)) := by
  unfold plR
  rw [num8 _ h.1]
  simp only
  rw [num8 _ h.2]
theorem ps8 (p : List V2) (h : ∀ x ∈ p, IV x) (r : List UInt8) : psR p.length (leF (fV p) ++ r, false) = (p, (r, false)) := by
  induction p with
  | nil => simp [psR, leF, fV]
  | cons v p ih =>
    have e : leF (fV (v :: p)) ++ r = leB 8 v.1 ++ (leB 8 v.2 ++ (leF (fV p) ++ r)) := by simp [leF, fV]
    rw [e, List.length_cons, psR_go _ _ rfl, pl8 v (h v (by simp))]
    simp only
    rw [ih (fun x hx => h x (by simp [hx]))]
theorem sh8 (s : Shp) (hr : rightS s = true) (hi : I64 s.r) (hp : ∀ x ∈ s.p, IV x) (r : List UInt8) : shapeR (leS s ++ r, false) = (s, (r, false)) := by
  obtain ⟨k, ra, p⟩ := s
  simp only at hi hp
  unfold rightS at hr
  simp only at hr
  by_cases h1 : k = 1
  · subst h1
    rw [if_pos rfl] at hr
    simp only [Bool.and_eq_true, decide_eq_true_eq] at hr
    have hp0 : p = [] := List.length_eq_zero_iff.mp hr.1.1
    subst hp0
    have e : leS ⟨1, ra, []⟩ ++ r = leB 1 1 ++ (leB 8 ra ++ r) := by simp [leS, leF]
    rw [e]
    unfold shapeR
    rw [num1 1 (by omega) (by omega), if_pos rfl]
    simp only
    rw [num8 _ hi]
  · rw [if_neg h1] at hr
    split at hr
    · cases hr
    · rename_i h2
      simp only [not_or] at h2
      obtain ⟨hk, hra, hlo, hhi⟩ := h2
      have hk : k = 2 := by omega
      have hra : ra = 0 := by omega
      subst hk hra
      have e : leS ⟨2, 0, p⟩ ++ r = leB 1 2 ++ (leB 1 (p.length : Int) ++ (leF (fV p) ++ r)) := by simp [leS]
      rw [e]
      unfold shapeR
      rw [num1 2 (by omega) (by omega), if_neg (by simp)]
      simp only
      rw [num1 _ (by omega) (by omega)]
      simp only [Int.toNat_natCast]
      rw [ps8 p hp]
section
attribute [local irreducible] numR plR shapeR
set_option maxHeartbeats 1000000 in
theorem orderR_fwd (o : Ord) (h : rightO o = true) (hi : IO o) (r : List UInt8) : orderR (leO o ++ r, false) = (o, (r, false)) := by
  have hr := h
  unfold rightO at h
  rw [Bool.and_eq_true] at h
  obtain ⟨h1, h2⟩ := h
  have hu := eq_of_sameO h1
  have h0 : orderR0 (leO o ++ r, false) = (o, (r, false)) := by
    obtain ⟨k, i, a, b, ⟨px, py⟩, ⟨vx, vy⟩, an, sp, de, ln, sh⟩ := o
    unfold usedO at hu
    simp only at hu
    unfold kindO at h2
    simp only at h2
    by_cases k1 : k = 1
    · rw [if_pos k1] at hu h2
      subst k1
      injection hu with _ e1 e2 e3 _ _ _ _ _ e4 _
      subst e1 e2 e3 e4
      have hs : rightS sh = true := by
        unfold rightB at h2; simp only [bodyO, Bool.and_eq_true] at h2; exact h2.1.1.1.1.1.1.1.1
      have e : leO ⟨1, 0, 0, 0, (px, py), (vx, vy), an, sp, de, 0, sh⟩ ++ r = leB 1 1 ++ (leB 8 px ++ (leB 8 py ++ (leB 8 vx ++ (leB 8 vy ++ (leB 8 an ++ (leB 8 sp ++ (leB 8 de ++ (leS sh ++ r)))))))) := by simp [leO, leF, fV]
      rw [e]
      unfold orderR0
      rw [num1 1 (by omega) (by omega), if_pos rfl]
      simp only [pl8 (px, py) hi.pos, pl8 (vx, vy) hi.vel, num8 an hi.angle, num8 sp hi.spin, num8 de hi.density, sh8 sh hs hi.sr hi.sp]
    rw [if_neg k1] at hu h2
    by_cases k2 : k = 2 ∨ k = 4
    · rw [if_pos k2] at hu h2
      injection hu with _ _ e2 e3 e4 e5 e6 e7 e8 e9 e10
      injection e4 with e41 e42
      injection e5 with e51 e52
      subst e2 e3 e41 e42 e51 e52 e6 e7 e8 e9 e10
      have e : leO ⟨k, i, 0, 0, (0, 0), (0, 0), 0, 0, 0, 0, noS⟩ ++ r = leB 1 k ++ (leB 8 i ++ r) := by simp [leO, k1, k2]
      rw [e]
      unfold orderR0
      rw [num1 k (by omega) (by omega), if_neg k1, if_pos k2]
      simp only [num8 i hi.id]
    rw [if_neg k2] at hu h2
    by_cases k3 : k = 3
    · rw [if_pos k3] at hu h2
      subst k3
      injection hu with _ e1 _ _ _ _ e6 e7 e8 _ e10
      subst e1 e6 e7 e8 e10
      have e : leO ⟨3, 0, a, b, (px, py), (vx, vy), 0, 0, 0, ln, noS⟩ ++ r = leB 1 3 ++ (leB 8 a ++ (leB 8 b ++ (leB 8 px ++ (leB 8 py ++ (leB 8 vx ++ (leB 8 vy ++ (leB 8 ln ++ r))))))) := by simp [leO, leF, fV]
      rw [e]
      unfold orderR0
      rw [num1 3 (by omega) (by omega)]
      simp only [num8 a hi.a, num8 b hi.b, pl8 (px, py) hi.pos, pl8 (vx, vy) hi.vel, num8 ln hi.len]
      simp
    rw [if_neg k3] at hu h2
    by_cases k5 : k = 5
    · rw [if_pos k5] at hu h2
      subst k5
      injection hu with _ _ e2 e3 e4 _ e6 _ e8 e9 e10
      injection e4 with e41 e42
      subst e2 e3 e41 e42 e6 e8 e9 e10
      have e : leO ⟨5, i, 0, 0, (0, 0), (vx, vy), 0, sp, 0, 0, noS⟩ ++ r = leB 1 5 ++ (leB 8 i ++ (leB 8 vx ++ (leB 8 vy ++ (leB 8 sp ++ r)))) := by simp [leO, leF, fV]
      rw [e]
      unfold orderR0
      rw [num1 5 (by omega) (by omega)]
      simp only [num8 i hi.id, pl8 (vx, vy) hi.vel, num8 sp hi.spin]
      simp
    rw [if_neg k5] at hu h2
    by_cases k6 : k = 6
    · rw [if_pos k6] at hu h2
      subst k6
      injection hu with _ e1 e2 e3 e4 _ e6 e7 e8 e9 e10
      injection e4 with e41 e42
      subst e1 e2 e3 e41 e42 e6 e7 e8 e9 e10
      have e : leO ⟨6, 0, 0, 0, (0, 0), (vx, vy), 0, 0, 0, 0, noS⟩ ++ r = leB 1 6 ++ (leB 8 vx ++ (leB 8 vy ++ r)) := by simp [leO, leF, fV]
      rw [e]
      unfold orderR0
      rw [num1 6 (by omega) (by omega)]
      simp only [pl8 (vx, vy) hi.vel]
      simp
    rw [if_neg k6] at h2
    cases h2
  unfold orderR
  rw [h0]
  simp only
  rw [if_pos hr]
end
theorem osR_fwd (l : List Ord) (h : ∀ o ∈ l, rightO o = true ∧ IO o) (r : List UInt8) : osR l.length (l.flatMap leO ++ r, false) = some (l, (r, false)) := by
  induction l with
  | nil => simp [osR]
  | cons o l ih =>
    have ho := h o (by simp)
    have e : orderR ((o :: l).flatMap leO ++ r, false) = (o, (l.flatMap leO ++ r, false)) := by
      rw [List.flatMap_cons, List.append_assoc]; exact orderR_fwd o ho.1 ho.2 _
    rw [List.length_cons, osR_go _ _ (by rw [e]), e]
    simp only
    rw [ih (fun x hx => h x (by simp [hx]))]
    rfl
theorem readB_fwd (l : List Ord) (h : ∀ o ∈ l, rightO o = true ∧ IO o) (hn : l.length ≤ 64) : readB (leBatch l) = some l := by
  have h2 : numR 2 (leBatch l, false) = ((l.length : Int), (l.flatMap leO, false)) := by
    unfold leBatch
    rw [numR_app _ _ _ _ (by simp), rdNum, rdB_leB, show (256 : Int) ^ 2 = 65536 from rfl, IntWalk.wrap64_in _ (by omega)]
    congr 1
    omega
  have hc : countR 64 (leBatch l, false) = ((l.length : Int), (l.flatMap leO, false)) := by unfold countR; rw [h2, if_neg (by simp only; omega)]
  unfold readB
  rw [hc]
  simp only [Int.toNat_natCast]
  have := osR_fwd l h []
  rw [List.append_nil] at this
  rw [this]
  rfl
end Go.Proofs.Ytlicefbgcoddbaa
