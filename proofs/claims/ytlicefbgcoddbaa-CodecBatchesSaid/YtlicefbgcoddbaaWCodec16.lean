/- Words and walks that Codec rests on: OrderS. -/
import Derived.Test.YtlicefbgcoddbaaWCodec15
/- order.Same. -/
namespace Go.Proofs.Ytlicefbgcoddbaa
open Go.RowKit

set_option maxRecDepth 100000 in
set_option maxHeartbeats 8000000 in
theorem OSame_any (w : World) (x y : Ord) (pv qv : Value) (hx : VsS w pv x.shape.p) (hy : VsS w qv y.shape.p) : Calls Try.prog 25 #[vO x pv, vO y qv] w fun e w' => e = .returned (.bool (sameO x y)) ∧ Chg [] w w' := by
  obtain ⟨k, i, a, b, ⟨px, py⟩, ⟨vx, vy⟩, an, sp, de, ln, ⟨sk, sr, p⟩⟩ := x
  obtain ⟨k2, i2, a2, b2, ⟨px2, py2⟩, ⟨vx2, vy2⟩, an2, sp2, de2, ln2, ⟨sk2, sr2, p2⟩⟩ := y
  simp only at hx hy
  have hc1 := fun W (hW : Chg [] w W) => SSame_any W ⟨sk, sr, p⟩ ⟨sk2, sr2, p2⟩ pv qv (hx.k hW) (hy.k hW)
  unfold sameO vO
  unfold vS at hc1
  simp only at hc1 ⊢
  generalize sameS ⟨sk, sr, p⟩ ⟨sk2, sr2, p2⟩ = s at *
  obtain ⟨ao, c, rfl, -⟩ := hx.form
  obtain ⟨ao2, c2, rfl, -⟩ := hy.form
  clear hx hy
  generalize p.length = x1 at *
  generalize p2.length = x2 at *
  have hcb := ((Chg.refl [] w).alloc (.cells #[.int .i64 k, .int .i64 i, .int .i64 a, .int .i64 b, .int .i64 px, .int .i64 py, .int .i64 vx, .int .i64 vy, .int .i64 an, .int .i64 sp, .int .i64 de, .int .i64 ln, .int .i64 sk, .int .i64 sr, .slice ao x1 c] 35)).alloc (.cells #[.int .i64 k2, .int .i64 i2, .int .i64 a2, .int .i64 b2, .int .i64 px2, .int .i64 py2, .int .i64 vx2, .int .i64 vy2, .int .i64 an2, .int .i64 sp2, .int .i64 de2, .int .i64 ln2, .int .i64 sk2, .int .i64 sr2, .slice ao2 x2 c2] 35)
  have hk1 := (Blk.new w #[.int .i64 k, .int .i64 i, .int .i64 a, .int .i64 b, .int .i64 px, .int .i64 py, .int .i64 vx, .int .i64 vy, .int .i64 an, .int .i64 sp, .int .i64 de, .int .i64 ln, .int .i64 sk, .int .i64 sr, .slice ao x1 c] 35).alloc (.cells #[.int .i64 k2, .int .i64 i2, .int .i64 a2, .int .i64 b2, .int .i64 px2, .int .i64 py2, .int .i64 vx2, .int .i64 vy2, .int .i64 an2, .int .i64 sp2, .int .i64 de2, .int .i64 ln2, .int .i64 sk2, .int .i64 sr2, .slice ao2 x2 c2] 35)
  have hk2 := Blk.new (w.alloc (.cells #[.int .i64 k, .int .i64 i, .int .i64 a, .int .i64 b, .int .i64 px, .int .i64 py, .int .i64 vx, .int .i64 vy, .int .i64 an, .int .i64 sp, .int .i64 de, .int .i64 ln, .int .i64 sk, .int .i64 sr, .slice ao x1 c] 35)) #[.int .i64 k2, .int .i64 i2, .int .i64 a2, .int .i64 b2, .int .i64 px2, .int .i64 py2, .int .i64 vx2, .int .i64 vy2, .int .i64 an2, .int .i64 sp2, .int .i64 de2, .int .i64 ln2, .int .i64 sk2, .int .i64 sr2, .slice ao2 x2 c2] 35
  rw [show (w.alloc (.cells #[.int .i64 k, .int .i64 i, .int .i64 a, .int .i64 b, .int .i64 px, .int .i64 py, .int .i64 vx, .int .i64 vy, .int .i64 an, .int .i64 sp, .int .i64 de, .int .i64 ln, .int .i64 sk, .int .i64 sr, .slice ao x1 c] 35)).heap.size = w.heap.size + 1 by simp] at hk2
  have hc1 := hc1 _ hcb
  go_enter Try.func25, Try.ntmps25
  go_upto_region 1 with (fail)
  generalize (w.alloc (.cells #[.int .i64 k, .int .i64 i, .int .i64 a, .int .i64 b, .int .i64 px, .int .i64 py, .int .i64 vx, .int .i64 vy, .int .i64 an, .int .i64 sp, .int .i64 de, .int .i64 ln, .int .i64 sk, .int .i64 sr, .slice ao x1 c] 35)).alloc (.cells #[.int .i64 k2, .int .i64 i2, .int .i64 a2, .int .i64 b2, .int .i64 px2, .int .i64 py2, .int .i64 vx2, .int .i64 vy2, .int .i64 an2, .int .i64 sp2, .int .i64 de2, .int .i64 ln2, .int .i64 sk2, .int .i64 sr2, .slice ao2 x2 c2] 35) = w0 at *
  generalize w.heap.size + 1 = bk2 at *
  generalize w.heap.size = bk1 at *
  have HQ : Hd (∀ wx, Chg [] w0 wx → (wx.cell? ⟨bk1, 0, none⟩ = some (.int .i64 k) ∧ wx.cell? ⟨bk1, 1, none⟩ = some (.int .i64 i) ∧ wx.cell? ⟨bk1, 2, none⟩ = some (.int .i64 a) ∧ wx.cell? ⟨bk1, 3, none⟩ = some (.int .i64 b) ∧ wx.cell? ⟨bk1, 4, none⟩ = some (.int .i64 px) ∧ wx.cell? ⟨bk1, 5, none⟩ = some (.int .i64 py) ∧ wx.cell? ⟨bk1, 6, none⟩ = some (.int .i64 vx) ∧ wx.cell? ⟨bk1, 7, none⟩ = some (.int .i64 vy) ∧ wx.cell? ⟨bk1, 8, none⟩ = some (.int .i64 an) ∧ wx.cell? ⟨bk1, 9, none⟩ = some (.int .i64 sp) ∧ wx.cell? ⟨bk1, 10, none⟩ = some (.int .i64 de) ∧ wx.cell? ⟨bk1, 11, none⟩ = some (.int .i64 ln) ∧ wx.cell? ⟨bk1, 12, none⟩ = some (.int .i64 sk) ∧ wx.cell? ⟨bk1, 13, none⟩ = some (.int .i64 sr) ∧ wx.cell? ⟨bk1, 14, none⟩ = some (.slice ao x1 c) ∧ wx.cell? ⟨bk2, 0, none⟩ = some (.int .i64 k2) ∧ wx.cell? ⟨bk2, 1, none⟩ = some (.int .i64 i2) ∧ wx.cell? ⟨bk2, 2, none⟩ = some (.int .i64 a2) ∧ wx.cell? ⟨bk2, 3, none⟩ = some (.int .i64 b2) ∧ wx.cell? ⟨bk2, 4, none⟩ = some (.int .i64 px2) ∧ wx.cell? ⟨bk2, 5, none⟩ = some (.int .i64 py2) ∧ wx.cell? ⟨bk2, 6, none⟩ = some (.int .i64 vx2) ∧ wx.cell? ⟨bk2, 7, none⟩ = some (.int .i64 vy2) ∧ wx.cell? ⟨bk2, 8, none⟩ = some (.int .i64 an2) ∧ wx.cell? ⟨bk2, 9, none⟩ = some (.int .i64 sp2) ∧ wx.cell? ⟨bk2, 10, none⟩ = some (.int .i64 de2) ∧ wx.cell? ⟨bk2, 11, none⟩ = some (.int .i64 ln2) ∧ wx.cell? ⟨bk2, 12, none⟩ = some (.int .i64 sk2) ∧ wx.cell? ⟨bk2, 13, none⟩ = some (.int .i64 sr2) ∧ wx.cell? ⟨bk2, 14, none⟩ = some (.slice ao2 x2 c2))) :=
    hd fun wx hx => ⟨hx.cellS (hk1.cell 0), hx.cellS (hk1.cell 1), hx.cellS (hk1.cell 2), hx.cellS (hk1.cell 3), hx.cellS (hk1.cell 4), hx.cellS (hk1.cell 5), hx.cellS (hk1.cell 6), hx.cellS (hk1.cell 7), hx.cellS (hk1.cell 8), hx.cellS (hk1.cell 9), hx.cellS (hk1.cell 10), hx.cellS (hk1.cell 11), hx.cellS (hk1.cell 12), hx.cellS (hk1.cell 13), hx.cellS (hk1.cell 14), hx.cellS (hk2.cell 0), hx.cellS (hk2.cell 1), hx.cellS (hk2.cell 2), hx.cellS (hk2.cell 3), hx.cellS (hk2.cell 4), hx.cellS (hk2.cell 5), hx.cellS (hk2.cell 6), hx.cellS (hk2.cell 7), hx.cellS (hk2.cell 8), hx.cellS (hk2.cell 9), hx.cellS (hk2.cell 10), hx.cellS (hk2.cell 11), hx.cellS (hk2.cell 12), hx.cellS (hk2.cell 13), hx.cellS (hk2.cell 14)⟩
  have HCB := hd hcb
  clear hcb hk1 hk2
  obtain ⟨q0, q1, q2, q3, q4, q5, q6, q7, q8, q9, q10, q11, q12, q13, q14, u0, u1, u2, u3, u4, u5, u6, u7, u8, u9, u10, u11, u12, u13, u14⟩ := HQ.out w0 (Chg.refl _ _)
  cases s
  · go_wp2_with (first
      | (go_at_call 54; refine hc1.mono ?_; rintro e w1 ⟨rfl, hk1⟩))
    go_ret
    exact ⟨rfl, HCB.out.k hk1⟩
  go_wp2_with (first
      | (go_at_call 54; refine hc1.mono ?_; rintro e w1 ⟨rfl, hk1⟩; obtain ⟨q0, q1, q2, q3, q4, q5, q6, q7, q8, q9, q10, q11, q12, q13, q14, u0, u1, u2, u3, u4, u5, u6, u7, u8, u9, u10, u11, u12, u13, u14⟩ := HQ.out w1 hk1))
  all_goals (first | go_ret | skip)
  all_goals (try refine ⟨ret_of (congrArg Value.bool ?_), HCB.out.k hk1⟩)
  all_goals clear HQ hc1 HCB q0 q1 q2 q3 q4 q5 q6 q7 q8 q9 q10 q11 q12 q13 q14 u0 u1 u2 u3 u4 u5 u6 u7 u8 u9 u10 u11 u12 u13 u14
  all_goals (first | (simp_all; done) | (simp_all; rfl))
end Go.Proofs.Ytlicefbgcoddbaa
