/- Words and walks that Apart rests on: DeedBd. -/
import Derived.Test.YtpadflhffiiglaaGreatWApart34
/- Bodies of deeds. -/
namespace Go.Proofs.YtpadflhffiiglaaGreat
open Go.RowKit

set_option maxRecDepth 100000 in
set_option maxHeartbeats 4000000 in
theorem DeedBody_any (d : Deed) (pv : Value) (w : World) (hpv : VsS w pv d.raw.shape.p) : Calls Tryz.prog 25 #[vD d pv] w fun e w' => ∃ bv, e = .returned (vB (bodyD d) bv) ∧ VsS w' bv (bodyD d).shape.p ∧ Chg [] w w' ∧ (bv = pv ∨ ∀ k, bv.ownBlock = some k → w.heap.size ≤ k) := by
  unfold bodyD
  obtain ⟨kd, ⟨⟨sk, sn, sz, st⟩, ⟨px, py⟩, pa⟩, ⟨vx, vy⟩, sp, de, a, b, ⟨ax, ay⟩, ⟨tx, ty⟩, le, ⟨ri, ⟨rpx, rpy⟩, ⟨rvx, rvy⟩, ra, rs, rd, ⟨rk, rr, rp⟩⟩⟩ := d
  obtain ⟨ap, cp, rfl, -⟩ := hpv.form
  unfold vD cD
  simp only
  have h0 := fun W => PlaceBody_any ⟨⟨sk, sn, sz, st⟩, (px, py), pa⟩ W
  have h1 := fun W => VBring_any (vx, vy) 85899345920 (by unfold S64; omega) W
  have h2 := fun W => Bring_any sp (-85899345920) 85899345920 W
  have u1 : bits .and .i64 kd 15 = kd % 16 := and_mask kd 4 (by decide)
  have u2 : bits .and .i64 de 3 = de % 4 := and_mask de 2 (by decide)
  have u3 : bits .and .i64 de 34359738367 = de % 34359738368 := and_mask de 35 (by decide)
  have u4 : 0 ≤ de % 34359738368 ∧ de % 34359738368 < 34359738368 := by omega
  generalize bodyPl ⟨⟨sk, sn, sz, st⟩, (px, py), pa⟩ = B at *
  obtain ⟨Bi, ⟨Bx, By⟩, ⟨Bvx, Bvy⟩, Ba, Bs', Bd, ⟨Bk, Br, Bp⟩⟩ := B
  generalize bringV (vx, vy) 85899345920 = p1 at *
  obtain ⟨vx', vy'⟩ := p1
  generalize bringF sp (-85899345920) 85899345920 = sp' at *
  unfold vPl vB at h0
  unfold vV at h1
  simp only at h0 h1 ⊢
  generalize de % 34359738368 = d35 at *
  by_cases k1 : kd % 16 = 15
  · rw [if_pos k1]
    rw [k1] at u1
    clear k1
    unfold vB
    simp only
    go_enter Tryz.func25, Tryz.ntmps25
    go_wp2
    refine bodyPost_ret (v := .agg #[.int .i64 ri, .int .i64 rpx, .int .i64 rpy, .int .i64 rvx, .int .i64 rvy, .int .i64 ra, .int .i64 rs, .int .i64 rd, .int .i64 rk, .int .i64 rr, .slice ap rp.length cp]) (by simp only [results]; go_simp) rfl ⟨_, rfl, ?_, ((Chg.refl [] w).alloc _).alloc _, .inl rfl⟩
    exact hpv.k (((Chg.refl [] w).alloc _).alloc _)
  rw [if_neg k1]
  have g1 : (kd % 16 == 15) = false := by rw [beq_eq_false_iff_ne]; exact k1
  clear k1
  generalize kd % 16 = k16 at *
  by_cases k2 : de % 4 = 0
  · rw [if_pos k2]
    rw [k2] at u2
    clear k2
    unfold vB
    simp only
    have hX := (Blk.new w #[.int .i64 kd, .int .i64 sk, .int .i64 sn, .int .i64 sz, .int .i64 st, .int .i64 px, .int .i64 py, .int .i64 pa, .int .i64 vx, .int .i64 vy, .int .i64 sp, .int .i64 de, .int .i64 a, .int .i64 b, .int .i64 ax, .int .i64 ay, .int .i64 tx, .int .i64 ty, .int .i64 le, .int .i64 ri, .int .i64 rpx, .int .i64 rpy, .int .i64 rvx, .int .i64 rvy, .int .i64 ra, .int .i64 rs, .int .i64 rd, .int .i64 rk, .int .i64 rr, .slice ap rp.length cp] 36).alloc (.cells #[.int .i64 0, .int .i64 0, .int .i64 0, .int .i64 0, .int .i64 0, .int .i64 0, .int .i64 0, .int .i64 0, .int .i64 0, .int .i64 0, .slice none 0 0] 34)
    have hY := Blk.new (w.alloc (.cells #[.int .i64 kd, .int .i64 sk, .int .i64 sn, .int .i64 sz, .int .i64 st, .int .i64 px, .int .i64 py, .int .i64 pa, .int .i64 vx, .int .i64 vy, .int .i64 sp, .int .i64 de, .int .i64 a, .int .i64 b, .int .i64 ax, .int .i64 ay, .int .i64 tx, .int .i64 ty, .int .i64 le, .int .i64 ri, .int .i64 rpx, .int .i64 rpy, .int .i64 rvx, .int .i64 rvy, .int .i64 ra, .int .i64 rs, .int .i64 rd, .int .i64 rk, .int .i64 rr, .slice ap rp.length cp] 36)) #[.int .i64 0, .int .i64 0, .int .i64 0, .int .i64 0, .int .i64 0, .int .i64 0, .int .i64 0, .int .i64 0, .int .i64 0, .int .i64 0, .slice none 0 0] 34
    rw [World.size_alloc] at hY
    have hc := ((Chg.refl [] w).alloc (.cells #[.int .i64 kd, .int .i64 sk, .int .i64 sn, .int .i64 sz, .int .i64 st, .int .i64 px, .int .i64 py, .int .i64 pa, .int .i64 vx, .int .i64 vy, .int .i64 sp, .int .i64 de, .int .i64 a, .int .i64 b, .int .i64 ax, .int .i64 ay, .int .i64 tx, .int .i64 ty, .int .i64 le, .int .i64 ri, .int .i64 rpx, .int .i64 rpy, .int .i64 rvx, .int .i64 rvy, .int .i64 ra, .int .i64 rs, .int .i64 rd, .int .i64 rk, .int .i64 rr, .slice ap rp.length cp] 36)).alloc (.cells #[.int .i64 0, .int .i64 0, .int .i64 0, .int .i64 0, .int .i64 0, .int .i64 0, .int .i64 0, .int .i64 0, .int .i64 0, .int .i64 0, .slice none 0 0] 34)
    go_enter Tryz.func25, Tryz.ntmps25
    go_upto_region 1 with (fail)
    generalize (w.alloc (.cells #[.int .i64 kd, .int .i64 sk, .int .i64 sn, .int .i64 sz, .int .i64 st, .int .i64 px, .int .i64 py, .int .i64 pa, .int .i64 vx, .int .i64 vy, .int .i64 sp, .int .i64 de, .int .i64 a, .int .i64 b, .int .i64 ax, .int .i64 ay, .int .i64 tx, .int .i64 ty, .int .i64 le, .int .i64 ri, .int .i64 rpx, .int .i64 rpy, .int .i64 rvx, .int .i64 rvy, .int .i64 ra, .int .i64 rs, .int .i64 rd, .int .i64 rk, .int .i64 rr, .slice ap rp.length cp] 36)).alloc (.cells #[.int .i64 0, .int .i64 0, .int .i64 0, .int .i64 0, .int .i64 0, .int .i64 0, .int .i64 0, .int .i64 0, .int .i64 0, .int .i64 0, .slice none 0 0] 34) = w0 at *
    obtain ⟨kb, hkb⟩ : ∃ kb, kb = w.heap.size + 1 := ⟨_, rfl⟩
    obtain ⟨xb, hxb⟩ : ∃ xb, xb = w.heap.size := ⟨_, rfl⟩
    rw [← hkb] at hY ⊢
    rw [← hxb] at hX ⊢
    have HT : Hd (xb = w.heap.size ∧ kb = w.heap.size + 1) := hd ⟨hxb, hkb⟩
    have HKS : Hd (kb < w0.heap.size) := hd hY.lt
    clear hkb hxb
    have HX := hd hX
    have HC := hd hc
    have HNK : Hd (w.heap.size ≤ w0.heap.size) := hd hc.size
    have HY := hd hY
    have q0 := hX.cell 0
    have q1 := hX.cell 1
    have q2 := hX.cell 2
    have q3 := hX.cell 3
    have q4 := hX.cell 4
    have q5 := hX.cell 5
    have q6 := hX.cell 6
    have q7 := hX.cell 7
    simp at q0 q1 q2 q3 q4 q5 q6 q7
    clear hX hc hY
    go_upto_region 4 with (go_at_call 65; refine (h0 _).mono ?_; rintro e w1 ⟨bv, rfl, hv, hm, hpo⟩; obtain ⟨ab, cb, rfl, -⟩ := hv.form)
    have hZ := Blk.new w1 #[.int .i64 Bi, .int .i64 Bx, .int .i64 By, .int .i64 Bvx, .int .i64 Bvy, .int .i64 Ba, .int .i64 Bs', .int .i64 Bd, .int .i64 Bk, .int .i64 Br, .slice ab Bp.length cb] 34
    have hcA := hm.alloc (.cells #[.int .i64 Bi, .int .i64 Bx, .int .i64 By, .int .i64 Bvx, .int .i64 Bvy, .int .i64 Ba, .int .i64 Bs', .int .i64 Bd, .int .i64 Bk, .int .i64 Br, .slice ab Bp.length cb] 34)
    have hX2 := HX.out.k hcA
    have hY2 := HY.out.k hcA
    have hv2 := hv.k ((Chg.refl [] w1).alloc (.cells #[.int .i64 Bi, .int .i64 Bx, .int .i64 By, .int .i64 Bvx, .int .i64 Bvy, .int .i64 Ba, .int .i64 Bs', .int .i64 Bd, .int .i64 Bk, .int .i64 Br, .slice ab Bp.length cb] 34))
    have hM2 := HC.out.k' hcA
    have hsz1 := hm.size
    have hvlt := hv.own
    generalize w1.alloc (.cells #[.int .i64 Bi, .int .i64 Bx, .int .i64 By, .int .i64 Bvx, .int .i64 Bvy, .int .i64 Ba, .int .i64 Bs', .int .i64 Bd, .int .i64 Bk, .int .i64 Br, .slice ab Bp.length cb] 34) = w2 at *
    obtain ⟨tb, htb⟩ : ∃ tb, tb = w1.heap.size := ⟨_, rfl⟩
    rw [← htb] at hZ hsz1 hvlt ⊢
    have HT2 : Hd (xb = w.heap.size ∧ kb = w.heap.size + 1 ∧ kb < tb) := hd (by have := HT.out; have := HKS.out; omega)
    have HPO : Hd (∀ k, (Value.slice ab Bp.length cb).ownBlock = some k → w0.heap.size ≤ k) := hd hpo
    have HVL : Hd (0 < Bp.length → ∀ k, (Value.slice ab Bp.length cb).ownBlock = some k → k < tb) := hd hvlt
    have HX2 := hd hX2
    have HY2 := hd hY2
    have HV2 := hd hv2
    have HM2 := hd hM2
    clear hX2 hY2 hv2 hM2 hcA hm hpo hv HX HY HC htb hsz1 hvlt q0 q1 q2 q3 q4 q5 q6 q7
    have q11 := HX2.out.cell 11
    simp at q11
    have k4 := hZ
    have kB4 := HY2.out
    go_wp2_with (first | (refine wpList_load_row rfl _ _ rfl tb rfl 34 _ (0, 0) _ k4 Tryz.underlying34 rfl (by kernel_rfl) ?_) | (refine wpList_store_row rfl _ _ _ rfl kb #[.int .i64 Bi, .int .i64 Bx, .int .i64 By, .int .i64 Bvx, .int .i64 Bvy, .int .i64 Ba, .int .i64 Bs', .int .i64 Bd, .int .i64 Bk, .int .i64 Br, .slice ab Bp.length cb] rfl rfl 34 _ kB4 (by kernel_rfl) (by simp) (by simp [Value.oneCell']) ?_))
    have k5 : Blk (w2.setRow kb #[.int .i64 Bi, .int .i64 Bx, .int .i64 By, .int .i64 Bvx, .int .i64 Bvy, .int .i64 Ba, .int .i64 Bs', .int .i64 Bd, .int .i64 Bk, .int .i64 Br, .slice ab Bp.length cb]) kb #[.int .i64 Bi, .int .i64 Bx, .int .i64 By, .int .i64 Bvx, .int .i64 Bvy, .int .i64 Ba, .int .i64 Bs', .int .i64 Bd, .int .i64 Bk, .int .i64 Br, .slice ab Bp.length cb] 34 := kB4.row
    have hs5 := Chg.row (Chg.refl [kb] w2) kb #[.int .i64 Bi, .int .i64 Bx, .int .i64 By, .int .i64 Bvx, .int .i64 Bvy, .int .i64 Ba, .int .i64 Bs', .int .i64 Bd, .int .i64 Bk, .int .i64 Br, .slice ab Bp.length cb] (by simp)
    refine bodyPost_ret (results_cell_row rfl _ _ kb 34 _ (0, 0) _ rfl k5 Tryz.underlying34 rfl (by kernel_rfl)) rfl ⟨_, rfl, ?_, ?_, .inr (fun k' hk' => by have := HPO.out k' hk'; have := HNK.out; omega)⟩
    · exact Rd.keep HV2.out hs5 (fun _ k' hk' hx => by have := HPO.out k' hk'; have := HKS.out; simp at hx; omega)
    · exact HM2.out.trans hs5 (fun x hx hl => by have := HT2.out; simp at hx; omega)
  · rw [if_neg k2]
    have g2 : (de % 4 == 0) = false := by rw [beq_eq_false_iff_ne]; exact k2
    clear k2
    generalize de % 4 = k4' at *
    unfold vB
    simp only
    have hX := (Blk.new w #[.int .i64 kd, .int .i64 sk, .int .i64 sn, .int .i64 sz, .int .i64 st, .int .i64 px, .int .i64 py, .int .i64 pa, .int .i64 vx, .int .i64 vy, .int .i64 sp, .int .i64 de, .int .i64 a, .int .i64 b, .int .i64 ax, .int .i64 ay, .int .i64 tx, .int .i64 ty, .int .i64 le, .int .i64 ri, .int .i64 rpx, .int .i64 rpy, .int .i64 rvx, .int .i64 rvy, .int .i64 ra, .int .i64 rs, .int .i64 rd, .int .i64 rk, .int .i64 rr, .slice ap rp.length cp] 36).alloc (.cells #[.int .i64 0, .int .i64 0, .int .i64 0, .int .i64 0, .int .i64 0, .int .i64 0, .int .i64 0, .int .i64 0, .int .i64 0, .int .i64 0, .slice none 0 0] 34)
    have hY := Blk.new (w.alloc (.cells #[.int .i64 kd, .int .i64 sk, .int .i64 sn, .int .i64 sz, .int .i64 st, .int .i64 px, .int .i64 py, .int .i64 pa, .int .i64 vx, .int .i64 vy, .int .i64 sp, .int .i64 de, .int .i64 a, .int .i64 b, .int .i64 ax, .int .i64 ay, .int .i64 tx, .int .i64 ty, .int .i64 le, .int .i64 ri, .int .i64 rpx, .int .i64 rpy, .int .i64 rvx, .int .i64 rvy, .int .i64 ra, .int .i64 rs, .int .i64 rd, .int .i64 rk, .int .i64 rr, .slice ap rp.length cp] 36)) #[.int .i64 0, .int .i64 0, .int .i64 0, .int .i64 0, .int .i64 0, .int .i64 0, .int .i64 0, .int .i64 0, .int .i64 0, .int .i64 0, .slice none 0 0] 34
    rw [World.size_alloc] at hY
    have hc := ((Chg.refl [] w).alloc (.cells #[.int .i64 kd, .int .i64 sk, .int .i64 sn, .int .i64 sz, .int .i64 st, .int .i64 px, .int .i64 py, .int .i64 pa, .int .i64 vx, .int .i64 vy, .int .i64 sp, .int .i64 de, .int .i64 a, .int .i64 b, .int .i64 ax, .int .i64 ay, .int .i64 tx, .int .i64 ty, .int .i64 le, .int .i64 ri, .int .i64 rpx, .int .i64 rpy, .int .i64 rvx, .int .i64 rvy, .int .i64 ra, .int .i64 rs, .int .i64 rd, .int .i64 rk, .int .i64 rr, .slice ap rp.length cp] 36)).alloc (.cells #[.int .i64 0, .int .i64 0, .int .i64 0, .int .i64 0, .int .i64 0, .int .i64 0, .int .i64 0, .int .i64 0, .int .i64 0, .int .i64 0, .slice none 0 0] 34)
    go_enter Tryz.func25, Tryz.ntmps25
    go_upto_region 1 with (fail)
    generalize (w.alloc (.cells #[.int .i64 kd, .int .i64 sk, .int .i64 sn, .int .i64 sz, .int .i64 st, .int .i64 px, .int .i64 py, .int .i64 pa, .int .i64 vx, .int .i64 vy, .int .i64 sp, .int .i64 de, .int .i64 a, .int .i64 b, .int .i64 ax, .int .i64 ay, .int .i64 tx, .int .i64 ty, .int .i64 le, .int .i64 ri, .int .i64 rpx, .int .i64 rpy, .int .i64 rvx, .int .i64 rvy, .int .i64 ra, .int .i64 rs, .int .i64 rd, .int .i64 rk, .int .i64 rr, .slice ap rp.length cp] 36)).alloc (.cells #[.int .i64 0, .int .i64 0, .int .i64 0, .int .i64 0, .int .i64 0, .int .i64 0, .int .i64 0, .int .i64 0, .int .i64 0, .int .i64 0, .slice none 0 0] 34) = w0 at *
    obtain ⟨kb, hkb⟩ : ∃ kb, kb = w.heap.size + 1 := ⟨_, rfl⟩
    obtain ⟨xb, hxb⟩ : ∃ xb, xb = w.heap.size := ⟨_, rfl⟩
    rw [← hkb] at hY ⊢
    rw [← hxb] at hX ⊢
    have HT : Hd (xb = w.heap.size ∧ kb = w.heap.size + 1) := hd ⟨hxb, hkb⟩
    have HKS : Hd (kb < w0.heap.size) := hd hY.lt
    clear hkb hxb
    have HX := hd hX
    have HC := hd hc
    have HNK : Hd (w.heap.size ≤ w0.heap.size) := hd hc.size
    have HY := hd hY
    have q0 := hX.cell 0
    have q1 := hX.cell 1
    have q2 := hX.cell 2
    have q3 := hX.cell 3
    have q4 := hX.cell 4
    have q5 := hX.cell 5
    have q6 := hX.cell 6
    have q7 := hX.cell 7
    simp at q0 q1 q2 q3 q4 q5 q6 q7
    clear hX hc hY
    go_upto_region 4 with (go_at_call 65; refine (h0 _).mono ?_; rintro e w1 ⟨bv, rfl, hv, hm, hpo⟩; obtain ⟨ab, cb, rfl, -⟩ := hv.form)
    have hZ := Blk.new w1 #[.int .i64 Bi, .int .i64 Bx, .int .i64 By, .int .i64 Bvx, .int .i64 Bvy, .int .i64 Ba, .int .i64 Bs', .int .i64 Bd, .int .i64 Bk, .int .i64 Br, .slice ab Bp.length cb] 34
    have hcA := hm.alloc (.cells #[.int .i64 Bi, .int .i64 Bx, .int .i64 By, .int .i64 Bvx, .int .i64 Bvy, .int .i64 Ba, .int .i64 Bs', .int .i64 Bd, .int .i64 Bk, .int .i64 Br, .slice ab Bp.length cb] 34)
    have hX2 := HX.out.k hcA
    have hY2 := HY.out.k hcA
    have hv2 := hv.k ((Chg.refl [] w1).alloc (.cells #[.int .i64 Bi, .int .i64 Bx, .int .i64 By, .int .i64 Bvx, .int .i64 Bvy, .int .i64 Ba, .int .i64 Bs', .int .i64 Bd, .int .i64 Bk, .int .i64 Br, .slice ab Bp.length cb] 34))
    have hM2 := HC.out.k' hcA
    have hsz1 := hm.size
    have hvlt := hv.own
    generalize w1.alloc (.cells #[.int .i64 Bi, .int .i64 Bx, .int .i64 By, .int .i64 Bvx, .int .i64 Bvy, .int .i64 Ba, .int .i64 Bs', .int .i64 Bd, .int .i64 Bk, .int .i64 Br, .slice ab Bp.length cb] 34) = w2 at *
    obtain ⟨tb, htb⟩ : ∃ tb, tb = w1.heap.size := ⟨_, rfl⟩
    rw [← htb] at hZ hsz1 hvlt ⊢
    have HT2 : Hd (xb = w.heap.size ∧ kb = w.heap.size + 1 ∧ kb < tb) := hd (by have := HT.out; have := HKS.out; omega)
    have HPO : Hd (∀ k, (Value.slice ab Bp.length cb).ownBlock = some k → w0.heap.size ≤ k) := hd hpo
    have HVL : Hd (0 < Bp.length → ∀ k, (Value.slice ab Bp.length cb).ownBlock = some k → k < tb) := hd hvlt
    have HX2 := hd hX2
    have HY2 := hd hY2
    have HV2 := hd hv2
    have HM2 := hd hM2
    clear hX2 hY2 hv2 hM2 hcA hm hpo hv HX HY HC htb hsz1 hvlt q0 q1 q2 q3 q4 q5 q6 q7
    have q11 := HX2.out.cell 11
    simp at q11
    have z7 := hZ.cell 7
    have y7 := hZ.free 7
    simp at z7
    go_upto_region 7 with (fail)
    have hZ3 := hZ.set 7 (.int .i64 (1 + d35))
    simp at hZ3
    have hs3 := (Chg.refl [tb] w2).setCell ⟨tb, 7, none⟩ (.int .i64 (1 + d35)) (by simp)
    have hX3 := HX2.out.chg hs3 (by have := HT2.out; simp; omega)
    have hY3 := HY2.out.chg hs3 (by have := HT2.out; simp; omega)
    have hV3 := Rd.keep HV2.out hs3 (fun hn k hk hx => by have := HVL.out hn k hk; simp at hx; omega)
    have hM3 := HM2.out.trans hs3 (fun x hx hl => by have := HT2.out; simp at hx; omega)
    clear z7 y7 hZ hs3 q11
    generalize w2.setCell ⟨tb, 7, none⟩ (.int .i64 (1 + d35)) = w3 at *
    have HX3 := hd hX3
    have HY3 := hd hY3
    have HV3 := hd hV3
    have HM3 := hd hM3
    have hT := hZ3.k (Chg.refl [] w3).drew
    have NX : Hd (xb ∉ [tb]) := hd (by have := HT2.out; simp; omega)
    clear hX3 hY3 hV3 hM3 hZ3 HX2 HY2 HV2 HM2
    refine anyH_start (n := 10) (L := #[false, false, false, false, false, false, false, false, false, false]) (by kernel_rfl) (by kernel_rfl) (S := (fun wx => Chg [tb] w3 wx)) ((Chg.refl _ _).drew) (fun hHeld => ?_)
    generalize w3.drew = w3d at *
    refine anyH_take (i := 0) (d := 23) (L' := #[true, false, false, false, false, false, false, false, false, false]) (v := ?v2) rfl rfl (by kernel_rfl) (fun _ _ _ h => h) (by rfl) ?hy2 (by assumption) ?rest2
    case hy2 => (intro wx hSw; (try dsimp only at hSw); (have hx := HX3.out.chg hSw NX.out; have t8 := hx.cell 8; have t9 := hx.cell 9; have t10 := hx.cell 10; simp at t8 t9 t10); go_simp; (try with_reducible rfl))
    simp only [Act.put, List.setIfInBounds_toArray, List.set_cons_zero, List.set_cons_succ]
    refine anyH_take (i := 1) (d := 24) (L' := #[true, true, false, false, false, false, false, false, false, false]) (v := ?v3) rfl rfl (by kernel_rfl) (fun _ _ _ h => h) (by rfl) ?hy3 (by assumption) ?rest3
    case hy3 => (intro wx hSw; (try dsimp only at hSw); (have hx := HX3.out.chg hSw NX.out; have t8 := hx.cell 8; have t9 := hx.cell 9; have t10 := hx.cell 10; simp at t8 t9 t10); go_simp; (try with_reducible rfl))
    simp only [Act.put, List.setIfInBounds_toArray, List.set_cons_zero, List.set_cons_succ]
    refine anyH_take (i := 3) (d := 26) (L' := #[true, true, false, true, false, false, false, false, false, false]) (v := ?v4) rfl rfl (by kernel_rfl) (fun _ _ _ h => h) (by rfl) ?hy4 (by assumption) ?rest4
    case hy4 => (intro wx hSw; (try dsimp only at hSw); (have hx := HX3.out.chg hSw NX.out; have t8 := hx.cell 8; have t9 := hx.cell 9; have t10 := hx.cell 10; simp at t8 t9 t10); go_simp; (try with_reducible rfl))
    simp only [Act.put, List.setIfInBounds_toArray, List.set_cons_zero, List.set_cons_succ]
    refine anyH_take (i := 4) (d := 27) (L' := #[true, true, false, true, true, false, false, false, false, false]) (v := ?v5) rfl rfl (by kernel_rfl) (fun _ _ _ h => h) (by rfl) ?hy5 (by assumption) ?rest5
    case hy5 => (intro wx hSw; (try dsimp only at hSw); (have hx := HX3.out.chg hSw NX.out; have t8 := hx.cell 8; have t9 := hx.cell 9; have t10 := hx.cell 10; simp at t8 t9 t10); go_simp; (try with_reducible rfl))
    simp only [Act.put, List.setIfInBounds_toArray, List.set_cons_zero, List.set_cons_succ]
    refine anyH_run (i := 2) (L' := #[true, true, true, true, true, false, false, false, false, false]) rfl (by kernel_rfl) (by rfl) (fun KK hKK => ?_)
    go_simp
    (refine (h1 _).mono ?_; rintro e w5 ⟨rfl, hm0⟩; have hm := Chg.k' hHeld hm0; replace hT := hT.k hm0; clear hm0; (try go_simp))
    refine hKK.out _ _ (by assumption) (fun hHeld => ?_)
    clear hKK KK
    try simp only [Act.put, List.setIfInBounds_toArray, List.set_cons_zero, List.set_cons_succ]
    refine anyH_take (i := 6) (d := 29) (L' := #[true, true, true, true, true, false, true, false, false, false]) (v := ?v7) rfl rfl (by kernel_rfl) (fun _ _ _ h => h) (by rfl) ?hy7 (by assumption) ?rest7
    case hy7 => (intro wx hSw; (try dsimp only at hSw); (have hx := HX3.out.chg hSw NX.out; have t8 := hx.cell 8; have t9 := hx.cell 9; have t10 := hx.cell 10; simp at t8 t9 t10); go_simp; (try with_reducible rfl))
    simp only [Act.put, List.setIfInBounds_toArray, List.set_cons_zero, List.set_cons_succ]
    refine anyH_run (i := 5) (L' := #[true, true, true, true, true, true, true, false, false, false]) rfl (by kernel_rfl) (by rfl) (fun KK hKK => ?_)
    go_simp
    (refine (h2 _).mono ?_; rintro e w6 ⟨rfl, rfl⟩; have hm := hHeld; have c3 := hT.cell 3; have c4 := hT.cell 4; have f3 := hT.free 3; have f4 := hT.free 4; simp at c3 c4; (try go_simp))
    refine hKK.out _ _ (by assumption) (fun hHeld => ?_)
    clear hKK KK
    try simp only [Act.put, List.setIfInBounds_toArray, List.set_cons_zero, List.set_cons_succ]
    refine anyH_run (i := 7) (L' := #[true, true, true, true, true, true, true, true, false, false]) rfl (by kernel_rfl) (by rfl) (fun KK hKK => ?_)
    go_simp
    (have hs7 := (Chg.setCell (Chg.setCell hHeld ⟨tb, 3, none⟩ (.int .i64 vx') (by simp)) ⟨tb, 4, none⟩ (.int .i64 vy') (by simp)); have hT7 := (hT.set 3 (.int .i64 vx')).set 4 (.int .i64 vy'); simp at hT7; have c6 := hT7.cell 6; have f6 := hT7.free 6; simp at c6)
    refine hKK.out _ _ (by assumption) (fun hHeld => ?_)
    clear hKK KK
    try simp only [Act.put, List.setIfInBounds_toArray, List.set_cons_zero, List.set_cons_succ]
    refine anyH_take (i := 8) (d := 30) (L' := #[true, true, true, true, true, true, true, true, true, false]) (v := ?v10) rfl rfl (by kernel_rfl) (fun _ _ _ h => h) (by rfl) ?hy10 (by assumption) ?rest10
    case hy10 => (intro wx hSw; (try dsimp only at hSw); (have hx := HX3.out.chg hSw NX.out; have t8 := hx.cell 8; have t9 := hx.cell 9; have t10 := hx.cell 10; simp at t8 t9 t10); go_simp; (try with_reducible rfl))
    simp only [Act.put, List.setIfInBounds_toArray, List.set_cons_zero, List.set_cons_succ]
    refine anyH_run (i := 9) (L' := #[true, true, true, true, true, true, true, true, true, true]) rfl (by kernel_rfl) (by rfl) (fun KK hKK => ?_)
    go_simp
    (have hT9 := hT7.set 6 (.int .i64 sp'); have hs9 := Chg.setCell hHeld ⟨tb, 6, none⟩ (.int .i64 sp') (by simp); simp at hT9)
    refine hKK.out _ _ (by assumption) (fun hHeld => ?_)
    clear hKK KK
    try simp only [Act.put, List.setIfInBounds_toArray, List.set_cons_zero, List.set_cons_succ]
    refine wpAnyH_done (by kernel_rfl) ?_ _
    skip
    have hY4 := HY3.out.chg hs9 (by have := HT2.out; simp; omega)
    have hV4 := Rd.keep HV3.out hs9 (fun hn k hk hx => by have := HVL.out hn k hk; simp at hx; omega)
    have hM4 := HM3.out.trans hs9 (fun x hx hl => by have := HT2.out; simp at hx; omega)
    clear hs7 hT7 c6 f6 c3 c4 f3 f4 hHeld hs9 hm
    generalize ((w6.setCell ⟨tb, 3, none⟩ (.int .i64 vx')).setCell ⟨tb, 4, none⟩ (.int .i64 vy')).setCell ⟨tb, 6, none⟩ (.int .i64 sp') = w9 at *
    have kB4 := hY4
    have HV4 := hd hV4
    have HM4 := hd hM4
    clear hV4 hM4
    go_wp2_with (first | (refine wpList_load_row rfl _ _ rfl tb rfl 34 _ (0, 0) _ hT9 Tryz.underlying34 rfl (by kernel_rfl) ?_) | (refine wpList_store_row rfl _ _ _ rfl kb #[.int .i64 Bi, .int .i64 Bx, .int .i64 By, .int .i64 vx', .int .i64 vy', .int .i64 Ba, .int .i64 sp', .int .i64 (1 + d35), .int .i64 Bk, .int .i64 Br, .slice ab Bp.length cb] rfl rfl 34 _ kB4 (by kernel_rfl) (by simp) (by simp [Value.oneCell']) ?_))
    have k5 : Blk (w9.setRow kb #[.int .i64 Bi, .int .i64 Bx, .int .i64 By, .int .i64 vx', .int .i64 vy', .int .i64 Ba, .int .i64 sp', .int .i64 (1 + d35), .int .i64 Bk, .int .i64 Br, .slice ab Bp.length cb]) kb #[.int .i64 Bi, .int .i64 Bx, .int .i64 By, .int .i64 vx', .int .i64 vy', .int .i64 Ba, .int .i64 sp', .int .i64 (1 + d35), .int .i64 Bk, .int .i64 Br, .slice ab Bp.length cb] 34 := kB4.row
    have hs5 := Chg.row (Chg.refl [kb] w9) kb #[.int .i64 Bi, .int .i64 Bx, .int .i64 By, .int .i64 vx', .int .i64 vy', .int .i64 Ba, .int .i64 sp', .int .i64 (1 + d35), .int .i64 Bk, .int .i64 Br, .slice ab Bp.length cb] (by simp)
    refine bodyPost_ret (results_cell_row rfl _ _ kb 34 _ (0, 0) _ rfl k5 Tryz.underlying34 rfl (by kernel_rfl)) rfl ⟨_, rfl, ?_, ?_, .inr (fun k' hk' => by have := HPO.out k' hk'; have := HNK.out; omega)⟩
    · exact Rd.keep HV4.out hs5 (fun _ k' hk' hx => by have := HPO.out k' hk'; have := HKS.out; simp at hx; omega)
    · exact HM4.out.trans hs5 (fun x hx hl => by have := HT2.out; simp at hx; omega)
end Go.Proofs.YtpadflhffiiglaaGreat
