/- Words and walks that Apart rests on: DeedB, DeedJ. -/
import Derived.Test.YtpadflhffiiglaaGreatWApart33
/- Bodies and joints of deeds. -/
namespace Go.Proofs.YtpadflhffiiglaaGreat
open Go.RowKit

structure Pls where
  seed : Sd
  pos : V2
  angle : Int
structure Deed where
  kind : Int
  place : Pls
  vel : V2
  spin : Int
  density : Int
  a : Int
  b : Int
  at_ : V2
  to_ : V2
  len : Int
  raw : Bdy
def vPl (p : Pls) : Value := .agg #[.int .i64 p.seed.kind, .int .i64 p.seed.n, .int .i64 p.seed.size, .int .i64 p.seed.turn, .int .i64 p.pos.1, .int .i64 p.pos.2, .int .i64 p.angle]
def cD (d : Deed) (pv : Value) : List Value := [.int .i64 d.kind, .int .i64 d.place.seed.kind, .int .i64 d.place.seed.n, .int .i64 d.place.seed.size, .int .i64 d.place.seed.turn, .int .i64 d.place.pos.1, .int .i64 d.place.pos.2, .int .i64 d.place.angle, .int .i64 d.vel.1, .int .i64 d.vel.2, .int .i64 d.spin, .int .i64 d.density, .int .i64 d.a, .int .i64 d.b, .int .i64 d.at_.1, .int .i64 d.at_.2, .int .i64 d.to_.1, .int .i64 d.to_.2, .int .i64 d.len, .int .i64 d.raw.id, .int .i64 d.raw.pos.1, .int .i64 d.raw.pos.2, .int .i64 d.raw.vel.1, .int .i64 d.raw.vel.2, .int .i64 d.raw.angle, .int .i64 d.raw.spin, .int .i64 d.raw.density, .int .i64 d.raw.shape.kind, .int .i64 d.raw.shape.r, pv]
def vD (d : Deed) (pv : Value) : Value := .agg (cD d pv).toArray
def bodyPl (p : Pls) : Bdy := ⟨0, bringV p.pos 4294967296000, (0, 0), p.angle % 4294967296, 0, 0, shapeSd p.seed⟩
def bodyD (d : Deed) : Bdy :=
  if d.kind % 16 = 15 then d.raw
  else if d.density % 4 = 0 then bodyPl d.place
  else { bodyPl d.place with vel := bringV d.vel 85899345920, spin := bringF d.spin (-85899345920) 85899345920, density := 1 + d.density % 34359738368 }
def jointD (d : Deed) : Jnt := ⟨0, d.a % 16, d.b % 16, bringV d.at_ 17179869184, bringV d.to_ 17179869184, d.len⟩

set_option maxRecDepth 100000 in
set_option maxHeartbeats 2000000 in
theorem PlaceBody_any (p : Pls) (w : World) : Calls Tryz.prog 65 #[vPl p] w fun e w' => ∃ pv, e = .returned (vB (bodyPl p) pv) ∧ VsS w' pv (bodyPl p).shape.p ∧ Chg [] w w' ∧ ∀ k, pv.ownBlock = some k → w.heap.size ≤ k := by
  obtain ⟨⟨sk, sn, sz, st⟩, ⟨x, y⟩, an⟩ := p
  have h1 := fun W => VBring_any (x, y) 4294967296000 (by unfold S64; omega) W
  have h2 := fun W => SeedShape_any ⟨sk, sn, sz, st⟩ W
  have ha : bits .and .i64 an 4294967295 = an % 4294967296 := and_mask an 32 (by decide)
  unfold bodyPl vB vPl
  simp only
  generalize bringV (x, y) 4294967296000 = bz at *
  obtain ⟨bx, bz⟩ := bz
  generalize shapeSd ⟨sk, sn, sz, st⟩ = sh at *
  generalize an % 4294967296 = ra at *
  obtain ⟨hk, hr, hp⟩ := sh
  unfold vV at h1
  unfold vSd vS at h2
  simp only at h1 h2 ⊢
  have hX := (Blk.new w #[.int .i64 sk, .int .i64 sn, .int .i64 sz, .int .i64 st, .int .i64 x, .int .i64 y, .int .i64 an] 29).alloc (.cells #[.int .i64 0, .int .i64 0, .int .i64 0, .int .i64 0, .int .i64 0, .int .i64 0, .int .i64 0, .int .i64 0, .int .i64 0, .int .i64 0, .slice none 0 0] 34)
  have hY := Blk.new (w.alloc (.cells #[.int .i64 sk, .int .i64 sn, .int .i64 sz, .int .i64 st, .int .i64 x, .int .i64 y, .int .i64 an] 29)) #[.int .i64 0, .int .i64 0, .int .i64 0, .int .i64 0, .int .i64 0, .int .i64 0, .int .i64 0, .int .i64 0, .int .i64 0, .int .i64 0, .slice none 0 0] 34
  rw [World.size_alloc] at hY
  have hc := ((Chg.refl [] w).alloc (.cells #[.int .i64 sk, .int .i64 sn, .int .i64 sz, .int .i64 st, .int .i64 x, .int .i64 y, .int .i64 an] 29)).alloc (.cells #[.int .i64 0, .int .i64 0, .int .i64 0, .int .i64 0, .int .i64 0, .int .i64 0, .int .i64 0, .int .i64 0, .int .i64 0, .int .i64 0, .slice none 0 0] 34)
  go_enter Tryz.func65, Tryz.ntmps65
  go_upto_region 1 with (fail)
  generalize (w.alloc (.cells #[.int .i64 sk, .int .i64 sn, .int .i64 sz, .int .i64 st, .int .i64 x, .int .i64 y, .int .i64 an] 29)).alloc (.cells #[.int .i64 0, .int .i64 0, .int .i64 0, .int .i64 0, .int .i64 0, .int .i64 0, .int .i64 0, .int .i64 0, .int .i64 0, .int .i64 0, .slice none 0 0] 34) = w0 at *
  obtain ⟨kb, hkb⟩ : ∃ kb, kb = w.heap.size + 1 := ⟨_, rfl⟩
  obtain ⟨xb, hxb⟩ : ∃ xb, xb = w.heap.size := ⟨_, rfl⟩
  rw [← hkb] at hY ⊢
  rw [← hxb] at hX ⊢
  have HT : Hd (xb = w.heap.size ∧ kb = w.heap.size + 1) := hd ⟨hxb, hkb⟩
  clear hkb hxb
  have HX := hd hX
  have HC := hd hc
  have hT := hY.k (Chg.refl [] w0).drew
  have HKS : Hd (kb < w0.heap.size) := hd hY.lt
  have NX : Hd (xb ∉ [kb]) := hd (by have := HT.out; simp; omega)
  clear hX hc hY
  refine anyH_start (n := 11) (L := #[false, false, false, false, false, false, false, false, false, false, false]) (by kernel_rfl) (by kernel_rfl) (S := (fun wx => Chg [kb] w0 wx)) ((Chg.refl _ _).drew) (fun hHeld => ?_)
  generalize w0.drew = w0d at *
  refine anyH_take (i := 0) (d := 3) (L' := #[true, false, false, false, false, false, false, false, false, false, false]) (v := ?v2) rfl rfl (by kernel_rfl) (fun _ _ _ h => h) (by rfl) ?hy2 (by assumption) ?rest2
  case hy2 => (intro wx hSw; (try dsimp only at hSw); (have hx := HX.out.chg hSw NX.out; have t0 := hx.cell 0; have t1 := hx.cell 1; have t2 := hx.cell 2; have t3 := hx.cell 3; have t4 := hx.cell 4; have t5 := hx.cell 5; have t6 := hx.cell 6; simp at t0 t1 t2 t3 t4 t5 t6; have t7 := ha); go_simp; (try with_reducible rfl))
  simp only [Act.put, List.setIfInBounds_toArray, List.set_cons_zero, List.set_cons_succ]
  refine anyH_take (i := 1) (d := 4) (L' := #[true, true, false, false, false, false, false, false, false, false, false]) (v := ?v3) rfl rfl (by kernel_rfl) (fun _ _ _ h => h) (by rfl) ?hy3 (by assumption) ?rest3
  case hy3 => (intro wx hSw; (try dsimp only at hSw); (have hx := HX.out.chg hSw NX.out; have t0 := hx.cell 0; have t1 := hx.cell 1; have t2 := hx.cell 2; have t3 := hx.cell 3; have t4 := hx.cell 4; have t5 := hx.cell 5; have t6 := hx.cell 6; simp at t0 t1 t2 t3 t4 t5 t6; have t7 := ha); go_simp; (try with_reducible rfl))
  simp only [Act.put, List.setIfInBounds_toArray, List.set_cons_zero, List.set_cons_succ]
  refine anyH_take (i := 3) (d := 6) (L' := #[true, true, false, true, false, false, false, false, false, false, false]) (v := ?v4) rfl rfl (by kernel_rfl) (fun _ _ _ h => h) (by rfl) ?hy4 (by assumption) ?rest4
  case hy4 => (intro wx hSw; (try dsimp only at hSw); (have hx := HX.out.chg hSw NX.out; have t0 := hx.cell 0; have t1 := hx.cell 1; have t2 := hx.cell 2; have t3 := hx.cell 3; have t4 := hx.cell 4; have t5 := hx.cell 5; have t6 := hx.cell 6; simp at t0 t1 t2 t3 t4 t5 t6; have t7 := ha); go_simp; (try with_reducible rfl))
  simp only [Act.put, List.setIfInBounds_toArray, List.set_cons_zero, List.set_cons_succ]
  refine anyH_take (i := 4) (d := 7) (L' := #[true, true, false, true, true, false, false, false, false, false, false]) (v := ?v5) rfl rfl (by kernel_rfl) (fun _ _ _ h => h) (by rfl) ?hy5 (by assumption) ?rest5
  case hy5 => (intro wx hSw; (try dsimp only at hSw); (have hx := HX.out.chg hSw NX.out; have t0 := hx.cell 0; have t1 := hx.cell 1; have t2 := hx.cell 2; have t3 := hx.cell 3; have t4 := hx.cell 4; have t5 := hx.cell 5; have t6 := hx.cell 6; simp at t0 t1 t2 t3 t4 t5 t6; have t7 := ha); go_simp; (try with_reducible rfl))
  simp only [Act.put, List.setIfInBounds_toArray, List.set_cons_zero, List.set_cons_succ]
  refine anyH_take (i := 5) (d := 8) (L' := #[true, true, false, true, true, true, false, false, false, false, false]) (v := ?v6) rfl rfl (by kernel_rfl) (fun _ _ _ h => h) (by rfl) ?hy6 (by assumption) ?rest6
  case hy6 => (intro wx hSw; (try dsimp only at hSw); (have hx := HX.out.chg hSw NX.out; have t0 := hx.cell 0; have t1 := hx.cell 1; have t2 := hx.cell 2; have t3 := hx.cell 3; have t4 := hx.cell 4; have t5 := hx.cell 5; have t6 := hx.cell 6; simp at t0 t1 t2 t3 t4 t5 t6; have t7 := ha); go_simp; (try with_reducible rfl))
  simp only [Act.put, List.setIfInBounds_toArray, List.set_cons_zero, List.set_cons_succ]
  refine anyH_take (i := 6) (d := 9) (L' := #[true, true, false, true, true, true, true, false, false, false, false]) (v := ?v7) rfl rfl (by kernel_rfl) (fun _ _ _ h => h) (by rfl) ?hy7 (by assumption) ?rest7
  case hy7 => (intro wx hSw; (try dsimp only at hSw); (have hx := HX.out.chg hSw NX.out; have t0 := hx.cell 0; have t1 := hx.cell 1; have t2 := hx.cell 2; have t3 := hx.cell 3; have t4 := hx.cell 4; have t5 := hx.cell 5; have t6 := hx.cell 6; simp at t0 t1 t2 t3 t4 t5 t6; have t7 := ha); go_simp; (try with_reducible rfl))
  simp only [Act.put, List.setIfInBounds_toArray, List.set_cons_zero, List.set_cons_succ]
  refine anyH_take (i := 7) (d := 10) (L' := #[true, true, false, true, true, true, true, true, false, false, false]) (v := ?v8) rfl rfl (by kernel_rfl) (fun _ _ _ h => h) (by rfl) ?hy8 (by assumption) ?rest8
  case hy8 => (intro wx hSw; (try dsimp only at hSw); (have hx := HX.out.chg hSw NX.out; have t0 := hx.cell 0; have t1 := hx.cell 1; have t2 := hx.cell 2; have t3 := hx.cell 3; have t4 := hx.cell 4; have t5 := hx.cell 5; have t6 := hx.cell 6; simp at t0 t1 t2 t3 t4 t5 t6; have t7 := ha); go_simp; (try with_reducible rfl))
  simp only [Act.put, List.setIfInBounds_toArray, List.set_cons_zero, List.set_cons_succ]
  refine anyH_run (i := 2) (L' := #[true, true, true, true, true, true, true, true, false, false, false]) rfl (by kernel_rfl) (by rfl) (fun KK hKK => ?_)
  go_simp
  (refine (h1 _).mono ?_; rintro e w5 ⟨rfl, hm0⟩; have hm := Chg.k' hHeld hm0; replace hT := hT.k hm0; clear hm0; (try go_simp))
  refine hKK.out _ _ (by assumption) (fun hHeld => ?_)
  clear hKK KK
  try simp only [Act.put, List.setIfInBounds_toArray, List.set_cons_zero, List.set_cons_succ]
  refine anyH_run (i := 8) (L' := #[true, true, true, true, true, true, true, true, true, false, false]) rfl (by kernel_rfl) (by rfl) (fun KK hKK => ?_)
  go_simp
  (refine (h2 _).mono ?_; rintro e w6 ⟨pv, rfl, hv, hm0, hpo⟩; have hpo2 := (fun k' hk' => Nat.le_trans hHeld.size (hpo k' hk')); have hm := Chg.k' hHeld hm0; replace hT := hT.k hm0; clear hm0; obtain ⟨ap, cp, rfl, -⟩ := hv.form; (try go_simp))
  refine hKK.out _ _ (by assumption) (fun hHeld => ?_)
  clear hKK KK
  try simp only [Act.put, List.setIfInBounds_toArray, List.set_cons_zero, List.set_cons_succ]
  refine anyH_run (i := 9) (L' := #[true, true, true, true, true, true, true, true, true, true, false]) rfl (by kernel_rfl) (by rfl) (fun KK hKK => ?_)
  go_simp
  (skip)
  refine hKK.out _ _ (by assumption) (fun hHeld => ?_)
  clear hKK KK
  try simp only [Act.put, List.setIfInBounds_toArray, List.set_cons_zero, List.set_cons_succ]
  refine anyH_run (i := 10) (L' := #[true, true, true, true, true, true, true, true, true, true, true]) rfl (by kernel_rfl) (by rfl) (fun KK hKK => ?_)
  (refine wp_store_row 34 _ _ rfl _ #[.int .i64 0, .int .i64 bx, .int .i64 bz, .int .i64 0, .int .i64 0, .int .i64 ra, .int .i64 0, .int .i64 0, .int .i64 hk, .int .i64 hr, .slice ap hp.length cp] rfl rfl 34 _ hT (by kernel_rfl) rfl (by simp [Value.oneCell']) ?_; have hS9 := hT.row (cs' := #[.int .i64 0, .int .i64 bx, .int .i64 bz, .int .i64 0, .int .i64 0, .int .i64 ra, .int .i64 0, .int .i64 0, .int .i64 hk, .int .i64 hr, .slice ap hp.length cp]); have hS := Chg.row hHeld kb #[.int .i64 0, .int .i64 bx, .int .i64 bz, .int .i64 0, .int .i64 0, .int .i64 ra, .int .i64 0, .int .i64 0, .int .i64 hk, .int .i64 hr, .slice ap hp.length cp] (by simp); go_simp)
  refine hKK.out _ _ (by assumption) (fun hHeld => ?_)
  clear hKK KK
  try simp only [Act.put, List.setIfInBounds_toArray, List.set_cons_zero, List.set_cons_succ]
  refine wpAnyH_done (by kernel_rfl) ?_ _
  skip
  go_wp2_with (fail)
  refine bodyPost_ret (results_cell_row rfl _ _ kb 34 _ (0, 0) _ rfl hS9 Tryz.underlying34 rfl (by kernel_rfl)) rfl ⟨_, rfl, ?_, ?_, ?_⟩
  · exact Rd.keep hv (Chg.row (Chg.refl [kb] w6) kb _ (by simp)) (fun _ k' hk' hx => by have := hpo2 k' hk'; have := HC.out.size; have := HT.out; have := HKS.out; simp at hx; omega)
  · exact HC.out.trans hHeld (fun x hx hl => by have := HT.out; simp at hx; omega)
  · intro k' hk'
    have := hpo2 k' hk'; have := HC.out.size; omega
end Go.Proofs.YtpadflhffiiglaaGreat

/- Joints of deeds. -/
namespace Go.Proofs.YtpadflhffiiglaaGreat
open Go.RowKit

set_option maxRecDepth 100000 in
set_option maxHeartbeats 2000000 in
theorem DeedJoint_any (d : Deed) (pv : Value) (w : World) (hpv : VsS w pv d.raw.shape.p) : Calls Tryz.prog 21 #[vD d pv] w fun e w' => e = .returned (vJ (jointD d)) ∧ Chg [] w w' := by
  unfold jointD vJ
  obtain ⟨kd, ⟨⟨sk, sn, sz, st⟩, ⟨px, py⟩, pa⟩, ⟨vx, vy⟩, sp, de, a, b, ⟨ax, ay⟩, ⟨tx, ty⟩, le, ⟨ri, ⟨rpx, rpy⟩, ⟨rvx, rvy⟩, ra, rs, rd, ⟨rk, rr, rp⟩⟩⟩ := d
  obtain ⟨ap, cp, rfl, -⟩ := hpv.form
  unfold vD cD
  simp only
  have h1 := fun W => VBring_any (ax, ay) 17179869184 (by unfold S64; omega) W
  have h2 := fun W => VBring_any (tx, ty) 17179869184 (by unfold S64; omega) W
  have u1 : bits .and .i64 a 15 = a % 16 := and_mask a 4 (by decide)
  have u2 : bits .and .i64 b 15 = b % 16 := and_mask b 4 (by decide)
  generalize bringV (ax, ay) 17179869184 = p1 at *
  generalize bringV (tx, ty) 17179869184 = p2 at *
  obtain ⟨ax', ay'⟩ := p1
  obtain ⟨tx', ty'⟩ := p2
  unfold vV at h1 h2
  simp only at h1 h2 ⊢
  generalize a % 16 = a' at *
  generalize b % 16 = b' at *
  have hX := (Blk.new w #[.int .i64 kd, .int .i64 sk, .int .i64 sn, .int .i64 sz, .int .i64 st, .int .i64 px, .int .i64 py, .int .i64 pa, .int .i64 vx, .int .i64 vy, .int .i64 sp, .int .i64 de, .int .i64 a, .int .i64 b, .int .i64 ax, .int .i64 ay, .int .i64 tx, .int .i64 ty, .int .i64 le, .int .i64 ri, .int .i64 rpx, .int .i64 rpy, .int .i64 rvx, .int .i64 rvy, .int .i64 ra, .int .i64 rs, .int .i64 rd, .int .i64 rk, .int .i64 rr, .slice ap rp.length cp] 36).alloc (.cells #[.int .i64 0, .int .i64 0, .int .i64 0, .int .i64 0, .int .i64 0, .int .i64 0, .int .i64 0, .int .i64 0] 67)
  have hY := Blk.new (w.alloc (.cells #[.int .i64 kd, .int .i64 sk, .int .i64 sn, .int .i64 sz, .int .i64 st, .int .i64 px, .int .i64 py, .int .i64 pa, .int .i64 vx, .int .i64 vy, .int .i64 sp, .int .i64 de, .int .i64 a, .int .i64 b, .int .i64 ax, .int .i64 ay, .int .i64 tx, .int .i64 ty, .int .i64 le, .int .i64 ri, .int .i64 rpx, .int .i64 rpy, .int .i64 rvx, .int .i64 rvy, .int .i64 ra, .int .i64 rs, .int .i64 rd, .int .i64 rk, .int .i64 rr, .slice ap rp.length cp] 36)) #[.int .i64 0, .int .i64 0, .int .i64 0, .int .i64 0, .int .i64 0, .int .i64 0, .int .i64 0, .int .i64 0] 67
  rw [World.size_alloc] at hY
  have hc := ((Chg.refl [] w).alloc (.cells #[.int .i64 kd, .int .i64 sk, .int .i64 sn, .int .i64 sz, .int .i64 st, .int .i64 px, .int .i64 py, .int .i64 pa, .int .i64 vx, .int .i64 vy, .int .i64 sp, .int .i64 de, .int .i64 a, .int .i64 b, .int .i64 ax, .int .i64 ay, .int .i64 tx, .int .i64 ty, .int .i64 le, .int .i64 ri, .int .i64 rpx, .int .i64 rpy, .int .i64 rvx, .int .i64 rvy, .int .i64 ra, .int .i64 rs, .int .i64 rd, .int .i64 rk, .int .i64 rr, .slice ap rp.length cp] 36)).alloc (.cells #[.int .i64 0, .int .i64 0, .int .i64 0, .int .i64 0, .int .i64 0, .int .i64 0, .int .i64 0, .int .i64 0] 67)
  go_enter Tryz.func21, Tryz.ntmps21
  go_upto_region 1 with (fail)
  generalize (w.alloc (.cells #[.int .i64 kd, .int .i64 sk, .int .i64 sn, .int .i64 sz, .int .i64 st, .int .i64 px, .int .i64 py, .int .i64 pa, .int .i64 vx, .int .i64 vy, .int .i64 sp, .int .i64 de, .int .i64 a, .int .i64 b, .int .i64 ax, .int .i64 ay, .int .i64 tx, .int .i64 ty, .int .i64 le, .int .i64 ri, .int .i64 rpx, .int .i64 rpy, .int .i64 rvx, .int .i64 rvy, .int .i64 ra, .int .i64 rs, .int .i64 rd, .int .i64 rk, .int .i64 rr, .slice ap rp.length cp] 36)).alloc (.cells #[.int .i64 0, .int .i64 0, .int .i64 0, .int .i64 0, .int .i64 0, .int .i64 0, .int .i64 0, .int .i64 0] 67) = w0 at *
  obtain ⟨kb, hkb⟩ : ∃ kb, kb = w.heap.size + 1 := ⟨_, rfl⟩
  obtain ⟨xb, hxb⟩ : ∃ xb, xb = w.heap.size := ⟨_, rfl⟩
  rw [← hkb] at hY ⊢
  rw [← hxb] at hX ⊢
  have HT : Hd (xb = w.heap.size ∧ kb = w.heap.size + 1) := hd ⟨hxb, hkb⟩
  have HKS : Hd (kb < w0.heap.size) := hd hY.lt
  clear hkb hxb
  have HX := hd hX
  have HC := hd hc
  have hT := hY.k (Chg.refl [] w0).drew
  have NX : Hd (xb ∉ [kb]) := hd (by have := HT.out; simp; omega)
  clear hX hc hY
  refine anyH_start (n := 16) (L := #[false, false, false, false, false, false, false, false, false, false, false, false, false, false, false, false]) (by kernel_rfl) (by kernel_rfl) (S := (fun wx => Chg [kb] w0 wx)) ((Chg.refl _ _).drew) (fun hHeld => ?_)
  generalize w0.drew = w0d at *
  refine anyH_take (i := 0) (d := 3) (L' := #[true, false, false, false, false, false, false, false, false, false, false, false, false, false, false, false]) (v := ?v2) rfl rfl (by kernel_rfl) (fun _ _ _ h => h) (by rfl) ?hy2 (by assumption) ?rest2
  case hy2 => (intro wx hSw; (try dsimp only at hSw); (have hx := HX.out.chg hSw NX.out; have t12 := hx.cell 12; have t13 := hx.cell 13; have t14 := hx.cell 14; have t15 := hx.cell 15; have t16 := hx.cell 16; have t17 := hx.cell 17; have t18 := hx.cell 18; simp at t12 t13 t14 t15 t16 t17 t18; have t30 := u1; have t31 := u2); go_simp; (try with_reducible rfl))
  simp only [Act.put, List.setIfInBounds_toArray, List.set_cons_zero, List.set_cons_succ]
  refine anyH_take (i := 1) (d := 4) (L' := #[true, true, false, false, false, false, false, false, false, false, false, false, false, false, false, false]) (v := ?v3) rfl rfl (by kernel_rfl) (fun _ _ _ h => h) (by rfl) ?hy3 (by assumption) ?rest3
  case hy3 => (intro wx hSw; (try dsimp only at hSw); (have hx := HX.out.chg hSw NX.out; have t12 := hx.cell 12; have t13 := hx.cell 13; have t14 := hx.cell 14; have t15 := hx.cell 15; have t16 := hx.cell 16; have t17 := hx.cell 17; have t18 := hx.cell 18; simp at t12 t13 t14 t15 t16 t17 t18; have t30 := u1; have t31 := u2); go_simp; (try with_reducible rfl))
  simp only [Act.put, List.setIfInBounds_toArray, List.set_cons_zero, List.set_cons_succ]
  refine anyH_take (i := 2) (d := 5) (L' := #[true, true, true, false, false, false, false, false, false, false, false, false, false, false, false, false]) (v := ?v4) rfl rfl (by kernel_rfl) (fun _ _ _ h => h) (by rfl) ?hy4 (by assumption) ?rest4
  case hy4 => (intro wx hSw; (try dsimp only at hSw); (have hx := HX.out.chg hSw NX.out; have t12 := hx.cell 12; have t13 := hx.cell 13; have t14 := hx.cell 14; have t15 := hx.cell 15; have t16 := hx.cell 16; have t17 := hx.cell 17; have t18 := hx.cell 18; simp at t12 t13 t14 t15 t16 t17 t18; have t30 := u1; have t31 := u2); go_simp; (try with_reducible rfl))
  simp only [Act.put, List.setIfInBounds_toArray, List.set_cons_zero, List.set_cons_succ]
  refine anyH_take (i := 3) (d := 6) (L' := #[true, true, true, true, false, false, false, false, false, false, false, false, false, false, false, false]) (v := ?v5) rfl rfl (by kernel_rfl) (fun _ _ _ h => h) (by rfl) ?hy5 (by assumption) ?rest5
  case hy5 => (intro wx hSw; (try dsimp only at hSw); (have hx := HX.out.chg hSw NX.out; have t12 := hx.cell 12; have t13 := hx.cell 13; have t14 := hx.cell 14; have t15 := hx.cell 15; have t16 := hx.cell 16; have t17 := hx.cell 17; have t18 := hx.cell 18; simp at t12 t13 t14 t15 t16 t17 t18; have t30 := u1; have t31 := u2); go_simp; (try with_reducible rfl))
  simp only [Act.put, List.setIfInBounds_toArray, List.set_cons_zero, List.set_cons_succ]
  refine anyH_take (i := 4) (d := 7) (L' := #[true, true, true, true, true, false, false, false, false, false, false, false, false, false, false, false]) (v := ?v6) rfl rfl (by kernel_rfl) (fun _ _ _ h => h) (by rfl) ?hy6 (by assumption) ?rest6
  case hy6 => (intro wx hSw; (try dsimp only at hSw); (have hx := HX.out.chg hSw NX.out; have t12 := hx.cell 12; have t13 := hx.cell 13; have t14 := hx.cell 14; have t15 := hx.cell 15; have t16 := hx.cell 16; have t17 := hx.cell 17; have t18 := hx.cell 18; simp at t12 t13 t14 t15 t16 t17 t18; have t30 := u1; have t31 := u2); go_simp; (try with_reducible rfl))
  simp only [Act.put, List.setIfInBounds_toArray, List.set_cons_zero, List.set_cons_succ]
  refine anyH_take (i := 5) (d := 8) (L' := #[true, true, true, true, true, true, false, false, false, false, false, false, false, false, false, false]) (v := ?v7) rfl rfl (by kernel_rfl) (fun _ _ _ h => h) (by rfl) ?hy7 (by assumption) ?rest7
  case hy7 => (intro wx hSw; (try dsimp only at hSw); (have hx := HX.out.chg hSw NX.out; have t12 := hx.cell 12; have t13 := hx.cell 13; have t14 := hx.cell 14; have t15 := hx.cell 15; have t16 := hx.cell 16; have t17 := hx.cell 17; have t18 := hx.cell 18; simp at t12 t13 t14 t15 t16 t17 t18; have t30 := u1; have t31 := u2); go_simp; (try with_reducible rfl))
  simp only [Act.put, List.setIfInBounds_toArray, List.set_cons_zero, List.set_cons_succ]
  refine anyH_take (i := 6) (d := 9) (L' := #[true, true, true, true, true, true, true, false, false, false, false, false, false, false, false, false]) (v := ?v8) rfl rfl (by kernel_rfl) (fun _ _ _ h => h) (by rfl) ?hy8 (by assumption) ?rest8
  case hy8 => (intro wx hSw; (try dsimp only at hSw); (have hx := HX.out.chg hSw NX.out; have t12 := hx.cell 12; have t13 := hx.cell 13; have t14 := hx.cell 14; have t15 := hx.cell 15; have t16 := hx.cell 16; have t17 := hx.cell 17; have t18 := hx.cell 18; simp at t12 t13 t14 t15 t16 t17 t18; have t30 := u1; have t31 := u2); go_simp; (try with_reducible rfl))
  simp only [Act.put, List.setIfInBounds_toArray, List.set_cons_zero, List.set_cons_succ]
  refine anyH_take (i := 7) (d := 10) (L' := #[true, true, true, true, true, true, true, true, false, false, false, false, false, false, false, false]) (v := ?v9) rfl rfl (by kernel_rfl) (fun _ _ _ h => h) (by rfl) ?hy9 (by assumption) ?rest9
  case hy9 => (intro wx hSw; (try dsimp only at hSw); (have hx := HX.out.chg hSw NX.out; have t12 := hx.cell 12; have t13 := hx.cell 13; have t14 := hx.cell 14; have t15 := hx.cell 15; have t16 := hx.cell 16; have t17 := hx.cell 17; have t18 := hx.cell 18; simp at t12 t13 t14 t15 t16 t17 t18; have t30 := u1; have t31 := u2); go_simp; (try with_reducible rfl))
  simp only [Act.put, List.setIfInBounds_toArray, List.set_cons_zero, List.set_cons_succ]
  refine anyH_take (i := 9) (d := 12) (L' := #[true, true, true, true, true, true, true, true, false, true, false, false, false, false, false, false]) (v := ?v10) rfl rfl (by kernel_rfl) (fun _ _ _ h => h) (by rfl) ?hy10 (by assumption) ?rest10
  case hy10 => (intro wx hSw; (try dsimp only at hSw); (have hx := HX.out.chg hSw NX.out; have t12 := hx.cell 12; have t13 := hx.cell 13; have t14 := hx.cell 14; have t15 := hx.cell 15; have t16 := hx.cell 16; have t17 := hx.cell 17; have t18 := hx.cell 18; simp at t12 t13 t14 t15 t16 t17 t18; have t30 := u1; have t31 := u2); go_simp; (try with_reducible rfl))
  simp only [Act.put, List.setIfInBounds_toArray, List.set_cons_zero, List.set_cons_succ]
  refine anyH_take (i := 10) (d := 13) (L' := #[true, true, true, true, true, true, true, true, false, true, true, false, false, false, false, false]) (v := ?v11) rfl rfl (by kernel_rfl) (fun _ _ _ h => h) (by rfl) ?hy11 (by assumption) ?rest11
  case hy11 => (intro wx hSw; (try dsimp only at hSw); (have hx := HX.out.chg hSw NX.out; have t12 := hx.cell 12; have t13 := hx.cell 13; have t14 := hx.cell 14; have t15 := hx.cell 15; have t16 := hx.cell 16; have t17 := hx.cell 17; have t18 := hx.cell 18; simp at t12 t13 t14 t15 t16 t17 t18; have t30 := u1; have t31 := u2); go_simp; (try with_reducible rfl))
  simp only [Act.put, List.setIfInBounds_toArray, List.set_cons_zero, List.set_cons_succ]
  refine anyH_take (i := 12) (d := 15) (L' := #[true, true, true, true, true, true, true, true, false, true, true, false, true, false, false, false]) (v := ?v12) rfl rfl (by kernel_rfl) (fun _ _ _ h => h) (by rfl) ?hy12 (by assumption) ?rest12
  case hy12 => (intro wx hSw; (try dsimp only at hSw); (have hx := HX.out.chg hSw NX.out; have t12 := hx.cell 12; have t13 := hx.cell 13; have t14 := hx.cell 14; have t15 := hx.cell 15; have t16 := hx.cell 16; have t17 := hx.cell 17; have t18 := hx.cell 18; simp at t12 t13 t14 t15 t16 t17 t18; have t30 := u1; have t31 := u2); go_simp; (try with_reducible rfl))
  simp only [Act.put, List.setIfInBounds_toArray, List.set_cons_zero, List.set_cons_succ]
  refine anyH_take (i := 13) (d := 16) (L' := #[true, true, true, true, true, true, true, true, false, true, true, false, true, true, false, false]) (v := ?v13) rfl rfl (by kernel_rfl) (fun _ _ _ h => h) (by rfl) ?hy13 (by assumption) ?rest13
  case hy13 => (intro wx hSw; (try dsimp only at hSw); (have hx := HX.out.chg hSw NX.out; have t12 := hx.cell 12; have t13 := hx.cell 13; have t14 := hx.cell 14; have t15 := hx.cell 15; have t16 := hx.cell 16; have t17 := hx.cell 17; have t18 := hx.cell 18; simp at t12 t13 t14 t15 t16 t17 t18; have t30 := u1; have t31 := u2); go_simp; (try with_reducible rfl))
  simp only [Act.put, List.setIfInBounds_toArray, List.set_cons_zero, List.set_cons_succ]
  refine anyH_run (i := 8) (L' := #[true, true, true, true, true, true, true, true, true, true, true, false, true, true, false, false]) rfl (by kernel_rfl) (by rfl) (fun KK hKK => ?_)
  go_simp
  (refine (h1 _).mono ?_; rintro e w5 ⟨rfl, hm0⟩; have hm := Chg.k' hHeld hm0; replace hT := hT.k hm0; clear hm0; (try go_simp))
  refine hKK.out _ _ (by assumption) (fun hHeld => ?_)
  clear hKK KK
  try simp only [Act.put, List.setIfInBounds_toArray, List.set_cons_zero, List.set_cons_succ]
  refine anyH_run (i := 11) (L' := #[true, true, true, true, true, true, true, true, true, true, true, true, true, true, false, false]) rfl (by kernel_rfl) (by rfl) (fun KK hKK => ?_)
  go_simp
  (refine (h2 _).mono ?_; rintro e w6 ⟨rfl, hm0⟩; have hm := Chg.k' hHeld hm0; replace hT := hT.k hm0; clear hm0; (try go_simp))
  refine hKK.out _ _ (by assumption) (fun hHeld => ?_)
  clear hKK KK
  try simp only [Act.put, List.setIfInBounds_toArray, List.set_cons_zero, List.set_cons_succ]
  refine anyH_run (i := 14) (L' := #[true, true, true, true, true, true, true, true, true, true, true, true, true, true, true, false]) rfl (by kernel_rfl) (by rfl) (fun KK hKK => ?_)
  go_simp
  (skip)
  refine hKK.out _ _ (by assumption) (fun hHeld => ?_)
  clear hKK KK
  try simp only [Act.put, List.setIfInBounds_toArray, List.set_cons_zero, List.set_cons_succ]
  refine anyH_run (i := 15) (L' := #[true, true, true, true, true, true, true, true, true, true, true, true, true, true, true, true]) rfl (by kernel_rfl) (by rfl) (fun KK hKK => ?_)
  (refine wp_store_row 67 _ _ rfl _ #[.int .i64 0, .int .i64 a', .int .i64 b', .int .i64 ax', .int .i64 ay', .int .i64 tx', .int .i64 ty', .int .i64 le] rfl rfl 67 _ hT (by kernel_rfl) rfl (by simp [Value.oneCell']) ?_; have hS9 := hT.row (cs' := #[.int .i64 0, .int .i64 a', .int .i64 b', .int .i64 ax', .int .i64 ay', .int .i64 tx', .int .i64 ty', .int .i64 le]); have hS := Chg.row hHeld kb #[.int .i64 0, .int .i64 a', .int .i64 b', .int .i64 ax', .int .i64 ay', .int .i64 tx', .int .i64 ty', .int .i64 le] (by simp); go_simp)
  refine hKK.out _ _ (by assumption) (fun hHeld => ?_)
  clear hKK KK
  try simp only [Act.put, List.setIfInBounds_toArray, List.set_cons_zero, List.set_cons_succ]
  refine wpAnyH_done (by kernel_rfl) ?_ _
  skip
  go_wp2_with (fail)
  refine bodyPost_ret (results_cell_row rfl _ _ kb 67 _ (0, 0) _ rfl hS9 Tryz.underlying67 rfl (by kernel_rfl)) rfl ⟨rfl, ?_⟩
  exact HC.out.trans hHeld (fun x hx hl => by have := HT.out; simp at hx; omega)
end Go.Proofs.YtpadflhffiiglaaGreat
