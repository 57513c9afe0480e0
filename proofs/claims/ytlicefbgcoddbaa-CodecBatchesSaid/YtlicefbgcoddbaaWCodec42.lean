/- Words and walks that Codec rests on: DeedO. -/
import Derived.Test.YtlicefbgcoddbaaWCodec40
import Derived.Test.YtlicefbgcoddbaaWCodec41
/- law10.Order: orders of deeds. -/
namespace Go.Proofs.Ytlicefbgcoddbaa
open Go.RowKit

def orderD (d : Deed) : Ord :=
  if d.kind % 8 = 2 then ⟨5, d.a % 16, 0, 0, (0, 0), bringV d.vel 858993459200, 0, bringF d.spin (-858993459200) 858993459200, 0, 0, noS⟩
  else if d.kind % 8 = 3 then ⟨4, d.a % 16, 0, 0, (0, 0), (0, 0), 0, 0, 0, 0, noS⟩
  else if d.kind % 8 = 4 ∨ d.kind % 8 = 5 then ⟨3, 0, (jointD d).a, (jointD d).b, (jointD d).at_, (jointD d).to_, 0, 0, 0, (jointD d).len, noS⟩
  else if d.kind % 8 = 6 then ⟨2, d.a % 16, 0, 0, (0, 0), (0, 0), 0, 0, 0, 0, noS⟩
  else if d.kind % 8 = 7 then ⟨6, 0, 0, 0, (0, 0), bringV d.vel 214748364800, 0, 0, 0, 0, noS⟩
  else ⟨1, 0, 0, 0, (bodyD d).pos, (bodyD d).vel, (bodyD d).angle, (bodyD d).spin, (bodyD d).density, 0, (bodyD d).shape⟩
theorem Chg.lit {S : List Nat} {a W : World} (h : Chg S a W) (cs : Array Value) (t : TypeId) : Chg S a (W.alloc (.cells cs t)) ∧ Blk (W.alloc (.cells cs t)) W.heap.size cs t ∧ a.heap.size ≤ W.heap.size := ⟨h.alloc _, Blk.new _ _ _, h.size⟩
theorem Blk.lit {W : World} {b : Nat} {cs : Array Value} {t : TypeId} (h : Blk W b cs t) (o : Obj) : Blk (W.alloc o) b cs t ∧ b < W.heap.size := ⟨h.alloc o, h.lt⟩
theorem exec_load_row {P : Program} {o : Oper} {a : Act} {ty : TypeId} {x : Operand} {w : World} {g : Nat} {t : TypeId} {cs : Array Value} {d : TypeDesc} (ho : o.op = .load ty x) (hx : a.eval x = .pointer (some ⟨g, 0, none⟩)) (hg : Blk w g cs t)
    (hu : P.underlying ty = some d) (hd : (match d with | .struct _ | .array _ _ => true | _ => false) = true) (hi : (P.info? ty).map (·.size) = some cs.size) : (execOp a.eval o).run P w = .ok (.value (.agg cs)) w := by
  unfold execOp
  simp only [ho, hx, Instr.loadAt, Instr.sureAddr, Sem.run_bind, Sem.run_pure, Result.andThen_ok, run_loadVar_row w g t ty cs (0, 0) d hg hu hd hi]
theorem vsne {w W : World} {ap ab : Option Addr} {cp cb : Nat} {l lp : List V2} {b : Nat} (hpv : VsS w (.slice ap lp.length cp) lp) (h1 : w.heap.size ≤ b) (h2 : b < W.heap.size) (hor : Value.slice ab l.length cb = .slice ap lp.length cp ∨ ∀ k, (Value.slice ab l.length cb).ownBlock = some k → W.heap.size ≤ k) :
    0 < l.length → ∀ k, (Value.slice ab l.length cb).ownBlock = some k → k ≠ b := fun h0 k hb he => by
  rcases hor with h | h
  · rw [h] at hb
    have hl : l.length = lp.length := by injection h
    have := hpv.own (by omega) k hb; omega
  · have := h k hb; omega
theorem vsnew {W : World} {v : Value} {l : List V2} (h : VsS W v l) : 0 < l.length → ∀ k, v.ownBlock = some k → k ≠ W.heap.size := fun hn k hk he => by have := h.own hn k hk; omega
theorem midStore {w0 W : World} {b c : Nat} {cs cs' ds : Array Value} {t u : TypeId} {v : Value} {l : List V2} (hb : Blk W b cs t) (hc : Blk W c ds u) (hv : VsS W v l) (hH : Chg [] w0 W) (hl : w0.heap.size ≤ b) (hk : 0 < l.length → ∀ k, v.ownBlock = some k → k ≠ b) (hne : c ≠ b) :
    Blk (W.setRow b cs') b cs' t ∧ Blk (W.setRow b cs') c ds u ∧ VsS (W.setRow b cs') v l ∧ Chg [] w0 (W.setRow b cs') := by
  have hs := Chg.row (Chg.refl [b] W) b cs' (by simp)
  exact ⟨hb.row, hc.chg hs (by simpa using hne), Rd.keep hv hs (fun hn k hk' hx => hk hn k hk' (by simpa using hx)), Chg.row hH b cs' (fun hx => absurd hx (Nat.not_lt.2 hl))⟩
set_option maxRecDepth 100000 in
set_option maxHeartbeats 8000000 in
theorem DeedOrder_any (d : Deed) (pv : Value) (w : World) (hpv : VsS w pv d.raw.shape.p) : Calls Try.prog 58 #[vD d pv] w fun e w' => ∃ bv, e = .returned (vO (orderD d) bv) ∧ VsS w' bv (orderD d).shape.p ∧ Chg [] w w' ∧ (bv = pv ∨ ∀ k, bv.ownBlock = some k → w.heap.size ≤ k) := by
  obtain ⟨O, hO⟩ : ∃ O, O = orderD d := ⟨_, rfl⟩
  rw [← hO]
  unfold orderD at hO
  have hBB := fun W (h : Chg [] w W) => DeedBody_any d pv W (hpv.k h)
  have hJJ := fun W (h : Chg [] w W) => DeedJoint_any d pv W (hpv.k h)
  obtain ⟨B, hB⟩ : ∃ B, B = bodyD d := ⟨_, rfl⟩
  obtain ⟨J, hJ⟩ : ∃ J, J = jointD d := ⟨_, rfl⟩
  rw [← hB] at hBB hO
  rw [← hJ] at hJJ hO
  clear hB hJ
  obtain ⟨Bi, ⟨Bx, By⟩, ⟨Bvx, Bvy⟩, Ba, Bs, Bd, ⟨Bk, Br, Bp⟩⟩ := B
  obtain ⟨Ji, Ja, Jb, ⟨Jax, Jay⟩, ⟨Jtx, Jty⟩, Jl⟩ := J
  unfold vB at hBB
  unfold vJ at hJJ
  simp only at hBB hJJ hO
  obtain ⟨kd, ⟨⟨sk, sn, sz, st⟩, ⟨px, py⟩, pa⟩, ⟨vx, vy⟩, sp, de, a, b, ⟨ax, ay⟩, ⟨tx, ty⟩, le, ⟨ri, ⟨rpx, rpy⟩, ⟨rvx, rvy⟩, ra, rs, rd, ⟨rk, rr, rp⟩⟩⟩ := d
  obtain ⟨ap, cp, rfl, -⟩ := hpv.form
  unfold vD cD at hBB hJJ ⊢
  simp only at hBB hJJ hO ⊢
  have h1 := fun W => VBring_any (vx, vy) 858993459200 (by unfold S64; omega) W
  have h2 := fun W => Bring_any sp (-858993459200) 858993459200 W
  have h3 := fun W => VBring_any (vx, vy) 214748364800 (by unfold S64; omega) W
  have u1 : bits .and .i64 kd 7 = kd % 8 := and_mask kd 3 (by decide)
  have u2 : bits .and .i64 a 15 = a % 16 := and_mask a 4 (by decide)
  generalize bringV (vx, vy) 858993459200 = p1 at *
  generalize bringV (vx, vy) 214748364800 = p2 at *
  generalize bringF sp (-858993459200) 858993459200 = sp' at *
  obtain ⟨vx1, vy1⟩ := p1
  obtain ⟨vx2, vy2⟩ := p2
  unfold vV at h1 h3
  simp only at h1 h3
  generalize a % 16 = a16 at *
  have hk8 : 0 ≤ kd % 8 ∧ kd % 8 < 8 := by omega
  generalize kd % 8 = kk at *
  have HO := hd hO
  clear hO
  have hX := (Blk.new w #[.int .i64 kd, .int .i64 sk, .int .i64 sn, .int .i64 sz, .int .i64 st, .int .i64 px, .int .i64 py, .int .i64 pa, .int .i64 vx, .int .i64 vy, .int .i64 sp, .int .i64 de, .int .i64 a, .int .i64 b, .int .i64 ax, .int .i64 ay, .int .i64 tx, .int .i64 ty, .int .i64 le, .int .i64 ri, .int .i64 rpx, .int .i64 rpy, .int .i64 rvx, .int .i64 rvy, .int .i64 ra, .int .i64 rs, .int .i64 rd, .int .i64 rk, .int .i64 rr, .slice ap rp.length cp] 55).alloc (.cells #[.int .i64 0, .int .i64 0, .int .i64 0, .int .i64 0, .int .i64 0, .int .i64 0, .int .i64 0, .int .i64 0, .int .i64 0, .int .i64 0, .int .i64 0, .int .i64 0, .int .i64 0, .int .i64 0, .slice none 0 0] 35)
  have hY := Blk.new (w.alloc (.cells #[.int .i64 kd, .int .i64 sk, .int .i64 sn, .int .i64 sz, .int .i64 st, .int .i64 px, .int .i64 py, .int .i64 pa, .int .i64 vx, .int .i64 vy, .int .i64 sp, .int .i64 de, .int .i64 a, .int .i64 b, .int .i64 ax, .int .i64 ay, .int .i64 tx, .int .i64 ty, .int .i64 le, .int .i64 ri, .int .i64 rpx, .int .i64 rpy, .int .i64 rvx, .int .i64 rvy, .int .i64 ra, .int .i64 rs, .int .i64 rd, .int .i64 rk, .int .i64 rr, .slice ap rp.length cp] 55)) #[.int .i64 0, .int .i64 0, .int .i64 0, .int .i64 0, .int .i64 0, .int .i64 0, .int .i64 0, .int .i64 0, .int .i64 0, .int .i64 0, .int .i64 0, .int .i64 0, .int .i64 0, .int .i64 0, .slice none 0 0] 35
  rw [World.size_alloc] at hY
  have hc := ((Chg.refl [] w).alloc (.cells #[.int .i64 kd, .int .i64 sk, .int .i64 sn, .int .i64 sz, .int .i64 st, .int .i64 px, .int .i64 py, .int .i64 pa, .int .i64 vx, .int .i64 vy, .int .i64 sp, .int .i64 de, .int .i64 a, .int .i64 b, .int .i64 ax, .int .i64 ay, .int .i64 tx, .int .i64 ty, .int .i64 le, .int .i64 ri, .int .i64 rpx, .int .i64 rpy, .int .i64 rvx, .int .i64 rvy, .int .i64 ra, .int .i64 rs, .int .i64 rd, .int .i64 rk, .int .i64 rr, .slice ap rp.length cp] 55)).alloc (.cells #[.int .i64 0, .int .i64 0, .int .i64 0, .int .i64 0, .int .i64 0, .int .i64 0, .int .i64 0, .int .i64 0, .int .i64 0, .int .i64 0, .int .i64 0, .int .i64 0, .int .i64 0, .int .i64 0, .slice none 0 0] 35)
  go_enter Try.func58, Try.ntmps58
  go_upto_region 1 with (fail)
  generalize (w.alloc (.cells #[.int .i64 kd, .int .i64 sk, .int .i64 sn, .int .i64 sz, .int .i64 st, .int .i64 px, .int .i64 py, .int .i64 pa, .int .i64 vx, .int .i64 vy, .int .i64 sp, .int .i64 de, .int .i64 a, .int .i64 b, .int .i64 ax, .int .i64 ay, .int .i64 tx, .int .i64 ty, .int .i64 le, .int .i64 ri, .int .i64 rpx, .int .i64 rpy, .int .i64 rvx, .int .i64 rvy, .int .i64 ra, .int .i64 rs, .int .i64 rd, .int .i64 rk, .int .i64 rr, .slice ap rp.length cp] 55)).alloc (.cells #[.int .i64 0, .int .i64 0, .int .i64 0, .int .i64 0, .int .i64 0, .int .i64 0, .int .i64 0, .int .i64 0, .int .i64 0, .int .i64 0, .int .i64 0, .int .i64 0, .int .i64 0, .int .i64 0, .slice none 0 0] 35) = w0 at *
  obtain ⟨kb, hkb⟩ : ∃ kb, kb = w.heap.size + 1 := ⟨_, rfl⟩
  obtain ⟨xb, hxb⟩ : ∃ xb, xb = w.heap.size := ⟨_, rfl⟩
  rw [← hkb] at hY ⊢
  rw [← hxb] at hX ⊢
  have HT : Hd (xb = w.heap.size ∧ kb = w.heap.size + 1) := hd ⟨hxb, hkb⟩
  have HKS : Hd (kb < w0.heap.size) := hd hY.lt
  clear hkb hxb
  have HX := hd hX
  have HC := hd hc
  have HY := hd hY
  have HBB := hd hBB
  have HJJ := hd hJJ
  have NK : Hd (w.heap.size ≤ w0.heap.size) := hd hc.size
  clear hX hc hY hBB hJJ
  go_cut [3, 4] from 400 (fun t3 t4 wx => ∃ b3 b4 ab cb, t3 = .pointer (some ⟨b3, 0, none⟩) ∧ t4 = .pointer (some ⟨b4, 0, none⟩) ∧ Blk wx b3 #[.int .i64 Bi, .int .i64 Bx, .int .i64 By, .int .i64 Bvx, .int .i64 Bvy, .int .i64 Ba, .int .i64 Bs, .int .i64 Bd, .int .i64 Bk, .int .i64 Br, .slice ab Bp.length cb] 53 ∧ Blk wx b4 #[.int .i64 Ji, .int .i64 Ja, .int .i64 Jb, .int .i64 Jax, .int .i64 Jay, .int .i64 Jtx, .int .i64 Jty, .int .i64 Jl] 82 ∧ VsS wx (.slice ab Bp.length cb) Bp ∧ Chg [] w0 wx ∧ w0.heap.size ≤ b3 ∧ w0.heap.size ≤ b4 ∧ (0 < Bp.length → ∀ k, (Value.slice ab Bp.length cb).ownBlock = some k → k ≠ kb) ∧ (Value.slice ab Bp.length cb = .slice ap rp.length cp ∨ ∀ k, (Value.slice ab Bp.length cb).ownBlock = some k → w0.heap.size ≤ k))
  case first =>
    have NKB : Hd (kb < w0.heap.size ∧ xb < kb ∧ xb = w.heap.size) := hd (by have := HT.out; have := HKS.out; omega)
    have HPV := hd hpv
    refine anyH_start (n := 8) (L := #[false, false, false, false, false, false, false, false]) (by kernel_rfl) (by kernel_rfl) (S := (fun wx => Chg [] w0 wx)) ((Chg.refl _ _).drew) (fun hHeld => ?_)
    generalize w0.drew = w0d at *
    refine anyH_take (i := 0) (d := 5) (L' := #[true, false, false, false, false, false, false, false]) (v := ?v11) rfl rfl (by kernel_rfl) (fun _ _ _ h => h) (by rfl) ?hy11 (by assumption) ?rest11
    case hy11 => (intro wx hSw; (try dsimp only at hSw); (refine exec_load_row (x := .tmp 1) ?_ ?_ (HX.out.k hSw) Try.underlying55 rfl (by kernel_rfl) <;> rfl))
    simp only [Act.put, List.setIfInBounds_toArray, List.set_cons_zero, List.set_cons_succ]
    refine anyH_take (i := 2) (d := 7) (L' := #[true, false, true, false, false, false, false, false]) (v := ?v12) rfl rfl (by kernel_rfl) (fun _ _ _ h => h) (by rfl) ?hy12 (by assumption) ?rest12
    case hy12 => (intro wx hSw; (try dsimp only at hSw); (refine exec_load_row (x := .tmp 1) ?_ ?_ (HX.out.k hSw) Try.underlying55 rfl (by kernel_rfl) <;> rfl))
    simp only [Act.put, List.setIfInBounds_toArray, List.set_cons_zero, List.set_cons_succ]
    refine anyH_run3 (i := 1) (j := 4) (k := 5) (L1 := #[true, true, true, false, false, false, false, false]) (L2 := #[true, false, true, false, true, false, false, false]) (L3 := #[true, false, true, false, false, true, false, false]) rfl rfl rfl (by kernel_rfl) (by rfl) (by rfl) (by rfl) (fun KK hKK => ?ra0) (fun KK hKK => ?rb0) (fun KK hKK => ?rc0)
    case' ra0 =>
      go_simp
      (refine (HBB.out _ (HC.out.k' hHeld)).mono ?_; rintro e wB ⟨bv, rfl, hV, hm0, hor⟩; obtain ⟨ab, cb, rfl, -⟩ := hV.form; have hor2 := hor.imp id (fun h k hk => Nat.le_trans hHeld.size (h k hk)); have hne := vsne (b := kb) HPV.out (by have := NKB.out; omega) (by have := NKB.out; have := hHeld.size; omega) hor; (try have hk3 := vsne HPV.out (Nat.le_trans NK.out hl3) hT3.lt hor); (try have hk4 := vsne HPV.out (Nat.le_trans NK.out hl4) hT4.lt hor); have hm := Chg.k' hHeld hm0; (try replace hT3 := hT3.k hm0); (try replace hT4 := hT4.k hm0); clear hm0 hor; (try go_simp))
      refine hKK.out _ _ (by assumption) (fun hHeld => ?_)
      clear hKK KK
      try simp only [Act.put, List.setIfInBounds_toArray, List.set_cons_zero, List.set_cons_succ]
      as_aux_lemma =>
        refine anyH_run3 (i := 3) (j := 4) (k := 5) (L1 := #[true, true, true, true, false, false, false, false]) (L2 := #[true, true, true, false, true, false, false, false]) (L3 := #[true, true, true, false, false, true, false, false]) rfl rfl rfl (by kernel_rfl) (by rfl) (by rfl) (by rfl) (fun KK hKK => ?ra1) (fun KK hKK => ?rb1) (fun KK hKK => ?rc1)
        case' ra1 =>
          go_simp
          (refine (HJJ.out _ (HC.out.k' hHeld)).mono ?_; rintro e wJ ⟨rfl, hm0⟩; have hm := Chg.k' hHeld hm0; replace hV := hV.k hm0; (try replace hT3 := hT3.k hm0); (try replace hT4 := hT4.k hm0); clear hm0; (try go_simp))
          refine hKK.out _ _ (by assumption) (fun hHeld => ?_)
          clear hKK KK
          try simp only [Act.put, List.setIfInBounds_toArray, List.set_cons_zero, List.set_cons_succ]
          as_aux_lemma =>
            refine anyH_run2 (i := 4) (j := 5) (L1 := #[true, true, true, true, true, false, false, false]) (L2 := #[true, true, true, true, false, true, false, false]) rfl rfl (by kernel_rfl) (by rfl) (by rfl) (fun KK hKK => ?ra2) (fun KK hKK => ?rb2)
            case' ra2 =>
              ((try have hk3 := vsnew hV); (try have h34 := Nat.ne_of_lt hT4.lt); obtain ⟨hm, hT3, hl3⟩ := hHeld.lit #[.int .i64 0, .int .i64 0, .int .i64 0, .int .i64 0, .int .i64 0, .int .i64 0, .int .i64 0, .int .i64 0, .int .i64 0, .int .i64 0, .slice none 0 0] 53; (try replace hV := hV.k ((Chg.refl [] _).alloc (.cells #[.int .i64 0, .int .i64 0, .int .i64 0, .int .i64 0, .int .i64 0, .int .i64 0, .int .i64 0, .int .i64 0, .int .i64 0, .int .i64 0, .slice none 0 0] 53))); (try replace hT4 := hT4.alloc (.cells #[.int .i64 0, .int .i64 0, .int .i64 0, .int .i64 0, .int .i64 0, .int .i64 0, .int .i64 0, .int .i64 0, .int .i64 0, .int .i64 0, .slice none 0 0] 53)); (try simp only [World.size_alloc] at hk3); (try simp only [World.size_alloc] at hT3); (try simp only [World.size_alloc] at hl3); (try simp only [World.size_alloc] at h34); (try simp only [World.size_alloc] at h43); go_simp)
              refine hKK.out _ _ (by assumption) (fun hHeld => ?_)
              clear hKK KK
              try simp only [Act.put, List.setIfInBounds_toArray, List.set_cons_zero, List.set_cons_succ]
              as_aux_lemma =>
                refine anyH_run (i := 5) (L' := #[true, true, true, true, true, true, false, false]) rfl (by kernel_rfl) (by rfl) (fun KK hKK => ?_)
                ((try have hk4 := vsnew hV); (try have h43 := Nat.ne_of_lt hT3.lt); obtain ⟨hm, hT4, hl4⟩ := hHeld.lit #[.int .i64 0, .int .i64 0, .int .i64 0, .int .i64 0, .int .i64 0, .int .i64 0, .int .i64 0, .int .i64 0] 82; (try replace hV := hV.k ((Chg.refl [] _).alloc (.cells #[.int .i64 0, .int .i64 0, .int .i64 0, .int .i64 0, .int .i64 0, .int .i64 0, .int .i64 0, .int .i64 0] 82))); (try replace hT3 := hT3.alloc (.cells #[.int .i64 0, .int .i64 0, .int .i64 0, .int .i64 0, .int .i64 0, .int .i64 0, .int .i64 0, .int .i64 0] 82)); (try simp only [World.size_alloc] at hk4); (try simp only [World.size_alloc] at hT4); (try simp only [World.size_alloc] at hl4); (try simp only [World.size_alloc] at h34); (try simp only [World.size_alloc] at h43); go_simp)
                refine hKK.out _ _ (by assumption) (fun hHeld => ?_)
                clear hKK KK
                try simp only [Act.put, List.setIfInBounds_toArray, List.set_cons_zero, List.set_cons_succ]
                refine anyH_run (i := 6) (L' := #[true, true, true, true, true, true, true, false]) rfl (by kernel_rfl) (by rfl) (fun KK hKK => ?_)
                (refine wp_store_row 53 _ _ rfl _ #[.int .i64 Bi, .int .i64 Bx, .int .i64 By, .int .i64 Bvx, .int .i64 Bvy, .int .i64 Ba, .int .i64 Bs, .int .i64 Bd, .int .i64 Bk, .int .i64 Br, .slice ab Bp.length cb] rfl rfl 53 _ hT3 (by kernel_rfl) rfl (by simp [Value.oneCell']) ?_; obtain ⟨gT3, gT4, gV, hm6⟩ := midStore (cs' := #[.int .i64 Bi, .int .i64 Bx, .int .i64 By, .int .i64 Bvx, .int .i64 Bvy, .int .i64 Ba, .int .i64 Bs, .int .i64 Bd, .int .i64 Bk, .int .i64 Br, .slice ab Bp.length cb]) hT3 hT4 hV hHeld hl3 hk3 (by first | exact h34 | exact (Ne.symm h43) | omega); go_simp)
                refine hKK.out _ _ (by assumption) (fun hHeld => ?_)
                clear hKK KK
                try simp only [Act.put, List.setIfInBounds_toArray, List.set_cons_zero, List.set_cons_succ]
                refine anyH_run (i := 7) (L' := #[true, true, true, true, true, true, true, true]) rfl (by kernel_rfl) (by rfl) (fun KK hKK => ?_)
                (refine wp_store_row 82 _ _ rfl _ #[.int .i64 Ji, .int .i64 Ja, .int .i64 Jb, .int .i64 Jax, .int .i64 Jay, .int .i64 Jtx, .int .i64 Jty, .int .i64 Jl] rfl rfl 82 _ gT4 (by kernel_rfl) rfl (by simp [Value.oneCell']) ?_; obtain ⟨iT4, iT3, iV, hm7⟩ := midStore (cs' := #[.int .i64 Ji, .int .i64 Ja, .int .i64 Jb, .int .i64 Jax, .int .i64 Jay, .int .i64 Jtx, .int .i64 Jty, .int .i64 Jl]) gT4 gT3 gV hHeld hl4 hk4 (by first | exact h43 | exact (Ne.symm h34) | omega); go_simp)
                refine hKK.out _ _ (by assumption) (fun hHeld => ?_)
                clear hKK KK
                try simp only [Act.put, List.setIfInBounds_toArray, List.set_cons_zero, List.set_cons_succ]
                refine wpAnyH_done (by kernel_rfl) ?_ _
                (go_wp2_with fail; go_meet; exact ⟨_, _, ab, cb, rfl, rfl, iT3, iT4, iV, hHeld, hl3, hl4, hne, hor2⟩)
            case' rb2 =>
              ((try have hk4 := vsnew hV); (try have h43 := Nat.ne_of_lt hT3.lt); obtain ⟨hm, hT4, hl4⟩ := hHeld.lit #[.int .i64 0, .int .i64 0, .int .i64 0, .int .i64 0, .int .i64 0, .int .i64 0, .int .i64 0, .int .i64 0] 82; (try replace hV := hV.k ((Chg.refl [] _).alloc (.cells #[.int .i64 0, .int .i64 0, .int .i64 0, .int .i64 0, .int .i64 0, .int .i64 0, .int .i64 0, .int .i64 0] 82))); (try replace hT3 := hT3.alloc (.cells #[.int .i64 0, .int .i64 0, .int .i64 0, .int .i64 0, .int .i64 0, .int .i64 0, .int .i64 0, .int .i64 0] 82)); (try simp only [World.size_alloc] at hk4); (try simp only [World.size_alloc] at hT4); (try simp only [World.size_alloc] at hl4); (try simp only [World.size_alloc] at h34); (try simp only [World.size_alloc] at h43); go_simp)
              refine hKK.out _ _ (by assumption) (fun hHeld => ?_)
              clear hKK KK
              try simp only [Act.put, List.setIfInBounds_toArray, List.set_cons_zero, List.set_cons_succ]
              as_aux_lemma =>
                refine anyH_run (i := 4) (L' := #[true, true, true, true, true, true, false, false]) rfl (by kernel_rfl) (by rfl) (fun KK hKK => ?_)
                ((try have hk3 := vsnew hV); (try have h34 := Nat.ne_of_lt hT4.lt); obtain ⟨hm, hT3, hl3⟩ := hHeld.lit #[.int .i64 0, .int .i64 0, .int .i64 0, .int .i64 0, .int .i64 0, .int .i64 0, .int .i64 0, .int .i64 0, .int .i64 0, .int .i64 0, .slice none 0 0] 53; (try replace hV := hV.k ((Chg.refl [] _).alloc (.cells #[.int .i64 0, .int .i64 0, .int .i64 0, .int .i64 0, .int .i64 0, .int .i64 0, .int .i64 0, .int .i64 0, .int .i64 0, .int .i64 0, .slice none 0 0] 53))); (try replace hT4 := hT4.alloc (.cells #[.int .i64 0, .int .i64 0, .int .i64 0, .int .i64 0, .int .i64 0, .int .i64 0, .int .i64 0, .int .i64 0, .int .i64 0, .int .i64 0, .slice none 0 0] 53)); (try simp only [World.size_alloc] at hk3); (try simp only [World.size_alloc] at hT3); (try simp only [World.size_alloc] at hl3); (try simp only [World.size_alloc] at h34); (try simp only [World.size_alloc] at h43); go_simp)
                refine hKK.out _ _ (by assumption) (fun hHeld => ?_)
                clear hKK KK
                try simp only [Act.put, List.setIfInBounds_toArray, List.set_cons_zero, List.set_cons_succ]
                refine anyH_run (i := 6) (L' := #[true, true, true, true, true, true, true, false]) rfl (by kernel_rfl) (by rfl) (fun KK hKK => ?_)
                (refine wp_store_row 53 _ _ rfl _ #[.int .i64 Bi, .int .i64 Bx, .int .i64 By, .int .i64 Bvx, .int .i64 Bvy, .int .i64 Ba, .int .i64 Bs, .int .i64 Bd, .int .i64 Bk, .int .i64 Br, .slice ab Bp.length cb] rfl rfl 53 _ hT3 (by kernel_rfl) rfl (by simp [Value.oneCell']) ?_; obtain ⟨gT3, gT4, gV, hm6⟩ := midStore (cs' := #[.int .i64 Bi, .int .i64 Bx, .int .i64 By, .int .i64 Bvx, .int .i64 Bvy, .int .i64 Ba, .int .i64 Bs, .int .i64 Bd, .int .i64 Bk, .int .i64 Br, .slice ab Bp.length cb]) hT3 hT4 hV hHeld hl3 hk3 (by first | exact h34 | exact (Ne.symm h43) | omega); go_simp)
                refine hKK.out _ _ (by assumption) (fun hHeld => ?_)
                clear hKK KK
                try simp only [Act.put, List.setIfInBounds_toArray, List.set_cons_zero, List.set_cons_succ]
                refine anyH_run (i := 7) (L' := #[true, true, true, true, true, true, true, true]) rfl (by kernel_rfl) (by rfl) (fun KK hKK => ?_)
                (refine wp_store_row 82 _ _ rfl _ #[.int .i64 Ji, .int .i64 Ja, .int .i64 Jb, .int .i64 Jax, .int .i64 Jay, .int .i64 Jtx, .int .i64 Jty, .int .i64 Jl] rfl rfl 82 _ gT4 (by kernel_rfl) rfl (by simp [Value.oneCell']) ?_; obtain ⟨iT4, iT3, iV, hm7⟩ := midStore (cs' := #[.int .i64 Ji, .int .i64 Ja, .int .i64 Jb, .int .i64 Jax, .int .i64 Jay, .int .i64 Jtx, .int .i64 Jty, .int .i64 Jl]) gT4 gT3 gV hHeld hl4 hk4 (by first | exact h43 | exact (Ne.symm h34) | omega); go_simp)
                refine hKK.out _ _ (by assumption) (fun hHeld => ?_)
                clear hKK KK
                try simp only [Act.put, List.setIfInBounds_toArray, List.set_cons_zero, List.set_cons_succ]
                refine wpAnyH_done (by kernel_rfl) ?_ _
                (go_wp2_with fail; go_meet; exact ⟨_, _, ab, cb, rfl, rfl, iT3, iT4, iV, hHeld, hl3, hl4, hne, hor2⟩)
        case' rb1 =>
          ((try have hk3 := vsnew hV); (try have h34 := Nat.ne_of_lt hT4.lt); obtain ⟨hm, hT3, hl3⟩ := hHeld.lit #[.int .i64 0, .int .i64 0, .int .i64 0, .int .i64 0, .int .i64 0, .int .i64 0, .int .i64 0, .int .i64 0, .int .i64 0, .int .i64 0, .slice none 0 0] 53; (try replace hV := hV.k ((Chg.refl [] _).alloc (.cells #[.int .i64 0, .int .i64 0, .int .i64 0, .int .i64 0, .int .i64 0, .int .i64 0, .int .i64 0, .int .i64 0, .int .i64 0, .int .i64 0, .slice none 0 0] 53))); (try replace hT4 := hT4.alloc (.cells #[.int .i64 0, .int .i64 0, .int .i64 0, .int .i64 0, .int .i64 0, .int .i64 0, .int .i64 0, .int .i64 0, .int .i64 0, .int .i64 0, .slice none 0 0] 53)); (try simp only [World.size_alloc] at hk3); (try simp only [World.size_alloc] at hT3); (try simp only [World.size_alloc] at hl3); (try simp only [World.size_alloc] at h34); (try simp only [World.size_alloc] at h43); go_simp)
          refine hKK.out _ _ (by assumption) (fun hHeld => ?_)
          clear hKK KK
          try simp only [Act.put, List.setIfInBounds_toArray, List.set_cons_zero, List.set_cons_succ]
          as_aux_lemma =>
            refine anyH_run2 (i := 3) (j := 5) (L1 := #[true, true, true, true, true, false, false, false]) (L2 := #[true, true, true, false, true, true, false, false]) rfl rfl (by kernel_rfl) (by rfl) (by rfl) (fun KK hKK => ?ra3) (fun KK hKK => ?rb3)
            case' ra3 =>
              go_simp
              (refine (HJJ.out _ (HC.out.k' hHeld)).mono ?_; rintro e wJ ⟨rfl, hm0⟩; have hm := Chg.k' hHeld hm0; replace hV := hV.k hm0; (try replace hT3 := hT3.k hm0); (try replace hT4 := hT4.k hm0); clear hm0; (try go_simp))
              refine hKK.out _ _ (by assumption) (fun hHeld => ?_)
              clear hKK KK
              try simp only [Act.put, List.setIfInBounds_toArray, List.set_cons_zero, List.set_cons_succ]
              as_aux_lemma =>
                refine anyH_run (i := 5) (L' := #[true, true, true, true, true, true, false, false]) rfl (by kernel_rfl) (by rfl) (fun KK hKK => ?_)
                ((try have hk4 := vsnew hV); (try have h43 := Nat.ne_of_lt hT3.lt); obtain ⟨hm, hT4, hl4⟩ := hHeld.lit #[.int .i64 0, .int .i64 0, .int .i64 0, .int .i64 0, .int .i64 0, .int .i64 0, .int .i64 0, .int .i64 0] 82; (try replace hV := hV.k ((Chg.refl [] _).alloc (.cells #[.int .i64 0, .int .i64 0, .int .i64 0, .int .i64 0, .int .i64 0, .int .i64 0, .int .i64 0, .int .i64 0] 82))); (try replace hT3 := hT3.alloc (.cells #[.int .i64 0, .int .i64 0, .int .i64 0, .int .i64 0, .int .i64 0, .int .i64 0, .int .i64 0, .int .i64 0] 82)); (try simp only [World.size_alloc] at hk4); (try simp only [World.size_alloc] at hT4); (try simp only [World.size_alloc] at hl4); (try simp only [World.size_alloc] at h34); (try simp only [World.size_alloc] at h43); go_simp)
                refine hKK.out _ _ (by assumption) (fun hHeld => ?_)
                clear hKK KK
                try simp only [Act.put, List.setIfInBounds_toArray, List.set_cons_zero, List.set_cons_succ]
                refine anyH_run (i := 6) (L' := #[true, true, true, true, true, true, true, false]) rfl (by kernel_rfl) (by rfl) (fun KK hKK => ?_)
                (refine wp_store_row 53 _ _ rfl _ #[.int .i64 Bi, .int .i64 Bx, .int .i64 By, .int .i64 Bvx, .int .i64 Bvy, .int .i64 Ba, .int .i64 Bs, .int .i64 Bd, .int .i64 Bk, .int .i64 Br, .slice ab Bp.length cb] rfl rfl 53 _ hT3 (by kernel_rfl) rfl (by simp [Value.oneCell']) ?_; obtain ⟨gT3, gT4, gV, hm6⟩ := midStore (cs' := #[.int .i64 Bi, .int .i64 Bx, .int .i64 By, .int .i64 Bvx, .int .i64 Bvy, .int .i64 Ba, .int .i64 Bs, .int .i64 Bd, .int .i64 Bk, .int .i64 Br, .slice ab Bp.length cb]) hT3 hT4 hV hHeld hl3 hk3 (by first | exact h34 | exact (Ne.symm h43) | omega); go_simp)
                refine hKK.out _ _ (by assumption) (fun hHeld => ?_)
                clear hKK KK
                try simp only [Act.put, List.setIfInBounds_toArray, List.set_cons_zero, List.set_cons_succ]
                refine anyH_run (i := 7) (L' := #[true, true, true, true, true, true, true, true]) rfl (by kernel_rfl) (by rfl) (fun KK hKK => ?_)
                (refine wp_store_row 82 _ _ rfl _ #[.int .i64 Ji, .int .i64 Ja, .int .i64 Jb, .int .i64 Jax, .int .i64 Jay, .int .i64 Jtx, .int .i64 Jty, .int .i64 Jl] rfl rfl 82 _ gT4 (by kernel_rfl) rfl (by simp [Value.oneCell']) ?_; obtain ⟨iT4, iT3, iV, hm7⟩ := midStore (cs' := #[.int .i64 Ji, .int .i64 Ja, .int .i64 Jb, .int .i64 Jax, .int .i64 Jay, .int .i64 Jtx, .int .i64 Jty, .int .i64 Jl]) gT4 gT3 gV hHeld hl4 hk4 (by first | exact h43 | exact (Ne.symm h34) | omega); go_simp)
                refine hKK.out _ _ (by assumption) (fun hHeld => ?_)
                clear hKK KK
                try simp only [Act.put, List.setIfInBounds_toArray, List.set_cons_zero, List.set_cons_succ]
                refine wpAnyH_done (by kernel_rfl) ?_ _
                (go_wp2_with fail; go_meet; exact ⟨_, _, ab, cb, rfl, rfl, iT3, iT4, iV, hHeld, hl3, hl4, hne, hor2⟩)
            case' rb3 =>
              ((try have hk4 := vsnew hV); (try have h43 := Nat.ne_of_lt hT3.lt); obtain ⟨hm, hT4, hl4⟩ := hHeld.lit #[.int .i64 0, .int .i64 0, .int .i64 0, .int .i64 0, .int .i64 0, .int .i64 0, .int .i64 0, .int .i64 0] 82; (try replace hV := hV.k ((Chg.refl [] _).alloc (.cells #[.int .i64 0, .int .i64 0, .int .i64 0, .int .i64 0, .int .i64 0, .int .i64 0, .int .i64 0, .int .i64 0] 82))); (try replace hT3 := hT3.alloc (.cells #[.int .i64 0, .int .i64 0, .int .i64 0, .int .i64 0, .int .i64 0, .int .i64 0, .int .i64 0, .int .i64 0] 82)); (try simp only [World.size_alloc] at hk4); (try simp only [World.size_alloc] at hT4); (try simp only [World.size_alloc] at hl4); (try simp only [World.size_alloc] at h34); (try simp only [World.size_alloc] at h43); go_simp)
              refine hKK.out _ _ (by assumption) (fun hHeld => ?_)
              clear hKK KK
              try simp only [Act.put, List.setIfInBounds_toArray, List.set_cons_zero, List.set_cons_succ]
              as_aux_lemma =>
                refine anyH_run (i := 3) (L' := #[true, true, true, true, true, true, false, false]) rfl (by kernel_rfl) (by rfl) (fun KK hKK => ?_)
                go_simp
                (refine (HJJ.out _ (HC.out.k' hHeld)).mono ?_; rintro e wJ ⟨rfl, hm0⟩; have hm := Chg.k' hHeld hm0; replace hV := hV.k hm0; (try replace hT3 := hT3.k hm0); (try replace hT4 := hT4.k hm0); clear hm0; (try go_simp))
                refine hKK.out _ _ (by assumption) (fun hHeld => ?_)
                clear hKK KK
                try simp only [Act.put, List.setIfInBounds_toArray, List.set_cons_zero, List.set_cons_succ]
                refine anyH_run (i := 6) (L' := #[true, true, true, true, true, true, true, false]) rfl (by kernel_rfl) (by rfl) (fun KK hKK => ?_)
                (refine wp_store_row 53 _ _ rfl _ #[.int .i64 Bi, .int .i64 Bx, .int .i64 By, .int .i64 Bvx, .int .i64 Bvy, .int .i64 Ba, .int .i64 Bs, .int .i64 Bd, .int .i64 Bk, .int .i64 Br, .slice ab Bp.length cb] rfl rfl 53 _ hT3 (by kernel_rfl) rfl (by simp [Value.oneCell']) ?_; obtain ⟨gT3, gT4, gV, hm6⟩ := midStore (cs' := #[.int .i64 Bi, .int .i64 Bx, .int .i64 By, .int .i64 Bvx, .int .i64 Bvy, .int .i64 Ba, .int .i64 Bs, .int .i64 Bd, .int .i64 Bk, .int .i64 Br, .slice ab Bp.length cb]) hT3 hT4 hV hHeld hl3 hk3 (by first | exact h34 | exact (Ne.symm h43) | omega); go_simp)
                refine hKK.out _ _ (by assumption) (fun hHeld => ?_)
                clear hKK KK
                try simp only [Act.put, List.setIfInBounds_toArray, List.set_cons_zero, List.set_cons_succ]
                refine anyH_run (i := 7) (L' := #[true, true, true, true, true, true, true, true]) rfl (by kernel_rfl) (by rfl) (fun KK hKK => ?_)
                (refine wp_store_row 82 _ _ rfl _ #[.int .i64 Ji, .int .i64 Ja, .int .i64 Jb, .int .i64 Jax, .int .i64 Jay, .int .i64 Jtx, .int .i64 Jty, .int .i64 Jl] rfl rfl 82 _ gT4 (by kernel_rfl) rfl (by simp [Value.oneCell']) ?_; obtain ⟨iT4, iT3, iV, hm7⟩ := midStore (cs' := #[.int .i64 Ji, .int .i64 Ja, .int .i64 Jb, .int .i64 Jax, .int .i64 Jay, .int .i64 Jtx, .int .i64 Jty, .int .i64 Jl]) gT4 gT3 gV hHeld hl4 hk4 (by first | exact h43 | exact (Ne.symm h34) | omega); go_simp)
                refine hKK.out _ _ (by assumption) (fun hHeld => ?_)
                clear hKK KK
                try simp only [Act.put, List.setIfInBounds_toArray, List.set_cons_zero, List.set_cons_succ]
                refine wpAnyH_done (by kernel_rfl) ?_ _
                (go_wp2_with fail; go_meet; exact ⟨_, _, ab, cb, rfl, rfl, iT3, iT4, iV, hHeld, hl3, hl4, hne, hor2⟩)
        case' rc1 =>
          ((try have hk4 := vsnew hV); (try have h43 := Nat.ne_of_lt hT3.lt); obtain ⟨hm, hT4, hl4⟩ := hHeld.lit #[.int .i64 0, .int .i64 0, .int .i64 0, .int .i64 0, .int .i64 0, .int .i64 0, .int .i64 0, .int .i64 0] 82; (try replace hV := hV.k ((Chg.refl [] _).alloc (.cells #[.int .i64 0, .int .i64 0, .int .i64 0, .int .i64 0, .int .i64 0, .int .i64 0, .int .i64 0, .int .i64 0] 82))); (try replace hT3 := hT3.alloc (.cells #[.int .i64 0, .int .i64 0, .int .i64 0, .int .i64 0, .int .i64 0, .int .i64 0, .int .i64 0, .int .i64 0] 82)); (try simp only [World.size_alloc] at hk4); (try simp only [World.size_alloc] at hT4); (try simp only [World.size_alloc] at hl4); (try simp only [World.size_alloc] at h34); (try simp only [World.size_alloc] at h43); go_simp)
          refine hKK.out _ _ (by assumption) (fun hHeld => ?_)
          clear hKK KK
          try simp only [Act.put, List.setIfInBounds_toArray, List.set_cons_zero, List.set_cons_succ]
          as_aux_lemma =>
            refine anyH_run2 (i := 3) (j := 4) (L1 := #[true, true, true, true, false, true, false, false]) (L2 := #[true, true, true, false, true, true, false, false]) rfl rfl (by kernel_rfl) (by rfl) (by rfl) (fun KK hKK => ?ra4) (fun KK hKK => ?rb4)
            case' ra4 =>
              go_simp
              (refine (HJJ.out _ (HC.out.k' hHeld)).mono ?_; rintro e wJ ⟨rfl, hm0⟩; have hm := Chg.k' hHeld hm0; replace hV := hV.k hm0; (try replace hT3 := hT3.k hm0); (try replace hT4 := hT4.k hm0); clear hm0; (try go_simp))
              refine hKK.out _ _ (by assumption) (fun hHeld => ?_)
              clear hKK KK
              try simp only [Act.put, List.setIfInBounds_toArray, List.set_cons_zero, List.set_cons_succ]
              as_aux_lemma =>
                refine anyH_run (i := 4) (L' := #[true, true, true, true, true, true, false, false]) rfl (by kernel_rfl) (by rfl) (fun KK hKK => ?_)
                ((try have hk3 := vsnew hV); (try have h34 := Nat.ne_of_lt hT4.lt); obtain ⟨hm, hT3, hl3⟩ := hHeld.lit #[.int .i64 0, .int .i64 0, .int .i64 0, .int .i64 0, .int .i64 0, .int .i64 0, .int .i64 0, .int .i64 0, .int .i64 0, .int .i64 0, .slice none 0 0] 53; (try replace hV := hV.k ((Chg.refl [] _).alloc (.cells #[.int .i64 0, .int .i64 0, .int .i64 0, .int .i64 0, .int .i64 0, .int .i64 0, .int .i64 0, .int .i64 0, .int .i64 0, .int .i64 0, .slice none 0 0] 53))); (try replace hT4 := hT4.alloc (.cells #[.int .i64 0, .int .i64 0, .int .i64 0, .int .i64 0, .int .i64 0, .int .i64 0, .int .i64 0, .int .i64 0, .int .i64 0, .int .i64 0, .slice none 0 0] 53)); (try simp only [World.size_alloc] at hk3); (try simp only [World.size_alloc] at hT3); (try simp only [World.size_alloc] at hl3); (try simp only [World.size_alloc] at h34); (try simp only [World.size_alloc] at h43); go_simp)
                refine hKK.out _ _ (by assumption) (fun hHeld => ?_)
                clear hKK KK
                try simp only [Act.put, List.setIfInBounds_toArray, List.set_cons_zero, List.set_cons_succ]
                refine anyH_run (i := 6) (L' := #[true, true, true, true, true, true, true, false]) rfl (by kernel_rfl) (by rfl) (fun KK hKK => ?_)
                (refine wp_store_row 53 _ _ rfl _ #[.int .i64 Bi, .int .i64 Bx, .int .i64 By, .int .i64 Bvx, .int .i64 Bvy, .int .i64 Ba, .int .i64 Bs, .int .i64 Bd, .int .i64 Bk, .int .i64 Br, .slice ab Bp.length cb] rfl rfl 53 _ hT3 (by kernel_rfl) rfl (by simp [Value.oneCell']) ?_; obtain ⟨gT3, gT4, gV, hm6⟩ := midStore (cs' := #[.int .i64 Bi, .int .i64 Bx, .int .i64 By, .int .i64 Bvx, .int .i64 Bvy, .int .i64 Ba, .int .i64 Bs, .int .i64 Bd, .int .i64 Bk, .int .i64 Br, .slice ab Bp.length cb]) hT3 hT4 hV hHeld hl3 hk3 (by first | exact h34 | exact (Ne.symm h43) | omega); go_simp)
                refine hKK.out _ _ (by assumption) (fun hHeld => ?_)
                clear hKK KK
                try simp only [Act.put, List.setIfInBounds_toArray, List.set_cons_zero, List.set_cons_succ]
                refine anyH_run (i := 7) (L' := #[true, true, true, true, true, true, true, true]) rfl (by kernel_rfl) (by rfl) (fun KK hKK => ?_)
                (refine wp_store_row 82 _ _ rfl _ #[.int .i64 Ji, .int .i64 Ja, .int .i64 Jb, .int .i64 Jax, .int .i64 Jay, .int .i64 Jtx, .int .i64 Jty, .int .i64 Jl] rfl rfl 82 _ gT4 (by kernel_rfl) rfl (by simp [Value.oneCell']) ?_; obtain ⟨iT4, iT3, iV, hm7⟩ := midStore (cs' := #[.int .i64 Ji, .int .i64 Ja, .int .i64 Jb, .int .i64 Jax, .int .i64 Jay, .int .i64 Jtx, .int .i64 Jty, .int .i64 Jl]) gT4 gT3 gV hHeld hl4 hk4 (by first | exact h43 | exact (Ne.symm h34) | omega); go_simp)
                refine hKK.out _ _ (by assumption) (fun hHeld => ?_)
                clear hKK KK
                try simp only [Act.put, List.setIfInBounds_toArray, List.set_cons_zero, List.set_cons_succ]
                refine wpAnyH_done (by kernel_rfl) ?_ _
                (go_wp2_with fail; go_meet; exact ⟨_, _, ab, cb, rfl, rfl, iT3, iT4, iV, hHeld, hl3, hl4, hne, hor2⟩)
            case' rb4 =>
              ((try have hk3 := vsnew hV); (try have h34 := Nat.ne_of_lt hT4.lt); obtain ⟨hm, hT3, hl3⟩ := hHeld.lit #[.int .i64 0, .int .i64 0, .int .i64 0, .int .i64 0, .int .i64 0, .int .i64 0, .int .i64 0, .int .i64 0, .int .i64 0, .int .i64 0, .slice none 0 0] 53; (try replace hV := hV.k ((Chg.refl [] _).alloc (.cells #[.int .i64 0, .int .i64 0, .int .i64 0, .int .i64 0, .int .i64 0, .int .i64 0, .int .i64 0, .int .i64 0, .int .i64 0, .int .i64 0, .slice none 0 0] 53))); (try replace hT4 := hT4.alloc (.cells #[.int .i64 0, .int .i64 0, .int .i64 0, .int .i64 0, .int .i64 0, .int .i64 0, .int .i64 0, .int .i64 0, .int .i64 0, .int .i64 0, .slice none 0 0] 53)); (try simp only [World.size_alloc] at hk3); (try simp only [World.size_alloc] at hT3); (try simp only [World.size_alloc] at hl3); (try simp only [World.size_alloc] at h34); (try simp only [World.size_alloc] at h43); go_simp)
              refine hKK.out _ _ (by assumption) (fun hHeld => ?_)
              clear hKK KK
              try simp only [Act.put, List.setIfInBounds_toArray, List.set_cons_zero, List.set_cons_succ]
              as_aux_lemma =>
                refine anyH_run (i := 3) (L' := #[true, true, true, true, true, true, false, false]) rfl (by kernel_rfl) (by rfl) (fun KK hKK => ?_)
                go_simp
                (refine (HJJ.out _ (HC.out.k' hHeld)).mono ?_; rintro e wJ ⟨rfl, hm0⟩; have hm := Chg.k' hHeld hm0; replace hV := hV.k hm0; (try replace hT3 := hT3.k hm0); (try replace hT4 := hT4.k hm0); clear hm0; (try go_simp))
                refine hKK.out _ _ (by assumption) (fun hHeld => ?_)
                clear hKK KK
                try simp only [Act.put, List.setIfInBounds_toArray, List.set_cons_zero, List.set_cons_succ]
                refine anyH_run (i := 6) (L' := #[true, true, true, true, true, true, true, false]) rfl (by kernel_rfl) (by rfl) (fun KK hKK => ?_)
                (refine wp_store_row 53 _ _ rfl _ #[.int .i64 Bi, .int .i64 Bx, .int .i64 By, .int .i64 Bvx, .int .i64 Bvy, .int .i64 Ba, .int .i64 Bs, .int .i64 Bd, .int .i64 Bk, .int .i64 Br, .slice ab Bp.length cb] rfl rfl 53 _ hT3 (by kernel_rfl) rfl (by simp [Value.oneCell']) ?_; obtain ⟨gT3, gT4, gV, hm6⟩ := midStore (cs' := #[.int .i64 Bi, .int .i64 Bx, .int .i64 By, .int .i64 Bvx, .int .i64 Bvy, .int .i64 Ba, .int .i64 Bs, .int .i64 Bd, .int .i64 Bk, .int .i64 Br, .slice ab Bp.length cb]) hT3 hT4 hV hHeld hl3 hk3 (by first | exact h34 | exact (Ne.symm h43) | omega); go_simp)
                refine hKK.out _ _ (by assumption) (fun hHeld => ?_)
                clear hKK KK
                try simp only [Act.put, List.setIfInBounds_toArray, List.set_cons_zero, List.set_cons_succ]
                refine anyH_run (i := 7) (L' := #[true, true, true, true, true, true, true, true]) rfl (by kernel_rfl) (by rfl) (fun KK hKK => ?_)
                (refine wp_store_row 82 _ _ rfl _ #[.int .i64 Ji, .int .i64 Ja, .int .i64 Jb, .int .i64 Jax, .int .i64 Jay, .int .i64 Jtx, .int .i64 Jty, .int .i64 Jl] rfl rfl 82 _ gT4 (by kernel_rfl) rfl (by simp [Value.oneCell']) ?_; obtain ⟨iT4, iT3, iV, hm7⟩ := midStore (cs' := #[.int .i64 Ji, .int .i64 Ja, .int .i64 Jb, .int .i64 Jax, .int .i64 Jay, .int .i64 Jtx, .int .i64 Jty, .int .i64 Jl]) gT4 gT3 gV hHeld hl4 hk4 (by first | exact h43 | exact (Ne.symm h34) | omega); go_simp)
                refine hKK.out _ _ (by assumption) (fun hHeld => ?_)
                clear hKK KK
                try simp only [Act.put, List.setIfInBounds_toArray, List.set_cons_zero, List.set_cons_succ]
                refine wpAnyH_done (by kernel_rfl) ?_ _
                (go_wp2_with fail; go_meet; exact ⟨_, _, ab, cb, rfl, rfl, iT3, iT4, iV, hHeld, hl3, hl4, hne, hor2⟩)
    case' rb0 =>
      ((try have hk3 := vsnew hV); (try have h34 := Nat.ne_of_lt hT4.lt); obtain ⟨hm, hT3, hl3⟩ := hHeld.lit #[.int .i64 0, .int .i64 0, .int .i64 0, .int .i64 0, .int .i64 0, .int .i64 0, .int .i64 0, .int .i64 0, .int .i64 0, .int .i64 0, .slice none 0 0] 53; (try replace hV := hV.k ((Chg.refl [] _).alloc (.cells #[.int .i64 0, .int .i64 0, .int .i64 0, .int .i64 0, .int .i64 0, .int .i64 0, .int .i64 0, .int .i64 0, .int .i64 0, .int .i64 0, .slice none 0 0] 53))); (try replace hT4 := hT4.alloc (.cells #[.int .i64 0, .int .i64 0, .int .i64 0, .int .i64 0, .int .i64 0, .int .i64 0, .int .i64 0, .int .i64 0, .int .i64 0, .int .i64 0, .slice none 0 0] 53)); (try simp only [World.size_alloc] at hk3); (try simp only [World.size_alloc] at hT3); (try simp only [World.size_alloc] at hl3); (try simp only [World.size_alloc] at h34); (try simp only [World.size_alloc] at h43); go_simp)
      refine hKK.out _ _ (by assumption) (fun hHeld => ?_)
      clear hKK KK
      try simp only [Act.put, List.setIfInBounds_toArray, List.set_cons_zero, List.set_cons_succ]
      as_aux_lemma =>
        refine anyH_run2 (i := 1) (j := 5) (L1 := #[true, true, true, false, true, false, false, false]) (L2 := #[true, false, true, false, true, true, false, false]) rfl rfl (by kernel_rfl) (by rfl) (by rfl) (fun KK hKK => ?ra5) (fun KK hKK => ?rb5)
        case' ra5 =>
          go_simp
          (refine (HBB.out _ (HC.out.k' hHeld)).mono ?_; rintro e wB ⟨bv, rfl, hV, hm0, hor⟩; obtain ⟨ab, cb, rfl, -⟩ := hV.form; have hor2 := hor.imp id (fun h k hk => Nat.le_trans hHeld.size (h k hk)); have hne := vsne (b := kb) HPV.out (by have := NKB.out; omega) (by have := NKB.out; have := hHeld.size; omega) hor; (try have hk3 := vsne HPV.out (Nat.le_trans NK.out hl3) hT3.lt hor); (try have hk4 := vsne HPV.out (Nat.le_trans NK.out hl4) hT4.lt hor); have hm := Chg.k' hHeld hm0; (try replace hT3 := hT3.k hm0); (try replace hT4 := hT4.k hm0); clear hm0 hor; (try go_simp))
          refine hKK.out _ _ (by assumption) (fun hHeld => ?_)
          clear hKK KK
          try simp only [Act.put, List.setIfInBounds_toArray, List.set_cons_zero, List.set_cons_succ]
          as_aux_lemma =>
            refine anyH_run2 (i := 3) (j := 5) (L1 := #[true, true, true, true, true, false, false, false]) (L2 := #[true, true, true, false, true, true, false, false]) rfl rfl (by kernel_rfl) (by rfl) (by rfl) (fun KK hKK => ?ra6) (fun KK hKK => ?rb6)
            case' ra6 =>
              go_simp
              (refine (HJJ.out _ (HC.out.k' hHeld)).mono ?_; rintro e wJ ⟨rfl, hm0⟩; have hm := Chg.k' hHeld hm0; replace hV := hV.k hm0; (try replace hT3 := hT3.k hm0); (try replace hT4 := hT4.k hm0); clear hm0; (try go_simp))
              refine hKK.out _ _ (by assumption) (fun hHeld => ?_)
              clear hKK KK
              try simp only [Act.put, List.setIfInBounds_toArray, List.set_cons_zero, List.set_cons_succ]
              as_aux_lemma =>
                refine anyH_run (i := 5) (L' := #[true, true, true, true, true, true, false, false]) rfl (by kernel_rfl) (by rfl) (fun KK hKK => ?_)
                ((try have hk4 := vsnew hV); (try have h43 := Nat.ne_of_lt hT3.lt); obtain ⟨hm, hT4, hl4⟩ := hHeld.lit #[.int .i64 0, .int .i64 0, .int .i64 0, .int .i64 0, .int .i64 0, .int .i64 0, .int .i64 0, .int .i64 0] 82; (try replace hV := hV.k ((Chg.refl [] _).alloc (.cells #[.int .i64 0, .int .i64 0, .int .i64 0, .int .i64 0, .int .i64 0, .int .i64 0, .int .i64 0, .int .i64 0] 82))); (try replace hT3 := hT3.alloc (.cells #[.int .i64 0, .int .i64 0, .int .i64 0, .int .i64 0, .int .i64 0, .int .i64 0, .int .i64 0, .int .i64 0] 82)); (try simp only [World.size_alloc] at hk4); (try simp only [World.size_alloc] at hT4); (try simp only [World.size_alloc] at hl4); (try simp only [World.size_alloc] at h34); (try simp only [World.size_alloc] at h43); go_simp)
                refine hKK.out _ _ (by assumption) (fun hHeld => ?_)
                clear hKK KK
                try simp only [Act.put, List.setIfInBounds_toArray, List.set_cons_zero, List.set_cons_succ]
                refine anyH_run (i := 6) (L' := #[true, true, true, true, true, true, true, false]) rfl (by kernel_rfl) (by rfl) (fun KK hKK => ?_)
                (refine wp_store_row 53 _ _ rfl _ #[.int .i64 Bi, .int .i64 Bx, .int .i64 By, .int .i64 Bvx, .int .i64 Bvy, .int .i64 Ba, .int .i64 Bs, .int .i64 Bd, .int .i64 Bk, .int .i64 Br, .slice ab Bp.length cb] rfl rfl 53 _ hT3 (by kernel_rfl) rfl (by simp [Value.oneCell']) ?_; obtain ⟨gT3, gT4, gV, hm6⟩ := midStore (cs' := #[.int .i64 Bi, .int .i64 Bx, .int .i64 By, .int .i64 Bvx, .int .i64 Bvy, .int .i64 Ba, .int .i64 Bs, .int .i64 Bd, .int .i64 Bk, .int .i64 Br, .slice ab Bp.length cb]) hT3 hT4 hV hHeld hl3 hk3 (by first | exact h34 | exact (Ne.symm h43) | omega); go_simp)
                refine hKK.out _ _ (by assumption) (fun hHeld => ?_)
                clear hKK KK
                try simp only [Act.put, List.setIfInBounds_toArray, List.set_cons_zero, List.set_cons_succ]
                refine anyH_run (i := 7) (L' := #[true, true, true, true, true, true, true, true]) rfl (by kernel_rfl) (by rfl) (fun KK hKK => ?_)
                (refine wp_store_row 82 _ _ rfl _ #[.int .i64 Ji, .int .i64 Ja, .int .i64 Jb, .int .i64 Jax, .int .i64 Jay, .int .i64 Jtx, .int .i64 Jty, .int .i64 Jl] rfl rfl 82 _ gT4 (by kernel_rfl) rfl (by simp [Value.oneCell']) ?_; obtain ⟨iT4, iT3, iV, hm7⟩ := midStore (cs' := #[.int .i64 Ji, .int .i64 Ja, .int .i64 Jb, .int .i64 Jax, .int .i64 Jay, .int .i64 Jtx, .int .i64 Jty, .int .i64 Jl]) gT4 gT3 gV hHeld hl4 hk4 (by first | exact h43 | exact (Ne.symm h34) | omega); go_simp)
                refine hKK.out _ _ (by assumption) (fun hHeld => ?_)
                clear hKK KK
                try simp only [Act.put, List.setIfInBounds_toArray, List.set_cons_zero, List.set_cons_succ]
                refine wpAnyH_done (by kernel_rfl) ?_ _
                (go_wp2_with fail; go_meet; exact ⟨_, _, ab, cb, rfl, rfl, iT3, iT4, iV, hHeld, hl3, hl4, hne, hor2⟩)
            case' rb6 =>
              ((try have hk4 := vsnew hV); (try have h43 := Nat.ne_of_lt hT3.lt); obtain ⟨hm, hT4, hl4⟩ := hHeld.lit #[.int .i64 0, .int .i64 0, .int .i64 0, .int .i64 0, .int .i64 0, .int .i64 0, .int .i64 0, .int .i64 0] 82; (try replace hV := hV.k ((Chg.refl [] _).alloc (.cells #[.int .i64 0, .int .i64 0, .int .i64 0, .int .i64 0, .int .i64 0, .int .i64 0, .int .i64 0, .int .i64 0] 82))); (try replace hT3 := hT3.alloc (.cells #[.int .i64 0, .int .i64 0, .int .i64 0, .int .i64 0, .int .i64 0, .int .i64 0, .int .i64 0, .int .i64 0] 82)); (try simp only [World.size_alloc] at hk4); (try simp only [World.size_alloc] at hT4); (try simp only [World.size_alloc] at hl4); (try simp only [World.size_alloc] at h34); (try simp only [World.size_alloc] at h43); go_simp)
              refine hKK.out _ _ (by assumption) (fun hHeld => ?_)
              clear hKK KK
              try simp only [Act.put, List.setIfInBounds_toArray, List.set_cons_zero, List.set_cons_succ]
              as_aux_lemma =>
                refine anyH_run (i := 3) (L' := #[true, true, true, true, true, true, false, false]) rfl (by kernel_rfl) (by rfl) (fun KK hKK => ?_)
                go_simp
                (refine (HJJ.out _ (HC.out.k' hHeld)).mono ?_; rintro e wJ ⟨rfl, hm0⟩; have hm := Chg.k' hHeld hm0; replace hV := hV.k hm0; (try replace hT3 := hT3.k hm0); (try replace hT4 := hT4.k hm0); clear hm0; (try go_simp))
                refine hKK.out _ _ (by assumption) (fun hHeld => ?_)
                clear hKK KK
                try simp only [Act.put, List.setIfInBounds_toArray, List.set_cons_zero, List.set_cons_succ]
                refine anyH_run (i := 6) (L' := #[true, true, true, true, true, true, true, false]) rfl (by kernel_rfl) (by rfl) (fun KK hKK => ?_)
                (refine wp_store_row 53 _ _ rfl _ #[.int .i64 Bi, .int .i64 Bx, .int .i64 By, .int .i64 Bvx, .int .i64 Bvy, .int .i64 Ba, .int .i64 Bs, .int .i64 Bd, .int .i64 Bk, .int .i64 Br, .slice ab Bp.length cb] rfl rfl 53 _ hT3 (by kernel_rfl) rfl (by simp [Value.oneCell']) ?_; obtain ⟨gT3, gT4, gV, hm6⟩ := midStore (cs' := #[.int .i64 Bi, .int .i64 Bx, .int .i64 By, .int .i64 Bvx, .int .i64 Bvy, .int .i64 Ba, .int .i64 Bs, .int .i64 Bd, .int .i64 Bk, .int .i64 Br, .slice ab Bp.length cb]) hT3 hT4 hV hHeld hl3 hk3 (by first | exact h34 | exact (Ne.symm h43) | omega); go_simp)
                refine hKK.out _ _ (by assumption) (fun hHeld => ?_)
                clear hKK KK
                try simp only [Act.put, List.setIfInBounds_toArray, List.set_cons_zero, List.set_cons_succ]
                refine anyH_run (i := 7) (L' := #[true, true, true, true, true, true, true, true]) rfl (by kernel_rfl) (by rfl) (fun KK hKK => ?_)
                (refine wp_store_row 82 _ _ rfl _ #[.int .i64 Ji, .int .i64 Ja, .int .i64 Jb, .int .i64 Jax, .int .i64 Jay, .int .i64 Jtx, .int .i64 Jty, .int .i64 Jl] rfl rfl 82 _ gT4 (by kernel_rfl) rfl (by simp [Value.oneCell']) ?_; obtain ⟨iT4, iT3, iV, hm7⟩ := midStore (cs' := #[.int .i64 Ji, .int .i64 Ja, .int .i64 Jb, .int .i64 Jax, .int .i64 Jay, .int .i64 Jtx, .int .i64 Jty, .int .i64 Jl]) gT4 gT3 gV hHeld hl4 hk4 (by first | exact h43 | exact (Ne.symm h34) | omega); go_simp)
                refine hKK.out _ _ (by assumption) (fun hHeld => ?_)
                clear hKK KK
                try simp only [Act.put, List.setIfInBounds_toArray, List.set_cons_zero, List.set_cons_succ]
                refine wpAnyH_done (by kernel_rfl) ?_ _
                (go_wp2_with fail; go_meet; exact ⟨_, _, ab, cb, rfl, rfl, iT3, iT4, iV, hHeld, hl3, hl4, hne, hor2⟩)
        case' rb5 =>
          ((try have hk4 := vsnew hV); (try have h43 := Nat.ne_of_lt hT3.lt); obtain ⟨hm, hT4, hl4⟩ := hHeld.lit #[.int .i64 0, .int .i64 0, .int .i64 0, .int .i64 0, .int .i64 0, .int .i64 0, .int .i64 0, .int .i64 0] 82; (try replace hV := hV.k ((Chg.refl [] _).alloc (.cells #[.int .i64 0, .int .i64 0, .int .i64 0, .int .i64 0, .int .i64 0, .int .i64 0, .int .i64 0, .int .i64 0] 82))); (try replace hT3 := hT3.alloc (.cells #[.int .i64 0, .int .i64 0, .int .i64 0, .int .i64 0, .int .i64 0, .int .i64 0, .int .i64 0, .int .i64 0] 82)); (try simp only [World.size_alloc] at hk4); (try simp only [World.size_alloc] at hT4); (try simp only [World.size_alloc] at hl4); (try simp only [World.size_alloc] at h34); (try simp only [World.size_alloc] at h43); go_simp)
          refine hKK.out _ _ (by assumption) (fun hHeld => ?_)
          clear hKK KK
          try simp only [Act.put, List.setIfInBounds_toArray, List.set_cons_zero, List.set_cons_succ]
          as_aux_lemma =>
            refine anyH_run (i := 1) (L' := #[true, true, true, false, true, true, false, false]) rfl (by kernel_rfl) (by rfl) (fun KK hKK => ?_)
            go_simp
            (refine (HBB.out _ (HC.out.k' hHeld)).mono ?_; rintro e wB ⟨bv, rfl, hV, hm0, hor⟩; obtain ⟨ab, cb, rfl, -⟩ := hV.form; have hor2 := hor.imp id (fun h k hk => Nat.le_trans hHeld.size (h k hk)); have hne := vsne (b := kb) HPV.out (by have := NKB.out; omega) (by have := NKB.out; have := hHeld.size; omega) hor; (try have hk3 := vsne HPV.out (Nat.le_trans NK.out hl3) hT3.lt hor); (try have hk4 := vsne HPV.out (Nat.le_trans NK.out hl4) hT4.lt hor); have hm := Chg.k' hHeld hm0; (try replace hT3 := hT3.k hm0); (try replace hT4 := hT4.k hm0); clear hm0 hor; (try go_simp))
            refine hKK.out _ _ (by assumption) (fun hHeld => ?_)
            clear hKK KK
            try simp only [Act.put, List.setIfInBounds_toArray, List.set_cons_zero, List.set_cons_succ]
            refine anyH_run (i := 3) (L' := #[true, true, true, true, true, true, false, false]) rfl (by kernel_rfl) (by rfl) (fun KK hKK => ?_)
            go_simp
            (refine (HJJ.out _ (HC.out.k' hHeld)).mono ?_; rintro e wJ ⟨rfl, hm0⟩; have hm := Chg.k' hHeld hm0; replace hV := hV.k hm0; (try replace hT3 := hT3.k hm0); (try replace hT4 := hT4.k hm0); clear hm0; (try go_simp))
            refine hKK.out _ _ (by assumption) (fun hHeld => ?_)
            clear hKK KK
            try simp only [Act.put, List.setIfInBounds_toArray, List.set_cons_zero, List.set_cons_succ]
            refine anyH_run (i := 6) (L' := #[true, true, true, true, true, true, true, false]) rfl (by kernel_rfl) (by rfl) (fun KK hKK => ?_)
            (refine wp_store_row 53 _ _ rfl _ #[.int .i64 Bi, .int .i64 Bx, .int .i64 By, .int .i64 Bvx, .int .i64 Bvy, .int .i64 Ba, .int .i64 Bs, .int .i64 Bd, .int .i64 Bk, .int .i64 Br, .slice ab Bp.length cb] rfl rfl 53 _ hT3 (by kernel_rfl) rfl (by simp [Value.oneCell']) ?_; obtain ⟨gT3, gT4, gV, hm6⟩ := midStore (cs' := #[.int .i64 Bi, .int .i64 Bx, .int .i64 By, .int .i64 Bvx, .int .i64 Bvy, .int .i64 Ba, .int .i64 Bs, .int .i64 Bd, .int .i64 Bk, .int .i64 Br, .slice ab Bp.length cb]) hT3 hT4 hV hHeld hl3 hk3 (by first | exact h34 | exact (Ne.symm h43) | omega); go_simp)
            refine hKK.out _ _ (by assumption) (fun hHeld => ?_)
            clear hKK KK
            try simp only [Act.put, List.setIfInBounds_toArray, List.set_cons_zero, List.set_cons_succ]
            refine anyH_run (i := 7) (L' := #[true, true, true, true, true, true, true, true]) rfl (by kernel_rfl) (by rfl) (fun KK hKK => ?_)
            (refine wp_store_row 82 _ _ rfl _ #[.int .i64 Ji, .int .i64 Ja, .int .i64 Jb, .int .i64 Jax, .int .i64 Jay, .int .i64 Jtx, .int .i64 Jty, .int .i64 Jl] rfl rfl 82 _ gT4 (by kernel_rfl) rfl (by simp [Value.oneCell']) ?_; obtain ⟨iT4, iT3, iV, hm7⟩ := midStore (cs' := #[.int .i64 Ji, .int .i64 Ja, .int .i64 Jb, .int .i64 Jax, .int .i64 Jay, .int .i64 Jtx, .int .i64 Jty, .int .i64 Jl]) gT4 gT3 gV hHeld hl4 hk4 (by first | exact h43 | exact (Ne.symm h34) | omega); go_simp)
            refine hKK.out _ _ (by assumption) (fun hHeld => ?_)
            clear hKK KK
            try simp only [Act.put, List.setIfInBounds_toArray, List.set_cons_zero, List.set_cons_succ]
            refine wpAnyH_done (by kernel_rfl) ?_ _
            (go_wp2_with fail; go_meet; exact ⟨_, _, ab, cb, rfl, rfl, iT3, iT4, iV, hHeld, hl3, hl4, hne, hor2⟩)
    case' rc0 =>
      ((try have hk4 := vsnew hV); (try have h43 := Nat.ne_of_lt hT3.lt); obtain ⟨hm, hT4, hl4⟩ := hHeld.lit #[.int .i64 0, .int .i64 0, .int .i64 0, .int .i64 0, .int .i64 0, .int .i64 0, .int .i64 0, .int .i64 0] 82; (try replace hV := hV.k ((Chg.refl [] _).alloc (.cells #[.int .i64 0, .int .i64 0, .int .i64 0, .int .i64 0, .int .i64 0, .int .i64 0, .int .i64 0, .int .i64 0] 82))); (try replace hT3 := hT3.alloc (.cells #[.int .i64 0, .int .i64 0, .int .i64 0, .int .i64 0, .int .i64 0, .int .i64 0, .int .i64 0, .int .i64 0] 82)); (try simp only [World.size_alloc] at hk4); (try simp only [World.size_alloc] at hT4); (try simp only [World.size_alloc] at hl4); (try simp only [World.size_alloc] at h34); (try simp only [World.size_alloc] at h43); go_simp)
      refine hKK.out _ _ (by assumption) (fun hHeld => ?_)
      clear hKK KK
      try simp only [Act.put, List.setIfInBounds_toArray, List.set_cons_zero, List.set_cons_succ]
      as_aux_lemma =>
        refine anyH_run2 (i := 1) (j := 4) (L1 := #[true, true, true, false, false, true, false, false]) (L2 := #[true, false, true, false, true, true, false, false]) rfl rfl (by kernel_rfl) (by rfl) (by rfl) (fun KK hKK => ?ra7) (fun KK hKK => ?rb7)
        case' ra7 =>
          go_simp
          (refine (HBB.out _ (HC.out.k' hHeld)).mono ?_; rintro e wB ⟨bv, rfl, hV, hm0, hor⟩; obtain ⟨ab, cb, rfl, -⟩ := hV.form; have hor2 := hor.imp id (fun h k hk => Nat.le_trans hHeld.size (h k hk)); have hne := vsne (b := kb) HPV.out (by have := NKB.out; omega) (by have := NKB.out; have := hHeld.size; omega) hor; (try have hk3 := vsne HPV.out (Nat.le_trans NK.out hl3) hT3.lt hor); (try have hk4 := vsne HPV.out (Nat.le_trans NK.out hl4) hT4.lt hor); have hm := Chg.k' hHeld hm0; (try replace hT3 := hT3.k hm0); (try replace hT4 := hT4.k hm0); clear hm0 hor; (try go_simp))
          refine hKK.out _ _ (by assumption) (fun hHeld => ?_)
          clear hKK KK
          try simp only [Act.put, List.setIfInBounds_toArray, List.set_cons_zero, List.set_cons_succ]
          as_aux_lemma =>
            refine anyH_run2 (i := 3) (j := 4) (L1 := #[true, true, true, true, false, true, false, false]) (L2 := #[true, true, true, false, true, true, false, false]) rfl rfl (by kernel_rfl) (by rfl) (by rfl) (fun KK hKK => ?ra8) (fun KK hKK => ?rb8)
            case' ra8 =>
              go_simp
              (refine (HJJ.out _ (HC.out.k' hHeld)).mono ?_; rintro e wJ ⟨rfl, hm0⟩; have hm := Chg.k' hHeld hm0; replace hV := hV.k hm0; (try replace hT3 := hT3.k hm0); (try replace hT4 := hT4.k hm0); clear hm0; (try go_simp))
              refine hKK.out _ _ (by assumption) (fun hHeld => ?_)
              clear hKK KK
              try simp only [Act.put, List.setIfInBounds_toArray, List.set_cons_zero, List.set_cons_succ]
              as_aux_lemma =>
                refine anyH_run (i := 4) (L' := #[true, true, true, true, true, true, false, false]) rfl (by kernel_rfl) (by rfl) (fun KK hKK => ?_)
                ((try have hk3 := vsnew hV); (try have h34 := Nat.ne_of_lt hT4.lt); obtain ⟨hm, hT3, hl3⟩ := hHeld.lit #[.int .i64 0, .int .i64 0, .int .i64 0, .int .i64 0, .int .i64 0, .int .i64 0, .int .i64 0, .int .i64 0, .int .i64 0, .int .i64 0, .slice none 0 0] 53; (try replace hV := hV.k ((Chg.refl [] _).alloc (.cells #[.int .i64 0, .int .i64 0, .int .i64 0, .int .i64 0, .int .i64 0, .int .i64 0, .int .i64 0, .int .i64 0, .int .i64 0, .int .i64 0, .slice none 0 0] 53))); (try replace hT4 := hT4.alloc (.cells #[.int .i64 0, .int .i64 0, .int .i64 0, .int .i64 0, .int .i64 0, .int .i64 0, .int .i64 0, .int .i64 0, .int .i64 0, .int .i64 0, .slice none 0 0] 53)); (try simp only [World.size_alloc] at hk3); (try simp only [World.size_alloc] at hT3); (try simp only [World.size_alloc] at hl3); (try simp only [World.size_alloc] at h34); (try simp only [World.size_alloc] at h43); go_simp)
                refine hKK.out _ _ (by assumption) (fun hHeld => ?_)
                clear hKK KK
                try simp only [Act.put, List.setIfInBounds_toArray, List.set_cons_zero, List.set_cons_succ]
                refine anyH_run (i := 6) (L' := #[true, true, true, true, true, true, true, false]) rfl (by kernel_rfl) (by rfl) (fun KK hKK => ?_)
                (refine wp_store_row 53 _ _ rfl _ #[.int .i64 Bi, .int .i64 Bx, .int .i64 By, .int .i64 Bvx, .int .i64 Bvy, .int .i64 Ba, .int .i64 Bs, .int .i64 Bd, .int .i64 Bk, .int .i64 Br, .slice ab Bp.length cb] rfl rfl 53 _ hT3 (by kernel_rfl) rfl (by simp [Value.oneCell']) ?_; obtain ⟨gT3, gT4, gV, hm6⟩ := midStore (cs' := #[.int .i64 Bi, .int .i64 Bx, .int .i64 By, .int .i64 Bvx, .int .i64 Bvy, .int .i64 Ba, .int .i64 Bs, .int .i64 Bd, .int .i64 Bk, .int .i64 Br, .slice ab Bp.length cb]) hT3 hT4 hV hHeld hl3 hk3 (by first | exact h34 | exact (Ne.symm h43) | omega); go_simp)
                refine hKK.out _ _ (by assumption) (fun hHeld => ?_)
                clear hKK KK
                try simp only [Act.put, List.setIfInBounds_toArray, List.set_cons_zero, List.set_cons_succ]
                refine anyH_run (i := 7) (L' := #[true, true, true, true, true, true, true, true]) rfl (by kernel_rfl) (by rfl) (fun KK hKK => ?_)
                (refine wp_store_row 82 _ _ rfl _ #[.int .i64 Ji, .int .i64 Ja, .int .i64 Jb, .int .i64 Jax, .int .i64 Jay, .int .i64 Jtx, .int .i64 Jty, .int .i64 Jl] rfl rfl 82 _ gT4 (by kernel_rfl) rfl (by simp [Value.oneCell']) ?_; obtain ⟨iT4, iT3, iV, hm7⟩ := midStore (cs' := #[.int .i64 Ji, .int .i64 Ja, .int .i64 Jb, .int .i64 Jax, .int .i64 Jay, .int .i64 Jtx, .int .i64 Jty, .int .i64 Jl]) gT4 gT3 gV hHeld hl4 hk4 (by first | exact h43 | exact (Ne.symm h34) | omega); go_simp)
                refine hKK.out _ _ (by assumption) (fun hHeld => ?_)
                clear hKK KK
                try simp only [Act.put, List.setIfInBounds_toArray, List.set_cons_zero, List.set_cons_succ]
                refine wpAnyH_done (by kernel_rfl) ?_ _
                (go_wp2_with fail; go_meet; exact ⟨_, _, ab, cb, rfl, rfl, iT3, iT4, iV, hHeld, hl3, hl4, hne, hor2⟩)
            case' rb8 =>
              ((try have hk3 := vsnew hV); (try have h34 := Nat.ne_of_lt hT4.lt); obtain ⟨hm, hT3, hl3⟩ := hHeld.lit #[.int .i64 0, .int .i64 0, .int .i64 0, .int .i64 0, .int .i64 0, .int .i64 0, .int .i64 0, .int .i64 0, .int .i64 0, .int .i64 0, .slice none 0 0] 53; (try replace hV := hV.k ((Chg.refl [] _).alloc (.cells #[.int .i64 0, .int .i64 0, .int .i64 0, .int .i64 0, .int .i64 0, .int .i64 0, .int .i64 0, .int .i64 0, .int .i64 0, .int .i64 0, .slice none 0 0] 53))); (try replace hT4 := hT4.alloc (.cells #[.int .i64 0, .int .i64 0, .int .i64 0, .int .i64 0, .int .i64 0, .int .i64 0, .int .i64 0, .int .i64 0, .int .i64 0, .int .i64 0, .slice none 0 0] 53)); (try simp only [World.size_alloc] at hk3); (try simp only [World.size_alloc] at hT3); (try simp only [World.size_alloc] at hl3); (try simp only [World.size_alloc] at h34); (try simp only [World.size_alloc] at h43); go_simp)
              refine hKK.out _ _ (by assumption) (fun hHeld => ?_)
              clear hKK KK
              try simp only [Act.put, List.setIfInBounds_toArray, List.set_cons_zero, List.set_cons_succ]
              as_aux_lemma =>
                refine anyH_run (i := 3) (L' := #[true, true, true, true, true, true, false, false]) rfl (by kernel_rfl) (by rfl) (fun KK hKK => ?_)
                go_simp
                (refine (HJJ.out _ (HC.out.k' hHeld)).mono ?_; rintro e wJ ⟨rfl, hm0⟩; have hm := Chg.k' hHeld hm0; replace hV := hV.k hm0; (try replace hT3 := hT3.k hm0); (try replace hT4 := hT4.k hm0); clear hm0; (try go_simp))
                refine hKK.out _ _ (by assumption) (fun hHeld => ?_)
                clear hKK KK
                try simp only [Act.put, List.setIfInBounds_toArray, List.set_cons_zero, List.set_cons_succ]
                refine anyH_run (i := 6) (L' := #[true, true, true, true, true, true, true, false]) rfl (by kernel_rfl) (by rfl) (fun KK hKK => ?_)
                (refine wp_store_row 53 _ _ rfl _ #[.int .i64 Bi, .int .i64 Bx, .int .i64 By, .int .i64 Bvx, .int .i64 Bvy, .int .i64 Ba, .int .i64 Bs, .int .i64 Bd, .int .i64 Bk, .int .i64 Br, .slice ab Bp.length cb] rfl rfl 53 _ hT3 (by kernel_rfl) rfl (by simp [Value.oneCell']) ?_; obtain ⟨gT3, gT4, gV, hm6⟩ := midStore (cs' := #[.int .i64 Bi, .int .i64 Bx, .int .i64 By, .int .i64 Bvx, .int .i64 Bvy, .int .i64 Ba, .int .i64 Bs, .int .i64 Bd, .int .i64 Bk, .int .i64 Br, .slice ab Bp.length cb]) hT3 hT4 hV hHeld hl3 hk3 (by first | exact h34 | exact (Ne.symm h43) | omega); go_simp)
                refine hKK.out _ _ (by assumption) (fun hHeld => ?_)
                clear hKK KK
                try simp only [Act.put, List.setIfInBounds_toArray, List.set_cons_zero, List.set_cons_succ]
                refine anyH_run (i := 7) (L' := #[true, true, true, true, true, true, true, true]) rfl (by kernel_rfl) (by rfl) (fun KK hKK => ?_)
                (refine wp_store_row 82 _ _ rfl _ #[.int .i64 Ji, .int .i64 Ja, .int .i64 Jb, .int .i64 Jax, .int .i64 Jay, .int .i64 Jtx, .int .i64 Jty, .int .i64 Jl] rfl rfl 82 _ gT4 (by kernel_rfl) rfl (by simp [Value.oneCell']) ?_; obtain ⟨iT4, iT3, iV, hm7⟩ := midStore (cs' := #[.int .i64 Ji, .int .i64 Ja, .int .i64 Jb, .int .i64 Jax, .int .i64 Jay, .int .i64 Jtx, .int .i64 Jty, .int .i64 Jl]) gT4 gT3 gV hHeld hl4 hk4 (by first | exact h43 | exact (Ne.symm h34) | omega); go_simp)
                refine hKK.out _ _ (by assumption) (fun hHeld => ?_)
                clear hKK KK
                try simp only [Act.put, List.setIfInBounds_toArray, List.set_cons_zero, List.set_cons_succ]
                refine wpAnyH_done (by kernel_rfl) ?_ _
                (go_wp2_with fail; go_meet; exact ⟨_, _, ab, cb, rfl, rfl, iT3, iT4, iV, hHeld, hl3, hl4, hne, hor2⟩)
        case' rb7 =>
          ((try have hk3 := vsnew hV); (try have h34 := Nat.ne_of_lt hT4.lt); obtain ⟨hm, hT3, hl3⟩ := hHeld.lit #[.int .i64 0, .int .i64 0, .int .i64 0, .int .i64 0, .int .i64 0, .int .i64 0, .int .i64 0, .int .i64 0, .int .i64 0, .int .i64 0, .slice none 0 0] 53; (try replace hV := hV.k ((Chg.refl [] _).alloc (.cells #[.int .i64 0, .int .i64 0, .int .i64 0, .int .i64 0, .int .i64 0, .int .i64 0, .int .i64 0, .int .i64 0, .int .i64 0, .int .i64 0, .slice none 0 0] 53))); (try replace hT4 := hT4.alloc (.cells #[.int .i64 0, .int .i64 0, .int .i64 0, .int .i64 0, .int .i64 0, .int .i64 0, .int .i64 0, .int .i64 0, .int .i64 0, .int .i64 0, .slice none 0 0] 53)); (try simp only [World.size_alloc] at hk3); (try simp only [World.size_alloc] at hT3); (try simp only [World.size_alloc] at hl3); (try simp only [World.size_alloc] at h34); (try simp only [World.size_alloc] at h43); go_simp)
          refine hKK.out _ _ (by assumption) (fun hHeld => ?_)
          clear hKK KK
          try simp only [Act.put, List.setIfInBounds_toArray, List.set_cons_zero, List.set_cons_succ]
          as_aux_lemma =>
            refine anyH_run (i := 1) (L' := #[true, true, true, false, true, true, false, false]) rfl (by kernel_rfl) (by rfl) (fun KK hKK => ?_)
            go_simp
            (refine (HBB.out _ (HC.out.k' hHeld)).mono ?_; rintro e wB ⟨bv, rfl, hV, hm0, hor⟩; obtain ⟨ab, cb, rfl, -⟩ := hV.form; have hor2 := hor.imp id (fun h k hk => Nat.le_trans hHeld.size (h k hk)); have hne := vsne (b := kb) HPV.out (by have := NKB.out; omega) (by have := NKB.out; have := hHeld.size; omega) hor; (try have hk3 := vsne HPV.out (Nat.le_trans NK.out hl3) hT3.lt hor); (try have hk4 := vsne HPV.out (Nat.le_trans NK.out hl4) hT4.lt hor); have hm := Chg.k' hHeld hm0; (try replace hT3 := hT3.k hm0); (try replace hT4 := hT4.k hm0); clear hm0 hor; (try go_simp))
            refine hKK.out _ _ (by assumption) (fun hHeld => ?_)
            clear hKK KK
            try simp only [Act.put, List.setIfInBounds_toArray, List.set_cons_zero, List.set_cons_succ]
            refine anyH_run (i := 3) (L' := #[true, true, true, true, true, true, false, false]) rfl (by kernel_rfl) (by rfl) (fun KK hKK => ?_)
            go_simp
            (refine (HJJ.out _ (HC.out.k' hHeld)).mono ?_; rintro e wJ ⟨rfl, hm0⟩; have hm := Chg.k' hHeld hm0; replace hV := hV.k hm0; (try replace hT3 := hT3.k hm0); (try replace hT4 := hT4.k hm0); clear hm0; (try go_simp))
            refine hKK.out _ _ (by assumption) (fun hHeld => ?_)
            clear hKK KK
            try simp only [Act.put, List.setIfInBounds_toArray, List.set_cons_zero, List.set_cons_succ]
            refine anyH_run (i := 6) (L' := #[true, true, true, true, true, true, true, false]) rfl (by kernel_rfl) (by rfl) (fun KK hKK => ?_)
            (refine wp_store_row 53 _ _ rfl _ #[.int .i64 Bi, .int .i64 Bx, .int .i64 By, .int .i64 Bvx, .int .i64 Bvy, .int .i64 Ba, .int .i64 Bs, .int .i64 Bd, .int .i64 Bk, .int .i64 Br, .slice ab Bp.length cb] rfl rfl 53 _ hT3 (by kernel_rfl) rfl (by simp [Value.oneCell']) ?_; obtain ⟨gT3, gT4, gV, hm6⟩ := midStore (cs' := #[.int .i64 Bi, .int .i64 Bx, .int .i64 By, .int .i64 Bvx, .int .i64 Bvy, .int .i64 Ba, .int .i64 Bs, .int .i64 Bd, .int .i64 Bk, .int .i64 Br, .slice ab Bp.length cb]) hT3 hT4 hV hHeld hl3 hk3 (by first | exact h34 | exact (Ne.symm h43) | omega); go_simp)
            refine hKK.out _ _ (by assumption) (fun hHeld => ?_)
            clear hKK KK
            try simp only [Act.put, List.setIfInBounds_toArray, List.set_cons_zero, List.set_cons_succ]
            refine anyH_run (i := 7) (L' := #[true, true, true, true, true, true, true, true]) rfl (by kernel_rfl) (by rfl) (fun KK hKK => ?_)
            (refine wp_store_row 82 _ _ rfl _ #[.int .i64 Ji, .int .i64 Ja, .int .i64 Jb, .int .i64 Jax, .int .i64 Jay, .int .i64 Jtx, .int .i64 Jty, .int .i64 Jl] rfl rfl 82 _ gT4 (by kernel_rfl) rfl (by simp [Value.oneCell']) ?_; obtain ⟨iT4, iT3, iV, hm7⟩ := midStore (cs' := #[.int .i64 Ji, .int .i64 Ja, .int .i64 Jb, .int .i64 Jax, .int .i64 Jay, .int .i64 Jtx, .int .i64 Jty, .int .i64 Jl]) gT4 gT3 gV hHeld hl4 hk4 (by first | exact h43 | exact (Ne.symm h34) | omega); go_simp)
            refine hKK.out _ _ (by assumption) (fun hHeld => ?_)
            clear hKK KK
            try simp only [Act.put, List.setIfInBounds_toArray, List.set_cons_zero, List.set_cons_succ]
            refine wpAnyH_done (by kernel_rfl) ?_ _
            (go_wp2_with fail; go_meet; exact ⟨_, _, ab, cb, rfl, rfl, iT3, iT4, iV, hHeld, hl3, hl4, hne, hor2⟩)
  case rest =>
  obtain ⟨b3, b4, ab, cb, rfl, rfl, hT3, hT4, hV, hM, hl3, hl4, hne, hor2⟩ := hcut
  have HXX := HX.out.k hM
  have q0 := HXX.cell 0
  have q8 := HXX.cell 8
  have q9 := HXX.cell 9
  have q10 := HXX.cell 10
  have q12 := HXX.cell 12
  simp at q0 q8 q9 q10 q12
  have j0 := hT4.cell 0
  have j1 := hT4.cell 1
  have j2 := hT4.cell 2
  have j3 := hT4.cell 3
  have j4 := hT4.cell 4
  have j5 := hT4.cell 5
  have j6 := hT4.cell 6
  have j7 := hT4.cell 7
  simp at j0 j1 j2 j3 j4 j5 j6 j7
  have c0 := hT3.cell 0
  have c1 := hT3.cell 1
  have c2 := hT3.cell 2
  have c3 := hT3.cell 3
  have c4 := hT3.cell 4
  have c5 := hT3.cell 5
  have c6 := hT3.cell 6
  have c7 := hT3.cell 7
  have c8 := hT3.cell 8
  have c9 := hT3.cell 9
  have c10 := hT3.cell 10
  simp at c0 c1 c2 c3 c4 c5 c6 c7 c8 c9 c10
  have kB4 := HY.out.k hM
  have HMM := hd (HC.out.k' hM)
  have HNE := hd hne
  have HOR := hd (hor2.imp id (fun h k hk => Nat.le_trans NK.out (h k hk)))
  clear hM hne hor2 HX HC HY HBB HJJ hT3 hT4
  by_cases k2 : kk = 2
  · subst k2
    have hOO : O = ⟨5, a16, 0, 0, (0, 0), (vx1, vy1), 0, sp', 0, 0, noS⟩ := by rw [HO.out]; simp
    clear HO
    subst hOO
    go_upto_region 4 with (fail)
    have HXX := hd HXX
    have hT := kB4.k (Chg.refl [] wc).drew
    have NX : Hd (xb ∉ [kb]) := hd (by have := HT.out; simp; omega)
    clear kB4 q0 q8 q9 q10 q12
    refine anyH_start (n := 11) (L := #[false, false, false, false, false, false, false, false, false, false, false]) (by kernel_rfl) (by kernel_rfl) (S := (fun wx => Chg [kb] wc wx)) ((Chg.refl _ _).drew) (fun hHeld => ?_)
    generalize wc.drew = wcd at *
    refine anyH_take (i := 0) (d := 14) (L' := #[true, false, false, false, false, false, false, false, false, false, false]) (v := ?v64) rfl rfl (by kernel_rfl) (fun _ _ _ h => h) (by rfl) ?hy64 (by assumption) ?rest64
    case hy64 => (intro wx hSw; (try dsimp only at hSw); (have hx := HXX.out.chg hSw NX.out; have t8 := hx.cell 8; have t9 := hx.cell 9; have t10 := hx.cell 10; have t12 := hx.cell 12; simp at t8 t9 t10 t12; have t13 := u2); go_simp; (try with_reducible rfl))
    simp only [Act.put, List.setIfInBounds_toArray, List.set_cons_zero, List.set_cons_succ]
    refine anyH_take (i := 1) (d := 15) (L' := #[true, true, false, false, false, false, false, false, false, false, false]) (v := ?v65) rfl rfl (by kernel_rfl) (fun _ _ _ h => h) (by rfl) ?hy65 (by assumption) ?rest65
    case hy65 => (intro wx hSw; (try dsimp only at hSw); (have hx := HXX.out.chg hSw NX.out; have t8 := hx.cell 8; have t9 := hx.cell 9; have t10 := hx.cell 10; have t12 := hx.cell 12; simp at t8 t9 t10 t12; have t13 := u2); go_simp; (try with_reducible rfl))
    simp only [Act.put, List.setIfInBounds_toArray, List.set_cons_zero, List.set_cons_succ]
    refine anyH_take (i := 2) (d := 16) (L' := #[true, true, true, false, false, false, false, false, false, false, false]) (v := ?v66) rfl rfl (by kernel_rfl) (fun _ _ _ h => h) (by rfl) ?hy66 (by assumption) ?rest66
    case hy66 => (intro wx hSw; (try dsimp only at hSw); (have hx := HXX.out.chg hSw NX.out; have t8 := hx.cell 8; have t9 := hx.cell 9; have t10 := hx.cell 10; have t12 := hx.cell 12; simp at t8 t9 t10 t12; have t13 := u2); go_simp; (try with_reducible rfl))
    simp only [Act.put, List.setIfInBounds_toArray, List.set_cons_zero, List.set_cons_succ]
    refine anyH_take (i := 3) (d := 17) (L' := #[true, true, true, true, false, false, false, false, false, false, false]) (v := ?v67) rfl rfl (by kernel_rfl) (fun _ _ _ h => h) (by rfl) ?hy67 (by assumption) ?rest67
    case hy67 => (intro wx hSw; (try dsimp only at hSw); (have hx := HXX.out.chg hSw NX.out; have t8 := hx.cell 8; have t9 := hx.cell 9; have t10 := hx.cell 10; have t12 := hx.cell 12; simp at t8 t9 t10 t12; have t13 := u2); go_simp; (try with_reducible rfl))
    simp only [Act.put, List.setIfInBounds_toArray, List.set_cons_zero, List.set_cons_succ]
    refine anyH_take (i := 4) (d := 18) (L' := #[true, true, true, true, true, false, false, false, false, false, false]) (v := ?v68) rfl rfl (by kernel_rfl) (fun _ _ _ h => h) (by rfl) ?hy68 (by assumption) ?rest68
    case hy68 => (intro wx hSw; (try dsimp only at hSw); (have hx := HXX.out.chg hSw NX.out; have t8 := hx.cell 8; have t9 := hx.cell 9; have t10 := hx.cell 10; have t12 := hx.cell 12; simp at t8 t9 t10 t12; have t13 := u2); go_simp; (try with_reducible rfl))
    simp only [Act.put, List.setIfInBounds_toArray, List.set_cons_zero, List.set_cons_succ]
    refine anyH_take (i := 6) (d := 20) (L' := #[true, true, true, true, true, false, true, false, false, false, false]) (v := ?v69) rfl rfl (by kernel_rfl) (fun _ _ _ h => h) (by rfl) ?hy69 (by assumption) ?rest69
    case hy69 => (intro wx hSw; (try dsimp only at hSw); (have hx := HXX.out.chg hSw NX.out; have t8 := hx.cell 8; have t9 := hx.cell 9; have t10 := hx.cell 10; have t12 := hx.cell 12; simp at t8 t9 t10 t12; have t13 := u2); go_simp; (try with_reducible rfl))
    simp only [Act.put, List.setIfInBounds_toArray, List.set_cons_zero, List.set_cons_succ]
    refine anyH_take (i := 7) (d := 21) (L' := #[true, true, true, true, true, false, true, true, false, false, false]) (v := ?v70) rfl rfl (by kernel_rfl) (fun _ _ _ h => h) (by rfl) ?hy70 (by assumption) ?rest70
    case hy70 => (intro wx hSw; (try dsimp only at hSw); (have hx := HXX.out.chg hSw NX.out; have t8 := hx.cell 8; have t9 := hx.cell 9; have t10 := hx.cell 10; have t12 := hx.cell 12; simp at t8 t9 t10 t12; have t13 := u2); go_simp; (try with_reducible rfl))
    simp only [Act.put, List.setIfInBounds_toArray, List.set_cons_zero, List.set_cons_succ]
    refine anyH_run (i := 5) (L' := #[true, true, true, true, true, true, true, true, false, false, false]) rfl (by kernel_rfl) (by rfl) (fun KK hKK => ?_)
    go_simp
    (refine (h1 _).mono ?_; rintro e w5 ⟨rfl, hm0⟩; have hm := Chg.k' hHeld hm0; replace hT := hT.k hm0; clear hm0; (try go_simp))
    refine hKK.out _ _ (by assumption) (fun hHeld => ?_)
    clear hKK KK
    try simp only [Act.put, List.setIfInBounds_toArray, List.set_cons_zero, List.set_cons_succ]
    refine anyH_run (i := 8) (L' := #[true, true, true, true, true, true, true, true, true, false, false]) rfl (by kernel_rfl) (by rfl) (fun KK hKK => ?_)
    go_simp
    (refine (h2 _).mono ?_; rintro e w6 ⟨rfl, rfl⟩; have hm := hHeld; (try go_simp))
    refine hKK.out _ _ (by assumption) (fun hHeld => ?_)
    clear hKK KK
    try simp only [Act.put, List.setIfInBounds_toArray, List.set_cons_zero, List.set_cons_succ]
    refine anyH_run (i := 9) (L' := #[true, true, true, true, true, true, true, true, true, true, false]) rfl (by kernel_rfl) (by rfl) (fun KK hKK => ?_)
    go_simp
    (skip)
    refine hKK.out _ _ (by assumption) (fun hHeld => ?_)
    clear hKK KK
    try simp only [Act.put, List.setIfInBounds_toArray, List.set_cons_zero, List.set_cons_succ]
    refine anyH_run (i := 10) (L' := #[true, true, true, true, true, true, true, true, true, true, true]) rfl (by kernel_rfl) (by rfl) (fun KK hKK => ?_)
    (refine wp_store_row 35 _ _ rfl _ #[.int .i64 5, .int .i64 a16, .int .i64 0, .int .i64 0, .int .i64 0, .int .i64 0, .int .i64 vx1, .int .i64 vy1, .int .i64 0, .int .i64 sp', .int .i64 0, .int .i64 0, .int .i64 0, .int .i64 0, .slice none 0 0] rfl rfl 35 _ hT (by kernel_rfl) rfl (by simp [Value.oneCell']) ?_; have hS9 := hT.row (cs' := #[.int .i64 5, .int .i64 a16, .int .i64 0, .int .i64 0, .int .i64 0, .int .i64 0, .int .i64 vx1, .int .i64 vy1, .int .i64 0, .int .i64 sp', .int .i64 0, .int .i64 0, .int .i64 0, .int .i64 0, .slice none 0 0]); have hS := Chg.row hHeld kb #[.int .i64 5, .int .i64 a16, .int .i64 0, .int .i64 0, .int .i64 0, .int .i64 0, .int .i64 vx1, .int .i64 vy1, .int .i64 0, .int .i64 sp', .int .i64 0, .int .i64 0, .int .i64 0, .int .i64 0, .slice none 0 0] (by simp); go_simp)
    refine hKK.out _ _ (by assumption) (fun hHeld => ?_)
    clear hKK KK
    try simp only [Act.put, List.setIfInBounds_toArray, List.set_cons_zero, List.set_cons_succ]
    refine wpAnyH_done (by kernel_rfl) ?_ _
    skip
    go_wp2_with (fail)
    refine bodyPost_ret (results_cell_row rfl _ _ kb 35 _ (0, 0) _ rfl hS9 Try.underlying35 rfl (by kernel_rfl)) rfl ⟨_, rfl, ?_, HMM.out.trans hHeld (fun x hx hl => by have := HT.out; simp at hx; omega), .inr (by simp [Value.ownBlock])⟩
    exact Rd.ofOwn (e := 30) (base := 0) (World.ownsRow_nil _ _ _ _)
  by_cases k3 : kk = 3
  · subst k3
    have hOO : O = ⟨4, a16, 0, 0, (0, 0), (0, 0), 0, 0, 0, 0, noS⟩ := by rw [HO.out]; simp
    clear HO
    subst hOO
    go_wp2_with (refine wpList_store_row rfl _ _ _ rfl kb #[.int .i64 4, .int .i64 a16, .int .i64 0, .int .i64 0, .int .i64 0, .int .i64 0, .int .i64 0, .int .i64 0, .int .i64 0, .int .i64 0, .int .i64 0, .int .i64 0, .int .i64 0, .int .i64 0, .slice none 0 0] rfl rfl 35 _ kB4 (by kernel_rfl) (by simp) (by simp [Value.oneCell']) ?_)
    have k5 : Blk (wc.setRow kb #[.int .i64 4, .int .i64 a16, .int .i64 0, .int .i64 0, .int .i64 0, .int .i64 0, .int .i64 0, .int .i64 0, .int .i64 0, .int .i64 0, .int .i64 0, .int .i64 0, .int .i64 0, .int .i64 0, .slice none 0 0]) kb #[.int .i64 4, .int .i64 a16, .int .i64 0, .int .i64 0, .int .i64 0, .int .i64 0, .int .i64 0, .int .i64 0, .int .i64 0, .int .i64 0, .int .i64 0, .int .i64 0, .int .i64 0, .int .i64 0, .slice none 0 0] 35 := kB4.row
    have hs5 := Chg.row (Chg.refl [kb] wc) kb #[.int .i64 4, .int .i64 a16, .int .i64 0, .int .i64 0, .int .i64 0, .int .i64 0, .int .i64 0, .int .i64 0, .int .i64 0, .int .i64 0, .int .i64 0, .int .i64 0, .int .i64 0, .int .i64 0, .slice none 0 0] (by simp)
    refine bodyPost_ret (results_cell_row rfl _ _ kb 35 _ (0, 0) _ rfl k5 Try.underlying35 rfl (by kernel_rfl)) rfl ⟨_, rfl, ?_, HMM.out.trans hs5 (fun x hx hl => by have := HT.out; simp at hx; omega), .inr (by simp [Value.ownBlock])⟩
    exact Rd.ofOwn (e := 30) (base := 0) (World.ownsRow_nil _ _ _ _)
  by_cases k4 : kk = 4
  · subst k4
    have hOO : O = ⟨3, 0, Ja, Jb, (Jax, Jay), (Jtx, Jty), 0, 0, 0, Jl, noS⟩ := by rw [HO.out]; simp
    clear HO
    subst hOO
    go_wp2_with (refine wpList_store_row rfl _ _ _ rfl kb #[.int .i64 3, .int .i64 0, .int .i64 Ja, .int .i64 Jb, .int .i64 Jax, .int .i64 Jay, .int .i64 Jtx, .int .i64 Jty, .int .i64 0, .int .i64 0, .int .i64 0, .int .i64 Jl, .int .i64 0, .int .i64 0, .slice none 0 0] rfl rfl 35 _ kB4 (by kernel_rfl) (by simp) (by simp [Value.oneCell']) ?_)
    have k5 : Blk (wc.setRow kb #[.int .i64 3, .int .i64 0, .int .i64 Ja, .int .i64 Jb, .int .i64 Jax, .int .i64 Jay, .int .i64 Jtx, .int .i64 Jty, .int .i64 0, .int .i64 0, .int .i64 0, .int .i64 Jl, .int .i64 0, .int .i64 0, .slice none 0 0]) kb #[.int .i64 3, .int .i64 0, .int .i64 Ja, .int .i64 Jb, .int .i64 Jax, .int .i64 Jay, .int .i64 Jtx, .int .i64 Jty, .int .i64 0, .int .i64 0, .int .i64 0, .int .i64 Jl, .int .i64 0, .int .i64 0, .slice none 0 0] 35 := kB4.row
    have hs5 := Chg.row (Chg.refl [kb] wc) kb #[.int .i64 3, .int .i64 0, .int .i64 Ja, .int .i64 Jb, .int .i64 Jax, .int .i64 Jay, .int .i64 Jtx, .int .i64 Jty, .int .i64 0, .int .i64 0, .int .i64 0, .int .i64 Jl, .int .i64 0, .int .i64 0, .slice none 0 0] (by simp)
    refine bodyPost_ret (results_cell_row rfl _ _ kb 35 _ (0, 0) _ rfl k5 Try.underlying35 rfl (by kernel_rfl)) rfl ⟨_, rfl, ?_, HMM.out.trans hs5 (fun x hx hl => by have := HT.out; simp at hx; omega), .inr (by simp [Value.ownBlock])⟩
    exact Rd.ofOwn (e := 30) (base := 0) (World.ownsRow_nil _ _ _ _)
  by_cases k5 : kk = 5
  · subst k5
    have hOO : O = ⟨3, 0, Ja, Jb, (Jax, Jay), (Jtx, Jty), 0, 0, 0, Jl, noS⟩ := by rw [HO.out]; simp
    clear HO
    subst hOO
    go_wp2_with (refine wpList_store_row rfl _ _ _ rfl kb #[.int .i64 3, .int .i64 0, .int .i64 Ja, .int .i64 Jb, .int .i64 Jax, .int .i64 Jay, .int .i64 Jtx, .int .i64 Jty, .int .i64 0, .int .i64 0, .int .i64 0, .int .i64 Jl, .int .i64 0, .int .i64 0, .slice none 0 0] rfl rfl 35 _ kB4 (by kernel_rfl) (by simp) (by simp [Value.oneCell']) ?_)
    have k5 : Blk (wc.setRow kb #[.int .i64 3, .int .i64 0, .int .i64 Ja, .int .i64 Jb, .int .i64 Jax, .int .i64 Jay, .int .i64 Jtx, .int .i64 Jty, .int .i64 0, .int .i64 0, .int .i64 0, .int .i64 Jl, .int .i64 0, .int .i64 0, .slice none 0 0]) kb #[.int .i64 3, .int .i64 0, .int .i64 Ja, .int .i64 Jb, .int .i64 Jax, .int .i64 Jay, .int .i64 Jtx, .int .i64 Jty, .int .i64 0, .int .i64 0, .int .i64 0, .int .i64 Jl, .int .i64 0, .int .i64 0, .slice none 0 0] 35 := kB4.row
    have hs5 := Chg.row (Chg.refl [kb] wc) kb #[.int .i64 3, .int .i64 0, .int .i64 Ja, .int .i64 Jb, .int .i64 Jax, .int .i64 Jay, .int .i64 Jtx, .int .i64 Jty, .int .i64 0, .int .i64 0, .int .i64 0, .int .i64 Jl, .int .i64 0, .int .i64 0, .slice none 0 0] (by simp)
    refine bodyPost_ret (results_cell_row rfl _ _ kb 35 _ (0, 0) _ rfl k5 Try.underlying35 rfl (by kernel_rfl)) rfl ⟨_, rfl, ?_, HMM.out.trans hs5 (fun x hx hl => by have := HT.out; simp at hx; omega), .inr (by simp [Value.ownBlock])⟩
    exact Rd.ofOwn (e := 30) (base := 0) (World.ownsRow_nil _ _ _ _)
  by_cases k6 : kk = 6
  · subst k6
    have hOO : O = ⟨2, a16, 0, 0, (0, 0), (0, 0), 0, 0, 0, 0, noS⟩ := by rw [HO.out]; simp
    clear HO
    subst hOO
    go_wp2_with (refine wpList_store_row rfl _ _ _ rfl kb #[.int .i64 2, .int .i64 a16, .int .i64 0, .int .i64 0, .int .i64 0, .int .i64 0, .int .i64 0, .int .i64 0, .int .i64 0, .int .i64 0, .int .i64 0, .int .i64 0, .int .i64 0, .int .i64 0, .slice none 0 0] rfl rfl 35 _ kB4 (by kernel_rfl) (by simp) (by simp [Value.oneCell']) ?_)
    have k5 : Blk (wc.setRow kb #[.int .i64 2, .int .i64 a16, .int .i64 0, .int .i64 0, .int .i64 0, .int .i64 0, .int .i64 0, .int .i64 0, .int .i64 0, .int .i64 0, .int .i64 0, .int .i64 0, .int .i64 0, .int .i64 0, .slice none 0 0]) kb #[.int .i64 2, .int .i64 a16, .int .i64 0, .int .i64 0, .int .i64 0, .int .i64 0, .int .i64 0, .int .i64 0, .int .i64 0, .int .i64 0, .int .i64 0, .int .i64 0, .int .i64 0, .int .i64 0, .slice none 0 0] 35 := kB4.row
    have hs5 := Chg.row (Chg.refl [kb] wc) kb #[.int .i64 2, .int .i64 a16, .int .i64 0, .int .i64 0, .int .i64 0, .int .i64 0, .int .i64 0, .int .i64 0, .int .i64 0, .int .i64 0, .int .i64 0, .int .i64 0, .int .i64 0, .int .i64 0, .slice none 0 0] (by simp)
    refine bodyPost_ret (results_cell_row rfl _ _ kb 35 _ (0, 0) _ rfl k5 Try.underlying35 rfl (by kernel_rfl)) rfl ⟨_, rfl, ?_, HMM.out.trans hs5 (fun x hx hl => by have := HT.out; simp at hx; omega), .inr (by simp [Value.ownBlock])⟩
    exact Rd.ofOwn (e := 30) (base := 0) (World.ownsRow_nil _ _ _ _)
  by_cases k7 : kk = 7
  · subst k7
    have hOO : O = ⟨6, 0, 0, 0, (0, 0), (vx2, vy2), 0, 0, 0, 0, noS⟩ := by rw [HO.out]; simp
    clear HO
    subst hOO
    go_wp2_with (first
      | (go_at_call 73; refine (h3 _).mono ?_; rintro e w7 ⟨rfl, hm7⟩; have kB7 := kB4.k hm7)
      | (refine wpList_store_row rfl _ _ _ rfl kb #[.int .i64 6, .int .i64 0, .int .i64 0, .int .i64 0, .int .i64 0, .int .i64 0, .int .i64 vx2, .int .i64 vy2, .int .i64 0, .int .i64 0, .int .i64 0, .int .i64 0, .int .i64 0, .int .i64 0, .slice none 0 0] rfl rfl 35 _ kB7 (by kernel_rfl) (by simp) (by simp [Value.oneCell']) ?_))
    have k5 : Blk (w7.setRow kb #[.int .i64 6, .int .i64 0, .int .i64 0, .int .i64 0, .int .i64 0, .int .i64 0, .int .i64 vx2, .int .i64 vy2, .int .i64 0, .int .i64 0, .int .i64 0, .int .i64 0, .int .i64 0, .int .i64 0, .slice none 0 0]) kb #[.int .i64 6, .int .i64 0, .int .i64 0, .int .i64 0, .int .i64 0, .int .i64 0, .int .i64 vx2, .int .i64 vy2, .int .i64 0, .int .i64 0, .int .i64 0, .int .i64 0, .int .i64 0, .int .i64 0, .slice none 0 0] 35 := kB7.row
    have hs5 := Chg.row (Chg.refl [kb] w7) kb #[.int .i64 6, .int .i64 0, .int .i64 0, .int .i64 0, .int .i64 0, .int .i64 0, .int .i64 vx2, .int .i64 vy2, .int .i64 0, .int .i64 0, .int .i64 0, .int .i64 0, .int .i64 0, .int .i64 0, .slice none 0 0] (by simp)
    refine bodyPost_ret (results_cell_row rfl _ _ kb 35 _ (0, 0) _ rfl k5 Try.underlying35 rfl (by kernel_rfl)) rfl ⟨_, rfl, ?_, (HMM.out.k' hm7).trans hs5 (fun x hx hl => by have := HT.out; simp at hx; omega), .inr (by simp [Value.ownBlock])⟩
    exact Rd.ofOwn (e := 30) (base := 0) (World.ownsRow_nil _ _ _ _)
  have k01 : kk = 0 ∨ kk = 1 := by omega
  rcases k01 with rfl | rfl
  · have hOO : O = ⟨1, 0, 0, 0, (Bx, By), (Bvx, Bvy), Ba, Bs, Bd, 0, ⟨Bk, Br, Bp⟩⟩ := by rw [HO.out]; simp
    clear HO
    subst hOO
    go_wp2_with (refine wpList_store_row rfl _ _ _ rfl kb #[.int .i64 1, .int .i64 0, .int .i64 0, .int .i64 0, .int .i64 Bx, .int .i64 By, .int .i64 Bvx, .int .i64 Bvy, .int .i64 Ba, .int .i64 Bs, .int .i64 Bd, .int .i64 0, .int .i64 Bk, .int .i64 Br, .slice ab Bp.length cb] rfl rfl 35 _ kB4 (by kernel_rfl) (by simp) (by simp [Value.oneCell']) ?_)
    have k5 : Blk (wc.setRow kb #[.int .i64 1, .int .i64 0, .int .i64 0, .int .i64 0, .int .i64 Bx, .int .i64 By, .int .i64 Bvx, .int .i64 Bvy, .int .i64 Ba, .int .i64 Bs, .int .i64 Bd, .int .i64 0, .int .i64 Bk, .int .i64 Br, .slice ab Bp.length cb]) kb #[.int .i64 1, .int .i64 0, .int .i64 0, .int .i64 0, .int .i64 Bx, .int .i64 By, .int .i64 Bvx, .int .i64 Bvy, .int .i64 Ba, .int .i64 Bs, .int .i64 Bd, .int .i64 0, .int .i64 Bk, .int .i64 Br, .slice ab Bp.length cb] 35 := kB4.row
    have hs5 := Chg.row (Chg.refl [kb] wc) kb #[.int .i64 1, .int .i64 0, .int .i64 0, .int .i64 0, .int .i64 Bx, .int .i64 By, .int .i64 Bvx, .int .i64 Bvy, .int .i64 Ba, .int .i64 Bs, .int .i64 Bd, .int .i64 0, .int .i64 Bk, .int .i64 Br, .slice ab Bp.length cb] (by simp)
    refine bodyPost_ret (results_cell_row rfl _ _ kb 35 _ (0, 0) _ rfl k5 Try.underlying35 rfl (by kernel_rfl)) rfl ⟨_, rfl, ?_, HMM.out.trans hs5 (fun x hx hl => by have := HT.out; simp at hx; omega), HOR.out⟩
    exact Rd.keep hV hs5 (fun hn k hk hx => HNE.out hn k hk (by simpa using hx))
  · have hOO : O = ⟨1, 0, 0, 0, (Bx, By), (Bvx, Bvy), Ba, Bs, Bd, 0, ⟨Bk, Br, Bp⟩⟩ := by rw [HO.out]; simp
    clear HO
    subst hOO
    go_wp2_with (refine wpList_store_row rfl _ _ _ rfl kb #[.int .i64 1, .int .i64 0, .int .i64 0, .int .i64 0, .int .i64 Bx, .int .i64 By, .int .i64 Bvx, .int .i64 Bvy, .int .i64 Ba, .int .i64 Bs, .int .i64 Bd, .int .i64 0, .int .i64 Bk, .int .i64 Br, .slice ab Bp.length cb] rfl rfl 35 _ kB4 (by kernel_rfl) (by simp) (by simp [Value.oneCell']) ?_)
    have k5 : Blk (wc.setRow kb #[.int .i64 1, .int .i64 0, .int .i64 0, .int .i64 0, .int .i64 Bx, .int .i64 By, .int .i64 Bvx, .int .i64 Bvy, .int .i64 Ba, .int .i64 Bs, .int .i64 Bd, .int .i64 0, .int .i64 Bk, .int .i64 Br, .slice ab Bp.length cb]) kb #[.int .i64 1, .int .i64 0, .int .i64 0, .int .i64 0, .int .i64 Bx, .int .i64 By, .int .i64 Bvx, .int .i64 Bvy, .int .i64 Ba, .int .i64 Bs, .int .i64 Bd, .int .i64 0, .int .i64 Bk, .int .i64 Br, .slice ab Bp.length cb] 35 := kB4.row
    have hs5 := Chg.row (Chg.refl [kb] wc) kb #[.int .i64 1, .int .i64 0, .int .i64 0, .int .i64 0, .int .i64 Bx, .int .i64 By, .int .i64 Bvx, .int .i64 Bvy, .int .i64 Ba, .int .i64 Bs, .int .i64 Bd, .int .i64 0, .int .i64 Bk, .int .i64 Br, .slice ab Bp.length cb] (by simp)
    refine bodyPost_ret (results_cell_row rfl _ _ kb 35 _ (0, 0) _ rfl k5 Try.underlying35 rfl (by kernel_rfl)) rfl ⟨_, rfl, ?_, HMM.out.trans hs5 (fun x hx hl => by have := HT.out; simp at hx; omega), HOR.out⟩
    exact Rd.keep hV hs5 (fun hn k hk hx => HNE.out hn k hk (by simpa using hx))
end Go.Proofs.Ytlicefbgcoddbaa
