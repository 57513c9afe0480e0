/- Words and walks that SweepMore rests on, part 3. -/
import Derived.Test.YtnlkeacchogmeaaWSweepMore2
import Derived.Test.YtnlkeacchogmeaaWSweepMore1
import Derived.Deep.Strs
/- box.Join, and what the sweep laws make of items: tame. -/
namespace Go.Proofs.Ytnlkeacchogmeaa
open Go.RowKit Go.Sort Go.Shelf

set_option maxHeartbeats 1000000 in
theorem Low_any (w : World) (a b c d : Int) : Calls Try.prog 29 #[.agg #[.int .i64 a, .int .i64 b], .agg #[.int .i64 c, .int .i64 d]] w fun e w' => e = .returned (.agg #[.int .i64 (min a c), .int .i64 (min b d)]) ∧ Chg [] w w' := by
  go_enter Try.func29, Try.ntmps29
  go_wp2_with fail
  refine bodyPost_ret (v := .agg #[.int .i64 (min a c), .int .i64 (min b d)]) (by simp only [results]; go_simp) rfl ⟨rfl, ?_⟩
  exact (((Chg.refl [] w).alloc _).alloc _).alloc _
set_option maxHeartbeats 1000000 in
theorem High_any (w : World) (a b c d : Int) : Calls Try.prog 30 #[.agg #[.int .i64 a, .int .i64 b], .agg #[.int .i64 c, .int .i64 d]] w fun e w' => e = .returned (.agg #[.int .i64 (max a c), .int .i64 (max b d)]) ∧ Chg [] w w' := by
  go_enter Try.func30, Try.ntmps30
  go_wp2_with fail
  refine bodyPost_ret (v := .agg #[.int .i64 (max a c), .int .i64 (max b d)]) (by simp only [results]; go_simp) rfl ⟨rfl, ?_⟩
  exact (((Chg.refl [] w).alloc _).alloc _).alloc _
set_option maxHeartbeats 4000000 in
theorem Join_any (w : World) (a b c d e f g h : Int) : Calls Try.prog 22 #[.agg #[.int .i64 a, .int .i64 b, .int .i64 c, .int .i64 d], .agg #[.int .i64 e, .int .i64 f, .int .i64 g, .int .i64 h]] w fun r w' =>
    r = .returned (.agg #[.int .i64 (min a e), .int .i64 (min b f), .int .i64 (max c g), .int .i64 (max d h)]) ∧ Chg [] w w' := by
  go_enter Try.func22, Try.ntmps22
  go_upto_region 1 with (fail)
  have hz1 : (w.alloc (.cells #[.int .i64 a, .int .i64 b, .int .i64 c, .int .i64 d] 28)).heap.size = w.heap.size + 1 := by simp
  have hz2 : ((w.alloc (.cells #[.int .i64 a, .int .i64 b, .int .i64 c, .int .i64 d] 28)).alloc (.cells #[.int .i64 e, .int .i64 f, .int .i64 g, .int .i64 h] 28)).heap.size = w.heap.size + 1 + 1 := by simp
  have k1 := ((Blk.new w #[.int .i64 a, .int .i64 b, .int .i64 c, .int .i64 d] 28).alloc (.cells #[.int .i64 e, .int .i64 f, .int .i64 g, .int .i64 h] 28)).alloc (.cells #[.int .i64 0, .int .i64 0, .int .i64 0, .int .i64 0] 28)
  have k2 := (Blk.new (w.alloc (.cells #[.int .i64 a, .int .i64 b, .int .i64 c, .int .i64 d] 28)) #[.int .i64 e, .int .i64 f, .int .i64 g, .int .i64 h] 28).alloc (.cells #[.int .i64 0, .int .i64 0, .int .i64 0, .int .i64 0] 28)
  have k3 := Blk.new ((w.alloc (.cells #[.int .i64 a, .int .i64 b, .int .i64 c, .int .i64 d] 28)).alloc (.cells #[.int .i64 e, .int .i64 f, .int .i64 g, .int .i64 h] 28)) #[.int .i64 0, .int .i64 0, .int .i64 0, .int .i64 0] 28
  have hg := (((Chg.refl [] w).alloc (.cells #[.int .i64 a, .int .i64 b, .int .i64 c, .int .i64 d] 28)).alloc (.cells #[.int .i64 e, .int .i64 f, .int .i64 g, .int .i64 h] 28)).alloc (.cells #[.int .i64 0, .int .i64 0, .int .i64 0, .int .i64 0] 28)
  rw [hz1] at k2
  rw [hz2] at k3
  generalize ((w.alloc (.cells #[.int .i64 a, .int .i64 b, .int .i64 c, .int .i64 d] 28)).alloc (.cells #[.int .i64 e, .int .i64 f, .int .i64 g, .int .i64 h] 28)).alloc (.cells #[.int .i64 0, .int .i64 0, .int .i64 0, .int .i64 0] 28) = w0 at *
  have HQ : Hd (∀ wx, Chg [w.heap.size + 1 + 1] w0 wx → wx.cell? ⟨w.heap.size, 0, none⟩ = some (.int .i64 a) ∧ wx.cell? ⟨w.heap.size, 1, none⟩ = some (.int .i64 b) ∧ wx.cell? ⟨w.heap.size, 2, none⟩ = some (.int .i64 c) ∧ wx.cell? ⟨w.heap.size, 3, none⟩ = some (.int .i64 d) ∧
      wx.cell? ⟨w.heap.size + 1, 0, none⟩ = some (.int .i64 e) ∧ wx.cell? ⟨w.heap.size + 1, 1, none⟩ = some (.int .i64 f) ∧ wx.cell? ⟨w.heap.size + 1, 2, none⟩ = some (.int .i64 g) ∧ wx.cell? ⟨w.heap.size + 1, 3, none⟩ = some (.int .i64 h)) :=
    hd fun wx hx => ⟨hx.cellT (k1.cell 0) (by simp; omega), hx.cellT (k1.cell 1) (by simp; omega), hx.cellT (k1.cell 2) (by simp; omega), hx.cellT (k1.cell 3) (by simp; omega), hx.cellT (k2.cell 0) (by simp), hx.cellT (k2.cell 1) (by simp), hx.cellT (k2.cell 2) (by simp), hx.cellT (k2.cell 3) (by simp)⟩
  have K3 := hd k3
  have HG := hd hg
  clear k1 k2 k3 hg hz1 hz2
  have hl := fun W => Low_any W a b e f
  have hh := fun W => High_any W c d g h
  refine anyH_start (n := 12) (L := #[false, false, false, false, false, false, false, false, false, false, false, false]) (by kernel_rfl) (by kernel_rfl) (S := (fun wx => Chg [w.heap.size + 1 + 1] w0 wx)) ((Chg.refl _ _).drew) (fun hHeld => ?_)
  refine anyH_take (i := 0) (d := 5) (L' := #[true, false, false, false, false, false, false, false, false, false, false, false]) (v := ?v2) rfl rfl (by kernel_rfl) (fun _ _ _ h => h) (by rfl) ?hy2 (by assumption) ?rest2
  case hy2 => (intro wx hSw; (try dsimp only at hSw); (obtain ⟨t0, t1, t2, t3, t4, t5, t6, t7⟩ := HQ.out _ hSw); go_simp; (try with_reducible rfl))
  simp only [Act.put, List.setIfInBounds_toArray, List.set_cons_zero, List.set_cons_succ]
  refine anyH_take (i := 1) (d := 6) (L' := #[true, true, false, false, false, false, false, false, false, false, false, false]) (v := ?v3) rfl rfl (by kernel_rfl) (fun _ _ _ h => h) (by rfl) ?hy3 (by assumption) ?rest3
  case hy3 => (intro wx hSw; (try dsimp only at hSw); (obtain ⟨t0, t1, t2, t3, t4, t5, t6, t7⟩ := HQ.out _ hSw); go_simp; (try with_reducible rfl))
  simp only [Act.put, List.setIfInBounds_toArray, List.set_cons_zero, List.set_cons_succ]
  refine anyH_take (i := 2) (d := 7) (L' := #[true, true, true, false, false, false, false, false, false, false, false, false]) (v := ?v4) rfl rfl (by kernel_rfl) (fun _ _ _ h => h) (by rfl) ?hy4 (by assumption) ?rest4
  case hy4 => (intro wx hSw; (try dsimp only at hSw); (obtain ⟨t0, t1, t2, t3, t4, t5, t6, t7⟩ := HQ.out _ hSw); go_simp; (try with_reducible rfl))
  simp only [Act.put, List.setIfInBounds_toArray, List.set_cons_zero, List.set_cons_succ]
  refine anyH_take (i := 3) (d := 8) (L' := #[true, true, true, true, false, false, false, false, false, false, false, false]) (v := ?v5) rfl rfl (by kernel_rfl) (fun _ _ _ h => h) (by rfl) ?hy5 (by assumption) ?rest5
  case hy5 => (intro wx hSw; (try dsimp only at hSw); (obtain ⟨t0, t1, t2, t3, t4, t5, t6, t7⟩ := HQ.out _ hSw); go_simp; (try with_reducible rfl))
  simp only [Act.put, List.setIfInBounds_toArray, List.set_cons_zero, List.set_cons_succ]
  refine anyH_take (i := 5) (d := 10) (L' := #[true, true, true, true, false, true, false, false, false, false, false, false]) (v := ?v6) rfl rfl (by kernel_rfl) (fun _ _ _ h => h) (by rfl) ?hy6 (by assumption) ?rest6
  case hy6 => (intro wx hSw; (try dsimp only at hSw); (obtain ⟨t0, t1, t2, t3, t4, t5, t6, t7⟩ := HQ.out _ hSw); go_simp; (try with_reducible rfl))
  simp only [Act.put, List.setIfInBounds_toArray, List.set_cons_zero, List.set_cons_succ]
  refine anyH_take (i := 6) (d := 11) (L' := #[true, true, true, true, false, true, true, false, false, false, false, false]) (v := ?v7) rfl rfl (by kernel_rfl) (fun _ _ _ h => h) (by rfl) ?hy7 (by assumption) ?rest7
  case hy7 => (intro wx hSw; (try dsimp only at hSw); (obtain ⟨t0, t1, t2, t3, t4, t5, t6, t7⟩ := HQ.out _ hSw); go_simp; (try with_reducible rfl))
  simp only [Act.put, List.setIfInBounds_toArray, List.set_cons_zero, List.set_cons_succ]
  refine anyH_take (i := 7) (d := 12) (L' := #[true, true, true, true, false, true, true, true, false, false, false, false]) (v := ?v8) rfl rfl (by kernel_rfl) (fun _ _ _ h => h) (by rfl) ?hy8 (by assumption) ?rest8
  case hy8 => (intro wx hSw; (try dsimp only at hSw); (obtain ⟨t0, t1, t2, t3, t4, t5, t6, t7⟩ := HQ.out _ hSw); go_simp; (try with_reducible rfl))
  simp only [Act.put, List.setIfInBounds_toArray, List.set_cons_zero, List.set_cons_succ]
  refine anyH_take (i := 8) (d := 13) (L' := #[true, true, true, true, false, true, true, true, true, false, false, false]) (v := ?v9) rfl rfl (by kernel_rfl) (fun _ _ _ h => h) (by rfl) ?hy9 (by assumption) ?rest9
  case hy9 => (intro wx hSw; (try dsimp only at hSw); (obtain ⟨t0, t1, t2, t3, t4, t5, t6, t7⟩ := HQ.out _ hSw); go_simp; (try with_reducible rfl))
  simp only [Act.put, List.setIfInBounds_toArray, List.set_cons_zero, List.set_cons_succ]
  refine anyH_run (i := 4) (L' := #[true, true, true, true, true, true, true, true, true, false, false, false]) rfl (by kernel_rfl) (by rfl) (fun KK hKK => ?_)
  go_simp
  (refine (hl _).mono ?_; rintro e w4 ⟨rfl, hc4⟩; have k4 := (Chg.refl [] w0).drew.k hc4; have hS4 : Chg [w.heap.size + 1 + 1] w0 w4 := k4.mono (by simp); (try go_simp))
  refine hKK.out _ _ (by assumption) (fun hHeld => ?_)
  clear hKK KK
  try simp only [Act.put, List.setIfInBounds_toArray, List.set_cons_zero, List.set_cons_succ]
  refine anyH_run (i := 9) (L' := #[true, true, true, true, true, true, true, true, true, true, false, false]) rfl (by kernel_rfl) (by rfl) (fun KK hKK => ?_)
  go_simp
  (refine (hh _).mono ?_; rintro e w5 ⟨rfl, hc5⟩; have k5 := k4.k hc5; have hS5 : Chg [w.heap.size + 1 + 1] w0 w5 := k5.mono (by simp); (try go_simp))
  refine hKK.out _ _ (by assumption) (fun hHeld => ?_)
  clear hKK KK
  try simp only [Act.put, List.setIfInBounds_toArray, List.set_cons_zero, List.set_cons_succ]
  refine anyH_run (i := 10) (L' := #[true, true, true, true, true, true, true, true, true, true, true, false]) rfl (by kernel_rfl) (by rfl) (fun KK hKK => ?_)
  go_simp
  (skip)
  refine hKK.out _ _ (by assumption) (fun hHeld => ?_)
  clear hKK KK
  try simp only [Act.put, List.setIfInBounds_toArray, List.set_cons_zero, List.set_cons_succ]
  refine anyH_run (i := 11) (L' := #[true, true, true, true, true, true, true, true, true, true, true, true]) rfl (by kernel_rfl) (by rfl) (fun KK hKK => ?_)
  (have K5 := K3.out.k k5; have p0 := K5.cell 0; have p1 := K5.cell 1; have p2 := K5.cell 2; have p3 := K5.cell 3; have f0 := K5.free 0; have f1 := K5.free 1; have f2 := K5.free 2; have f3 := K5.free 3; simp at p0 p1 p2 p3; have hS6 := (((hS5.setCell ⟨w.heap.size + 1 + 1, 0, none⟩ (.int .i64 (min a e)) (by simp)).setCell ⟨w.heap.size + 1 + 1, 1, none⟩ (.int .i64 (min b f)) (by simp)).setCell ⟨w.heap.size + 1 + 1, 2, none⟩ (.int .i64 (max c g)) (by simp)).setCell ⟨w.heap.size + 1 + 1, 3, none⟩ (.int .i64 (max d h)) (by simp); have K6 := (((K5.set 0 (.int .i64 (min a e))).set 1 (.int .i64 (min b f))).set 2 (.int .i64 (max c g))).set 3 (.int .i64 (max d h)); go_simp)
  refine hKK.out _ _ (by assumption) (fun hHeld => ?_)
  clear hKK KK
  try simp only [Act.put, List.setIfInBounds_toArray, List.set_cons_zero, List.set_cons_succ]
  refine wpAnyH_done (by kernel_rfl) ?_ _
  go_wp2_with fail; have r0 := K6.cell 0; have r1 := K6.cell 1; have r2 := K6.cell 2; have r3 := K6.cell 3; have HS6 := hd hS6; clear hS6 hHeld K6 K5 f0 f1 f2 f3 p0 p1 p2 p3; generalize (((w5.setCell ⟨w.heap.size + 1 + 1, 0, none⟩ (.int .i64 (min a e))).setCell ⟨w.heap.size + 1 + 1, 1, none⟩ (.int .i64 (min b f))).setCell ⟨w.heap.size + 1 + 1, 2, none⟩ (.int .i64 (max c g))).setCell ⟨w.heap.size + 1 + 1, 3, none⟩ (.int .i64 (max d h)) = w6 at *; simp at r0 r1 r2 r3; refine bodyPost_ret (v := .agg #[.int .i64 (min a e), .int .i64 (min b f), .int .i64 (max c g), .int .i64 (max d h)]) (by simp only [results]; go_simp) rfl ⟨rfl, HG.out.trans HS6.out (fun x hx hlt => by simp at hx; omega)⟩

/-- append(nil, x...), as one operation. -/
theorem wp_appN {P : Program} {w : World} {o : Oper} {a : Act} {K : Act → World → Prop} {Q : Exit → Act → World → Prop} {t e : TypeId} {size bytes : Nat} (hT : RowT P t e size bytes) (x : Operand)
    (ho : o.op = .call { callee := .builtin .append, args := #[.const (.slice none 0 0), x], argTypes := #[t, t] }) (u : Value) (m : Nat) (news : List Value) (hx : a.eval x = u) (hu : Rd w size u m news) (h1 : ∀ u ∈ news, u.oneCell' = true) (hbytes : m * bytes ≤ 140737488355328) (hcount : m ≤ 140737488355328)
    (h : ∀ ao c w', w'.ownsRow w.heap.size e size (.slice ao m c) m news → w.grownBy w' none → K (a.put o.dst (.slice ao m c)) w') : o.wp P a w K Q :=
  wp_appT hT _ x ho w.heap.size (.slice none 0 0) 0 [] rfl (World.ownsRow_nil _ _ _ _) u m news hx hu h1 (by simpa using hbytes) (by simpa using hcount) (Nat.le_refl _) fun ao c w' h2 h3 _ => by
    simp only [Nat.zero_add, List.nil_append] at h2 ⊢
    exact h ao c w' h2 h3
/-- What tame makes of item i. -/
def tameI (i : Nat) (x : Itm) : Itm := ⟨x.id % 4096 * 256 + (i : Int), min x.lx x.hx, min x.ly x.hy, max x.lx x.hx, max x.ly x.hy, x.still⟩
def tameL (l : List Itm) : List Itm := l.mapIdx tameI
theorem tameL_snoc (l : List Itm) (i : Nat) (h : i < l.length) : tameL (l.take (i + 1)) = tameL (l.take i) ++ [tameI i l[i]] := by
  unfold tameL
  rw [List.take_succ_eq_append_getElem h, List.mapIdx_append]
  have : (l.take i).length = i := by rw [List.length_take]; omega
  rw [this]
  simp
theorem tameL_len (l : List Itm) : (tameL l).length = l.length := by unfold tameL; simp
theorem or_low (a k : Nat) (ha : a < 4096) (hk : k < 256) : bits .or .i64 ((a : Int) * 256) (k : Int) = (a : Int) * 256 + (k : Int) := by
  have h1 : (BitVec.ofInt 64 ((a : Int) * 256)).toNat = a * 256 := by rw [BitVec.toNat_ofInt]; omega
  have h2 : (BitVec.ofInt 64 (k : Int)).toNat = k := by rw [BitVec.toNat_ofInt]; omega
  have h3 : a * 256 ||| k = a * 256 + k := by
    have := Nat.two_pow_add_eq_or_of_lt (i := 8) (b := k) (by simpa using hk) a
    rw [show 2 ^ 8 * a = a * 256 by omega] at this
    exact this.symm
  unfold bits
  simp only
  show IntKind.i64.wrap ((BitVec.ofInt 64 ((a : Int) * 256) ||| BitVec.ofInt 64 (k : Int)).toNat : Int) = _
  rw [BitVec.toNat_or, h1, h2, h3, IntWalk.i64_in _ (by omega)]
  omega
theorem tame_shl (a : Int) (h0 : 0 ≤ a) (h1 : a < 4096) (k : IntKind) : Op.shift .shl .i64 a k 8 = pure (.int .i64 (a * 256)) := by
  rw [shift_shl _ _ _ _ (by omega) (by decide)]
  rw [IntWalk.i64_in _ (by simp; omega)]
  simp
theorem tame_or (a : Int) (k : Nat) (hk : k < 256) : bits .or .i64 (a % 4096 * 256) (k : Int) = a % 4096 * 256 + (k : Int) := by
  obtain ⟨b, hb, hb2⟩ : ∃ b : Nat, a % 4096 = (b : Int) ∧ b < 4096 := ⟨(a % 4096).toNat, by omega, by omega⟩
  rw [hb]
  exact or_low b k hb2 hk
theorem elemItem : Try.prog.elem 23 = 30 := by kernel_rfl
theorem flat_cut {α : Type} (enc : α → List Value) (k : Nat) (hk : ∀ x, (enc x).length = k) (l : List α) (p n : Nat) : ((l.flatMap enc).drop (p * k)).take (n * k) = ((l.drop p).take n).flatMap enc := by
  have e : ∀ (l : List α) (p : Nat), (l.drop p).flatMap enc = (l.flatMap enc).drop (p * k) := by
    intro l
    induction l with
    | nil => simp
    | cons x l ih =>
      intro p
      cases p with
      | zero => simp
      | succ p => rw [List.drop_succ_cons, ih p, List.flatMap_cons, List.drop_append, hk, List.drop_of_length_le (l := enc x) (by rw [hk, Nat.succ_mul]; omega), List.nil_append, Nat.succ_mul, Nat.add_sub_cancel]
  have f : ∀ (l : List α) (n : Nat), (l.take n).flatMap enc = (l.flatMap enc).take (n * k) := by
    intro l
    induction l with
    | nil => simp
    | cons x l ih =>
      intro n
      cases n with
      | zero => simp
      | succ n => rw [List.take_succ_cons, List.flatMap_cons, ih n, List.flatMap_cons, List.take_append, hk, List.take_of_length_le (l := enc x) (by rw [hk, Nat.succ_mul]; omega), Nat.succ_mul, Nat.add_sub_cancel]
  rw [← e, ← f]
theorem run_cutIt {w : World} {v : Value} {l : List Itm} (hv : ItS w v l) {lo hi : Option Value} {p q : Nat} (hlo : Bound lo p 0) (hhi : Bound hi q l.length) (hpq : p ≤ q) (hq : q ≤ l.length) :
    ∃ ao c, (∀ W, (Instr.slice 23 v lo hi none).run Try.prog W = .ok (.slice ao (q - p) c) W) ∧ ItS w (.slice ao (q - p) c) ((l.drop p).take (q - p)) ∧
      (∀ k, (Value.slice ao (q - p) c).ownBlock = some k → v.ownBlock = some k) := by
  obtain ⟨ao, c, h1, h2, h3⟩ := run_cut rowItem hv hlo hhi hpq hq
  refine ⟨ao, c, fun W => ?_, ?_, h3⟩
  · rw [← run_sliceAt_slice (P := Try.prog) W 23 v lo hi none (by rw [elemItem]; exact undItems)]
    exact h1 W
  · have e : ((l.drop p).take (q - p)).length = q - p := by rw [List.length_take, List.length_drop]; omega
    unfold ItS; rw [e, ← flat_cut cI 6 cI_len]; exact h2
/-- Behind tame. -/
def TameOut (l : List Itm) (w : World) (e : Ending) (w' : World) : Prop := ∃ ao c, e = .returned (.slice ao (tameL l).length c) ∧ ItR w' w.heap.size (.slice ao (tameL l).length c) (tameL l) ∧ Chg [] w w'

set_option maxRecDepth 100000 in
set_option maxHeartbeats 8000000 in
theorem Tame_any (w : World) (v : Value) (l : List Itm) (most : Nat) (hv : ItS w v l) (hm : most ≤ 200) :
    Calls Try.prog 9 #[v, .int .i64 (most : Int)] w fun e w' => TameOut (l.take most) w e w' := by
  obtain ⟨ao0, c0, hv0⟩ : ∃ ao c, v = .slice ao l.length c := by
    obtain ⟨_, ao, cap, b, off, rfl, _⟩ := hv
    exact ⟨ao, cap, rfl⟩
  subst hv0
  have hl : l.length ≤ 9223372036854775807 := by
    obtain ⟨_, ao, cap, b, off, _, h1, h2, _⟩ := hv
    unfold maxLen at h2; omega
  have hq : (min (l.length : Int) (most : Int)) = (((l.take most).length : Nat) : Int) := by rw [List.length_take]; omega
  have hlen : (l.take most).length ≤ 200 := by rw [List.length_take]; omega
  obtain ⟨ao1, c1, hcut, hv1, -⟩ := run_cutIt hv (lo := none) (hi := some (.int .i64 (((l.take most).length : Nat) : Int))) (p := 0) (q := (l.take most).length) (.inl ⟨rfl, rfl⟩) (.inr ⟨_, rfl⟩) (Nat.zero_le _) (by rw [List.length_take]; exact Nat.min_le_right _ _)
  have e1 : (l.drop 0).take ((l.take most).length - 0) = l.take most := by rw [List.drop_zero, Nat.sub_zero, List.length_take]; exact (List.take_eq_take_min ..).symm
  rw [e1] at hv1
  rw [Nat.sub_zero] at hv1 hcut
  clear e1 hv
  generalize l.take most = m at *
  go_enter Try.func9, Try.ntmps9
  go_wp2_with fail
  have HV := hd hv1
  clear hv1 hq hcut
  go_loopw [5, 17] (fun o i wr => ∃ k : Nat, i = .int .i64 (k : Int) ∧ k ≤ m.length ∧ Hd (ItR wr w.heap.size o (tameL (m.take k))) ∧ Hd (Chg [] w wr)) (fun _ i _ => m.length - (intOf i).toNat)
  case atStart => exact ⟨0, rfl, Nat.zero_le _, hd (World.ownsRow_nil _ _ _ _), hd (Chg.refl _ _)⟩
  case round =>
    obtain ⟨k, rfl, hk, hr, hc⟩ := hrel
    by_cases hlt : k < m.length
    · have hv2 := HV.out.k hc.out
      obtain ⟨g, off, rfl⟩ : ∃ g off, ao1 = some ⟨g, off, none⟩ := by
        obtain ⟨_, ao, cap, b, off, he, -, -, -, h5, -⟩ := hv2
        simp only [Value.slice.injEq] at he
        exact ⟨b, off, he.1.trans (h5 (by omega))⟩
      obtain ⟨q0, q1, q2, q3, q4, q5⟩ := hv2.at k hlt
      have hsn := tameL_snoc m k hlt
      generalize m[k] = x at *
      have HSN := hd hsn
      clear hsn hv2
      go_upto_region 5 with (fail)
      have kx := Blk.new wr #[.int .i64 x.id, .int .i64 x.lx, .int .i64 x.ly, .int .i64 x.hx, .int .i64 x.hy, .bool x.still] 30
      have hcb := (Chg.refl [] wr).alloc (.cells #[.int .i64 x.id, .int .i64 x.lx, .int .i64 x.ly, .int .i64 x.hx, .int .i64 x.hy, .bool x.still] 30)
      have hrw := hd (hr.out.k hcb)
      have hcw := hd (hc.out.k hcb)
      have hne : Hd (∀ j, u5.ownBlock = some j → j ≠ wr.heap.size) := hd fun j hj => Nat.ne_of_lt (World.ownsRow.lt hr.out j hj).2
      have hxb : Hd (w.heap.size ≤ wr.heap.size) := hd hc.out.size
      generalize wr.alloc (.cells #[.int .i64 x.id, .int .i64 x.lx, .int .i64 x.ly, .int .i64 x.hx, .int .i64 x.hy, .bool x.still] 30) = w0 at *
      generalize wr.heap.size = xb at *
      clear q0 q1 q2 q3 q4 q5 hcb hr hc wr
      have HQ : Hd (∀ wx, Chg [] w0 wx → wx.cell? ⟨xb, 1, none⟩ = some (.int .i64 x.lx) ∧ wx.cell? ⟨xb, 2, none⟩ = some (.int .i64 x.ly) ∧ wx.cell? ⟨xb, 3, none⟩ = some (.int .i64 x.hx) ∧ wx.cell? ⟨xb, 4, none⟩ = some (.int .i64 x.hy)) :=
        hd fun wx hx => ⟨hx.cellS (kx.cell 1), hx.cellS (kx.cell 2), hx.cellS (kx.cell 3), hx.cellS (kx.cell 4)⟩
      have KX := hd kx
      clear kx
      have s1 := ((Chg.refl [] w0).alloc (.cells #[.int .i64 0, .int .i64 0] 26)).drew
      have s2 := (((Chg.refl [] w0).alloc (.cells #[.int .i64 0, .int .i64 0] 26)).alloc (.cells #[.int .i64 0, .int .i64 0] 26)).drew
      have s3 := (((Chg.refl [] w0).alloc (.cells #[.int .i64 x.lx, .int .i64 x.ly] 26)).alloc (.cells #[.int .i64 0, .int .i64 0] 26)).drew
      have s4 := (((Chg.refl [] w0).alloc (.cells #[.int .i64 x.lx, .int .i64 x.ly] 26)).alloc (.cells #[.int .i64 x.hx, .int .i64 x.hy] 26)).drew
      have s5 := (((Chg.refl [] w0).alloc (.cells #[.int .i64 0, .int .i64 0] 26)).alloc (.cells #[.int .i64 x.lx, .int .i64 x.ly] 26)).drew
      have s6 := (((Chg.refl [] w0).alloc (.cells #[.int .i64 x.hx, .int .i64 x.hy] 26)).alloc (.cells #[.int .i64 x.lx, .int .i64 x.ly] 26)).drew
      refine anyH_start (n := 10) (L := #[false, false, false, false, false, false, false, false, false, false]) (by kernel_rfl) (by kernel_rfl) (S := (fun wx => Chg [] w0 wx)) ((Chg.refl _ _).drew) (fun hHeld => ?_)
      refine anyH_take (i := 0) (d := 22) (L' := #[true, false, false, false, false, false, false, false, false, false]) (v := ?v17) rfl rfl (by kernel_rfl) (fun _ _ _ h => h) (by rfl) ?hy17 (by assumption) ?rest17
      case hy17 => (intro wx hSw; (try dsimp only at hSw); (obtain ⟨t0, t1, t2, t3⟩ := HQ.out _ hSw); go_simp; (try with_reducible rfl))
      simp only [Act.put, List.setIfInBounds_toArray, List.set_cons_zero, List.set_cons_succ]
      refine anyH_take (i := 1) (d := 23) (L' := #[true, true, false, false, false, false, false, false, false, false]) (v := ?v18) rfl rfl (by kernel_rfl) (fun _ _ _ h => h) (by rfl) ?hy18 (by assumption) ?rest18
      case hy18 => (intro wx hSw; (try dsimp only at hSw); (obtain ⟨t0, t1, t2, t3⟩ := HQ.out _ hSw); go_simp; (try with_reducible rfl))
      simp only [Act.put, List.setIfInBounds_toArray, List.set_cons_zero, List.set_cons_succ]
      refine anyH_take (i := 2) (d := 24) (L' := #[true, true, true, false, false, false, false, false, false, false]) (v := ?v19) rfl rfl (by kernel_rfl) (fun _ _ _ h => h) (by rfl) ?hy19 (by assumption) ?rest19
      case hy19 => (intro wx hSw; (try dsimp only at hSw); (obtain ⟨t0, t1, t2, t3⟩ := HQ.out _ hSw); go_simp; (try with_reducible rfl))
      simp only [Act.put, List.setIfInBounds_toArray, List.set_cons_zero, List.set_cons_succ]
      refine anyH_take (i := 3) (d := 25) (L' := #[true, true, true, true, false, false, false, false, false, false]) (v := ?v20) rfl rfl (by kernel_rfl) (fun _ _ _ h => h) (by rfl) ?hy20 (by assumption) ?rest20
      case hy20 => (intro wx hSw; (try dsimp only at hSw); (obtain ⟨t0, t1, t2, t3⟩ := HQ.out _ hSw); go_simp; (try with_reducible rfl))
      simp only [Act.put, List.setIfInBounds_toArray, List.set_cons_zero, List.set_cons_succ]
      refine anyH_take (i := 4) (d := 26) (L' := #[true, true, true, true, true, false, false, false, false, false]) (v := ?v21) rfl rfl (by kernel_rfl) (fun _ _ _ h => h) (by rfl) ?hy21 (by assumption) ?rest21
      case hy21 => (intro wx hSw; (try dsimp only at hSw); (obtain ⟨t0, t1, t2, t3⟩ := HQ.out _ hSw); go_simp; (try with_reducible rfl))
      simp only [Act.put, List.setIfInBounds_toArray, List.set_cons_zero, List.set_cons_succ]
      refine anyH_take (i := 5) (d := 27) (L' := #[true, true, true, true, true, true, false, false, false, false]) (v := ?v22) rfl rfl (by kernel_rfl) (fun _ _ _ h => h) (by rfl) ?hy22 (by assumption) ?rest22
      case hy22 => (intro wx hSw; (try dsimp only at hSw); (obtain ⟨t0, t1, t2, t3⟩ := HQ.out _ hSw); go_simp; (try with_reducible rfl))
      simp only [Act.put, List.setIfInBounds_toArray, List.set_cons_zero, List.set_cons_succ]
      refine anyH_run2 (i := 6) (j := 7) (L1 := #[true, true, true, true, true, true, true, false, false, false]) (L2 := #[true, true, true, true, true, true, false, true, false, false]) rfl rfl (by kernel_rfl) (by rfl) (by rfl) (fun KK hKK => ?ra14) (fun KK hKK => ?rb14)
      case' ra14 =>
        go_simp
        (skip)
        refine hKK.out _ _ (by assumption) (fun hHeld => ?_)
        clear hKK KK
        try simp only [Act.put, List.setIfInBounds_toArray, List.set_cons_zero, List.set_cons_succ]
        refine anyH_run (i := 7) (L' := #[true, true, true, true, true, true, true, true, false, false]) rfl (by kernel_rfl) (by rfl) (fun KK hKK => ?_)
        go_simp
        (skip)
        refine hKK.out _ _ (by assumption) (fun hHeld => ?_)
        clear hKK KK
        try simp only [Act.put, List.setIfInBounds_toArray, List.set_cons_zero, List.set_cons_succ]
        refine anyH_run (i := 8) (L' := #[true, true, true, true, true, true, true, true, true, false]) rfl (by kernel_rfl) (by rfl) (fun KK hKK => ?_)
        go_simp
        (skip)
        refine hKK.out _ _ (by assumption) (fun hHeld => ?_)
        clear hKK KK
        try simp only [Act.put, List.setIfInBounds_toArray, List.set_cons_zero, List.set_cons_succ]
        refine anyH_run (i := 9) (L' := #[true, true, true, true, true, true, true, true, true, true]) rfl (by kernel_rfl) (by rfl) (fun KK hKK => ?_)
        go_simp
        (skip)
        refine hKK.out _ _ (by assumption) (fun hHeld => ?_)
        clear hKK KK
        try simp only [Act.put, List.setIfInBounds_toArray, List.set_cons_zero, List.set_cons_succ]
        refine wpAnyH_done (by kernel_rfl) ?_ _
        (first | (have hW : Chg [] w0 ((w0.alloc (.cells #[.int .i64 x.lx, .int .i64 x.ly] 26)).alloc (.cells #[.int .i64 x.hx, .int .i64 x.hy] 26)).drew := hHeld; have kl := ((Blk.new w0 #[.int .i64 x.lx, .int .i64 x.ly] 26).alloc (.cells #[.int .i64 x.hx, .int .i64 x.hy] 26)).k ((Chg.refl [] _).drew); have kh := (Blk.new (w0.alloc (.cells #[.int .i64 x.lx, .int .i64 x.ly] 26)) #[.int .i64 x.hx, .int .i64 x.hy] 26).k ((Chg.refl [] _).drew); rw [show (w0.alloc (.cells #[.int .i64 x.lx, .int .i64 x.ly] 26)).heap.size = w0.heap.size + 1 by simp] at kh; clear s1 s2 s3 s4 s5 s6 hHeld; generalize ((w0.alloc (.cells #[.int .i64 x.lx, .int .i64 x.ly] 26)).alloc (.cells #[.int .i64 x.hx, .int .i64 x.hy] 26)).drew = W at *; generalize w0.heap.size + 1 = b9 at *; generalize w0.heap.size = b8 at *) | (have hW : Chg [] w0 ((w0.alloc (.cells #[.int .i64 x.hx, .int .i64 x.hy] 26)).alloc (.cells #[.int .i64 x.lx, .int .i64 x.ly] 26)).drew := hHeld; have kh := ((Blk.new w0 #[.int .i64 x.hx, .int .i64 x.hy] 26).alloc (.cells #[.int .i64 x.lx, .int .i64 x.ly] 26)).k ((Chg.refl [] _).drew); have kl := (Blk.new (w0.alloc (.cells #[.int .i64 x.hx, .int .i64 x.hy] 26)) #[.int .i64 x.lx, .int .i64 x.ly] 26).k ((Chg.refl [] _).drew); rw [show (w0.alloc (.cells #[.int .i64 x.hx, .int .i64 x.hy] 26)).heap.size = w0.heap.size + 1 by simp] at kl; clear s1 s2 s3 s4 s5 s6 hHeld; generalize ((w0.alloc (.cells #[.int .i64 x.hx, .int .i64 x.hy] 26)).alloc (.cells #[.int .i64 x.lx, .int .i64 x.ly] 26)).drew = W at *; generalize w0.heap.size + 1 = b8 at *; generalize w0.heap.size = b9 at *)); have HW := hd hW; have KX2 := hd (KX.out.k hW); have l0 := kl.cell 0; have l1 := kl.cell 1; have h0 := kh.cell 0; have h1 := kh.cell 1; simp at l0 l1 h0 h1; clear kl kh hW; have hjoin := fun W => Join_any W x.lx x.ly x.lx x.ly x.hx x.hy x.hx x.hy; go_upto_region 7 with (go_at_call 22; refine (hjoin _).mono ?_; rintro e w5 ⟨rfl, hc5⟩; have kx5 := KX2.out.k hc5; have f1 := kx5.free 1; have f2 := kx5.free 2; have f3 := kx5.free 3; have f4 := kx5.free 4; have p1 := kx5.cell 1; have p2 := kx5.cell 2; have p3 := kx5.cell 3; have p4 := kx5.cell 4; simp at p1 p2 p3 p4); replace HW := hd (HW.out.k hc5); have K6 := (((kx5.set 1 (.int .i64 (min x.lx x.hx))).set 2 (.int .i64 (min x.ly x.hy))).set 3 (.int .i64 (max x.lx x.hx))).set 4 (.int .i64 (max x.ly x.hy)); have hc6 := ((((Chg.refl [xb] w5).setCell ⟨xb, 1, none⟩ (.int .i64 (min x.lx x.hx)) (by simp)).setCell ⟨xb, 2, none⟩ (.int .i64 (min x.ly x.hy)) (by simp)).setCell ⟨xb, 3, none⟩ (.int .i64 (max x.lx x.hx)) (by simp)).setCell ⟨xb, 4, none⟩ (.int .i64 (max x.ly x.hy)) (by simp); clear p1 p2 p3 p4 f1 f2 f3 f4 l0 l1 h0 h1 hjoin kx5 KX2 hc5 HQ; generalize (((w5.setCell ⟨xb, 1, none⟩ (.int .i64 (min x.lx x.hx))).setCell ⟨xb, 2, none⟩ (.int .i64 (min x.ly x.hy))).setCell ⟨xb, 3, none⟩ (.int .i64 (max x.lx x.hx))).setCell ⟨xb, 4, none⟩ (.int .i64 (max x.ly x.hy)) = w6 at *; simp at K6; have p0 := K6.cell 0; have p1 := K6.cell 1; have p2 := K6.cell 2; have p3 := K6.cell 3; have p4 := K6.cell 4; have p5 := K6.cell 5; have f0 := K6.free 0; simp at p0 p1 p2 p3 p4 p5; have r1 := andFFF x.id; have r2 := tame_shl (x.id % 4096) (by omega) (by omega) .u64; have r3 := tame_or x.id k (by omega); go_upto_region 8 with (fail); have K7 := K6.set 0 (.int .i64 (x.id % 4096 * 256 + (k : Int))); have hc7 := hc6.setCell ⟨xb, 0, none⟩ (.int .i64 (x.id % 4096 * 256 + (k : Int))) (by simp); clear p0 p1 p2 p3 p4 p5 f0 K6 hc6; generalize w6.setCell ⟨xb, 0, none⟩ (.int .i64 (x.id % 4096 * 256 + (k : Int))) = w7 at *; simp at K7; have HR7 : Hd (ItR w7 w.heap.size u5 (tameL (m.take k))) := hd (ownsRow_chg (hrw.out.k HW.out) hc7 (fun j hj => by simpa using hne.out j hj)); have HC7 : Hd (Chg [] w w7) := hd ((hcw.out.k HW.out).trans hc7 (fun y hy hlt => absurd hlt (by have := hxb.out; simp at hy; omega))); have hlt7 := HC7.out.size; have hlk : Hd ((tameL (m.take k)).length = k) := hd (by rw [tameL_len, List.length_take]; omega); have p0 := K7.cell 0; have p1 := K7.cell 1; have p2 := K7.cell 2; have p3 := K7.cell 3; have p4 := K7.cell 4; have p5 := K7.cell 5; simp at p0 p1 p2 p3 p4 p5; clear K7 hc7 KX hrw hcw HW hne hxb; go_wp2_with (at_builtin; refine wpApp rowItem rfl _ _ rfl w.heap.size u5 _ _ rfl (World.ownsRow.alloc HR7.out _) _ 1 (cI (tameI k x)) rfl (Rd.lit _ 6 1 (cI (tameI k x)) _ _ rfl rfl (by decide)) (cI_one _) (by rw [hlk.out]; omega) (by rw [hlk.out]; omega) (by simp; omega) ?_; intro ao8 c8 w8 h8 hg8 _ _); have HH : Hd (ItR w8 w.heap.size (.slice ao8 ((tameL (m.take k)).length + 1) c8) (tameL (m.take (k + 1)))) := hd (by rw [HSN.out]; unfold ItR; rw [List.length_append, List.flatMap_append]; simpa using h8); have HC : Hd (Chg [] w w8) := hd ((HC7.out.alloc _).ownGrow (World.ownsRow.alloc HR7.out _) hg8 (Nat.le_refl _)); clear h8 hg8; (go_roundw; (case rel => exact ⟨k + 1, by go_num, by omega, HH, HC⟩); (case measure => simp [intOf]; omega))
      case' rb14 =>
        go_simp
        (skip)
        refine hKK.out _ _ (by assumption) (fun hHeld => ?_)
        clear hKK KK
        try simp only [Act.put, List.setIfInBounds_toArray, List.set_cons_zero, List.set_cons_succ]
        refine anyH_run (i := 6) (L' := #[true, true, true, true, true, true, true, true, false, false]) rfl (by kernel_rfl) (by rfl) (fun KK hKK => ?_)
        go_simp
        (skip)
        refine hKK.out _ _ (by assumption) (fun hHeld => ?_)
        clear hKK KK
        try simp only [Act.put, List.setIfInBounds_toArray, List.set_cons_zero, List.set_cons_succ]
        refine anyH_run (i := 8) (L' := #[true, true, true, true, true, true, true, true, true, false]) rfl (by kernel_rfl) (by rfl) (fun KK hKK => ?_)
        go_simp
        (skip)
        refine hKK.out _ _ (by assumption) (fun hHeld => ?_)
        clear hKK KK
        try simp only [Act.put, List.setIfInBounds_toArray, List.set_cons_zero, List.set_cons_succ]
        refine anyH_run (i := 9) (L' := #[true, true, true, true, true, true, true, true, true, true]) rfl (by kernel_rfl) (by rfl) (fun KK hKK => ?_)
        go_simp
        (skip)
        refine hKK.out _ _ (by assumption) (fun hHeld => ?_)
        clear hKK KK
        try simp only [Act.put, List.setIfInBounds_toArray, List.set_cons_zero, List.set_cons_succ]
        refine wpAnyH_done (by kernel_rfl) ?_ _
        (first | (have hW : Chg [] w0 ((w0.alloc (.cells #[.int .i64 x.lx, .int .i64 x.ly] 26)).alloc (.cells #[.int .i64 x.hx, .int .i64 x.hy] 26)).drew := hHeld; have kl := ((Blk.new w0 #[.int .i64 x.lx, .int .i64 x.ly] 26).alloc (.cells #[.int .i64 x.hx, .int .i64 x.hy] 26)).k ((Chg.refl [] _).drew); have kh := (Blk.new (w0.alloc (.cells #[.int .i64 x.lx, .int .i64 x.ly] 26)) #[.int .i64 x.hx, .int .i64 x.hy] 26).k ((Chg.refl [] _).drew); rw [show (w0.alloc (.cells #[.int .i64 x.lx, .int .i64 x.ly] 26)).heap.size = w0.heap.size + 1 by simp] at kh; clear s1 s2 s3 s4 s5 s6 hHeld; generalize ((w0.alloc (.cells #[.int .i64 x.lx, .int .i64 x.ly] 26)).alloc (.cells #[.int .i64 x.hx, .int .i64 x.hy] 26)).drew = W at *; generalize w0.heap.size + 1 = b9 at *; generalize w0.heap.size = b8 at *) | (have hW : Chg [] w0 ((w0.alloc (.cells #[.int .i64 x.hx, .int .i64 x.hy] 26)).alloc (.cells #[.int .i64 x.lx, .int .i64 x.ly] 26)).drew := hHeld; have kh := ((Blk.new w0 #[.int .i64 x.hx, .int .i64 x.hy] 26).alloc (.cells #[.int .i64 x.lx, .int .i64 x.ly] 26)).k ((Chg.refl [] _).drew); have kl := (Blk.new (w0.alloc (.cells #[.int .i64 x.hx, .int .i64 x.hy] 26)) #[.int .i64 x.lx, .int .i64 x.ly] 26).k ((Chg.refl [] _).drew); rw [show (w0.alloc (.cells #[.int .i64 x.hx, .int .i64 x.hy] 26)).heap.size = w0.heap.size + 1 by simp] at kl; clear s1 s2 s3 s4 s5 s6 hHeld; generalize ((w0.alloc (.cells #[.int .i64 x.hx, .int .i64 x.hy] 26)).alloc (.cells #[.int .i64 x.lx, .int .i64 x.ly] 26)).drew = W at *; generalize w0.heap.size + 1 = b8 at *; generalize w0.heap.size = b9 at *)); have HW := hd hW; have KX2 := hd (KX.out.k hW); have l0 := kl.cell 0; have l1 := kl.cell 1; have h0 := kh.cell 0; have h1 := kh.cell 1; simp at l0 l1 h0 h1; clear kl kh hW; have hjoin := fun W => Join_any W x.lx x.ly x.lx x.ly x.hx x.hy x.hx x.hy; go_upto_region 7 with (go_at_call 22; refine (hjoin _).mono ?_; rintro e w5 ⟨rfl, hc5⟩; have kx5 := KX2.out.k hc5; have f1 := kx5.free 1; have f2 := kx5.free 2; have f3 := kx5.free 3; have f4 := kx5.free 4; have p1 := kx5.cell 1; have p2 := kx5.cell 2; have p3 := kx5.cell 3; have p4 := kx5.cell 4; simp at p1 p2 p3 p4); replace HW := hd (HW.out.k hc5); have K6 := (((kx5.set 1 (.int .i64 (min x.lx x.hx))).set 2 (.int .i64 (min x.ly x.hy))).set 3 (.int .i64 (max x.lx x.hx))).set 4 (.int .i64 (max x.ly x.hy)); have hc6 := ((((Chg.refl [xb] w5).setCell ⟨xb, 1, none⟩ (.int .i64 (min x.lx x.hx)) (by simp)).setCell ⟨xb, 2, none⟩ (.int .i64 (min x.ly x.hy)) (by simp)).setCell ⟨xb, 3, none⟩ (.int .i64 (max x.lx x.hx)) (by simp)).setCell ⟨xb, 4, none⟩ (.int .i64 (max x.ly x.hy)) (by simp); clear p1 p2 p3 p4 f1 f2 f3 f4 l0 l1 h0 h1 hjoin kx5 KX2 hc5 HQ; generalize (((w5.setCell ⟨xb, 1, none⟩ (.int .i64 (min x.lx x.hx))).setCell ⟨xb, 2, none⟩ (.int .i64 (min x.ly x.hy))).setCell ⟨xb, 3, none⟩ (.int .i64 (max x.lx x.hx))).setCell ⟨xb, 4, none⟩ (.int .i64 (max x.ly x.hy)) = w6 at *; simp at K6; have p0 := K6.cell 0; have p1 := K6.cell 1; have p2 := K6.cell 2; have p3 := K6.cell 3; have p4 := K6.cell 4; have p5 := K6.cell 5; have f0 := K6.free 0; simp at p0 p1 p2 p3 p4 p5; have r1 := andFFF x.id; have r2 := tame_shl (x.id % 4096) (by omega) (by omega) .u64; have r3 := tame_or x.id k (by omega); go_upto_region 8 with (fail); have K7 := K6.set 0 (.int .i64 (x.id % 4096 * 256 + (k : Int))); have hc7 := hc6.setCell ⟨xb, 0, none⟩ (.int .i64 (x.id % 4096 * 256 + (k : Int))) (by simp); clear p0 p1 p2 p3 p4 p5 f0 K6 hc6; generalize w6.setCell ⟨xb, 0, none⟩ (.int .i64 (x.id % 4096 * 256 + (k : Int))) = w7 at *; simp at K7; have HR7 : Hd (ItR w7 w.heap.size u5 (tameL (m.take k))) := hd (ownsRow_chg (hrw.out.k HW.out) hc7 (fun j hj => by simpa using hne.out j hj)); have HC7 : Hd (Chg [] w w7) := hd ((hcw.out.k HW.out).trans hc7 (fun y hy hlt => absurd hlt (by have := hxb.out; simp at hy; omega))); have hlt7 := HC7.out.size; have hlk : Hd ((tameL (m.take k)).length = k) := hd (by rw [tameL_len, List.length_take]; omega); have p0 := K7.cell 0; have p1 := K7.cell 1; have p2 := K7.cell 2; have p3 := K7.cell 3; have p4 := K7.cell 4; have p5 := K7.cell 5; simp at p0 p1 p2 p3 p4 p5; clear K7 hc7 KX hrw hcw HW hne hxb; go_wp2_with (at_builtin; refine wpApp rowItem rfl _ _ rfl w.heap.size u5 _ _ rfl (World.ownsRow.alloc HR7.out _) _ 1 (cI (tameI k x)) rfl (Rd.lit _ 6 1 (cI (tameI k x)) _ _ rfl rfl (by decide)) (cI_one _) (by rw [hlk.out]; omega) (by rw [hlk.out]; omega) (by simp; omega) ?_; intro ao8 c8 w8 h8 hg8 _ _); have HH : Hd (ItR w8 w.heap.size (.slice ao8 ((tameL (m.take k)).length + 1) c8) (tameL (m.take (k + 1)))) := hd (by rw [HSN.out]; unfold ItR; rw [List.length_append, List.flatMap_append]; simpa using h8); have HC : Hd (Chg [] w w8) := hd ((HC7.out.alloc _).ownGrow (World.ownsRow.alloc HR7.out _) hg8 (Nat.le_refl _)); clear h8 hg8; (go_roundw; (case rel => exact ⟨k + 1, by go_num, by omega, HH, HC⟩); (case measure => simp [intOf]; omega))
    · obtain rfl : k = m.length := by omega
      have hr2 := hr.out
      rw [List.take_length] at hr2
      obtain ⟨aor, cr, rfl, -⟩ := hr2.form
      have HR := hd hr2
      clear hr hr2
      go_wp2_with fail
      go_ret
      exact ⟨aor, cr, rfl, HR.out, hc.out⟩
end Go.Proofs.Ytnlkeacchogmeaa

/- SweepMore: the walk. -/
namespace Go.Proofs.Ytnlkeacchogmeaa
open Go.RowKit Go.Sort Go.Shelf

theorem tameL_app (l : List Itm) (x : Itm) : tameL (l ++ [x]) = tameL l ++ [tameI l.length x] := by
  unfold tameL; rw [List.mapIdx_append]; simp
theorem tameL_ids {l : List Itm} {x y : Itm} (hl : l.length ≤ 200) (h : y ∈ tameL l) : y.id ≠ (tameI l.length x).id := by
  unfold tameL at h
  obtain ⟨i, hi, rfl⟩ := List.getElem_of_mem h
  rw [List.length_mapIdx] at hi
  simp only [List.getElem_mapIdx, tameI]
  omega
theorem ItS.aI1 (w : World) (x : Itm) : Rd (w.alloc (.cells #[.int .i64 x.id, .int .i64 x.lx, .int .i64 x.ly, .int .i64 x.hx, .int .i64 x.hy, .bool x.still] 30)) 6 (.slice (some ⟨w.heap.size, 0, none⟩) 1 1) 1 (cI x) := Rd.lit w 6 1 (cI x) _ _ rfl rfl (by decide)
theorem ItR.addr' {w : World} {base n c : Nat} {ao : Option Addr} {l : List Itm} (h : ItR w base (.slice ao n c) l) (hp : 0 < l.length) : ∃ g, ao = some ⟨g, 0, none⟩ := by
  obtain ⟨ao', c', he, ⟨rfl, h0⟩ | ⟨g, rfl, -⟩⟩ := h.form
  · rw [h0] at hp; simp at hp
  · simp only [Value.slice.injEq] at he
    exact ⟨g, he.1⟩
/-- Behind tame of one item more. -/
def MoreOut (m : List Itm) (x : Itm) (w : World) (e : Ending) (w' : World) : Prop := ∃ ao c, e = .returned (.slice ao (m.length + 1) c) ∧ ItR w' w.heap.size (.slice ao (m.length + 1) c) (tameL m ++ [tameI m.length x]) ∧ Chg [] w w'
theorem more_tame (w : World) (m : List Itm) (x : Itm) {base : Nat} {ao : Option Addr} {c : Nat} (hm : m.length ≤ 20) (hr : w.ownsRow base 30 6 (.slice ao (m.length + 1) c) (m.length + 1) (m.flatMap cI ++ cI x)) :
    Calls Try.prog 9 #[.slice ao (m.length + 1) c, .int .i64 21] w fun e w' => MoreOut m x w e w' := by
  have hs : ItS w (.slice ao (m.length + 1) c) (m ++ [x]) := by
    have := Rd.ofOwn hr
    unfold ItS
    rw [List.length_append, List.flatMap_append]
    simpa using this
  refine (Tame_any w _ (m ++ [x]) 21 hs (by decide)).mono ?_
  have e : (m ++ [x]).take 21 = m ++ [x] := List.take_of_length_le (by rw [List.length_append]; simp; omega)
  rintro r w' ⟨ao', c', h1, h2, h3⟩
  rw [e] at h1 h2
  rw [tameL_app] at h1 h2
  rw [List.length_append, tameL_len] at h1 h2
  exact ⟨ao', c', h1, h2, h3⟩
set_option maxRecDepth 100000 in
set_option maxHeartbeats 8000000 in
theorem SweepMore_law (v : Value) (l : List Itm) (x : Itm) (w : World) (hv : ItS w v l) :
    Calls Try.prog 6 #[v, aI x] w fun e w' => e = .returned (.bool true) ∧ Chg [] w w' := by
  have HV := hd hv
  obtain ⟨ao0, c0, hv0⟩ : ∃ ao c, v = .slice ao l.length c := by
    obtain ⟨_, ao, cap, b, off, rfl, _⟩ := hv
    exact ⟨ao, cap, rfl⟩
  subst hv0
  have hl : l.length ≤ 9223372036854775807 := by
    obtain ⟨_, ao, cap, b, off, _, h1, h2, _⟩ := hv
    unfold maxLen at h2; omega
  have hq : (min (l.length : Int) 20) = (((l.take 20).length : Nat) : Int) := by rw [List.length_take]; omega
  have hlen : (l.take 20).length ≤ 20 := by rw [List.length_take]; omega
  obtain ⟨ao1, c1, hcut, hv1, -⟩ := run_cutIt hv (lo := none) (hi := some (.int .i64 (((l.take 20).length : Nat) : Int))) (p := 0) (q := (l.take 20).length) (.inl ⟨rfl, rfl⟩) (.inr ⟨_, rfl⟩) (Nat.zero_le _) (by rw [List.length_take]; exact Nat.min_le_right _ _)
  have e1 : (l.drop 0).take ((l.take 20).length - 0) = l.take 20 := by rw [List.drop_zero, Nat.sub_zero, List.length_take]; exact (List.take_eq_take_min ..).symm
  rw [e1] at hv1
  rw [Nat.sub_zero] at hv1 hcut
  unfold ItS at hv1
  clear e1 hv
  generalize l.take 20 = m at *
  have HV1 := hd hv1
  have HCUT := hd hcut
  clear hv1 hcut
  unfold aI
  go_enter Try.func6, Try.ntmps6
  have kx := Blk.new w #[.int .i64 x.id, .int .i64 x.lx, .int .i64 x.ly, .int .i64 x.hx, .int .i64 x.hy, .bool x.still] 30
  have hcb := (Chg.refl [] w).alloc (.cells #[.int .i64 x.id, .int .i64 x.lx, .int .i64 x.ly, .int .i64 x.hx, .int .i64 x.hy, .bool x.still] 30)
  go_upto_region 3 with (go_at_call 7; refine (fit08_any _).mono ?_; rintro e w2 ⟨rfl, hc1⟩)
  replace hcb := hcb.k hc1
  replace kx := kx.k hc1
  have HQ : Hd (∀ wx, Chg [] w2 wx → wx.cell? ⟨w.heap.size, 0, none⟩ = some (.int .i64 x.id) ∧ wx.cell? ⟨w.heap.size, 1, none⟩ = some (.int .i64 x.lx) ∧ wx.cell? ⟨w.heap.size, 2, none⟩ = some (.int .i64 x.ly) ∧ wx.cell? ⟨w.heap.size, 3, none⟩ = some (.int .i64 x.hx) ∧ wx.cell? ⟨w.heap.size, 4, none⟩ = some (.int .i64 x.hy) ∧ wx.cell? ⟨w.heap.size, 5, none⟩ = some (.bool x.still)) :=
    hd fun wx hx => ⟨hx.cellS (kx.cell 0), hx.cellS (kx.cell 1), hx.cellS (kx.cell 2), hx.cellS (kx.cell 3), hx.cellS (kx.cell 4), hx.cellS (kx.cell 5)⟩
  replace HV1 := hd (Rd.keep HV1.out hcb (by simp))
  have HC2 := hd hcb
  clear kx hcb hc1

  refine anyH_start (n := 11) (L := #[false, false, false, false, false, false, false, false, false, false, false]) (by kernel_rfl) (by kernel_rfl) (S := (fun wx => Chg [] w2 wx)) ((Chg.refl _ _).drew) (fun hHeld => ?_)
  refine anyH_take (i := 0) (d := 15) (L' := #[true, false, false, false, false, false, false, false, false, false, false]) (v := ?v3) rfl rfl (by kernel_rfl) (fun _ _ _ h => h) (by rfl) ?hy3 (by assumption) ?rest3
  case hy3 => (intro wx hSw; (try dsimp only at hSw); (obtain ⟨t0, t1, t2, t3, t4, t5⟩ := HQ.out _ hSw; have t6 := HCUT.out); go_simp; (try with_reducible rfl))
  simp only [Act.put, List.setIfInBounds_toArray, List.set_cons_zero, List.set_cons_succ]
  refine anyH_take (i := 1) (d := 16) (L' := #[true, true, false, false, false, false, false, false, false, false, false]) (v := ?v4) rfl rfl (by kernel_rfl) (fun _ _ _ h => h) (by rfl) ?hy4 (by assumption) ?rest4
  case hy4 => (intro wx hSw; (try dsimp only at hSw); (obtain ⟨t0, t1, t2, t3, t4, t5⟩ := HQ.out _ hSw; have t6 := HCUT.out); go_simp; (try with_reducible rfl))
  simp only [Act.put, List.setIfInBounds_toArray, List.set_cons_zero, List.set_cons_succ]
  refine anyH_take (i := 2) (d := 17) (L' := #[true, true, true, false, false, false, false, false, false, false, false]) (v := ?v5) rfl rfl (by kernel_rfl) (fun _ _ _ h => h) (by rfl) ?hy5 (by assumption) ?rest5
  case hy5 => (intro wx hSw; (try dsimp only at hSw); (obtain ⟨t0, t1, t2, t3, t4, t5⟩ := HQ.out _ hSw; have t6 := HCUT.out); go_simp; (try with_reducible rfl))
  simp only [Act.put, List.setIfInBounds_toArray, List.set_cons_zero, List.set_cons_succ]
  refine anyH_take (i := 3) (d := 18) (L' := #[true, true, true, true, false, false, false, false, false, false, false]) (v := ?v6) rfl rfl (by kernel_rfl) (fun _ _ _ h => h) (by rfl) ?hy6 (by assumption) ?rest6
  case hy6 => (intro wx hSw; (try dsimp only at hSw); (obtain ⟨t0, t1, t2, t3, t4, t5⟩ := HQ.out _ hSw; have t6 := HCUT.out); go_simp; (try with_reducible rfl))
  simp only [Act.put, List.setIfInBounds_toArray, List.set_cons_zero, List.set_cons_succ]
  refine anyH_take (i := 4) (d := 19) (L' := #[true, true, true, true, true, false, false, false, false, false, false]) (v := ?v7) rfl rfl (by kernel_rfl) (fun _ _ _ h => h) (by rfl) ?hy7 (by assumption) ?rest7
  case hy7 => (intro wx hSw; (try dsimp only at hSw); (obtain ⟨t0, t1, t2, t3, t4, t5⟩ := HQ.out _ hSw; have t6 := HCUT.out); go_simp; (try with_reducible rfl))
  simp only [Act.put, List.setIfInBounds_toArray, List.set_cons_zero, List.set_cons_succ]
  refine anyH_take (i := 6) (d := 21) (L' := #[true, true, true, true, true, false, true, false, false, false, false]) (v := ?v8) rfl rfl (by kernel_rfl) (fun _ _ _ h => h) (by rfl) ?hy8 (by assumption) ?rest8
  case hy8 => (intro wx hSw; (try dsimp only at hSw); (obtain ⟨t0, t1, t2, t3, t4, t5⟩ := HQ.out _ hSw; have t6 := HCUT.out); go_simp; (try with_reducible rfl))
  simp only [Act.put, List.setIfInBounds_toArray, List.set_cons_zero, List.set_cons_succ]
  refine anyH_run2 (i := 5) (j := 7) (L1 := #[true, true, true, true, true, true, true, false, false, false, false]) (L2 := #[true, true, true, true, true, false, true, true, false, false, false]) rfl rfl (by kernel_rfl) (by rfl) (by rfl) (fun KK hKK => ?ra0) (fun KK hKK => ?rb0)
  case' ra0 =>
    (refine wp_appN rowItem _ rfl _ m.length _ rfl (Rd.keep HV1.out hHeld (by simp)) (flat_one cI cI_one _) (by omega) (by omega) ?_; intro ao5 c5 w5 hr5' hg5; have hr5 := ownsRow_mono hr5' (show w2.heap.size ≤ _ from hHeld.size); clear hr5'; have hc5 : Chg [] w2 w5 := hHeld.grown hg5 (by simp); (try replace hx7 := Rd.keep hx7 ((Chg.refl [] _).grown hg5 (by simp)) (by simp)))
    refine hKK.out _ _ (by assumption) (fun hHeld => ?_)
    clear hKK KK
    try simp only [Act.put, List.setIfInBounds_toArray, List.set_cons_zero, List.set_cons_succ]
    refine anyH_run (i := 7) (L' := #[true, true, true, true, true, true, true, true, false, false, false]) rfl (by kernel_rfl) (by rfl) (fun KK hKK => ?_)
    go_simp
    (first | (have hx7 := ItS.aI1 w5 x; have hm7 := hc5.alloc (.cells #[.int .i64 x.id, .int .i64 x.lx, .int .i64 x.ly, .int .i64 x.hx, .int .i64 x.hy, .bool x.still] 30); replace hr5 := World.ownsRow.alloc hr5 (.cells #[.int .i64 x.id, .int .i64 x.lx, .int .i64 x.ly, .int .i64 x.hx, .int .i64 x.hy, .bool x.still] 30)) | (have hx7 := Rd.keep (ItS.aI1 w2 x) ((Chg.refl [] _).drew) (by simp); have hm7 := ((Chg.refl [] w2).alloc (.cells #[.int .i64 x.id, .int .i64 x.lx, .int .i64 x.ly, .int .i64 x.hx, .int .i64 x.hy, .bool x.still] 30)).drew))
    refine hKK.out _ _ (by assumption) (fun hHeld => ?_)
    clear hKK KK
    try simp only [Act.put, List.setIfInBounds_toArray, List.set_cons_zero, List.set_cons_succ]
    refine anyH_run (i := 8) (L' := #[true, true, true, true, true, true, true, true, true, false, false]) rfl (by kernel_rfl) (by rfl) (fun KK hKK => ?_)
    (refine wp_appT rowItem _ _ rfl w2.heap.size _ _ _ rfl hr5 _ 1 _ rfl hx7 (cI_one x) (by omega) (by omega) hHeld.size ?_; intro ao8 c8 w8 hr8 hg8 _; have hc8 : Chg [] w2 w8 := hHeld.ownGrow hr5 hg8 (Nat.le_refl _))
    refine hKK.out _ _ (by assumption) (fun hHeld => ?_)
    clear hKK KK
    try simp only [Act.put, List.setIfInBounds_toArray, List.set_cons_zero, List.set_cons_succ]
    refine anyH_run (i := 9) (L' := #[true, true, true, true, true, true, true, true, true, true, false]) rfl (by kernel_rfl) (by rfl) (fun KK hKK => ?_)
    go_simp
    (refine (more_tame _ m x hlen hr8).mono ?_; rintro e w9 ⟨ao9, c9, rfl, hr9, hc9'⟩; have hc9 := hc8.k hc9'; clear hc9'; (try go_simp))
    refine hKK.out _ _ (by assumption) (fun hHeld => ?_)
    clear hKK KK
    try simp only [Act.put, List.setIfInBounds_toArray, List.set_cons_zero, List.set_cons_succ]
    refine anyH_run (i := 10) (L' := #[true, true, true, true, true, true, true, true, true, true, true]) rfl (by kernel_rfl) (by rfl) (fun KK hKK => ?_)
    go_simp
    (skip)
    refine hKK.out _ _ (by assumption) (fun hHeld => ?_)
    clear hKK KK
    try simp only [Act.put, List.setIfInBounds_toArray, List.set_cons_zero, List.set_cons_succ]
    refine wpAnyH_done (by kernel_rfl) ?_ _
    have HC9 := hd hc9; have HR9 := hd hr9; clear hHeld hr9 hc9 hr8 hc8 hg8 hr5 hx7 hm7 hc5 hg5 HQ HV1 HCUT
  case' rb0 =>
    go_simp
    (first | (have hx7 := ItS.aI1 w5 x; have hm7 := hc5.alloc (.cells #[.int .i64 x.id, .int .i64 x.lx, .int .i64 x.ly, .int .i64 x.hx, .int .i64 x.hy, .bool x.still] 30); replace hr5 := World.ownsRow.alloc hr5 (.cells #[.int .i64 x.id, .int .i64 x.lx, .int .i64 x.ly, .int .i64 x.hx, .int .i64 x.hy, .bool x.still] 30)) | (have hx7 := Rd.keep (ItS.aI1 w2 x) ((Chg.refl [] _).drew) (by simp); have hm7 := ((Chg.refl [] w2).alloc (.cells #[.int .i64 x.id, .int .i64 x.lx, .int .i64 x.ly, .int .i64 x.hx, .int .i64 x.hy, .bool x.still] 30)).drew))
    refine hKK.out _ _ (by assumption) (fun hHeld => ?_)
    clear hKK KK
    try simp only [Act.put, List.setIfInBounds_toArray, List.set_cons_zero, List.set_cons_succ]
    refine anyH_run (i := 5) (L' := #[true, true, true, true, true, true, true, true, false, false, false]) rfl (by kernel_rfl) (by rfl) (fun KK hKK => ?_)
    (refine wp_appN rowItem _ rfl _ m.length _ rfl (Rd.keep HV1.out hHeld (by simp)) (flat_one cI cI_one _) (by omega) (by omega) ?_; intro ao5 c5 w5 hr5' hg5; have hr5 := ownsRow_mono hr5' (show w2.heap.size ≤ _ from hHeld.size); clear hr5'; have hc5 : Chg [] w2 w5 := hHeld.grown hg5 (by simp); (try replace hx7 := Rd.keep hx7 ((Chg.refl [] _).grown hg5 (by simp)) (by simp)))
    refine hKK.out _ _ (by assumption) (fun hHeld => ?_)
    clear hKK KK
    try simp only [Act.put, List.setIfInBounds_toArray, List.set_cons_zero, List.set_cons_succ]
    refine anyH_run (i := 8) (L' := #[true, true, true, true, true, true, true, true, true, false, false]) rfl (by kernel_rfl) (by rfl) (fun KK hKK => ?_)
    (refine wp_appT rowItem _ _ rfl w2.heap.size _ _ _ rfl hr5 _ 1 _ rfl hx7 (cI_one x) (by omega) (by omega) hHeld.size ?_; intro ao8 c8 w8 hr8 hg8 _; have hc8 : Chg [] w2 w8 := hHeld.ownGrow hr5 hg8 (Nat.le_refl _))
    refine hKK.out _ _ (by assumption) (fun hHeld => ?_)
    clear hKK KK
    try simp only [Act.put, List.setIfInBounds_toArray, List.set_cons_zero, List.set_cons_succ]
    refine anyH_run (i := 9) (L' := #[true, true, true, true, true, true, true, true, true, true, false]) rfl (by kernel_rfl) (by rfl) (fun KK hKK => ?_)
    go_simp
    (refine (more_tame _ m x hlen hr8).mono ?_; rintro e w9 ⟨ao9, c9, rfl, hr9, hc9'⟩; have hc9 := hc8.k hc9'; clear hc9'; (try go_simp))
    refine hKK.out _ _ (by assumption) (fun hHeld => ?_)
    clear hKK KK
    try simp only [Act.put, List.setIfInBounds_toArray, List.set_cons_zero, List.set_cons_succ]
    refine anyH_run (i := 10) (L' := #[true, true, true, true, true, true, true, true, true, true, true]) rfl (by kernel_rfl) (by rfl) (fun KK hKK => ?_)
    go_simp
    (skip)
    refine hKK.out _ _ (by assumption) (fun hHeld => ?_)
    clear hKK KK
    try simp only [Act.put, List.setIfInBounds_toArray, List.set_cons_zero, List.set_cons_succ]
    refine wpAnyH_done (by kernel_rfl) ?_ _
    have HC9 := hd hc9; have HR9 := hd hr9; clear hHeld hr9 hc9 hr8 hc8 hg8 hr5 hx7 hm7 hc5 hg5 HQ HV1 HCUT
  · have HCW := hd (HC2.out.k HC9.out)
    have hIL : (tameL m).length = m.length := tameL_len m
    have hsame := more_filter (l := tameL m) (x := tameI m.length x) (fun y hy => tameL_ids (by omega) hy)
    have hst := HR9.out.s
    obtain ⟨g, rfl⟩ := HR9.out.addr' (by rw [List.length_append]; simp)
    have hcell := (hst.at m.length (by rw [List.length_append, hIL]; simp)).1
    rw [List.getElem_append_right (by omega)] at hcell
    simp only [hIL, Nat.sub_self, List.getElem_cons_zero, Nat.zero_add] at hcell
    obtain ⟨ao3, c3, hcut, hv3, -⟩ := run_cutIt (l := tameL m ++ [tameI m.length x]) hst (lo := none) (hi := some (.int .i64 (m.length : Int))) (p := 0) (q := m.length) (.inl ⟨rfl, rfl⟩) (.inr ⟨_, rfl⟩) (Nat.zero_le _) (by rw [List.length_append, hIL]; simp)
    rw [Nat.sub_zero] at hcut hv3
    rw [show ((tameL m ++ [tameI m.length x]).drop 0).take m.length = tameL m by rw [List.drop_zero, List.take_append_of_le_length (by omega), List.take_of_length_le (by omega)]] at hv3
    have hp1 := fun W (hc : Chg [] w9 W) => Pairs_any W (.slice ao3 m.length c3) (tameL m) (hv3.k hc) (by omega)
    have hp2 := fun W (hc : Chg [] w9 W) => Pairs_any W _ (tameL m ++ [tameI m.length x]) (hst.k hc) (by rw [List.length_append, hIL]; simp; omega)
    have hl1 := pairsS_len (tameL m ++ [tameI m.length x])
    rw [List.length_append, hIL] at hl1
    have hl2 : (m.length + 1) * (m.length + 1) ≤ 21 * 21 := Nat.mul_le_mul (by omega) (by omega)
    simp only [List.length_cons, List.length_nil, Nat.zero_add] at hl1
    unfold PairsOut at hp1 hp2
    rw [← hsame] at hp1
    generalize pairsS (tameL m ++ [tameI m.length x]) = P at *
    generalize (tameI m.length x).id = last at *
    have HC3 := hd hcut
    have hcut' := hcut
    clear hsame HR9 hIL hst hv3 hcut
    have hP : P.length ≤ 441 := by omega
    clear hl1 hl2
    go_upto_region 7 with (first
      | (go_at_call 8; (with_reducible refine (hp1 _ (Chg.refl _ _)).mono ?_); rintro e w6 ⟨ao6, c6, rfl, hp6, hc6⟩)
      | (go_at_call 8; (with_reducible refine (hp2 _ hc6).mono ?_); rintro e w7 ⟨ao7, c7, rfl, hp7, hc7⟩))
    have HP6 := hd (hp6.k hc7)
    have HP7 := hd hp7
    have HC7 := hd (hc6.k hc7)
    clear hp6 hp7 hc6 hc7 hp1 hp2 hcut' HC3 hcell
    have hfl : (P.filter (freeP last)).length ≤ P.length := List.length_filter_le _ _
    obtain ⟨F, hF⟩ : ∃ F, P.filter (freeP last) = F := ⟨_, rfl⟩
    rw [hF] at HP6 hfl ⊢
    have HF := hd hF
    clear hF
    go_wp2_with fail
    go_loopw [10, 41] (fun k i wr => ∃ j : Nat, i = .int .i64 (j : Int) ∧ j ≤ P.length ∧ k = .int .i64 ((((P.take j).filter (freeP last)).length : Nat) : Int) ∧ Hd (Chg [] w7 wr)) (fun _ i _ => P.length - (intOf i).toNat)
    case atStart => exact ⟨0, rfl, Nat.zero_le _, rfl, hd (Chg.refl _ _)⟩
    case round =>
      obtain ⟨j, rfl, hj, rfl, hc⟩ := hrel
      by_cases hjl : j < P.length
      · have hnx := filter_next (freeP last) P j hjl
        have hat := filter_at (freeP last) P j hjl
        have hkl : ((P.take j).filter (freeP last)).length ≤ 441 := by have h1 := List.length_filter_le (freeP last) (P.take j); rw [List.length_take] at h1; omega
        have h7 := HP7.out.k hc.out
        obtain ⟨g7, rfl⟩ := h7.addr (by omega)
        obtain ⟨p2, p3⟩ := h7.at j hjl
        rw [HF.out] at hat
        generalize P[j] = p at *
        generalize ((P.take j).filter (freeP last)).length = k at *
        obtain ⟨b, hb⟩ : ∃ b, freeP last p = b := ⟨_, rfl⟩
        rw [hb] at hnx hat
        have HB := hd hb
        have HNX := hd hnx
        have HAT := hd hat
        clear hb hnx hat h7
        cases b
        · have hor : p.1 = last ∨ p.2 = last := by
            have := HB.out
            unfold freeP at this
            simp only [Bool.not_eq_false', Bool.or_eq_true, beq_iff_eq] at this
            exact this
          have HH : Hd (((P.take (j + 1)).filter (freeP last)).length = k) := hd (by rw [HNX.out]; rfl)
          have HC := hd (hc.out.alloc (.cells #[.int .i64 p.1, .int .i64 p.2] 33))
          rcases hor with h1 | h1
          · have hq1 : (p.1 == last) = true := by simpa using h1
            clear h1
            go_wp2_with fail
            go_roundw
            case rel => exact ⟨j + 1, by go_num, by omega, by rw [HH.out], HC⟩
            case measure => simp [intOf]; omega
          · have hq2 : (p.2 == last) = true := by simpa using h1
            clear h1
            by_cases h1 : p.1 = last
            · have hq1 : (p.1 == last) = true := by simpa using h1
              clear h1
              go_wp2_with fail
              go_roundw
              case rel => exact ⟨j + 1, by go_num, by omega, by rw [HH.out], HC⟩
              case measure => simp [intOf]; omega
            · have hq1 : (p.1 == last) = false := by simpa using h1
              clear h1
              go_wp2_with fail
              go_roundw
              case rel => exact ⟨j + 1, by go_num, by omega, by rw [HH.out], HC⟩
              case measure => simp [intOf]; omega
        · have hand : p.1 ≠ last ∧ p.2 ≠ last := by have := HB.out; unfold freeP at this; simpa using this
          obtain ⟨hkF, hget⟩ := HAT.out rfl
          have HH : Hd (((P.take (j + 1)).filter (freeP last)).length = k + 1) := hd (by rw [HNX.out]; rfl)
          have hq1 : (p.1 == last) = false := by simpa using hand.1
          have hq2 : (p.2 == last) = false := by simpa using hand.2
          have h6 := HP6.out.k hc.out
          obtain ⟨g6, rfl⟩ := h6.addr (by omega)
          obtain ⟨p0, p1⟩ := h6.at k hkF
          rw [hget] at p0 p1
          have hge : decide (F.length ≤ k) = false := by rw [decide_eq_false_iff_not]; omega
          have hge2 : ¬ F.length ≤ k := by omega
          clear hand hget h6
          have Q0 := hd p0
          have Q1 := hd p1
          clear p0 p1
          go_upto_region 12 with (fail)
          have kx := Blk.new wr #[.int .i64 p.1, .int .i64 p.2] 33
          have hcb := (Chg.refl [] wr).alloc (.cells #[.int .i64 p.1, .int .i64 p.2] 33)
          generalize wr.alloc (.cells #[.int .i64 p.1, .int .i64 p.2] 33) = w8' at *
          generalize wr.heap.size = xb at *
          have HQ : Hd (∀ wx, Chg [] w8' wx → wx.cell? ⟨xb, 0, none⟩ = some (.int .i64 p.1) ∧ wx.cell? ⟨xb, 1, none⟩ = some (.int .i64 p.2) ∧ wx.cell? ⟨g6, k * 2, none⟩ = some (.int .i64 p.1) ∧ wx.cell? ⟨g6, k * 2 + 1, none⟩ = some (.int .i64 p.2)) :=
            hd fun wx hx => ⟨hx.cellS (kx.cell 0), hx.cellS (kx.cell 1), (hcb.k hx).cellS Q0.out, (hcb.k hx).cellS Q1.out⟩
          have HC := hd (hc.out.k hcb)
          clear kx hcb p2 p3 Q0 Q1
          refine anyH_start (n := 12) (L := #[false, false, false, false, false, false, false, false, false, false, false, false]) (by kernel_rfl) (by kernel_rfl) (S := (fun wx => Chg [] w8' wx)) ((Chg.refl _ _).drew) (fun hHeld => ?_)
          refine anyH_take (i := 0) (d := 55) (L' := #[true, false, false, false, false, false, false, false, false, false, false, false]) (v := ?v20) rfl rfl (by kernel_rfl) (fun _ _ _ h => h) (by rfl) ?hy20 (by assumption) ?rest20
          case hy20 => (intro wx hSw; (try dsimp only at hSw); (obtain ⟨t0, t1, t2, t3⟩ := HQ.out _ hSw); go_simp; (try with_reducible rfl))
          simp only [Act.put, List.setIfInBounds_toArray, List.set_cons_zero, List.set_cons_succ]
          refine anyH_take (i := 1) (d := 56) (L' := #[true, true, false, false, false, false, false, false, false, false, false, false]) (v := ?v21) rfl rfl (by kernel_rfl) (fun _ _ _ h => h) (by rfl) ?hy21 (by assumption) ?rest21
          case hy21 => (intro wx hSw; (try dsimp only at hSw); (obtain ⟨t0, t1, t2, t3⟩ := HQ.out _ hSw); go_simp; (try with_reducible rfl))
          simp only [Act.put, List.setIfInBounds_toArray, List.set_cons_zero, List.set_cons_succ]
          refine anyH_take (i := 2) (d := 57) (L' := #[true, true, true, false, false, false, false, false, false, false, false, false]) (v := ?v22) rfl rfl (by kernel_rfl) (fun _ _ _ h => h) (by rfl) ?hy22 (by assumption) ?rest22
          case hy22 => (intro wx hSw; (try dsimp only at hSw); (obtain ⟨t0, t1, t2, t3⟩ := HQ.out _ hSw); go_simp; (try with_reducible rfl))
          simp only [Act.put, List.setIfInBounds_toArray, List.set_cons_zero, List.set_cons_succ]
          refine anyH_take (i := 3) (d := 58) (L' := #[true, true, true, true, false, false, false, false, false, false, false, false]) (v := ?v23) rfl rfl (by kernel_rfl) (fun _ _ _ h => h) (by rfl) ?hy23 (by assumption) ?rest23
          case hy23 => (intro wx hSw; (try dsimp only at hSw); (obtain ⟨t0, t1, t2, t3⟩ := HQ.out _ hSw); go_simp; (try with_reducible rfl))
          simp only [Act.put, List.setIfInBounds_toArray, List.set_cons_zero, List.set_cons_succ]
          refine anyH_take (i := 4) (d := 59) (L' := #[true, true, true, true, true, false, false, false, false, false, false, false]) (v := ?v24) rfl rfl (by kernel_rfl) (fun _ _ _ h => h) (by rfl) ?hy24 (by assumption) ?rest24
          case hy24 => (intro wx hSw; (try dsimp only at hSw); (obtain ⟨t0, t1, t2, t3⟩ := HQ.out _ hSw); go_simp; (try with_reducible rfl))
          simp only [Act.put, List.setIfInBounds_toArray, List.set_cons_zero, List.set_cons_succ]
          refine anyH_take (i := 5) (d := 60) (L' := #[true, true, true, true, true, true, false, false, false, false, false, false]) (v := ?v25) rfl rfl (by kernel_rfl) (fun _ _ _ h => h) (by rfl) ?hy25 (by assumption) ?rest25
          case hy25 => (intro wx hSw; (try dsimp only at hSw); (obtain ⟨t0, t1, t2, t3⟩ := HQ.out _ hSw); go_simp; (try with_reducible rfl))
          simp only [Act.put, List.setIfInBounds_toArray, List.set_cons_zero, List.set_cons_succ]
          refine anyH_take (i := 6) (d := 61) (L' := #[true, true, true, true, true, true, true, false, false, false, false, false]) (v := ?v26) rfl rfl (by kernel_rfl) (fun _ _ _ h => h) (by rfl) ?hy26 (by assumption) ?rest26
          case hy26 => (intro wx hSw; (try dsimp only at hSw); (obtain ⟨t0, t1, t2, t3⟩ := HQ.out _ hSw); go_simp; (try with_reducible rfl))
          simp only [Act.put, List.setIfInBounds_toArray, List.set_cons_zero, List.set_cons_succ]
          refine anyH_take (i := 7) (d := 62) (L' := #[true, true, true, true, true, true, true, true, false, false, false, false]) (v := ?v27) rfl rfl (by kernel_rfl) (fun _ _ _ h => h) (by rfl) ?hy27 (by assumption) ?rest27
          case hy27 => (intro wx hSw; (try dsimp only at hSw); (obtain ⟨t0, t1, t2, t3⟩ := HQ.out _ hSw); go_simp; (try with_reducible rfl))
          simp only [Act.put, List.setIfInBounds_toArray, List.set_cons_zero, List.set_cons_succ]
          refine anyH_take (i := 8) (d := 63) (L' := #[true, true, true, true, true, true, true, true, true, false, false, false]) (v := ?v28) rfl rfl (by kernel_rfl) (fun _ _ _ h => h) (by rfl) ?hy28 (by assumption) ?rest28
          case hy28 => (intro wx hSw; (try dsimp only at hSw); (obtain ⟨t0, t1, t2, t3⟩ := HQ.out _ hSw); go_simp; (try with_reducible rfl))
          simp only [Act.put, List.setIfInBounds_toArray, List.set_cons_zero, List.set_cons_succ]
          refine anyH_take (i := 9) (d := 64) (L' := #[true, true, true, true, true, true, true, true, true, true, false, false]) (v := ?v29) rfl rfl (by kernel_rfl) (fun _ _ _ h => h) (by rfl) ?hy29 (by assumption) ?rest29
          case hy29 => (intro wx hSw; (try dsimp only at hSw); (obtain ⟨t0, t1, t2, t3⟩ := HQ.out _ hSw); go_simp; (try with_reducible rfl))
          simp only [Act.put, List.setIfInBounds_toArray, List.set_cons_zero, List.set_cons_succ]
          refine anyH_take (i := 10) (d := 65) (L' := #[true, true, true, true, true, true, true, true, true, true, true, false]) (v := ?v30) rfl rfl (by kernel_rfl) (fun _ _ _ h => h) (by rfl) ?hy30 (by assumption) ?rest30
          case hy30 => (intro wx hSw; (try dsimp only at hSw); (obtain ⟨t0, t1, t2, t3⟩ := HQ.out _ hSw); go_simp; (try with_reducible rfl))
          simp only [Act.put, List.setIfInBounds_toArray, List.set_cons_zero, List.set_cons_succ]
          refine anyH_take (i := 11) (d := 66) (L' := #[true, true, true, true, true, true, true, true, true, true, true, true]) (v := ?v31) rfl rfl (by kernel_rfl) (fun _ _ _ h => h) (by rfl) ?hy31 (by assumption) ?rest31
          case hy31 => (intro wx hSw; (try dsimp only at hSw); (obtain ⟨t0, t1, t2, t3⟩ := HQ.out _ hSw); go_simp; (try with_reducible rfl))
          simp only [Act.put, List.setIfInBounds_toArray, List.set_cons_zero, List.set_cons_succ]
          refine wpAnyH_done (by kernel_rfl) ?_ _
          skip
          go_wp2_with fail
          go_roundw
          case rel => exact ⟨j + 1, by go_num, by omega, by rw [HH.out]; go_num, hd HC.out.drew⟩
          case measure => simp [intOf]; omega
      · obtain rfl : j = P.length := by omega
        rw [List.take_length, HF.out]
        go_wp2_with fail
        go_ret
        exact ⟨rfl, HCW.out.k (HC7.out.k hc.out)⟩
  · have HCW := hd (HC2.out.k HC9.out)
    have hIL : (tameL m).length = m.length := tameL_len m
    have hsame := more_filter (l := tameL m) (x := tameI m.length x) (fun y hy => tameL_ids (by omega) hy)
    have hst := HR9.out.s
    obtain ⟨g, rfl⟩ := HR9.out.addr' (by rw [List.length_append]; simp)
    have hcell := (hst.at m.length (by rw [List.length_append, hIL]; simp)).1
    rw [List.getElem_append_right (by omega)] at hcell
    simp only [hIL, Nat.sub_self, List.getElem_cons_zero, Nat.zero_add] at hcell
    obtain ⟨ao3, c3, hcut, hv3, -⟩ := run_cutIt (l := tameL m ++ [tameI m.length x]) hst (lo := none) (hi := some (.int .i64 (m.length : Int))) (p := 0) (q := m.length) (.inl ⟨rfl, rfl⟩) (.inr ⟨_, rfl⟩) (Nat.zero_le _) (by rw [List.length_append, hIL]; simp)
    rw [Nat.sub_zero] at hcut hv3
    rw [show ((tameL m ++ [tameI m.length x]).drop 0).take m.length = tameL m by rw [List.drop_zero, List.take_append_of_le_length (by omega), List.take_of_length_le (by omega)]] at hv3
    have hp1 := fun W (hc : Chg [] w9 W) => Pairs_any W (.slice ao3 m.length c3) (tameL m) (hv3.k hc) (by omega)
    have hp2 := fun W (hc : Chg [] w9 W) => Pairs_any W _ (tameL m ++ [tameI m.length x]) (hst.k hc) (by rw [List.length_append, hIL]; simp; omega)
    have hl1 := pairsS_len (tameL m ++ [tameI m.length x])
    rw [List.length_append, hIL] at hl1
    have hl2 : (m.length + 1) * (m.length + 1) ≤ 21 * 21 := Nat.mul_le_mul (by omega) (by omega)
    simp only [List.length_cons, List.length_nil, Nat.zero_add] at hl1
    unfold PairsOut at hp1 hp2
    rw [← hsame] at hp1
    generalize pairsS (tameL m ++ [tameI m.length x]) = P at *
    generalize (tameI m.length x).id = last at *
    have HC3 := hd hcut
    have hcut' := hcut
    clear hsame HR9 hIL hst hv3 hcut
    have hP : P.length ≤ 441 := by omega
    clear hl1 hl2
    go_upto_region 7 with (first
      | (go_at_call 8; (with_reducible refine (hp1 _ (Chg.refl _ _)).mono ?_); rintro e w6 ⟨ao6, c6, rfl, hp6, hc6⟩)
      | (go_at_call 8; (with_reducible refine (hp2 _ hc6).mono ?_); rintro e w7 ⟨ao7, c7, rfl, hp7, hc7⟩))
    have HP6 := hd (hp6.k hc7)
    have HP7 := hd hp7
    have HC7 := hd (hc6.k hc7)
    clear hp6 hp7 hc6 hc7 hp1 hp2 hcut' HC3 hcell
    have hfl : (P.filter (freeP last)).length ≤ P.length := List.length_filter_le _ _
    obtain ⟨F, hF⟩ : ∃ F, P.filter (freeP last) = F := ⟨_, rfl⟩
    rw [hF] at HP6 hfl ⊢
    have HF := hd hF
    clear hF
    go_wp2_with fail
    go_loopw [10, 41] (fun k i wr => ∃ j : Nat, i = .int .i64 (j : Int) ∧ j ≤ P.length ∧ k = .int .i64 ((((P.take j).filter (freeP last)).length : Nat) : Int) ∧ Hd (Chg [] w7 wr)) (fun _ i _ => P.length - (intOf i).toNat)
    case atStart => exact ⟨0, rfl, Nat.zero_le _, rfl, hd (Chg.refl _ _)⟩
    case round =>
      obtain ⟨j, rfl, hj, rfl, hc⟩ := hrel
      by_cases hjl : j < P.length
      · have hnx := filter_next (freeP last) P j hjl
        have hat := filter_at (freeP last) P j hjl
        have hkl : ((P.take j).filter (freeP last)).length ≤ 441 := by have h1 := List.length_filter_le (freeP last) (P.take j); rw [List.length_take] at h1; omega
        have h7 := HP7.out.k hc.out
        obtain ⟨g7, rfl⟩ := h7.addr (by omega)
        obtain ⟨p2, p3⟩ := h7.at j hjl
        rw [HF.out] at hat
        generalize P[j] = p at *
        generalize ((P.take j).filter (freeP last)).length = k at *
        obtain ⟨b, hb⟩ : ∃ b, freeP last p = b := ⟨_, rfl⟩
        rw [hb] at hnx hat
        have HB := hd hb
        have HNX := hd hnx
        have HAT := hd hat
        clear hb hnx hat h7
        cases b
        · have hor : p.1 = last ∨ p.2 = last := by
            have := HB.out
            unfold freeP at this
            simp only [Bool.not_eq_false', Bool.or_eq_true, beq_iff_eq] at this
            exact this
          have HH : Hd (((P.take (j + 1)).filter (freeP last)).length = k) := hd (by rw [HNX.out]; rfl)
          have HC := hd (hc.out.alloc (.cells #[.int .i64 p.1, .int .i64 p.2] 33))
          rcases hor with h1 | h1
          · have hq1 : (p.1 == last) = true := by simpa using h1
            clear h1
            go_wp2_with fail
            go_roundw
            case rel => exact ⟨j + 1, by go_num, by omega, by rw [HH.out], HC⟩
            case measure => simp [intOf]; omega
          · have hq2 : (p.2 == last) = true := by simpa using h1
            clear h1
            by_cases h1 : p.1 = last
            · have hq1 : (p.1 == last) = true := by simpa using h1
              clear h1
              go_wp2_with fail
              go_roundw
              case rel => exact ⟨j + 1, by go_num, by omega, by rw [HH.out], HC⟩
              case measure => simp [intOf]; omega
            · have hq1 : (p.1 == last) = false := by simpa using h1
              clear h1
              go_wp2_with fail
              go_roundw
              case rel => exact ⟨j + 1, by go_num, by omega, by rw [HH.out], HC⟩
              case measure => simp [intOf]; omega
        · have hand : p.1 ≠ last ∧ p.2 ≠ last := by have := HB.out; unfold freeP at this; simpa using this
          obtain ⟨hkF, hget⟩ := HAT.out rfl
          have HH : Hd (((P.take (j + 1)).filter (freeP last)).length = k + 1) := hd (by rw [HNX.out]; rfl)
          have hq1 : (p.1 == last) = false := by simpa using hand.1
          have hq2 : (p.2 == last) = false := by simpa using hand.2
          have h6 := HP6.out.k hc.out
          obtain ⟨g6, rfl⟩ := h6.addr (by omega)
          obtain ⟨p0, p1⟩ := h6.at k hkF
          rw [hget] at p0 p1
          have hge : decide (F.length ≤ k) = false := by rw [decide_eq_false_iff_not]; omega
          have hge2 : ¬ F.length ≤ k := by omega
          clear hand hget h6
          have Q0 := hd p0
          have Q1 := hd p1
          clear p0 p1
          go_upto_region 12 with (fail)
          have kx := Blk.new wr #[.int .i64 p.1, .int .i64 p.2] 33
          have hcb := (Chg.refl [] wr).alloc (.cells #[.int .i64 p.1, .int .i64 p.2] 33)
          generalize wr.alloc (.cells #[.int .i64 p.1, .int .i64 p.2] 33) = w8' at *
          generalize wr.heap.size = xb at *
          have HQ : Hd (∀ wx, Chg [] w8' wx → wx.cell? ⟨xb, 0, none⟩ = some (.int .i64 p.1) ∧ wx.cell? ⟨xb, 1, none⟩ = some (.int .i64 p.2) ∧ wx.cell? ⟨g6, k * 2, none⟩ = some (.int .i64 p.1) ∧ wx.cell? ⟨g6, k * 2 + 1, none⟩ = some (.int .i64 p.2)) :=
            hd fun wx hx => ⟨hx.cellS (kx.cell 0), hx.cellS (kx.cell 1), (hcb.k hx).cellS Q0.out, (hcb.k hx).cellS Q1.out⟩
          have HC := hd (hc.out.k hcb)
          clear kx hcb p2 p3 Q0 Q1
          refine anyH_start (n := 12) (L := #[false, false, false, false, false, false, false, false, false, false, false, false]) (by kernel_rfl) (by kernel_rfl) (S := (fun wx => Chg [] w8' wx)) ((Chg.refl _ _).drew) (fun hHeld => ?_)
          refine anyH_take (i := 0) (d := 55) (L' := #[true, false, false, false, false, false, false, false, false, false, false, false]) (v := ?v34) rfl rfl (by kernel_rfl) (fun _ _ _ h => h) (by rfl) ?hy34 (by assumption) ?rest34
          case hy34 => (intro wx hSw; (try dsimp only at hSw); (obtain ⟨t0, t1, t2, t3⟩ := HQ.out _ hSw); go_simp; (try with_reducible rfl))
          simp only [Act.put, List.setIfInBounds_toArray, List.set_cons_zero, List.set_cons_succ]
          refine anyH_take (i := 1) (d := 56) (L' := #[true, true, false, false, false, false, false, false, false, false, false, false]) (v := ?v35) rfl rfl (by kernel_rfl) (fun _ _ _ h => h) (by rfl) ?hy35 (by assumption) ?rest35
          case hy35 => (intro wx hSw; (try dsimp only at hSw); (obtain ⟨t0, t1, t2, t3⟩ := HQ.out _ hSw); go_simp; (try with_reducible rfl))
          simp only [Act.put, List.setIfInBounds_toArray, List.set_cons_zero, List.set_cons_succ]
          refine anyH_take (i := 2) (d := 57) (L' := #[true, true, true, false, false, false, false, false, false, false, false, false]) (v := ?v36) rfl rfl (by kernel_rfl) (fun _ _ _ h => h) (by rfl) ?hy36 (by assumption) ?rest36
          case hy36 => (intro wx hSw; (try dsimp only at hSw); (obtain ⟨t0, t1, t2, t3⟩ := HQ.out _ hSw); go_simp; (try with_reducible rfl))
          simp only [Act.put, List.setIfInBounds_toArray, List.set_cons_zero, List.set_cons_succ]
          refine anyH_take (i := 3) (d := 58) (L' := #[true, true, true, true, false, false, false, false, false, false, false, false]) (v := ?v37) rfl rfl (by kernel_rfl) (fun _ _ _ h => h) (by rfl) ?hy37 (by assumption) ?rest37
          case hy37 => (intro wx hSw; (try dsimp only at hSw); (obtain ⟨t0, t1, t2, t3⟩ := HQ.out _ hSw); go_simp; (try with_reducible rfl))
          simp only [Act.put, List.setIfInBounds_toArray, List.set_cons_zero, List.set_cons_succ]
          refine anyH_take (i := 4) (d := 59) (L' := #[true, true, true, true, true, false, false, false, false, false, false, false]) (v := ?v38) rfl rfl (by kernel_rfl) (fun _ _ _ h => h) (by rfl) ?hy38 (by assumption) ?rest38
          case hy38 => (intro wx hSw; (try dsimp only at hSw); (obtain ⟨t0, t1, t2, t3⟩ := HQ.out _ hSw); go_simp; (try with_reducible rfl))
          simp only [Act.put, List.setIfInBounds_toArray, List.set_cons_zero, List.set_cons_succ]
          refine anyH_take (i := 5) (d := 60) (L' := #[true, true, true, true, true, true, false, false, false, false, false, false]) (v := ?v39) rfl rfl (by kernel_rfl) (fun _ _ _ h => h) (by rfl) ?hy39 (by assumption) ?rest39
          case hy39 => (intro wx hSw; (try dsimp only at hSw); (obtain ⟨t0, t1, t2, t3⟩ := HQ.out _ hSw); go_simp; (try with_reducible rfl))
          simp only [Act.put, List.setIfInBounds_toArray, List.set_cons_zero, List.set_cons_succ]
          refine anyH_take (i := 6) (d := 61) (L' := #[true, true, true, true, true, true, true, false, false, false, false, false]) (v := ?v40) rfl rfl (by kernel_rfl) (fun _ _ _ h => h) (by rfl) ?hy40 (by assumption) ?rest40
          case hy40 => (intro wx hSw; (try dsimp only at hSw); (obtain ⟨t0, t1, t2, t3⟩ := HQ.out _ hSw); go_simp; (try with_reducible rfl))
          simp only [Act.put, List.setIfInBounds_toArray, List.set_cons_zero, List.set_cons_succ]
          refine anyH_take (i := 7) (d := 62) (L' := #[true, true, true, true, true, true, true, true, false, false, false, false]) (v := ?v41) rfl rfl (by kernel_rfl) (fun _ _ _ h => h) (by rfl) ?hy41 (by assumption) ?rest41
          case hy41 => (intro wx hSw; (try dsimp only at hSw); (obtain ⟨t0, t1, t2, t3⟩ := HQ.out _ hSw); go_simp; (try with_reducible rfl))
          simp only [Act.put, List.setIfInBounds_toArray, List.set_cons_zero, List.set_cons_succ]
          refine anyH_take (i := 8) (d := 63) (L' := #[true, true, true, true, true, true, true, true, true, false, false, false]) (v := ?v42) rfl rfl (by kernel_rfl) (fun _ _ _ h => h) (by rfl) ?hy42 (by assumption) ?rest42
          case hy42 => (intro wx hSw; (try dsimp only at hSw); (obtain ⟨t0, t1, t2, t3⟩ := HQ.out _ hSw); go_simp; (try with_reducible rfl))
          simp only [Act.put, List.setIfInBounds_toArray, List.set_cons_zero, List.set_cons_succ]
          refine anyH_take (i := 9) (d := 64) (L' := #[true, true, true, true, true, true, true, true, true, true, false, false]) (v := ?v43) rfl rfl (by kernel_rfl) (fun _ _ _ h => h) (by rfl) ?hy43 (by assumption) ?rest43
          case hy43 => (intro wx hSw; (try dsimp only at hSw); (obtain ⟨t0, t1, t2, t3⟩ := HQ.out _ hSw); go_simp; (try with_reducible rfl))
          simp only [Act.put, List.setIfInBounds_toArray, List.set_cons_zero, List.set_cons_succ]
          refine anyH_take (i := 10) (d := 65) (L' := #[true, true, true, true, true, true, true, true, true, true, true, false]) (v := ?v44) rfl rfl (by kernel_rfl) (fun _ _ _ h => h) (by rfl) ?hy44 (by assumption) ?rest44
          case hy44 => (intro wx hSw; (try dsimp only at hSw); (obtain ⟨t0, t1, t2, t3⟩ := HQ.out _ hSw); go_simp; (try with_reducible rfl))
          simp only [Act.put, List.setIfInBounds_toArray, List.set_cons_zero, List.set_cons_succ]
          refine anyH_take (i := 11) (d := 66) (L' := #[true, true, true, true, true, true, true, true, true, true, true, true]) (v := ?v45) rfl rfl (by kernel_rfl) (fun _ _ _ h => h) (by rfl) ?hy45 (by assumption) ?rest45
          case hy45 => (intro wx hSw; (try dsimp only at hSw); (obtain ⟨t0, t1, t2, t3⟩ := HQ.out _ hSw); go_simp; (try with_reducible rfl))
          simp only [Act.put, List.setIfInBounds_toArray, List.set_cons_zero, List.set_cons_succ]
          refine wpAnyH_done (by kernel_rfl) ?_ _
          skip
          go_wp2_with fail
          go_roundw
          case rel => exact ⟨j + 1, by go_num, by omega, by rw [HH.out]; go_num, hd HC.out.drew⟩
          case measure => simp [intOf]; omega
      · obtain rfl : j = P.length := by omega
        rw [List.take_length, HF.out]
        go_wp2_with fail
        go_ret
        exact ⟨rfl, HCW.out.k (HC7.out.k hc.out)⟩
end Go.Proofs.Ytnlkeacchogmeaa

/- sweep.Item as it is read. -/
namespace Go.Proofs.Ytnlkeacchogmeaa
open Go.RowKit Go.ChangeShapes Go.WideShapes

def EItm (_ : World) (x : Itm) (c : List Value) : Prop := c = cI x
section
variable {H : Type} {enc : TypeId × Value → H} {w : World} {base : Nat} {spare : Nat → Bool} {held : Bool}
theorem trod_v {fuel : Nat} {cs : List Value} {x : DataW H × List MemPlace} (h : DataW.trod enc Try.prog w base spare held fuel 26 cs = some x) : ∃ a b : Int, cs = [.int .i64 a, .int .i64 b] := by
  obtain ⟨y0, y1, n, -, hl, h0, h1⟩ := trod_struct2 Try.underlying26 h
  rw [show Try.prog.cellsOf 26 = 2 by kernel_rfl] at hl
  simp only [show Try.prog.cellsOf 24 = 1 by kernel_rfl] at h0 h1
  obtain ⟨a, ha, -⟩ := trod_i64 (by kernel_rfl) h0
  obtain ⟨b, hb, -⟩ := trod_i64 (by kernel_rfl) h1
  match cs, hl with
  | [c0, c1], _ =>
    simp at ha hb
    exact ⟨a, b, by rw [ha, hb]⟩
theorem trod_rect {fuel : Nat} {cs : List Value} {x : DataW H × List MemPlace} (h : DataW.trod enc Try.prog w base spare held fuel 28 cs = some x) : ∃ a b c d : Int, cs = [.int .i64 a, .int .i64 b, .int .i64 c, .int .i64 d] := by
  obtain ⟨y0, y1, n, -, hl, h0, h1⟩ := trod_struct2 Try.underlying28 h
  rw [show Try.prog.cellsOf 28 = 4 by kernel_rfl] at hl
  simp only [show Try.prog.cellsOf 26 = 2 by kernel_rfl] at h0 h1
  obtain ⟨a, b, hab⟩ := trod_v h0
  obtain ⟨c, d, hcd⟩ := trod_v h1
  match cs, hl with
  | [c0, c1, c2, c3], _ =>
    simp at hab hcd
    exact ⟨a, b, c, d, by rw [hab.1, hab.2, hcd.1, hcd.2]⟩
theorem trod_item {fuel : Nat} {cs : List Value} {x : DataW H × List MemPlace} (h : DataW.trod enc Try.prog w base spare held fuel 30 cs = some x) : ∃ y, EItm w y cs := by
  obtain ⟨y0, y1, y2, n, -, hl, h0, h1, h2⟩ := Go.Deep.trod_struct3 Try.underlying30 h
  rw [show Try.prog.cellsOf 30 = 6 by kernel_rfl] at hl
  simp only [show Try.prog.cellsOf 3 = 1 by kernel_rfl, show Try.prog.cellsOf 28 = 4 by kernel_rfl, show Try.prog.cellsOf 4 = 1 by kernel_rfl] at h0 h1 h2
  obtain ⟨i, hi, -⟩ := trod_i64 (by kernel_rfl) h0
  obtain ⟨a, b, c, d, hr⟩ := trod_rect h1
  obtain ⟨s, hs, -⟩ := DataW.trod_bool (by kernel_rfl) h2
  match cs, hl with
  | [c0, c1, c2, c3, c4, c5], _ =>
    simp at hi hr hs
    exact ⟨⟨i, a, b, c, d, s⟩, by unfold EItm cI; simp only; rw [hi, hr.1, hr.2.1, hr.2.2.1, hr.2.2.2, hs]⟩
theorem open_item08 {r : Reach} {b0 : Nat} {v : Value} {d : DataW H} {ps : List MemPlace} (hv : Value.okWide Try.prog w r b0 30 v) (h : DataW.Trod enc Try.prog w base spare held 30 v d ps) : ∃ x, v = aI x := by
  obtain ⟨cs, rfl, hsz⟩ := okWide_struct Try.underlying30 hv
  obtain ⟨fuel, hf⟩ := h
  obtain ⟨y, hc⟩ := trod_item hf
  refine ⟨y, ?_⟩
  simp only [Value.cells, EItm] at hc
  rw [← Array.toArray_toList (xs := cs), hc]
  rfl
theorem rds_items {v : Value} {l : List Itm} (h : Rds EItm 6 w v l) : ItS w v l := by
  obtain ⟨css, h1, h2, h3⟩ := h
  have : css.flatten = l.flatMap cI := by
    have hcss : css = l.map cI := by
      apply List.ext_getElem
      · simp [h1]
      · intro i a b
        simp only [List.getElem_map]
        exact (h2 i (by simpa using b) a).1
    rw [hcss, List.flatMap_def]
  unfold ItS
  rw [← this]; exact h3
theorem open_items08 {v : Value} {d : DataW H} {ps : List MemPlace} (h : DataW.Trod enc Try.prog w base spare held 23 v d ps) (hs : v.cells = #[v]) : ∃ l, ItS w v l := by
  obtain ⟨fuel, hf⟩ := h
  obtain ⟨u, l, hc, hr⟩ := trod_rds (size := 6) EItm Try.underlying23 (by kernel_rfl) (by decide) (fun n cs x hx _ => trod_item hx) hf
  rw [hs] at hc
  obtain rfl : v = u := by simpa using hc
  exact ⟨l, rds_items hr⟩
end
end Go.Proofs.Ytnlkeacchogmeaa
