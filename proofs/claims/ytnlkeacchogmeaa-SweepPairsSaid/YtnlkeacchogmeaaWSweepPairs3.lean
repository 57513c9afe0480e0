/- Words and walks that SweepPairs rests on, part 3. -/
import Derived.Test.YtnlkeacchogmeaaWSweepPairs2
import Derived.Test.YtnlkeacchogmeaaWSweepPairs1
/- box.Join, and what the sweep laws make of items: tame. -/
namespace Go.Proofs.Ytnlkeacchogmeaa
open Go.RowKit Go.Sort Go.Shelf

set_option maxHeartbeats 1000000 in
theorem Low_any (w : World) (a b c d : Int) : Calls Try.prog 29 #[.agg #[.int .i64 a, .int .i64 b], .agg #[.int .i64 c, .int .i64 d]] w fun e w' => e = .returned (.agg #[.int .i64 (min a c), .int .i64 (min b d)]) ∧ Chg [] w w' := by
  go_enter Try.func29, Try.ntmps29
  go_wp2_with fail
  refine bodyPost_ret (v := .agg #[.int .i64 (min a c), .int .i64 (min b d)]) (by simp only [results]; go_simp) rfl ⟨rfl, ?_⟩
  exact (((Chg.refl [] w).alloc _).alloc _).alloc _
set_option maxHeartbeats 1000000 in
theorem High_any (w : World) (a b c d : Int) : Calls Try.prog 30 #[.agg #[.int .i64 a, .int .i64 b], .agg #[.int .i64 c, .int .i64 d]] w fun e w' => e = .returned (.agg #[.int .i64 (max a c), .int .i64 (max b d)]) ∧ Chg [] w w' := by
  go_enter Try.func30, Try.ntmps30
  go_wp2_with fail
  refine bodyPost_ret (v := .agg #[.int .i64 (max a c), .int .i64 (max b d)]) (by simp only [results]; go_simp) rfl ⟨rfl, ?_⟩
  exact (((Chg.refl [] w).alloc _).alloc _).alloc _
set_option maxHeartbeats 4000000 in
theorem Join_any (w : World) (a b c d e f g h : Int) : Calls Try.prog 22 #[.agg #[.int .i64 a, .int .i64 b, .int .i64 c, .int .i64 d], .agg #[.int .i64 e, .int .i64 f, .int .i64 g, .int .i64 h]] w fun r w' =>
    r = .returned (.agg #[.int .i64 (min a e), .int .i64 (min b f), .int .i64 (max c g), .int .i64 (max d h)]) ∧ Chg [] w w' := by
  go_enter Try.func22, Try.ntmps22
  go_upto_region 1 with (fail)
  have hz1 : (w.alloc (.cells #[.int .i64 a, .int .i64 b, .int .i64 c, .int .i64 d] 28)).heap.size = w.heap.size + 1 := by simp
  have hz2 : ((w.alloc (.cells #[.int .i64 a, .int .i64 b, .int .i64 c, .int .i64 d] 28)).alloc (.cells #[.int .i64 e, .int .i64 f, .int .i64 g, .int .i64 h] 28)).heap.size = w.heap.size + 1 + 1 := by simp
  have k1 := ((Blk.new w #[.int .i64 a, .int .i64 b, .int .i64 c, .int .i64 d] 28).alloc (.cells #[.int .i64 e, .int .i64 f, .int .i64 g, .int .i64 h] 28)).alloc (.cells #[.int .i64 0, .int .i64 0, .int .i64 0, .int .i64 0] 28)
  have k2 := (Blk.new (w.alloc (.cells #[.int .i64 a, .int .i64 b, .int .i64 c, .int .i64 d] 28)) #[.int .i64 e, .int .i64 f, .int .i64 g, .int .i64 h] 28).alloc (.cells #[.int .i64 0, .int .i64 0, .int .i64 0, .int .i64 0] 28)
  have k3 := Blk.new ((w.alloc (.cells #[.int .i64 a, .int .i64 b, .int .i64 c, .int .i64 d] 28)).alloc (.cells #[.int .i64 e, .int .i64 f, .int .i64 g, .int .i64 h] 28)) #[.int .i64 0, .int .i64 0, .int .i64 0, .int .i64 0] 28
  have hg := (((Chg.refl [] w).alloc (.cells #[.int .i64 a, .int .i64 b, .int .i64 c, .int .i64 d] 28)).alloc (.cells #[.int .i64 e, .int .i64 f, .int .i64 g, .int .i64 h] 28)).alloc (.cells #[.int .i64 0, .int .i64 0, .int .i64 0, .int .i64 0] 28)
  rw [hz1] at k2
  rw [hz2] at k3
  generalize ((w.alloc (.cells #[.int .i64 a, .int .i64 b, .int .i64 c, .int .i64 d] 28)).alloc (.cells #[.int .i64 e, .int .i64 f, .int .i64 g, .int .i64 h] 28)).alloc (.cells #[.int .i64 0, .int .i64 0, .int .i64 0, .int .i64 0] 28) = w0 at *
  have HQ : Hd (∀ wx, Chg [w.heap.size + 1 + 1] w0 wx → wx.cell? ⟨w.heap.size, 0, none⟩ = some (.int .i64 a) ∧ wx.cell? ⟨w.heap.size, 1, none⟩ = some (.int .i64 b) ∧ wx.cell? ⟨w.heap.size, 2, none⟩ = some (.int .i64 c) ∧ wx.cell? ⟨w.heap.size, 3, none⟩ = some (.int .i64 d) ∧
      wx.cell? ⟨w.heap.size + 1, 0, none⟩ = some (.int .i64 e) ∧ wx.cell? ⟨w.heap.size + 1, 1, none⟩ = some (.int .i64 f) ∧ wx.cell? ⟨w.heap.size + 1, 2, none⟩ = some (.int .i64 g) ∧ wx.cell? ⟨w.heap.size + 1, 3, none⟩ = some (.int .i64 h)) :=
    hd fun wx hx => ⟨hx.cellT (k1.cell 0) (by simp; omega), hx.cellT (k1.cell 1) (by simp; omega), hx.cellT (k1.cell 2) (by simp; omega), hx.cellT (k1.cell 3) (by simp; omega), hx.cellT (k2.cell 0) (by simp), hx.cellT (k2.cell 1) (by simp), hx.cellT (k2.cell 2) (by simp), hx.cellT (k2.cell 3) (by simp)⟩
  have K3 := hd k3
  have HG := hd hg
  clear k1 k2 k3 hg hz1 hz2
  have hl := fun W => Low_any W a b e f
  have hh := fun W => High_any W c d g h
  refine anyH_start (n := 12) (L := #[false, false, false, false, false, false, false, false, false, false, false, false]) (by kernel_rfl) (by kernel_rfl) (S := (fun wx => Chg [w.heap.size + 1 + 1] w0 wx)) ((Chg.refl _ _).drew) (fun hHeld => ?_)
  refine anyH_take (i := 0) (d := 5) (L' := #[true, false, false, false, false, false, false, false, false, false, false, false]) (v := ?v2) rfl rfl (by kernel_rfl) (fun _ _ _ h => h) (by rfl) ?hy2 (by assumption) ?rest2
  case hy2 => (intro wx hSw; (try dsimp only at hSw); (obtain ⟨t0, t1, t2, t3, t4, t5, t6, t7⟩ := HQ.out _ hSw); go_simp; (try with_reducible rfl))
  simp only [Act.put, List.setIfInBounds_toArray, List.set_cons_zero, List.set_cons_succ]
  refine anyH_take (i := 1) (d := 6) (L' := #[true, true, false, false, false, false, false, false, false, false, false, false]) (v := ?v3) rfl rfl (by kernel_rfl) (fun _ _ _ h => h) (by rfl) ?hy3 (by assumption) ?rest3
  case hy3 => (intro wx hSw; (try dsimp only at hSw); (obtain ⟨t0, t1, t2, t3, t4, t5, t6, t7⟩ := HQ.out _ hSw); go_simp; (try with_reducible rfl))
  simp only [Act.put, List.setIfInBounds_toArray, List.set_cons_zero, List.set_cons_succ]
  refine anyH_take (i := 2) (d := 7) (L' := #[true, true, true, false, false, false, false, false, false, false, false, false]) (v := ?v4) rfl rfl (by kernel_rfl) (fun _ _ _ h => h) (by rfl) ?hy4 (by assumption) ?rest4
  case hy4 => (intro wx hSw; (try dsimp only at hSw); (obtain ⟨t0, t1, t2, t3, t4, t5, t6, t7⟩ := HQ.out _ hSw); go_simp; (try with_reducible rfl))
  simp only [Act.put, List.setIfInBounds_toArray, List.set_cons_zero, List.set_cons_succ]
  refine anyH_take (i := 3) (d := 8) (L' := #[true, true, true, true, false, false, false, false, false, false, false, false]) (v := ?v5) rfl rfl (by kernel_rfl) (fun _ _ _ h => h) (by rfl) ?hy5 (by assumption) ?rest5
  case hy5 => (intro wx hSw; (try dsimp only at hSw); (obtain ⟨t0, t1, t2, t3, t4, t5, t6, t7⟩ := HQ.out _ hSw); go_simp; (try with_reducible rfl))
  simp only [Act.put, List.setIfInBounds_toArray, List.set_cons_zero, List.set_cons_succ]
  refine anyH_take (i := 5) (d := 10) (L' := #[true, true, true, true, false, true, false, false, false, false, false, false]) (v := ?v6) rfl rfl (by kernel_rfl) (fun _ _ _ h => h) (by rfl) ?hy6 (by assumption) ?rest6
  case hy6 => (intro wx hSw; (try dsimp only at hSw); (obtain ⟨t0, t1, t2, t3, t4, t5, t6, t7⟩ := HQ.out _ hSw); go_simp; (try with_reducible rfl))
  simp only [Act.put, List.setIfInBounds_toArray, List.set_cons_zero, List.set_cons_succ]
  refine anyH_take (i := 6) (d := 11) (L' := #[true, true, true, true, false, true, true, false, false, false, false, false]) (v := ?v7) rfl rfl (by kernel_rfl) (fun _ _ _ h => h) (by rfl) ?hy7 (by assumption) ?rest7
  case hy7 => (intro wx hSw; (try dsimp only at hSw); (obtain ⟨t0, t1, t2, t3, t4, t5, t6, t7⟩ := HQ.out _ hSw); go_simp; (try with_reducible rfl))
  simp only [Act.put, List.setIfInBounds_toArray, List.set_cons_zero, List.set_cons_succ]
  refine anyH_take (i := 7) (d := 12) (L' := #[true, true, true, true, false, true, true, true, false, false, false, false]) (v := ?v8) rfl rfl (by kernel_rfl) (fun _ _ _ h => h) (by rfl) ?hy8 (by assumption) ?rest8
  case hy8 => (intro wx hSw; (try dsimp only at hSw); (obtain ⟨t0, t1, t2, t3, t4, t5, t6, t7⟩ := HQ.out _ hSw); go_simp; (try with_reducible rfl))
  simp only [Act.put, List.setIfInBounds_toArray, List.set_cons_zero, List.set_cons_succ]
  refine anyH_take (i := 8) (d := 13) (L' := #[true, true, true, true, false, true, true, true, true, false, false, false]) (v := ?v9) rfl rfl (by kernel_rfl) (fun _ _ _ h => h) (by rfl) ?hy9 (by assumption) ?rest9
  case hy9 => (intro wx hSw; (try dsimp only at hSw); (obtain ⟨t0, t1, t2, t3, t4, t5, t6, t7⟩ := HQ.out _ hSw); go_simp; (try with_reducible rfl))
  simp only [Act.put, List.setIfInBounds_toArray, List.set_cons_zero, List.set_cons_succ]
  refine anyH_run (i := 4) (L' := #[true, true, true, true, true, true, true, true, true, false, false, false]) rfl (by kernel_rfl) (by rfl) (fun KK hKK => ?_)
  go_simp
  (refine (hl _).mono ?_; rintro e w4 ⟨rfl, hc4⟩; have k4 := (Chg.refl [] w0).drew.k hc4; have hS4 : Chg [w.heap.size + 1 + 1] w0 w4 := k4.mono (by simp); (try go_simp))
  refine hKK.out _ _ (by assumption) (fun hHeld => ?_)
  clear hKK KK
  try simp only [Act.put, List.setIfInBounds_toArray, List.set_cons_zero, List.set_cons_succ]
  refine anyH_run (i := 9) (L' := #[true, true, true, true, true, true, true, true, true, true, false, false]) rfl (by kernel_rfl) (by rfl) (fun KK hKK => ?_)
  go_simp
  (refine (hh _).mono ?_; rintro e w5 ⟨rfl, hc5⟩; have k5 := k4.k hc5; have hS5 : Chg [w.heap.size + 1 + 1] w0 w5 := k5.mono (by simp); (try go_simp))
  refine hKK.out _ _ (by assumption) (fun hHeld => ?_)
  clear hKK KK
  try simp only [Act.put, List.setIfInBounds_toArray, List.set_cons_zero, List.set_cons_succ]
  refine anyH_run (i := 10) (L' := #[true, true, true, true, true, true, true, true, true, true, true, false]) rfl (by kernel_rfl) (by rfl) (fun KK hKK => ?_)
  go_simp
  (skip)
  refine hKK.out _ _ (by assumption) (fun hHeld => ?_)
  clear hKK KK
  try simp only [Act.put, List.setIfInBounds_toArray, List.set_cons_zero, List.set_cons_succ]
  refine anyH_run (i := 11) (L' := #[true, true, true, true, true, true, true, true, true, true, true, true]) rfl (by kernel_rfl) (by rfl) (fun KK hKK => ?_)
  (have K5 := K3.out.k k5; have p0 := K5.cell 0; have p1 := K5.cell 1; have p2 := K5.cell 2; have p3 := K5.cell 3; have f0 := K5.free 0; have f1 := K5.free 1; have f2 := K5.free 2; have f3 := K5.free 3; simp at p0 p1 p2 p3; have hS6 := (((hS5.setCell ⟨w.heap.size + 1 + 1, 0, none⟩ (.int .i64 (min a e)) (by simp)).setCell ⟨w.heap.size + 1 + 1, 1, none⟩ (.int .i64 (min b f)) (by simp)).setCell ⟨w.heap.size + 1 + 1, 2, none⟩ (.int .i64 (max c g)) (by simp)).setCell ⟨w.heap.size + 1 + 1, 3, none⟩ (.int .i64 (max d h)) (by simp); have K6 := (((K5.set 0 (.int .i64 (min a e))).set 1 (.int .i64 (min b f))).set 2 (.int .i64 (max c g))).set 3 (.int .i64 (max d h)); go_simp)
  refine hKK.out _ _ (by assumption) (fun hHeld => ?_)
  clear hKK KK
  try simp only [Act.put, List.setIfInBounds_toArray, List.set_cons_zero, List.set_cons_succ]
  refine wpAnyH_done (by kernel_rfl) ?_ _
  go_wp2_with fail; have r0 := K6.cell 0; have r1 := K6.cell 1; have r2 := K6.cell 2; have r3 := K6.cell 3; have HS6 := hd hS6; clear hS6 hHeld K6 K5 f0 f1 f2 f3 p0 p1 p2 p3; generalize (((w5.setCell ⟨w.heap.size + 1 + 1, 0, none⟩ (.int .i64 (min a e))).setCell ⟨w.heap.size + 1 + 1, 1, none⟩ (.int .i64 (min b f))).setCell ⟨w.heap.size + 1 + 1, 2, none⟩ (.int .i64 (max c g))).setCell ⟨w.heap.size + 1 + 1, 3, none⟩ (.int .i64 (max d h)) = w6 at *; simp at r0 r1 r2 r3; refine bodyPost_ret (v := .agg #[.int .i64 (min a e), .int .i64 (min b f), .int .i64 (max c g), .int .i64 (max d h)]) (by simp only [results]; go_simp) rfl ⟨rfl, HG.out.trans HS6.out (fun x hx hlt => by simp at hx; omega)⟩

/-- append(nil, x...), as one operation. -/
theorem wp_appN {P : Program} {w : World} {o : Oper} {a : Act} {K : Act → World → Prop} {Q : Exit → Act → World → Prop} {t e : TypeId} {size bytes : Nat} (hT : RowT P t e size bytes) (x : Operand)
    (ho : o.op = .call { callee := .builtin .append, args := #[.const (.slice none 0 0), x], argTypes := #[t, t] }) (u : Value) (m : Nat) (news : List Value) (hx : a.eval x = u) (hu : Rd w size u m news) (h1 : ∀ u ∈ news, u.oneCell' = true) (hbytes : m * bytes ≤ 140737488355328) (hcount : m ≤ 140737488355328)
    (h : ∀ ao c w', w'.ownsRow w.heap.size e size (.slice ao m c) m news → w.grownBy w' none → K (a.put o.dst (.slice ao m c)) w') : o.wp P a w K Q :=
  wp_appT hT _ x ho w.heap.size (.slice none 0 0) 0 [] rfl (World.ownsRow_nil _ _ _ _) u m news hx hu h1 (by simpa using hbytes) (by simpa using hcount) (Nat.le_refl _) fun ao c w' h2 h3 _ => by
    simp only [Nat.zero_add, List.nil_append] at h2 ⊢
    exact h ao c w' h2 h3
/-- What tame makes of item i. -/
def tameI (i : Nat) (x : Itm) : Itm := ⟨x.id % 4096 * 256 + (i : Int), min x.lx x.hx, min x.ly x.hy, max x.lx x.hx, max x.ly x.hy, x.still⟩
def tameL (l : List Itm) : List Itm := l.mapIdx tameI
theorem tameL_snoc (l : List Itm) (i : Nat) (h : i < l.length) : tameL (l.take (i + 1)) = tameL (l.take i) ++ [tameI i l[i]] := by
  unfold tameL
  rw [List.take_succ_eq_append_getElem h, List.mapIdx_append]
  have : (l.take i).length = i := by rw [List.length_take]; omega
  rw [this]
  simp
theorem tameL_len (l : List Itm) : (tameL l).length = l.length := by unfold tameL; simp
theorem or_low (a k : Nat) (ha : a < 4096) (hk : k < 256) : bits .or .i64 ((a : Int) * 256) (k : Int) = (a : Int) * 256 + (k : Int) := by
  have h1 : (BitVec.ofInt 64 ((a : Int) * 256)).toNat = a * 256 := by rw [BitVec.toNat_ofInt]; omega
  have h2 : (BitVec.ofInt 64 (k : Int)).toNat = k := by rw [BitVec.toNat_ofInt]; omega
  have h3 : a * 256 ||| k = a * 256 + k := by
    have := Nat.two_pow_add_eq_or_of_lt (i := 8) (b := k) (by simpa using hk) a
    rw [show 2 ^ 8 * a = a * 256 by omega] at this
    exact this.symm
  unfold bits
  simp only
  show IntKind.i64.wrap ((BitVec.ofInt 64 ((a : Int) * 256) ||| BitVec.ofInt 64 (k : Int)).toNat : Int) = _
  rw [BitVec.toNat_or, h1, h2, h3, IntWalk.i64_in _ (by omega)]
  omega
theorem tame_shl (a : Int) (h0 : 0 ≤ a) (h1 : a < 4096) (k : IntKind) : Op.shift .shl .i64 a k 8 = pure (.int .i64 (a * 256)) := by
  rw [shift_shl _ _ _ _ (by omega) (by decide)]
  rw [IntWalk.i64_in _ (by simp; omega)]
  simp
theorem tame_or (a : Int) (k : Nat) (hk : k < 256) : bits .or .i64 (a % 4096 * 256) (k : Int) = a % 4096 * 256 + (k : Int) := by
  obtain ⟨b, hb, hb2⟩ : ∃ b : Nat, a % 4096 = (b : Int) ∧ b < 4096 := ⟨(a % 4096).toNat, by omega, by omega⟩
  rw [hb]
  exact or_low b k hb2 hk
theorem elemItem : Try.prog.elem 23 = 30 := by kernel_rfl
theorem flat_cut {α : Type} (enc : α → List Value) (k : Nat) (hk : ∀ x, (enc x).length = k) (l : List α) (p n : Nat) : ((l.flatMap enc).drop (p * k)).take (n * k) = ((l.drop p).take n).flatMap enc := by
  have e : ∀ (l : List α) (p : Nat), (l.drop p).flatMap enc = (l.flatMap enc).drop (p * k) := by
    intro l
    induction l with
    | nil => simp
    | cons x l ih =>
      intro p
      cases p with
      | zero => simp
      | succ p => rw [List.drop_succ_cons, ih p, List.flatMap_cons, List.drop_append, hk, List.drop_of_length_le (l := enc x) (by rw [hk, Nat.succ_mul]; omega), List.nil_append, Nat.succ_mul, Nat.add_sub_cancel]
  have f : ∀ (l : List α) (n : Nat), (l.take n).flatMap enc = (l.flatMap enc).take (n * k) := by
    intro l
    induction l with
    | nil => simp
    | cons x l ih =>
      intro n
      cases n with
      | zero => simp
      | succ n => rw [List.take_succ_cons, List.flatMap_cons, ih n, List.flatMap_cons, List.take_append, hk, List.take_of_length_le (l := enc x) (by rw [hk, Nat.succ_mul]; omega), Nat.succ_mul, Nat.add_sub_cancel]
  rw [← e, ← f]
theorem run_cutIt {w : World} {v : Value} {l : List Itm} (hv : ItS w v l) {lo hi : Option Value} {p q : Nat} (hlo : Bound lo p 0) (hhi : Bound hi q l.length) (hpq : p ≤ q) (hq : q ≤ l.length) :
    ∃ ao c, (∀ W, (Instr.slice 23 v lo hi none).run Try.prog W = .ok (.slice ao (q - p) c) W) ∧ ItS w (.slice ao (q - p) c) ((l.drop p).take (q - p)) ∧
      (∀ k, (Value.slice ao (q - p) c).ownBlock = some k → v.ownBlock = some k) := by
  obtain ⟨ao, c, h1, h2, h3⟩ := run_cut rowItem hv hlo hhi hpq hq
  refine ⟨ao, c, fun W => ?_, ?_, h3⟩
  · rw [← run_sliceAt_slice (P := Try.prog) W 23 v lo hi none (by rw [elemItem]; exact undItems)]
    exact h1 W
  · have e : ((l.drop p).take (q - p)).length = q - p := by rw [List.length_take, List.length_drop]; omega
    unfold ItS; rw [e, ← flat_cut cI 6 cI_len]; exact h2
/-- Behind tame. -/
def TameOut (l : List Itm) (w : World) (e : Ending) (w' : World) : Prop := ∃ ao c, e = .returned (.slice ao (tameL l).length c) ∧ ItR w' w.heap.size (.slice ao (tameL l).length c) (tameL l) ∧ Chg [] w w'

set_option maxRecDepth 100000 in
set_option maxHeartbeats 8000000 in
theorem Tame_any (w : World) (v : Value) (l : List Itm) (most : Nat) (hv : ItS w v l) (hm : most ≤ 200) :
    Calls Try.prog 9 #[v, .int .i64 (most : Int)] w fun e w' => TameOut (l.take most) w e w' := by
  obtain ⟨ao0, c0, hv0⟩ : ∃ ao c, v = .slice ao l.length c := by
    obtain ⟨_, ao, cap, b, off, rfl, _⟩ := hv
    exact ⟨ao, cap, rfl⟩
  subst hv0
  have hl : l.length ≤ 9223372036854775807 := by
    obtain ⟨_, ao, cap, b, off, _, h1, h2, _⟩ := hv
    unfold maxLen at h2; omega
  have hq : (min (l.length : Int) (most : Int)) = (((l.take most).length : Nat) : Int) := by rw [List.length_take]; omega
  have hlen : (l.take most).length ≤ 200 := by rw [List.length_take]; omega
  obtain ⟨ao1, c1, hcut, hv1, -⟩ := run_cutIt hv (lo := none) (hi := some (.int .i64 (((l.take most).length : Nat) : Int))) (p := 0) (q := (l.take most).length) (.inl ⟨rfl, rfl⟩) (.inr ⟨_, rfl⟩) (Nat.zero_le _) (by rw [List.length_take]; exact Nat.min_le_right _ _)
  have e1 : (l.drop 0).take ((l.take most).length - 0) = l.take most := by rw [List.drop_zero, Nat.sub_zero, List.length_take]; exact (List.take_eq_take_min ..).symm
  rw [e1] at hv1
  rw [Nat.sub_zero] at hv1 hcut
  clear e1 hv
  generalize l.take most = m at *
  go_enter Try.func9, Try.ntmps9
  go_wp2_with fail
  have HV := hd hv1
  clear hv1 hq hcut
  go_loopw [5, 17] (fun o i wr => ∃ k : Nat, i = .int .i64 (k : Int) ∧ k ≤ m.length ∧ Hd (ItR wr w.heap.size o (tameL (m.take k))) ∧ Hd (Chg [] w wr)) (fun _ i _ => m.length - (intOf i).toNat)
  case atStart => exact ⟨0, rfl, Nat.zero_le _, hd (World.ownsRow_nil _ _ _ _), hd (Chg.refl _ _)⟩
  case round =>
    obtain ⟨k, rfl, hk, hr, hc⟩ := hrel
    by_cases hlt : k < m.length
    · have hv2 := HV.out.k hc.out
      obtain ⟨g, off, rfl⟩ : ∃ g off, ao1 = some ⟨g, off, none⟩ := by
        obtain ⟨_, ao, cap, b, off, he, -, -, -, h5, -⟩ := hv2
        simp only [Value.slice.injEq] at he
        exact ⟨b, off, he.1.trans (h5 (by omega))⟩
      obtain ⟨q0, q1, q2, q3, q4, q5⟩ := hv2.at k hlt
      have hsn := tameL_snoc m k hlt
      generalize m[k] = x at *
      have HSN := hd hsn
      clear hsn hv2
      go_upto_region 5 with (fail)
      have kx := Blk.new wr #[.int .i64 x.id, .int .i64 x.lx, .int .i64 x.ly, .int .i64 x.hx, .int .i64 x.hy, .bool x.still] 30
      have hcb := (Chg.refl [] wr).alloc (.cells #[.int .i64 x.id, .int .i64 x.lx, .int .i64 x.ly, .int .i64 x.hx, .int .i64 x.hy, .bool x.still] 30)
      have hrw := hd (hr.out.k hcb)
      have hcw := hd (hc.out.k hcb)
      have hne : Hd (∀ j, u5.ownBlock = some j → j ≠ wr.heap.size) := hd fun j hj => Nat.ne_of_lt (World.ownsRow.lt hr.out j hj).2
      have hxb : Hd (w.heap.size ≤ wr.heap.size) := hd hc.out.size
      generalize wr.alloc (.cells #[.int .i64 x.id, .int .i64 x.lx, .int .i64 x.ly, .int .i64 x.hx, .int .i64 x.hy, .bool x.still] 30) = w0 at *
      generalize wr.heap.size = xb at *
      clear q0 q1 q2 q3 q4 q5 hcb hr hc wr
      have HQ : Hd (∀ wx, Chg [] w0 wx → wx.cell? ⟨xb, 1, none⟩ = some (.int .i64 x.lx) ∧ wx.cell? ⟨xb, 2, none⟩ = some (.int .i64 x.ly) ∧ wx.cell? ⟨xb, 3, none⟩ = some (.int .i64 x.hx) ∧ wx.cell? ⟨xb, 4, none⟩ = some (.int .i64 x.hy)) :=
        hd fun wx hx => ⟨hx.cellS (kx.cell 1), hx.cellS (kx.cell 2), hx.cellS (kx.cell 3), hx.cellS (kx.cell 4)⟩
      have KX := hd kx
      clear kx
      have s1 := ((Chg.refl [] w0).alloc (.cells #[.int .i64 0, .int .i64 0] 26)).drew
      have s2 := (((Chg.refl [] w0).alloc (.cells #[.int .i64 0, .int .i64 0] 26)).alloc (.cells #[.int .i64 0, .int .i64 0] 26)).drew
      have s3 := (((Chg.refl [] w0).alloc (.cells #[.int .i64 x.lx, .int .i64 x.ly] 26)).alloc (.cells #[.int .i64 0, .int .i64 0] 26)).drew
      have s4 := (((Chg.refl [] w0).alloc (.cells #[.int .i64 x.lx, .int .i64 x.ly] 26)).alloc (.cells #[.int .i64 x.hx, .int .i64 x.hy] 26)).drew
      have s5 := (((Chg.refl [] w0).alloc (.cells #[.int .i64 0, .int .i64 0] 26)).alloc (.cells #[.int .i64 x.lx, .int .i64 x.ly] 26)).drew
      have s6 := (((Chg.refl [] w0).alloc (.cells #[.int .i64 x.hx, .int .i64 x.hy] 26)).alloc (.cells #[.int .i64 x.lx, .int .i64 x.ly] 26)).drew
      refine anyH_start (n := 10) (L := #[false, false, false, false, false, false, false, false, false, false]) (by kernel_rfl) (by kernel_rfl) (S := (fun wx => Chg [] w0 wx)) ((Chg.refl _ _).drew) (fun hHeld => ?_)
      refine anyH_take (i := 0) (d := 22) (L' := #[true, false, false, false, false, false, false, false, false, false]) (v := ?v17) rfl rfl (by kernel_rfl) (fun _ _ _ h => h) (by rfl) ?hy17 (by assumption) ?rest17
      case hy17 => (intro wx hSw; (try dsimp only at hSw); (obtain ⟨t0, t1, t2, t3⟩ := HQ.out _ hSw); go_simp; (try with_reducible rfl))
      simp only [Act.put, List.setIfInBounds_toArray, List.set_cons_zero, List.set_cons_succ]
      refine anyH_take (i := 1) (d := 23) (L' := #[true, true, false, false, false, false, false, false, false, false]) (v := ?v18) rfl rfl (by kernel_rfl) (fun _ _ _ h => h) (by rfl) ?hy18 (by assumption) ?rest18
      case hy18 => (intro wx hSw; (try dsimp only at hSw); (obtain ⟨t0, t1, t2, t3⟩ := HQ.out _ hSw); go_simp; (try with_reducible rfl))
      simp only [Act.put, List.setIfInBounds_toArray, List.set_cons_zero, List.set_cons_succ]
      refine anyH_take (i := 2) (d := 24) (L' := #[true, true, true, false, false, false, false, false, false, false]) (v := ?v19) rfl rfl (by kernel_rfl) (fun _ _ _ h => h) (by rfl) ?hy19 (by assumption) ?rest19
      case hy19 => (intro wx hSw; (try dsimp only at hSw); (obtain ⟨t0, t1, t2, t3⟩ := HQ.out _ hSw); go_simp; (try with_reducible rfl))
      simp only [Act.put, List.setIfInBounds_toArray, List.set_cons_zero, List.set_cons_succ]
      refine anyH_take (i := 3) (d := 25) (L' := #[true, true, true, true, false, false, false, false, false, false]) (v := ?v20) rfl rfl (by kernel_rfl) (fun _ _ _ h => h) (by rfl) ?hy20 (by assumption) ?rest20
      case hy20 => (intro wx hSw; (try dsimp only at hSw); (obtain ⟨t0, t1, t2, t3⟩ := HQ.out _ hSw); go_simp; (try with_reducible rfl))
      simp only [Act.put, List.setIfInBounds_toArray, List.set_cons_zero, List.set_cons_succ]
      refine anyH_take (i := 4) (d := 26) (L' := #[true, true, true, true, true, false, false, false, false, false]) (v := ?v21) rfl rfl (by kernel_rfl) (fun _ _ _ h => h) (by rfl) ?hy21 (by assumption) ?rest21
      case hy21 => (intro wx hSw; (try dsimp only at hSw); (obtain ⟨t0, t1, t2, t3⟩ := HQ.out _ hSw); go_simp; (try with_reducible rfl))
      simp only [Act.put, List.setIfInBounds_toArray, List.set_cons_zero, List.set_cons_succ]
      refine anyH_take (i := 5) (d := 27) (L' := #[true, true, true, true, true, true, false, false, false, false]) (v := ?v22) rfl rfl (by kernel_rfl) (fun _ _ _ h => h) (by rfl) ?hy22 (by assumption) ?rest22
      case hy22 => (intro wx hSw; (try dsimp only at hSw); (obtain ⟨t0, t1, t2, t3⟩ := HQ.out _ hSw); go_simp; (try with_reducible rfl))
      simp only [Act.put, List.setIfInBounds_toArray, List.set_cons_zero, List.set_cons_succ]
      refine anyH_run2 (i := 6) (j := 7) (L1 := #[true, true, true, true, true, true, true, false, false, false]) (L2 := #[true, true, true, true, true, true, false, true, false, false]) rfl rfl (by kernel_rfl) (by rfl) (by rfl) (fun KK hKK => ?ra14) (fun KK hKK => ?rb14)
      case' ra14 =>
        go_simp
        (skip)
        refine hKK.out _ _ (by assumption) (fun hHeld => ?_)
        clear hKK KK
        try simp only [Act.put, List.setIfInBounds_toArray, List.set_cons_zero, List.set_cons_succ]
        refine anyH_run (i := 7) (L' := #[true, true, true, true, true, true, true, true, false, false]) rfl (by kernel_rfl) (by rfl) (fun KK hKK => ?_)
        go_simp
        (skip)
        refine hKK.out _ _ (by assumption) (fun hHeld => ?_)
        clear hKK KK
        try simp only [Act.put, List.setIfInBounds_toArray, List.set_cons_zero, List.set_cons_succ]
        refine anyH_run (i := 8) (L' := #[true, true, true, true, true, true, true, true, true, false]) rfl (by kernel_rfl) (by rfl) (fun KK hKK => ?_)
        go_simp
        (skip)
        refine hKK.out _ _ (by assumption) (fun hHeld => ?_)
        clear hKK KK
        try simp only [Act.put, List.setIfInBounds_toArray, List.set_cons_zero, List.set_cons_succ]
        refine anyH_run (i := 9) (L' := #[true, true, true, true, true, true, true, true, true, true]) rfl (by kernel_rfl) (by rfl) (fun KK hKK => ?_)
        go_simp
        (skip)
        refine hKK.out _ _ (by assumption) (fun hHeld => ?_)
        clear hKK KK
        try simp only [Act.put, List.setIfInBounds_toArray, List.set_cons_zero, List.set_cons_succ]
        refine wpAnyH_done (by kernel_rfl) ?_ _
        (first | (have hW : Chg [] w0 ((w0.alloc (.cells #[.int .i64 x.lx, .int .i64 x.ly] 26)).alloc (.cells #[.int .i64 x.hx, .int .i64 x.hy] 26)).drew := hHeld; have kl := ((Blk.new w0 #[.int .i64 x.lx, .int .i64 x.ly] 26).alloc (.cells #[.int .i64 x.hx, .int .i64 x.hy] 26)).k ((Chg.refl [] _).drew); have kh := (Blk.new (w0.alloc (.cells #[.int .i64 x.lx, .int .i64 x.ly] 26)) #[.int .i64 x.hx, .int .i64 x.hy] 26).k ((Chg.refl [] _).drew); rw [show (w0.alloc (.cells #[.int .i64 x.lx, .int .i64 x.ly] 26)).heap.size = w0.heap.size + 1 by simp] at kh; clear s1 s2 s3 s4 s5 s6 hHeld; generalize ((w0.alloc (.cells #[.int .i64 x.lx, .int .i64 x.ly] 26)).alloc (.cells #[.int .i64 x.hx, .int .i64 x.hy] 26)).drew = W at *; generalize w0.heap.size + 1 = b9 at *; generalize w0.heap.size = b8 at *) | (have hW : Chg [] w0 ((w0.alloc (.cells #[.int .i64 x.hx, .int .i64 x.hy] 26)).alloc (.cells #[.int .i64 x.lx, .int .i64 x.ly] 26)).drew := hHeld; have kh := ((Blk.new w0 #[.int .i64 x.hx, .int .i64 x.hy] 26).alloc (.cells #[.int .i64 x.lx, .int .i64 x.ly] 26)).k ((Chg.refl [] _).drew); have kl := (Blk.new (w0.alloc (.cells #[.int .i64 x.hx, .int .i64 x.hy] 26)) #[.int .i64 x.lx, .int .i64 x.ly] 26).k ((Chg.refl [] _).drew); rw [show (w0.alloc (.cells #[.int .i64 x.hx, .int .i64 x.hy] 26)).heap.size = w0.heap.size + 1 by simp] at kl; clear s1 s2 s3 s4 s5 s6 hHeld; generalize ((w0.alloc (.cells #[.int .i64 x.hx, .int .i64 x.hy] 26)).alloc (.cells #[.int .i64 x.lx, .int .i64 x.ly] 26)).drew = W at *; generalize w0.heap.size + 1 = b8 at *; generalize w0.heap.size = b9 at *)); have HW := hd hW; have KX2 := hd (KX.out.k hW); have l0 := kl.cell 0; have l1 := kl.cell 1; have h0 := kh.cell 0; have h1 := kh.cell 1; simp at l0 l1 h0 h1; clear kl kh hW; have hjoin := fun W => Join_any W x.lx x.ly x.lx x.ly x.hx x.hy x.hx x.hy; go_upto_region 7 with (go_at_call 22; refine (hjoin _).mono ?_; rintro e w5 ⟨rfl, hc5⟩; have kx5 := KX2.out.k hc5; have f1 := kx5.free 1; have f2 := kx5.free 2; have f3 := kx5.free 3; have f4 := kx5.free 4; have p1 := kx5.cell 1; have p2 := kx5.cell 2; have p3 := kx5.cell 3; have p4 := kx5.cell 4; simp at p1 p2 p3 p4); replace HW := hd (HW.out.k hc5); have K6 := (((kx5.set 1 (.int .i64 (min x.lx x.hx))).set 2 (.int .i64 (min x.ly x.hy))).set 3 (.int .i64 (max x.lx x.hx))).set 4 (.int .i64 (max x.ly x.hy)); have hc6 := ((((Chg.refl [xb] w5).setCell ⟨xb, 1, none⟩ (.int .i64 (min x.lx x.hx)) (by simp)).setCell ⟨xb, 2, none⟩ (.int .i64 (min x.ly x.hy)) (by simp)).setCell ⟨xb, 3, none⟩ (.int .i64 (max x.lx x.hx)) (by simp)).setCell ⟨xb, 4, none⟩ (.int .i64 (max x.ly x.hy)) (by simp); clear p1 p2 p3 p4 f1 f2 f3 f4 l0 l1 h0 h1 hjoin kx5 KX2 hc5 HQ; generalize (((w5.setCell ⟨xb, 1, none⟩ (.int .i64 (min x.lx x.hx))).setCell ⟨xb, 2, none⟩ (.int .i64 (min x.ly x.hy))).setCell ⟨xb, 3, none⟩ (.int .i64 (max x.lx x.hx))).setCell ⟨xb, 4, none⟩ (.int .i64 (max x.ly x.hy)) = w6 at *; simp at K6; have p0 := K6.cell 0; have p1 := K6.cell 1; have p2 := K6.cell 2; have p3 := K6.cell 3; have p4 := K6.cell 4; have p5 := K6.cell 5; have f0 := K6.free 0; simp at p0 p1 p2 p3 p4 p5; have r1 := andFFF x.id; have r2 := tame_shl (x.id % 4096) (by omega) (by omega) .u64; have r3 := tame_or x.id k (by omega); go_upto_region 8 with (fail); have K7 := K6.set 0 (.int .i64 (x.id % 4096 * 256 + (k : Int))); have hc7 := hc6.setCell ⟨xb, 0, none⟩ (.int .i64 (x.id % 4096 * 256 + (k : Int))) (by simp); clear p0 p1 p2 p3 p4 p5 f0 K6 hc6; generalize w6.setCell ⟨xb, 0, none⟩ (.int .i64 (x.id % 4096 * 256 + (k : Int))) = w7 at *; simp at K7; have HR7 : Hd (ItR w7 w.heap.size u5 (tameL (m.take k))) := hd (ownsRow_chg (hrw.out.k HW.out) hc7 (fun j hj => by simpa using hne.out j hj)); have HC7 : Hd (Chg [] w w7) := hd ((hcw.out.k HW.out).trans hc7 (fun y hy hlt => absurd hlt (by have := hxb.out; simp at hy; omega))); have hlt7 := HC7.out.size; have hlk : Hd ((tameL (m.take k)).length = k) := hd (by rw [tameL_len, List.length_take]; omega); have p0 := K7.cell 0; have p1 := K7.cell 1; have p2 := K7.cell 2; have p3 := K7.cell 3; have p4 := K7.cell 4; have p5 := K7.cell 5; simp at p0 p1 p2 p3 p4 p5; clear K7 hc7 KX hrw hcw HW hne hxb; go_wp2_with (at_builtin; refine wpApp rowItem rfl _ _ rfl w.heap.size u5 _ _ rfl (World.ownsRow.alloc HR7.out _) _ 1 (cI (tameI k x)) rfl (Rd.lit _ 6 1 (cI (tameI k x)) _ _ rfl rfl (by decide)) (cI_one _) (by rw [hlk.out]; omega) (by rw [hlk.out]; omega) (by simp; omega) ?_; intro ao8 c8 w8 h8 hg8 _ _); have HH : Hd (ItR w8 w.heap.size (.slice ao8 ((tameL (m.take k)).length + 1) c8) (tameL (m.take (k + 1)))) := hd (by rw [HSN.out]; unfold ItR; rw [List.length_append, List.flatMap_append]; simpa using h8); have HC : Hd (Chg [] w w8) := hd ((HC7.out.alloc _).ownGrow (World.ownsRow.alloc HR7.out _) hg8 (Nat.le_refl _)); clear h8 hg8; (go_roundw; (case rel => exact ⟨k + 1, by go_num, by omega, HH, HC⟩); (case measure => simp [intOf]; omega))
      case' rb14 =>
        go_simp
        (skip)
        refine hKK.out _ _ (by assumption) (fun hHeld => ?_)
        clear hKK KK
        try simp only [Act.put, List.setIfInBounds_toArray, List.set_cons_zero, List.set_cons_succ]
        refine anyH_run (i := 6) (L' := #[true, true, true, true, true, true, true, true, false, false]) rfl (by kernel_rfl) (by rfl) (fun KK hKK => ?_)
        go_simp
        (skip)
        refine hKK.out _ _ (by assumption) (fun hHeld => ?_)
        clear hKK KK
        try simp only [Act.put, List.setIfInBounds_toArray, List.set_cons_zero, List.set_cons_succ]
        refine anyH_run (i := 8) (L' := #[true, true, true, true, true, true, true, true, true, false]) rfl (by kernel_rfl) (by rfl) (fun KK hKK => ?_)
        go_simp
        (skip)
        refine hKK.out _ _ (by assumption) (fun hHeld => ?_)
        clear hKK KK
        try simp only [Act.put, List.setIfInBounds_toArray, List.set_cons_zero, List.set_cons_succ]
        refine anyH_run (i := 9) (L' := #[true, true, true, true, true, true, true, true, true, true]) rfl (by kernel_rfl) (by rfl) (fun KK hKK => ?_)
        go_simp
        (skip)
        refine hKK.out _ _ (by assumption) (fun hHeld => ?_)
        clear hKK KK
        try simp only [Act.put, List.setIfInBounds_toArray, List.set_cons_zero, List.set_cons_succ]
        refine wpAnyH_done (by kernel_rfl) ?_ _
        (first | (have hW : Chg [] w0 ((w0.alloc (.cells #[.int .i64 x.lx, .int .i64 x.ly] 26)).alloc (.cells #[.int .i64 x.hx, .int .i64 x.hy] 26)).drew := hHeld; have kl := ((Blk.new w0 #[.int .i64 x.lx, .int .i64 x.ly] 26).alloc (.cells #[.int .i64 x.hx, .int .i64 x.hy] 26)).k ((Chg.refl [] _).drew); have kh := (Blk.new (w0.alloc (.cells #[.int .i64 x.lx, .int .i64 x.ly] 26)) #[.int .i64 x.hx, .int .i64 x.hy] 26).k ((Chg.refl [] _).drew); rw [show (w0.alloc (.cells #[.int .i64 x.lx, .int .i64 x.ly] 26)).heap.size = w0.heap.size + 1 by simp] at kh; clear s1 s2 s3 s4 s5 s6 hHeld; generalize ((w0.alloc (.cells #[.int .i64 x.lx, .int .i64 x.ly] 26)).alloc (.cells #[.int .i64 x.hx, .int .i64 x.hy] 26)).drew = W at *; generalize w0.heap.size + 1 = b9 at *; generalize w0.heap.size = b8 at *) | (have hW : Chg [] w0 ((w0.alloc (.cells #[.int .i64 x.hx, .int .i64 x.hy] 26)).alloc (.cells #[.int .i64 x.lx, .int .i64 x.ly] 26)).drew := hHeld; have kh := ((Blk.new w0 #[.int .i64 x.hx, .int .i64 x.hy] 26).alloc (.cells #[.int .i64 x.lx, .int .i64 x.ly] 26)).k ((Chg.refl [] _).drew); have kl := (Blk.new (w0.alloc (.cells #[.int .i64 x.hx, .int .i64 x.hy] 26)) #[.int .i64 x.lx, .int .i64 x.ly] 26).k ((Chg.refl [] _).drew); rw [show (w0.alloc (.cells #[.int .i64 x.hx, .int .i64 x.hy] 26)).heap.size = w0.heap.size + 1 by simp] at kl; clear s1 s2 s3 s4 s5 s6 hHeld; generalize ((w0.alloc (.cells #[.int .i64 x.hx, .int .i64 x.hy] 26)).alloc (.cells #[.int .i64 x.lx, .int .i64 x.ly] 26)).drew = W at *; generalize w0.heap.size + 1 = b8 at *; generalize w0.heap.size = b9 at *)); have HW := hd hW; have KX2 := hd (KX.out.k hW); have l0 := kl.cell 0; have l1 := kl.cell 1; have h0 := kh.cell 0; have h1 := kh.cell 1; simp at l0 l1 h0 h1; clear kl kh hW; have hjoin := fun W => Join_any W x.lx x.ly x.lx x.ly x.hx x.hy x.hx x.hy; go_upto_region 7 with (go_at_call 22; refine (hjoin _).mono ?_; rintro e w5 ⟨rfl, hc5⟩; have kx5 := KX2.out.k hc5; have f1 := kx5.free 1; have f2 := kx5.free 2; have f3 := kx5.free 3; have f4 := kx5.free 4; have p1 := kx5.cell 1; have p2 := kx5.cell 2; have p3 := kx5.cell 3; have p4 := kx5.cell 4; simp at p1 p2 p3 p4); replace HW := hd (HW.out.k hc5); have K6 := (((kx5.set 1 (.int .i64 (min x.lx x.hx))).set 2 (.int .i64 (min x.ly x.hy))).set 3 (.int .i64 (max x.lx x.hx))).set 4 (.int .i64 (max x.ly x.hy)); have hc6 := ((((Chg.refl [xb] w5).setCell ⟨xb, 1, none⟩ (.int .i64 (min x.lx x.hx)) (by simp)).setCell ⟨xb, 2, none⟩ (.int .i64 (min x.ly x.hy)) (by simp)).setCell ⟨xb, 3, none⟩ (.int .i64 (max x.lx x.hx)) (by simp)).setCell ⟨xb, 4, none⟩ (.int .i64 (max x.ly x.hy)) (by simp); clear p1 p2 p3 p4 f1 f2 f3 f4 l0 l1 h0 h1 hjoin kx5 KX2 hc5 HQ; generalize (((w5.setCell ⟨xb, 1, none⟩ (.int .i64 (min x.lx x.hx))).setCell ⟨xb, 2, none⟩ (.int .i64 (min x.ly x.hy))).setCell ⟨xb, 3, none⟩ (.int .i64 (max x.lx x.hx))).setCell ⟨xb, 4, none⟩ (.int .i64 (max x.ly x.hy)) = w6 at *; simp at K6; have p0 := K6.cell 0; have p1 := K6.cell 1; have p2 := K6.cell 2; have p3 := K6.cell 3; have p4 := K6.cell 4; have p5 := K6.cell 5; have f0 := K6.free 0; simp at p0 p1 p2 p3 p4 p5; have r1 := andFFF x.id; have r2 := tame_shl (x.id % 4096) (by omega) (by omega) .u64; have r3 := tame_or x.id k (by omega); go_upto_region 8 with (fail); have K7 := K6.set 0 (.int .i64 (x.id % 4096 * 256 + (k : Int))); have hc7 := hc6.setCell ⟨xb, 0, none⟩ (.int .i64 (x.id % 4096 * 256 + (k : Int))) (by simp); clear p0 p1 p2 p3 p4 p5 f0 K6 hc6; generalize w6.setCell ⟨xb, 0, none⟩ (.int .i64 (x.id % 4096 * 256 + (k : Int))) = w7 at *; simp at K7; have HR7 : Hd (ItR w7 w.heap.size u5 (tameL (m.take k))) := hd (ownsRow_chg (hrw.out.k HW.out) hc7 (fun j hj => by simpa using hne.out j hj)); have HC7 : Hd (Chg [] w w7) := hd ((hcw.out.k HW.out).trans hc7 (fun y hy hlt => absurd hlt (by have := hxb.out; simp at hy; omega))); have hlt7 := HC7.out.size; have hlk : Hd ((tameL (m.take k)).length = k) := hd (by rw [tameL_len, List.length_take]; omega); have p0 := K7.cell 0; have p1 := K7.cell 1; have p2 := K7.cell 2; have p3 := K7.cell 3; have p4 := K7.cell 4; have p5 := K7.cell 5; simp at p0 p1 p2 p3 p4 p5; clear K7 hc7 KX hrw hcw HW hne hxb; go_wp2_with (at_builtin; refine wpApp rowItem rfl _ _ rfl w.heap.size u5 _ _ rfl (World.ownsRow.alloc HR7.out _) _ 1 (cI (tameI k x)) rfl (Rd.lit _ 6 1 (cI (tameI k x)) _ _ rfl rfl (by decide)) (cI_one _) (by rw [hlk.out]; omega) (by rw [hlk.out]; omega) (by simp; omega) ?_; intro ao8 c8 w8 h8 hg8 _ _); have HH : Hd (ItR w8 w.heap.size (.slice ao8 ((tameL (m.take k)).length + 1) c8) (tameL (m.take (k + 1)))) := hd (by rw [HSN.out]; unfold ItR; rw [List.length_append, List.flatMap_append]; simpa using h8); have HC : Hd (Chg [] w w8) := hd ((HC7.out.alloc _).ownGrow (World.ownsRow.alloc HR7.out _) hg8 (Nat.le_refl _)); clear h8 hg8; (go_roundw; (case rel => exact ⟨k + 1, by go_num, by omega, HH, HC⟩); (case measure => simp [intOf]; omega))
    · obtain rfl : k = m.length := by omega
      have hr2 := hr.out
      rw [List.take_length] at hr2
      obtain ⟨aor, cr, rfl, -⟩ := hr2.form
      have HR := hd hr2
      clear hr hr2
      go_wp2_with fail
      go_ret
      exact ⟨aor, cr, rfl, HR.out, hc.out⟩
end Go.Proofs.Ytnlkeacchogmeaa

/- The sweep law's own search: all pairs, by looking at each. -/
namespace Go.Proofs.Ytnlkeacchogmeaa
open Go.RowKit Go.Sort Go.Shelf

structure AllI (w : World) (mb : Nat) (l : List Itm) (k : Nat) (a : Itm) (xb : Nat) (j : Nat) (wr : World) : Prop where
  map : MapP wr mb (accP l k ++ newP ((l.take k).take j) a)
  box : Blk wr xb #[.int .i64 a.id, .int .i64 a.lx, .int .i64 a.ly, .int .i64 a.hx, .int .i64 a.hy, .bool a.still] 30
  chg : Chg [] w wr
  new : w.heap.size ≤ mb
theorem AllI.k {w : World} {mb : Nat} {l : List Itm} {n : Nat} {a : Itm} {xb j : Nat} {wr wr' : World} (h : AllI w mb l n a xb j wr) (hc : Chg [] wr wr') : AllI w mb l n a xb j wr' :=
  { h with map := h.map.k hc, box := h.box.k hc, chg := h.chg.k hc }
theorem MapP.heap {w : World} {b : Nat} {T : List (Int × Int)} (h : MapP w b T) : ∃ xs c, w.heap[b]? = some (.map xs c) := by
  obtain ⟨_, ⟨xs, c, hb, _⟩, _⟩ := h; exact ⟨xs, c, hb⟩
theorem MapP.apart {w : World} {b b' : Nat} {T : List (Int × Int)} {cs : Array Value} {t : TypeId} (h : MapP w b T) (hb : Blk w b' cs t) : b ≠ b' := by
  rintro rfl
  obtain ⟨xs, c, hx⟩ := h.heap
  unfold Blk at hb
  rw [hx] at hb
  simp at hb
theorem MapP.notCell {w : World} {b : Nat} {T : List (Int × Int)} (h : MapP w b T) {b' off : Nat} {v : Value} (hc : w.cell? ⟨b', off, none⟩ = some v) : b' ≠ b := by
  rintro rfl
  obtain ⟨xs, c, hx⟩ := h.heap
  simp [World.cell?, hx] at hc
theorem all_next {w w1 w3 w4 w5 : World} {mb : Nat} {l : List Itm} {k : Nat} {a : Itm} {xb j : Nat} {cur : List (Int × Int)} {p : Int × Int} (h : AllI w mb l k a xb j w3) (hC : Chg [mb] w1 w3) (hc : Chg [] w3 w4) (hm : MapP w5 mb (cur ++ [p])) (hg : w4.grownBy w5 (some mb))
    (hnew : accP l k ++ newP ((l.take k).take (j + 1)) a = cur ++ [p]) : AllI w mb l k a xb (j + 1) w5 ∧ Chg [mb] w1 w5 := by
  have hap := h.map.apart h.box
  refine ⟨{ map := by rw [hnew]; exact hm, box := (h.box.k hc).grown hg (by simpa using hap), chg := (h.chg.k hc).grown hg (fun i hi hlt => by simp at hi; have := h.new; omega), new := h.new }, (hC.k' hc).grown hg (by intro i hi _; simp at hi; simp [hi])⟩
set_option maxRecDepth 100000 in
set_option maxHeartbeats 8000000 in
theorem All08_any (w : World) (v : Value) (l : List Itm) (hv : ItS w v l) (hl : l.length ≤ 200) (hn : (l.map (·.id)).Nodup) (hid : ∀ x ∈ l, 0 ≤ x.id ∧ x.id < 4294967296) :
    Calls Try.prog 10 #[v] w fun e w' => ∃ b, e = .returned (.map (some b)) ∧ MapP w' b (accP l l.length) ∧ Chg [] w w' := by
  obtain ⟨ao0, c0, hv0⟩ : ∃ ao c, v = .slice ao l.length c := by
    obtain ⟨_, ao, cap, b, off, rfl, _⟩ := hv
    exact ⟨ao, cap, rfl⟩
  subst hv0
  have HV := hd hv
  have HN := hd hn
  have HID := hd hid
  clear hv hn hid
  have hmm := @run_makeMap Try.prog
  have hkm : Try.prog.underlying 36 = some (.map 33 3) := undMapP
  go_enter Try.func10, Try.ntmps10
  go_upto_region 2 with (fail)
  have hm0 := MapP.new w
  have hc0 := (Chg.refl [] w).alloc (.map #[] 0)
  generalize w.alloc (.map #[] 0) = w0 at *
  have HNEW : Hd (w.heap.size ≤ w.heap.size) := hd (Nat.le_refl _)
  obtain ⟨mb, hmb⟩ : ∃ mb, w.heap.size = mb := ⟨_, rfl⟩
  have HMB : Hd (w.heap.size ≤ mb) := hd (by omega)
  rw [hmb] at hm0 ⊢
  clear hmb HNEW
  have HM0 := hd hm0
  have HC0 := hd hc0
  clear hm0 hc0
  go_wp2_with fail
  go_loopw [11] (fun i wr => ∃ k : Nat, i = .int .i64 (k : Int) ∧ k ≤ l.length ∧ Hd (MapP wr mb (accP l k)) ∧ Hd (Chg [] w wr)) (fun i _ => l.length - (intOf i).toNat)
  case atStart => exact ⟨0, rfl, Nat.zero_le _, hd (by simpa [accP] using HM0.out), HC0⟩
  case round =>
    obtain ⟨k, rfl, hk, hm, hc⟩ := hrel
    by_cases hlt : k < l.length
    · have hv2 := HV.out.k hc.out
      obtain ⟨g, off, rfl⟩ : ∃ g off, ao0 = some ⟨g, off, none⟩ := by
        obtain ⟨_, ao, cap, b, off, he, -, -, -, h5, -⟩ := hv2
        simp only [Value.slice.injEq] at he
        exact ⟨b, off, he.1.trans (h5 (by omega))⟩
      obtain ⟨q0, q1, q2, q3, q4, q5⟩ := hv2.at k hlt
      obtain ⟨ao1, c1, hcut, hv3, -⟩ := run_cutIt hv2 (lo := none) (hi := some (.int .i64 (k : Int))) (p := 0) (q := k) (.inl ⟨rfl, rfl⟩) (.inr ⟨_, rfl⟩) (Nat.zero_le _) hk
      rw [Nat.sub_zero] at hcut hv3
      rw [List.drop_zero] at hv3
      have HV3 := hd hv3
      have HNEWP : Hd (∀ j (hj : j < (l.take k).length), hitI (l.take k)[j] l[k] = true → pairI (l.take k)[j] l[k] ∉ accP l k ++ newP ((l.take k).take j) l[k] ∧ OkP (pairI (l.take k)[j] l[k])) := hd fun j hj hh => by
        refine ⟨acc_new HN.out k j hlt hj hh, ?_⟩
        have h1 := HID.out l[k] (List.getElem_mem hlt)
        have h2 := HID.out (l.take k)[j] (List.mem_of_mem_take (List.getElem_mem hj))
        unfold OkP pairI
        simp only
        omega
      have HSUC := hd (accP_succ l k hlt)
      clear hv2 hv3
      generalize hx : l[k] = a at *
      clear hx
      go_upto_region 5 with (fail)
      have hI := hd ((AllI.mk (w := w) (mb := mb) (l := l) (k := k) (a := a) (xb := wr.heap.size) (j := 0) (wr := wr.alloc (.cells #[.int .i64 a.id, .int .i64 a.lx, .int .i64 a.ly, .int .i64 a.hx, .int .i64 a.hy, .bool a.still] 30))
        (by simpa [newP] using hm.out.k ((Chg.refl [] wr).alloc _)) (Blk.new wr _ _) (hc.out.alloc _) HMB.out))
      have HV4 := hd (HV3.out.k ((Chg.refl [] wr).alloc (.cells #[.int .i64 a.id, .int .i64 a.lx, .int .i64 a.ly, .int .i64 a.hx, .int .i64 a.hy, .bool a.still] 30)))
      generalize wr.alloc (.cells #[.int .i64 a.id, .int .i64 a.lx, .int .i64 a.ly, .int .i64 a.hx, .int .i64 a.hy, .bool a.still] 30) = w1 at *
      generalize wr.heap.size = xb at *
      clear q0 q1 q2 q3 q4 q5 hm hc HV3
      have htl : Hd ((l.take k).length = k) := hd (by rw [List.length_take]; omega)
      go_wp2_with fail
      go_loopw [20] (fun i wr => ∃ j : Nat, i = .int .i64 (j : Int) ∧ j ≤ k ∧ Hd (AllI w mb l k a xb j wr) ∧ Hd (Chg [mb] w1 wr)) (fun i _ => k - (intOf i).toNat)
      case atStart => exact ⟨0, rfl, Nat.zero_le _, hI, hd (Chg.refl _ _)⟩
      case round =>
        obtain ⟨j, rfl, hj, hJ, hCJ⟩ := hrel
        by_cases hjl : j < k
        · have hjt : j < (l.take k).length := by rw [htl.out]; exact hjl
          obtain ⟨g2, off2, rfl⟩ : ∃ g off, ao1 = some ⟨g, off, none⟩ := by
            obtain ⟨_, ao, cap, b, off, he, -, -, -, h5, -⟩ := HV4.out
            simp only [Value.slice.injEq] at he
            exact ⟨b, off, he.1.trans (h5 (by omega))⟩
          obtain ⟨q0, q1, q2, q3, q4, q5⟩ := HV4.out.at j hjt
          have hne := hI.out.map.notCell q0
          replace q0 := hCJ.out.cellT q0 (by simpa using hne)
          replace q1 := hCJ.out.cellT q1 (by simpa using hne)
          replace q2 := hCJ.out.cellT q2 (by simpa using hne)
          replace q3 := hCJ.out.cellT q3 (by simpa using hne)
          replace q4 := hCJ.out.cellT q4 (by simpa using hne)
          replace q5 := hCJ.out.cellT q5 (by simpa using hne)
          have hsn := newP_snoc (l.take k) a j hjt
          have hnw := HNEWP.out j hjt
          generalize (l.take k)[j] = o at *
          have HSN := hd hsn
          have HNW := hd hnw
          clear hsn hnw hne
          go_upto_region 8 with (fail)
          have hb1 := Blk.new wr #[.int .i64 o.id, .int .i64 o.lx, .int .i64 o.ly, .int .i64 o.hx, .int .i64 o.hy, .bool o.still] 30
          have hcx := (Chg.refl [] wr).alloc (.cells #[.int .i64 o.id, .int .i64 o.lx, .int .i64 o.ly, .int .i64 o.hx, .int .i64 o.hy, .bool o.still] 30)
          have hJ1 := hd (hJ.out.k hcx)
          have hC1 := hd (hCJ.out.k' hcx)
          clear q0 q1 q2 q3 q4 q5 hJ hcx hCJ
          generalize wr.alloc (.cells #[.int .i64 o.id, .int .i64 o.lx, .int .i64 o.ly, .int .i64 o.hx, .int .i64 o.hy, .bool o.still] 30) = w3 at *
          generalize wr.heap.size = ob at *
          clear wr
          have q0 := hb1.cell 0
          have q1 := hb1.cell 1
          have q2 := hb1.cell 2
          have q3 := hb1.cell 3
          have q4 := hb1.cell 4
          have q5 := hb1.cell 5
          have x0 := hJ1.out.box.cell 0
          have x1 := hJ1.out.box.cell 1
          have x2 := hJ1.out.box.cell 2
          have x3 := hJ1.out.box.cell 3
          have x4 := hJ1.out.box.cell 4
          have x5 := hJ1.out.box.cell 5
          simp at q0 q1 q2 q3 q4 q5 x0 x1 x2 x3 x4 x5
          clear hb1
          have hmeet := fun W => Meet_any W a o
          unfold rI at hmeet
          have hhit : hitI o a = (!(a.still && o.still) && meetI a o) := by rw [hitI_comm]; rfl
          obtain ⟨m, hm⟩ : ∃ m, meetI a o = m := ⟨_, rfl⟩
          rw [hm] at hhit
          simp only [hm] at hmeet
          clear hm
          have HHIT := hd hhit
          clear hhit
          have HNX : Hd (∀ W', Chg [] w3 W' → hitI o a = false → AllI w mb l k a xb (j + 1) W' ∧ Chg [mb] w1 W') := hd fun W' hW hh => by
            have h1 := hJ1.out.k hW
            refine ⟨{ h1 with map := ?_ }, hC1.out.k' hW⟩
            rw [HSN.out, hh]
            simpa using h1.map
          obtain ⟨bo, hos⟩ : ∃ b, o.still = b := ⟨_, rfl⟩
          obtain ⟨bx, hxs⟩ : ∃ b, a.still = b := ⟨_, rfl⟩
          rw [hos] at q5
          rw [hxs] at x5
          have HOS := hd hos
          have HXS := hd hxs
          clear hos hxs
          cases bo <;> cases bx
          case true.true =>
            have hh : hitI o a = false := by rw [HHIT.out, HOS.out, HXS.out]; rfl
            have HH := HNX.out w3 (Chg.refl _ _) hh
            have H1 := hd HH.1
            have H2 := hd HH.2
            clear hh HH
            go_wp2_with fail
            go_roundw
            case rel => exact ⟨j + 1, by go_num, by omega, H1, H2⟩
            case measure => simp [intOf]; omega
          all_goals
            cases m
            · go_wp2_with (go_at_call 17; refine (hmeet _).mono ?_; rintro e w4 ⟨rfl, hc4⟩)
              have hh : hitI o a = false := by rw [HHIT.out, Bool.and_false]
              have HH := HNX.out w4 hc4 hh
              have H1 := hd HH.1
              have H2 := hd HH.2
              clear hh HH
              go_roundw
              case rel => exact ⟨j + 1, by go_num, by omega, H1, H2⟩
              case measure => simp [intOf]; omega
            · have hh : hitI o a = true := by rw [HHIT.out, HOS.out, HXS.out]; rfl
              have HW2 := hd (HNW.out hh)
              have hml := hJ1.out.map
              have HLEN : Hd ((accP l k ++ newP ((l.take k).take j) a).length ≤ 80000) := hd (by
                have h1 := accP_len l k hk
                have h2 : k * l.length ≤ 200 * 200 := Nat.mul_le_mul (by omega) hl
                have h3 := newP_len ((l.take k).take j) a
                rw [List.length_take, htl.out] at h3
                rw [List.length_append]; omega)
              obtain ⟨cur, hcur⟩ : ∃ cur, accP l k ++ newP ((l.take k).take j) a = cur := ⟨_, rfl⟩
              rw [hcur] at hml HLEN HW2
              have HNEW : Hd (accP l k ++ newP ((l.take k).take (j + 1)) a = cur ++ [pairI a o]) := hd (by rw [HSN.out, hh, ← hcur, List.append_assoc, pairI_comm a o]; rfl)
              rw [pairI_comm] at HW2
              have HML := hd hml
              clear hh hcur hml HNX
              go_wp2_with (first
                | (go_at_call 17; refine (hmeet _).mono ?_; rintro e w4 ⟨rfl, hc4⟩; replace q0 := hc4.cellS q0; replace x0 := hc4.cellS x0)
                | (at_mapUpdate; refine wpPutP rfl rfl _ _ _ rfl mb cur (pairI a o) rfl rfl rfl (HML.out.k hc4) HW2.out.2 HW2.out.1 (by have := HLEN.out; omega) ?_; intro w5 hm5 hg5; have HH := all_next hJ1.out hC1.out hc4 hm5 hg5 HNEW.out; have H1 := hd HH.1; have H2 := hd HH.2; clear HH hm5 hg5))
              go_roundw
              case rel => exact ⟨j + 1, by go_num, by omega, H1, H2⟩
              case measure => simp [intOf]; omega
        · obtain rfl : j = k := by omega
          have hsuc : accP l (j + 1) = accP l j ++ newP ((l.take j).take j) a := by rw [HSUC.out, List.take_of_length_le (l := l.take j) (by rw [htl.out]; exact Nat.le_refl _)]
          have HM := hd hJ.out.map
          rw [← hsuc] at HM
          have HC := hd hJ.out.chg
          clear hsuc
          go_wp2_with fail
          go_roundw
          case rel => exact ⟨j + 1, by go_num, by omega, HM, HC⟩
          case measure => simp [intOf]; omega
    · obtain rfl : k = l.length := by omega
      go_wp2_with fail
      go_ret
      exact ⟨mb, rfl, hm.out, hc.out⟩
end Go.Proofs.Ytnlkeacchogmeaa
