/- Words and walks that Apart rests on: Order, CodecW, CodecO0, CodecOK0. -/
import Derived.Test.YtpadflhffiiglaaGreatWApart6
import Derived.Test.YtpadflhffiiglaaGreatWApart3
/- Package order: which orders may be. -/
namespace Go.Proofs.YtpadflhffiiglaaGreat
open Go.RowKit

structure Ord where
  kind : Int
  id : Int
  a : Int
  b : Int
  pos : V2
  vel : V2
  angle : Int
  spin : Int
  density : Int
  len : Int
  shape : Shp
def vO (o : Ord) (pv : Value) : Value := .agg #[.int .i64 o.kind, .int .i64 o.id, .int .i64 o.a, .int .i64 o.b, .int .i64 o.pos.1, .int .i64 o.pos.2, .int .i64 o.vel.1, .int .i64 o.vel.2, .int .i64 o.angle, .int .i64 o.spin, .int .i64 o.density, .int .i64 o.len, .int .i64 o.shape.kind, .int .i64 o.shape.r, pv]
def cO (o : Ord) (pv : Value) : List Value := [.int .i64 o.kind, .int .i64 o.id, .int .i64 o.a, .int .i64 o.b, .int .i64 o.pos.1, .int .i64 o.pos.2, .int .i64 o.vel.1, .int .i64 o.vel.2, .int .i64 o.angle, .int .i64 o.spin, .int .i64 o.density, .int .i64 o.len, .int .i64 o.shape.kind, .int .i64 o.shape.r, pv]
end Go.Proofs.YtpadflhffiiglaaGreat

/- codec.writer: shapes. -/
namespace Go.Proofs.YtpadflhffiiglaaGreat
open Go.RowKit

def leS (s : Shp) : List UInt8 := leB 1 s.kind ++ (if s.kind = 1 then leF [s.r] else leB 1 s.p.length ++ leF (fV s.p))

set_option maxRecDepth 100000 in
set_option maxHeartbeats 4000000 in
theorem WShape_any (base b : Nat) (l : List UInt8) (s : Shp) (pv : Value) (w : World) (hw : WrT 80 w base b l) (hb : base ≤ b) (hz : ∀ w', Fr base b w w' → VsS w' pv s.p) (hl : l.length + 16 * s.p.length + 64 ≤ 140737488355000) :
    Calls Tryz.prog 29 #[.pointer (some ⟨b, 0, none⟩), vS s pv] w fun e w' =>
      e = .returned (.tuple #[]) ∧ WrT 80 w' base b (l ++ leS s) ∧ Fr base b w w' := by
  obtain ⟨k, r, p⟩ := s
  simp only at hz hl
  have hblt := hw.lt
  obtain ⟨ao, c, rfl, -⟩ := (hz w (Fr.refl _ _ _)).form
  have hcb := (Chg.refl [] w).alloc (.cells #[.int .i64 k, .int .i64 r, .slice ao p.length c] 32)
  have hkb := Blk.new w #[.int .i64 k, .int .i64 r, .slice ao p.length c] 32
  have hf0 : Fr base b w (w.alloc (.cells #[.int .i64 k, .int .i64 r, .slice ao p.length c] 32)) := Fr.chg hcb (by omega)
  have hw0 := hw.k hcb
  have hz0 : ∀ w', Fr base b (w.alloc (.cells #[.int .i64 k, .int .i64 r, .slice ao p.length c] 32)) w' → VsS w' (.slice ao p.length c) p := fun w' h => hz w' (hf0.trans h)
  have hsz : (w.alloc (.cells #[.int .i64 k, .int .i64 r, .slice ao p.length c] 32)).heap.size = w.heap.size + 1 := by simp
  unfold vS
  obtain ⟨L, hL⟩ : ∃ L, L = leS ⟨k, r, p⟩ := ⟨_, rfl⟩
  rw [← hL]
  unfold leS at hL
  simp only at hL ⊢
  have HLL := hd hL
  clear hL
  clear hw hz hcb
  go_enter Tryz.func29, Tryz.ntmps29
  go_upto_region 1 with (fail)
  generalize w.alloc (.cells #[.int .i64 k, .int .i64 r, .slice ao p.length c] 32) = w0 at *
  have hbn : b ≠ w.heap.size := by omega
  generalize w.heap.size = bk at *
  have HQ : Hd (∀ wx, Fr base b w0 wx → wx.cell? ⟨bk, 0, none⟩ = some (.int .i64 k) ∧ wx.cell? ⟨bk, 1, none⟩ = some (.int .i64 r) ∧ wx.cell? ⟨bk, 2, none⟩ = some (.slice ao p.length c)) := hd fun wx hx => by
    have := hx.kp _ _ _ hkb (by decide) (fun e => hbn e.symm)
    exact ⟨this.cell 0, this.cell 1, this.cell 2⟩
  have HW0 := hd hw0
  have HF0 := hd hf0
  have HZ0 := hd hz0
  have HL := hd hl
  have HB : Hd (base ≤ w0.heap.size) := hd (by omega)
  clear hw0 hf0 hz0 hkb hbn hsz hl hblt
  refine anyH_start (n := 6) (L := #[false, false, false, false, false, false]) (by kernel_rfl) (by kernel_rfl) (S := (fun wx => Fr base b w0 wx)) (Fr.chg (Chg.refl _ _).drew HB.out) (fun hHeld => ?_)
  refine anyH_take (i := 0) (d := 4) (L' := #[true, false, false, false, false, false]) (v := ?v2) rfl rfl (by kernel_rfl) (fun _ _ _ h => h) (by rfl) ?hy2 (by assumption) ?rest2
  case hy2 => (intro wx hSw; (try dsimp only at hSw); (obtain ⟨q0, q1, q2⟩ := HQ.out _ hSw); go_simp; (try with_reducible rfl))
  simp only [Act.put, List.setIfInBounds_toArray, List.set_cons_zero, List.set_cons_succ]
  refine anyH_take (i := 1) (d := 5) (L' := #[true, true, false, false, false, false]) (v := ?v3) rfl rfl (by kernel_rfl) (fun _ _ _ h => h) (by rfl) ?hy3 (by assumption) ?rest3
  case hy3 => (intro wx hSw; (try dsimp only at hSw); (obtain ⟨q0, q1, q2⟩ := HQ.out _ hSw); go_simp; (try with_reducible rfl))
  simp only [Act.put, List.setIfInBounds_toArray, List.set_cons_zero, List.set_cons_succ]
  refine anyH_take (i := 2) (d := 6) (L' := #[true, true, true, false, false, false]) (v := ?v4) rfl rfl (by kernel_rfl) (fun _ _ _ h => h) (by rfl) ?hy4 (by assumption) ?rest4
  case hy4 => (intro wx hSw; (try dsimp only at hSw); (obtain ⟨q0, q1, q2⟩ := HQ.out _ hSw); go_simp; (try with_reducible rfl))
  simp only [Act.put, List.setIfInBounds_toArray, List.set_cons_zero, List.set_cons_succ]
  refine anyH_take (i := 3) (d := 7) (L' := #[true, true, true, true, false, false]) (v := ?v5) rfl rfl (by kernel_rfl) (fun _ _ _ h => h) (by rfl) ?hy5 (by assumption) ?rest5
  case hy5 => (intro wx hSw; (try dsimp only at hSw); (obtain ⟨q0, q1, q2⟩ := HQ.out _ hSw); go_simp; (try with_reducible rfl))
  simp only [Act.put, List.setIfInBounds_toArray, List.set_cons_zero, List.set_cons_succ]
  refine anyH_take (i := 4) (d := 8) (L' := #[true, true, true, true, true, false]) (v := ?v6) rfl rfl (by kernel_rfl) (fun _ _ _ h => h) (by rfl) ?hy6 (by assumption) ?rest6
  case hy6 => (intro wx hSw; (try dsimp only at hSw); (obtain ⟨q0, q1, q2⟩ := HQ.out _ hSw); go_simp; (try with_reducible rfl))
  simp only [Act.put, List.setIfInBounds_toArray, List.set_cons_zero, List.set_cons_succ]
  refine anyH_run (i := 5) (L' := #[true, true, true, true, true, true]) rfl (by kernel_rfl) (by rfl) (fun KK hKK => ?_)
  go_simp
  (refine (WTNum_any _ (by decide) 1 k base b _ _ (HW0.out.k (Chg.refl [] w0).drew) hb (by omega) (by omega) (by have := HL.out; omega)).mono ?_; rintro e w1 ⟨rfl, hw1, hf1⟩; have hfr1 := Fr.trans hHeld hf1; (try go_simp))
  refine hKK.out _ _ (by assumption) (fun hHeld => ?_)
  clear hKK KK
  try simp only [Act.put, List.setIfInBounds_toArray, List.set_cons_zero, List.set_cons_succ]
  refine wpAnyH_done (by kernel_rfl) ?_ _
  skip
  have HR1 := hd hfr1
  have HW1 := hd hw1
  have HB1 : Hd (base ≤ w1.heap.size) := hd (by have := hw1.lt; omega)
  have HN1 : Hd (b ≠ w1.heap.size) := hd (by have := hw1.lt; omega)
  clear hf1 hHeld hfr1 hw1
  obtain ⟨q0, q1, q2⟩ := HQ.out w1 HR1.out
  by_cases h1 : k = 1
  · subst h1
    go_upto_region 3 with (fail)
    clear q0 q1 q2
    refine anyH_start (n := 7) (L := #[false, false, false, false, false, false, false]) (by kernel_rfl) (by kernel_rfl) (S := (fun wx => Fr base b w1 wx)) (Fr.chg (Chg.refl _ _).drew HB1.out) (fun hHeld => ?_)
    refine anyH_take (i := 0) (d := 13) (L' := #[true, false, false, false, false, false, false]) (v := ?v10) rfl rfl (by kernel_rfl) (fun _ _ _ h => h) (by rfl) ?hy10 (by assumption) ?rest10
    case hy10 => (intro wx hSw; (try dsimp only at hSw); (obtain ⟨q0, q1, q2⟩ := HQ.out _ (HR1.out.trans hSw)); go_simp; (try with_reducible rfl))
    simp only [Act.put, List.setIfInBounds_toArray, List.set_cons_zero, List.set_cons_succ]
    refine anyH_take (i := 1) (d := 14) (L' := #[true, true, false, false, false, false, false]) (v := ?v11) rfl rfl (by kernel_rfl) (fun _ _ _ h => h) (by rfl) ?hy11 (by assumption) ?rest11
    case hy11 => (intro wx hSw; (try dsimp only at hSw); (obtain ⟨q0, q1, q2⟩ := HQ.out _ (HR1.out.trans hSw)); go_simp; (try with_reducible rfl))
    simp only [Act.put, List.setIfInBounds_toArray, List.set_cons_zero, List.set_cons_succ]
    refine anyH_take (i := 2) (d := 15) (L' := #[true, true, true, false, false, false, false]) (v := ?v12) rfl rfl (by kernel_rfl) (fun _ _ _ h => h) (by rfl) ?hy12 (by assumption) ?rest12
    case hy12 => (intro wx hSw; (try dsimp only at hSw); (obtain ⟨q0, q1, q2⟩ := HQ.out _ (HR1.out.trans hSw)); go_simp; (try with_reducible rfl))
    simp only [Act.put, List.setIfInBounds_toArray, List.set_cons_zero, List.set_cons_succ]
    refine anyH_take (i := 3) (d := 16) (L' := #[true, true, true, true, false, false, false]) (v := ?v13) rfl rfl (by kernel_rfl) (fun _ _ _ h => h) (by rfl) ?hy13 (by assumption) ?rest13
    case hy13 => (intro wx hSw; (try dsimp only at hSw); (obtain ⟨q0, q1, q2⟩ := HQ.out _ (HR1.out.trans hSw)); go_simp; (try with_reducible rfl))
    simp only [Act.put, List.setIfInBounds_toArray, List.set_cons_zero, List.set_cons_succ]
    refine anyH_take (i := 4) (d := 17) (L' := #[true, true, true, true, true, false, false]) (v := ?v14) rfl rfl (by kernel_rfl) (fun _ _ _ h => h) (by rfl) ?hy14 (by assumption) ?rest14
    case hy14 => (intro wx hSw; (try dsimp only at hSw); (obtain ⟨q0, q1, q2⟩ := HQ.out _ (HR1.out.trans hSw)); go_simp; (try with_reducible rfl))
    simp only [Act.put, List.setIfInBounds_toArray, List.set_cons_zero, List.set_cons_succ]
    refine anyH_run (i := 5) (L' := #[true, true, true, true, true, true, false]) rfl (by kernel_rfl) (by rfl) (fun KK hKK => ?_)
    go_simp
    (have hcc := (Chg.refl [] w1.drew).alloc (.cells #[.int .i64 r] 25); have hnb := Blk.new w1.drew #[.int .i64 r] 25; have hm5 := Fr.trans hHeld (Fr.chg hcc HB1.out))
    refine hKK.out _ _ (by assumption) (fun hHeld => ?_)
    clear hKK KK
    try simp only [Act.put, List.setIfInBounds_toArray, List.set_cons_zero, List.set_cons_succ]
    refine anyH_run (i := 6) (L' := #[true, true, true, true, true, true, true]) rfl (by kernel_rfl) (by rfl) (fun KK hKK => ?_)
    go_simp
    (refine (WTF_any _ (by decide) base b _ _ [r] _ ((HW1.out.k (Chg.refl [] w1).drew).k hcc) hb (Fs.fr hnb (by decide) (fun e => HN1.out e.symm) rfl rfl (by simp)) (by have := HL.out; simp; omega)).mono ?_; rintro e w2 ⟨rfl, hw2, hf2⟩; have hfr2 := Fr.trans hm5 hf2; (try go_simp))
    refine hKK.out _ _ (by assumption) (fun hHeld => ?_)
    clear hKK KK
    try simp only [Act.put, List.setIfInBounds_toArray, List.set_cons_zero, List.set_cons_succ]
    refine wpAnyH_done (by kernel_rfl) ?_ _
    skip
    go_wp2_with (fail)
    refine bodyPost_ret (v := .tuple #[]) (by simp only [results]; go_simp) rfl ⟨rfl, by rw [HLL.out]; simpa using hw2, (HF0.out.trans HR1.out).trans hfr2⟩
  · have g1 : (k == 1) = false := by rw [beq_eq_false_iff_ne]; exact h1
    have H1 := hd h1
    clear h1
    go_upto_region 4 with (fail)
    clear q0 q1 q2
    refine anyH_start (n := 10) (L := #[false, false, false, false, false, false, false, false, false, false]) (by kernel_rfl) (by kernel_rfl) (S := (fun wx => Fr base b w1 wx)) (Fr.chg (Chg.refl _ _).drew HB1.out) (fun hHeld => ?_)
    refine anyH_take (i := 0) (d := 20) (L' := #[true, false, false, false, false, false, false, false, false, false]) (v := ?v19) rfl rfl (by kernel_rfl) (fun _ _ _ h => h) (by rfl) ?hy19 (by assumption) ?rest19
    case hy19 => (intro wx hSw; (try dsimp only at hSw); (obtain ⟨q0, q1, q2⟩ := HQ.out _ (HR1.out.trans hSw)); go_simp; (try with_reducible rfl))
    simp only [Act.put, List.setIfInBounds_toArray, List.set_cons_zero, List.set_cons_succ]
    refine anyH_take (i := 1) (d := 21) (L' := #[true, true, false, false, false, false, false, false, false, false]) (v := ?v20) rfl rfl (by kernel_rfl) (fun _ _ _ h => h) (by rfl) ?hy20 (by assumption) ?rest20
    case hy20 => (intro wx hSw; (try dsimp only at hSw); (obtain ⟨q0, q1, q2⟩ := HQ.out _ (HR1.out.trans hSw)); go_simp; (try with_reducible rfl))
    simp only [Act.put, List.setIfInBounds_toArray, List.set_cons_zero, List.set_cons_succ]
    refine anyH_take (i := 2) (d := 22) (L' := #[true, true, true, false, false, false, false, false, false, false]) (v := ?v21) rfl rfl (by kernel_rfl) (fun _ _ _ h => h) (by rfl) ?hy21 (by assumption) ?rest21
    case hy21 => (intro wx hSw; (try dsimp only at hSw); (obtain ⟨q0, q1, q2⟩ := HQ.out _ (HR1.out.trans hSw)); go_simp; (try with_reducible rfl))
    simp only [Act.put, List.setIfInBounds_toArray, List.set_cons_zero, List.set_cons_succ]
    refine anyH_take (i := 3) (d := 23) (L' := #[true, true, true, true, false, false, false, false, false, false]) (v := ?v22) rfl rfl (by kernel_rfl) (fun _ _ _ h => h) (by rfl) ?hy22 (by assumption) ?rest22
    case hy22 => (intro wx hSw; (try dsimp only at hSw); (obtain ⟨q0, q1, q2⟩ := HQ.out _ (HR1.out.trans hSw)); go_simp; (try with_reducible rfl))
    simp only [Act.put, List.setIfInBounds_toArray, List.set_cons_zero, List.set_cons_succ]
    refine anyH_take (i := 4) (d := 24) (L' := #[true, true, true, true, true, false, false, false, false, false]) (v := ?v23) rfl rfl (by kernel_rfl) (fun _ _ _ h => h) (by rfl) ?hy23 (by assumption) ?rest23
    case hy23 => (intro wx hSw; (try dsimp only at hSw); (obtain ⟨q0, q1, q2⟩ := HQ.out _ (HR1.out.trans hSw)); go_simp; (try with_reducible rfl))
    simp only [Act.put, List.setIfInBounds_toArray, List.set_cons_zero, List.set_cons_succ]
    refine anyH_take (i := 5) (d := 25) (L' := #[true, true, true, true, true, true, false, false, false, false]) (v := ?v24) rfl rfl (by kernel_rfl) (fun _ _ _ h => h) (by rfl) ?hy24 (by assumption) ?rest24
    case hy24 => (intro wx hSw; (try dsimp only at hSw); (obtain ⟨q0, q1, q2⟩ := HQ.out _ (HR1.out.trans hSw)); go_simp; (try with_reducible rfl))
    simp only [Act.put, List.setIfInBounds_toArray, List.set_cons_zero, List.set_cons_succ]
    refine anyH_take (i := 7) (d := 27) (L' := #[true, true, true, true, true, true, false, true, false, false]) (v := ?v25) rfl rfl (by kernel_rfl) (fun _ _ _ h => h) (by rfl) ?hy25 (by assumption) ?rest25
    case hy25 => (intro wx hSw; (try dsimp only at hSw); (obtain ⟨q0, q1, q2⟩ := HQ.out _ (HR1.out.trans hSw)); go_simp; (try with_reducible rfl))
    simp only [Act.put, List.setIfInBounds_toArray, List.set_cons_zero, List.set_cons_succ]
    refine anyH_take (i := 8) (d := 28) (L' := #[true, true, true, true, true, true, false, true, true, false]) (v := ?v26) rfl rfl (by kernel_rfl) (fun _ _ _ h => h) (by rfl) ?hy26 (by assumption) ?rest26
    case hy26 => (intro wx hSw; (try dsimp only at hSw); (obtain ⟨q0, q1, q2⟩ := HQ.out _ (HR1.out.trans hSw)); go_simp; (try with_reducible rfl))
    simp only [Act.put, List.setIfInBounds_toArray, List.set_cons_zero, List.set_cons_succ]
    refine anyH_run (i := 6) (L' := #[true, true, true, true, true, true, true, true, true, false]) rfl (by kernel_rfl) (by rfl) (fun KK hKK => ?_)
    go_simp
    (refine (WTNum_any _ (by decide) 1 p.length base b _ _ (HW1.out.k (Chg.refl [] w1).drew) hb (by omega) (by omega) (by have := HL.out; simp; omega)).mono ?_; rintro e w2 ⟨rfl, hw2, hf2⟩; have hm6 := Fr.trans hHeld hf2; (try go_simp))
    refine hKK.out _ _ (by assumption) (fun hHeld => ?_)
    clear hKK KK
    try simp only [Act.put, List.setIfInBounds_toArray, List.set_cons_zero, List.set_cons_succ]
    refine anyH_run (i := 9) (L' := #[true, true, true, true, true, true, true, true, true, true]) rfl (by kernel_rfl) (by rfl) (fun KK hKK => ?_)
    go_simp
    (refine (WTV_any _ (by decide) base b _ _ p _ hw2 hb (fun w' h => HZ0.out w' ((HR1.out.trans hm6).trans h)) (by have := HL.out; simp; omega)).mono ?_; rintro e w3 ⟨rfl, hw3, hf3⟩; have hm9 := Fr.trans hm6 hf3; (try go_simp))
    refine hKK.out _ _ (by assumption) (fun hHeld => ?_)
    clear hKK KK
    try simp only [Act.put, List.setIfInBounds_toArray, List.set_cons_zero, List.set_cons_succ]
    refine wpAnyH_done (by kernel_rfl) ?_ _
    skip
    go_wp2_with (fail)
    go_end0
    exact ⟨rfl, by have := hw3; rw [HLL.out, if_neg H1.out]; simpa using this, (HF0.out.trans HR1.out).trans hm9⟩
end Go.Proofs.YtpadflhffiiglaaGreat

/- codec.writer: orders. -/
namespace Go.Proofs.YtpadflhffiiglaaGreat
open Go.RowKit

def leO (o : Ord) : List UInt8 := leB 1 o.kind ++
  (if o.kind = 1 then leF (fV [o.pos, o.vel]) ++ leF [o.angle, o.spin, o.density] ++ leS o.shape
  else if o.kind = 2 ∨ o.kind = 4 then leB 8 o.id
  else if o.kind = 3 then leB 8 o.a ++ leB 8 o.b ++ leF (fV [o.pos, o.vel]) ++ leF [o.len]
  else if o.kind = 5 then leB 8 o.id ++ leF (fV [o.vel]) ++ leF [o.spin]
  else if o.kind = 6 then leF (fV [o.vel])
  else [])
/-- A literal that is laid on the way. -/
theorem Fr.lit0 {t : TypeId} {base b : Nat} {w0 w : World} {L : List UInt8} (_h : Fr base b w0 w) (hW : WrT t w base b L) (hb : base ≤ b) (o : Obj) : Fr base b w (w.alloc o) :=
  Fr.chg ((Chg.refl [] w).alloc o) (by have := hW.lt; omega)
theorem Fr.litF {t : TypeId} {base b : Nat} {w0 w : World} {L : List UInt8} (h : Fr base b w0 w) (hW : WrT t w base b L) (hb : base ≤ b) (l : List Int) (cs : Array Value) (e : TypeId) (n : Nat) (he : e ≠ 5) (hcs : cs = (l.map (Value.int .i64)).toArray) (hn : n = l.length) (hl : l.length ≤ 140737488355328) :
    WrT t (w.alloc (.cells cs e)) base b L ∧ Fr base b w0 (w.alloc (.cells cs e)) ∧ ∀ w', Fr base b (w.alloc (.cells cs e)) w' → Fs w' (.slice (some ⟨w.heap.size, 0, none⟩) n n) l :=
  ⟨hW.k ((Chg.refl [] w).alloc _), h.trans (Fr.lit0 h hW hb _), Fs.fr (Blk.new w cs e) he (by have := hW.lt; omega) hcs hn hl⟩
theorem Fr.litV {t : TypeId} {base b : Nat} {w0 w : World} {L : List UInt8} (h : Fr base b w0 w) (hW : WrT t w base b L) (hb : base ≤ b) (l : List V2) (cs : Array Value) (e : TypeId) (n : Nat) (he : e ≠ 5) (hcs : cs = (l.flatMap cV).toArray) (hn : n = l.length) (hl : l.length ≤ 140737488355328) :
    WrT t (w.alloc (.cells cs e)) base b L ∧ Fr base b w0 (w.alloc (.cells cs e)) ∧ ∀ w', Fr base b (w.alloc (.cells cs e)) w' → VsS w' (.slice (some ⟨w.heap.size, 0, none⟩) n n) l :=
  ⟨hW.k ((Chg.refl [] w).alloc _), h.trans (Fr.lit0 h hW hb _), VsS.fr (Blk.new w cs e) he (by have := hW.lt; omega) hcs hn hl⟩

end Go.Proofs.YtpadflhffiiglaaGreat

/- codec.writer.order, kind None. -/
namespace Go.Proofs.YtpadflhffiiglaaGreat
open Go.RowKit

set_option maxRecDepth 100000 in
set_option maxHeartbeats 8000000 in
theorem WOrderK0_any (base b : Nat) (l : List UInt8) (o : Ord) (pv : Value) (w : World) (hw : WrT 80 w base b l) (hb : base ≤ b) (hz : ∀ w', Fr base b w w' → VsS w' pv o.shape.p) (h1 : o.kind ≠ 1) (h2 : o.kind ≠ 2) (h3 : o.kind ≠ 3) (h4 : o.kind ≠ 4) (h5 : o.kind ≠ 5) (h6 : o.kind ≠ 6) (hl : l.length + 16 * o.shape.p.length + 200 ≤ 140737488355000) :
    Calls Tryz.prog 51 #[.pointer (some ⟨b, 0, none⟩), vO o pv] w fun e w' =>
      e = .returned (.tuple #[]) ∧ WrT 80 w' base b (l ++ leO o) ∧ Fr base b w w' := by
  obtain ⟨L, hL⟩ : ∃ L, L = leO o := ⟨_, rfl⟩
  rw [← hL]
  unfold leO at hL
  obtain ⟨k, i, a, b1, ⟨px, py⟩, ⟨vx, vy⟩, an, sp, de, ln, ⟨sk, sr, p⟩⟩ := o
  simp only at hz hl hL
  simp only at h1 h2 h3 h4 h5 h6
  have hLE : L = leB 1 k := by rw [hL]; simp [h1, h2, h3, h4, h5, h6]
  replace hL := hLE
  clear hLE
  have g1 : (k == 1) = false := by rw [beq_eq_false_iff_ne]; exact h1
  have g2 : (k == 2) = false := by rw [beq_eq_false_iff_ne]; exact h2
  have g3 : (k == 3) = false := by rw [beq_eq_false_iff_ne]; exact h3
  have g4 : (k == 4) = false := by rw [beq_eq_false_iff_ne]; exact h4
  have g5 : (k == 5) = false := by rw [beq_eq_false_iff_ne]; exact h5
  have g6 : (k == 6) = false := by rw [beq_eq_false_iff_ne]; exact h6
  clear h1 h2 h3 h4 h5 h6
  have HLL := hd hL
  clear hL
  have hblt := hw.lt
  obtain ⟨ao, c, rfl, -⟩ := (hz w (Fr.refl _ _ _)).form
  have hcb := (Chg.refl [] w).alloc (.cells #[.int .i64 k, .int .i64 i, .int .i64 a, .int .i64 b1, .int .i64 px, .int .i64 py, .int .i64 vx, .int .i64 vy, .int .i64 an, .int .i64 sp, .int .i64 de, .int .i64 ln, .int .i64 sk, .int .i64 sr, .slice ao p.length c] 120)
  have hkb := Blk.new w #[.int .i64 k, .int .i64 i, .int .i64 a, .int .i64 b1, .int .i64 px, .int .i64 py, .int .i64 vx, .int .i64 vy, .int .i64 an, .int .i64 sp, .int .i64 de, .int .i64 ln, .int .i64 sk, .int .i64 sr, .slice ao p.length c] 120
  have hf0 : Fr base b w (w.alloc (.cells #[.int .i64 k, .int .i64 i, .int .i64 a, .int .i64 b1, .int .i64 px, .int .i64 py, .int .i64 vx, .int .i64 vy, .int .i64 an, .int .i64 sp, .int .i64 de, .int .i64 ln, .int .i64 sk, .int .i64 sr, .slice ao p.length c] 120)) := Fr.chg hcb (by omega)
  have hw0 := hw.k hcb
  have hz0 : ∀ w', Fr base b (w.alloc (.cells #[.int .i64 k, .int .i64 i, .int .i64 a, .int .i64 b1, .int .i64 px, .int .i64 py, .int .i64 vx, .int .i64 vy, .int .i64 an, .int .i64 sp, .int .i64 de, .int .i64 ln, .int .i64 sk, .int .i64 sr, .slice ao p.length c] 120)) w' → VsS w' (.slice ao p.length c) p := fun w' h => hz w' (hf0.trans h)
  have hsz : (w.alloc (.cells #[.int .i64 k, .int .i64 i, .int .i64 a, .int .i64 b1, .int .i64 px, .int .i64 py, .int .i64 vx, .int .i64 vy, .int .i64 an, .int .i64 sp, .int .i64 de, .int .i64 ln, .int .i64 sk, .int .i64 sr, .slice ao p.length c] 120)).heap.size = w.heap.size + 1 := by simp
  unfold vO
  simp only
  clear hw hz hcb
  go_enter Tryz.func51, Tryz.ntmps51
  go_upto_region 1 with (fail)
  generalize w.alloc (.cells #[.int .i64 k, .int .i64 i, .int .i64 a, .int .i64 b1, .int .i64 px, .int .i64 py, .int .i64 vx, .int .i64 vy, .int .i64 an, .int .i64 sp, .int .i64 de, .int .i64 ln, .int .i64 sk, .int .i64 sr, .slice ao p.length c] 120) = w0 at *
  have hbn : b ≠ w.heap.size := by omega
  generalize w.heap.size = bk at *
  have HQ : Hd (∀ wx, Fr base b w0 wx → wx.cell? ⟨bk, 0, none⟩ = some (.int .i64 k) ∧ wx.cell? ⟨bk, 1, none⟩ = some (.int .i64 i) ∧ wx.cell? ⟨bk, 2, none⟩ = some (.int .i64 a) ∧ wx.cell? ⟨bk, 3, none⟩ = some (.int .i64 b1) ∧ wx.cell? ⟨bk, 4, none⟩ = some (.int .i64 px) ∧ wx.cell? ⟨bk, 5, none⟩ = some (.int .i64 py) ∧ wx.cell? ⟨bk, 6, none⟩ = some (.int .i64 vx) ∧ wx.cell? ⟨bk, 7, none⟩ = some (.int .i64 vy) ∧ wx.cell? ⟨bk, 8, none⟩ = some (.int .i64 an) ∧ wx.cell? ⟨bk, 9, none⟩ = some (.int .i64 sp) ∧ wx.cell? ⟨bk, 10, none⟩ = some (.int .i64 de) ∧ wx.cell? ⟨bk, 11, none⟩ = some (.int .i64 ln) ∧ wx.cell? ⟨bk, 12, none⟩ = some (.int .i64 sk) ∧ wx.cell? ⟨bk, 13, none⟩ = some (.int .i64 sr) ∧ wx.cell? ⟨bk, 14, none⟩ = some (.slice ao p.length c)) := hd fun wx hx => by
    have := hx.kp _ _ _ hkb (by decide) (fun e => hbn e.symm)
    exact ⟨this.cell 0, this.cell 1, this.cell 2, this.cell 3, this.cell 4, this.cell 5, this.cell 6, this.cell 7, this.cell 8, this.cell 9, this.cell 10, this.cell 11, this.cell 12, this.cell 13, this.cell 14⟩
  have HF0 := hd hf0
  have HZ0 := hd hz0
  have HL := hd hl
  have HB : Hd (base ≤ w0.heap.size) := hd (by omega)
  have hW := hw0.k (Chg.refl [] w0).drew
  clear hw0 hf0 hz0 hkb hbn hsz hl hblt
  refine anyH_start (n := 6) (L := #[false, false, false, false, false, false]) (by kernel_rfl) (by kernel_rfl) (S := (fun wx => Fr base b w0 wx)) (Fr.chg (Chg.refl _ _).drew HB.out) (fun hHeld => ?_)
  generalize w0.drew = w2 at *
  refine anyH_take (i := 0) (d := 4) (L' := #[true, false, false, false, false, false]) (v := ?v2) rfl rfl (by kernel_rfl) (fun _ _ _ h => h) (by rfl) ?hy2 (by assumption) ?rest2
  case hy2 => (intro wx hSw; (try dsimp only at hSw); (obtain ⟨q0, q1, q2, q3, q4, q5, q6, q7, q8, q9, q10, q11, q12, q13, q14⟩ := HQ.out _ hSw); go_simp; (try with_reducible rfl))
  simp only [Act.put, List.setIfInBounds_toArray, List.set_cons_zero, List.set_cons_succ]
  refine anyH_take (i := 1) (d := 5) (L' := #[true, true, false, false, false, false]) (v := ?v3) rfl rfl (by kernel_rfl) (fun _ _ _ h => h) (by rfl) ?hy3 (by assumption) ?rest3
  case hy3 => (intro wx hSw; (try dsimp only at hSw); (obtain ⟨q0, q1, q2, q3, q4, q5, q6, q7, q8, q9, q10, q11, q12, q13, q14⟩ := HQ.out _ hSw); go_simp; (try with_reducible rfl))
  simp only [Act.put, List.setIfInBounds_toArray, List.set_cons_zero, List.set_cons_succ]
  refine anyH_take (i := 2) (d := 6) (L' := #[true, true, true, false, false, false]) (v := ?v4) rfl rfl (by kernel_rfl) (fun _ _ _ h => h) (by rfl) ?hy4 (by assumption) ?rest4
  case hy4 => (intro wx hSw; (try dsimp only at hSw); (obtain ⟨q0, q1, q2, q3, q4, q5, q6, q7, q8, q9, q10, q11, q12, q13, q14⟩ := HQ.out _ hSw); go_simp; (try with_reducible rfl))
  simp only [Act.put, List.setIfInBounds_toArray, List.set_cons_zero, List.set_cons_succ]
  refine anyH_take (i := 3) (d := 7) (L' := #[true, true, true, true, false, false]) (v := ?v5) rfl rfl (by kernel_rfl) (fun _ _ _ h => h) (by rfl) ?hy5 (by assumption) ?rest5
  case hy5 => (intro wx hSw; (try dsimp only at hSw); (obtain ⟨q0, q1, q2, q3, q4, q5, q6, q7, q8, q9, q10, q11, q12, q13, q14⟩ := HQ.out _ hSw); go_simp; (try with_reducible rfl))
  simp only [Act.put, List.setIfInBounds_toArray, List.set_cons_zero, List.set_cons_succ]
  refine anyH_take (i := 4) (d := 8) (L' := #[true, true, true, true, true, false]) (v := ?v6) rfl rfl (by kernel_rfl) (fun _ _ _ h => h) (by rfl) ?hy6 (by assumption) ?rest6
  case hy6 => (intro wx hSw; (try dsimp only at hSw); (obtain ⟨q0, q1, q2, q3, q4, q5, q6, q7, q8, q9, q10, q11, q12, q13, q14⟩ := HQ.out _ hSw); go_simp; (try with_reducible rfl))
  simp only [Act.put, List.setIfInBounds_toArray, List.set_cons_zero, List.set_cons_succ]
  refine anyH_run (i := 5) (L' := #[true, true, true, true, true, true]) rfl (by kernel_rfl) (by rfl) (fun KK hKK => ?_)
  go_simp
  (refine (WTNum_any _ (by decide) 1 k base b _ _ hW hb (by omega) (by omega) (by have := HL.out; simp; omega)).mono ?_; rintro e w5 ⟨rfl, hW5, hf⟩; have hm := Fr.trans hHeld hf; (try replace hV := fun w' h => hV w' (hf.trans h)); (try replace hF := fun w' h => hF w' (hf.trans h)); replace hW := hW5; clear hf hW5; (try go_simp))
  refine hKK.out _ _ (by assumption) (fun hHeld => ?_)
  clear hKK KK
  try simp only [Act.put, List.setIfInBounds_toArray, List.set_cons_zero, List.set_cons_succ]
  refine wpAnyH_done (by kernel_rfl) ?_ _
  skip
  have HR1 := hd hm
  have HW1 := hd hW
  have HB1 : Hd (base ≤ w5.heap.size) := hd (by have := hW.lt; omega)
  clear hHeld hm hW
  obtain ⟨q0, q1, q2, q3, q4, q5, q6, q7, q8, q9, q10, q11, q12, q13, q14⟩ := HQ.out w5 HR1.out
  generalize w5 = w1 at *
  go_wp2_with (fail)
  go_end0
  exact ⟨rfl, by have := HW1.out; rw [HLL.out]; simpa using this, HF0.out.trans HR1.out⟩
end Go.Proofs.YtpadflhffiiglaaGreat
