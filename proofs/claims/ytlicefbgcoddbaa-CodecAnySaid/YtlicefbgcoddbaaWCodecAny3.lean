/- Words and walks that CodecAny rests on, part 3. -/
import Derived.Test.YtlicefbgcoddbaaWCodecAny2
import Derived.Test.YtlicefbgcoddbaaWCodecAny1
import Derived.Laws.Rows
import Derived.Laws.Tables
/- Package order: which orders may be. -/
namespace Go.Proofs.Ytlicefbgcoddbaa
open Go.RowKit

structure Ord where
  kind : Int
  id : Int
  a : Int
  b : Int
  pos : V2
  vel : V2
  angle : Int
  spin : Int
  density : Int
  len : Int
  shape : Shp
def IsSl (v : Value) : Prop := ∃ ao n c, v = .slice ao n c
theorem VsS.sl {w : World} {v : Value} {l : List V2} (h : VsS w v l) : IsSl v := let ⟨ao, c, e, _⟩ := h.form; ⟨ao, _, c, e⟩
def noS : Shp := ⟨0, 0, []⟩
def vO (o : Ord) (pv : Value) : Value := .agg #[.int .i64 o.kind, .int .i64 o.id, .int .i64 o.a, .int .i64 o.b, .int .i64 o.pos.1, .int .i64 o.pos.2, .int .i64 o.vel.1, .int .i64 o.vel.2, .int .i64 o.angle, .int .i64 o.spin, .int .i64 o.density, .int .i64 o.len, .int .i64 o.shape.kind, .int .i64 o.shape.r, pv]
def cO (o : Ord) (pv : Value) : List Value := [.int .i64 o.kind, .int .i64 o.id, .int .i64 o.a, .int .i64 o.b, .int .i64 o.pos.1, .int .i64 o.pos.2, .int .i64 o.vel.1, .int .i64 o.vel.2, .int .i64 o.angle, .int .i64 o.spin, .int .i64 o.density, .int .i64 o.len, .int .i64 o.shape.kind, .int .i64 o.shape.r, pv]
/-- All numbers of an order fit 64 bits. -/
structure IO (o : Ord) : Prop where
  kind : I64 o.kind
  id : I64 o.id
  a : I64 o.a
  b : I64 o.b
  pos : IV o.pos
  vel : IV o.vel
  angle : I64 o.angle
  spin : I64 o.spin
  density : I64 o.density
  len : I64 o.len
  skind : I64 o.shape.kind
  sr : I64 o.shape.r
  sp : ∀ x ∈ o.shape.p, IV x
def bodyO (o : Ord) : Bdy := ⟨0, o.pos, o.vel, o.angle, o.spin, o.density, o.shape⟩
def jointO (o : Ord) : Jnt := ⟨0, o.a, o.b, o.pos, o.vel, o.len⟩
def usedO (o : Ord) : Ord :=
  if o.kind = 1 then ⟨o.kind, 0, 0, 0, o.pos, o.vel, o.angle, o.spin, o.density, 0, o.shape⟩
  else if o.kind = 2 ∨ o.kind = 4 then ⟨o.kind, o.id, 0, 0, (0, 0), (0, 0), 0, 0, 0, 0, noS⟩
  else if o.kind = 3 then ⟨o.kind, 0, o.a, o.b, o.pos, o.vel, 0, 0, 0, o.len, noS⟩
  else if o.kind = 5 then ⟨o.kind, o.id, 0, 0, (0, 0), o.vel, 0, o.spin, 0, 0, noS⟩
  else if o.kind = 6 then ⟨o.kind, 0, 0, 0, (0, 0), o.vel, 0, 0, 0, 0, noS⟩
  else ⟨o.kind, 0, 0, 0, (0, 0), (0, 0), 0, 0, 0, 0, noS⟩
def usedP (o : Ord) (pv : Value) : Value := if o.kind = 1 then pv else .slice none 0 0
def sameO (x y : Ord) : Bool :=
  sameS x.shape y.shape && decide (x.kind = y.kind) && decide (x.id = y.id) && decide (x.a = y.a) && decide (x.b = y.b) && (decide (x.pos.1 = y.pos.1) && decide (x.pos.2 = y.pos.2)) && (decide (x.vel.1 = y.vel.1) && decide (x.vel.2 = y.vel.2)) &&
    decide (x.angle = y.angle) && decide (x.spin = y.spin) && decide (x.density = y.density) && decide (x.len = y.len)
def kindO (o : Ord) : Bool :=
  if o.kind = 1 then rightB (bodyO o)
  else if o.kind = 2 ∨ o.kind = 4 then decide (1 ≤ o.id)
  else if o.kind = 3 then rightJ (jointO o)
  else if o.kind = 5 then decide (1 ≤ o.id) && nearV o.vel 4611686018427387904 && decide (absF o.spin ≤ 4611686018427387904)
  else if o.kind = 6 then nearV o.vel 17592186044416
  else false
def rightO (o : Ord) : Bool := sameO o (usedO o) && kindO o
theorem used_p (o : Ord) {w : World} {pv : Value} (h : VsS w pv o.shape.p) : VsS w (usedP o pv) (usedO o).shape.p := by
  unfold usedP usedO
  by_cases h1 : o.kind = 1
  · rw [if_pos h1, if_pos h1]; exact h
  · rw [if_neg h1, if_neg h1]
    have hn : VsS w (.slice none 0 0) [] := Rd.ofOwn (e := 30) (base := 0) (World.ownsRow_nil _ _ _ _)
    by_cases h2 : o.kind = 2 ∨ o.kind = 4
    · rw [if_pos h2]; exact hn
    · rw [if_neg h2]
      by_cases h3 : o.kind = 3
      · rw [if_pos h3]; exact hn
      · rw [if_neg h3]
        by_cases h5 : o.kind = 5
        · rw [if_pos h5]; exact hn
        · rw [if_neg h5]
          by_cases h6 : o.kind = 6
          · rw [if_pos h6]; exact hn
          · rw [if_neg h6]; exact hn

set_option maxHeartbeats 4000000 in
theorem OBody_any (w : World) (o : Ord) (pv : Value) (hpv : IsSl pv) : Calls Try.prog 28 #[vO o pv] w fun e w' => e = .returned (vB (bodyO o) pv) ∧ Chg [] w w' := by
  obtain ⟨k, i, a, b, ⟨px, py⟩, ⟨vx, vy⟩, an, sp, de, ln, ⟨sk, sr, p⟩⟩ := o
  obtain ⟨ao, n, c, rfl⟩ := hpv
  unfold vO vB bodyO
  simp only
  go_enter Try.func28, Try.ntmps28
  go_wp2
  refine bodyPost_ret (v := .agg #[.int .i64 0, .int .i64 px, .int .i64 py, .int .i64 vx, .int .i64 vy, .int .i64 an, .int .i64 sp, .int .i64 de, .int .i64 sk, .int .i64 sr, .slice ao n c]) (by simp only [results]; go_simp) rfl ⟨rfl, ?_⟩
  exact ((Chg.refl [] w).alloc _).alloc _
set_option maxHeartbeats 4000000 in
theorem OJoint_any (w : World) (o : Ord) (pv : Value) (hpv : IsSl pv) : Calls Try.prog 30 #[vO o pv] w fun e w' => e = .returned (vJ (jointO o)) ∧ Chg [] w w' := by
  obtain ⟨k, i, a, b, ⟨px, py⟩, ⟨vx, vy⟩, an, sp, de, ln, ⟨sk, sr, p⟩⟩ := o
  obtain ⟨ao, n, c, rfl⟩ := hpv
  unfold vO vJ jointO
  simp only
  go_enter Try.func30, Try.ntmps30
  go_wp2
  refine bodyPost_ret (v := .agg #[.int .i64 0, .int .i64 a, .int .i64 b, .int .i64 px, .int .i64 py, .int .i64 vx, .int .i64 vy, .int .i64 ln]) (by simp only [results]; go_simp) rfl ⟨rfl, ?_⟩
  exact ((Chg.refl [] w).alloc _).alloc _
end Go.Proofs.Ytlicefbgcoddbaa

/- Reader.V; codec.reader: shapes. -/
namespace Go.Proofs.Ytlicefbgcoddbaa
open Go.RowKit

def plR (s : St) : V2 × St := (((numR 8 s).1, (numR 8 (numR 8 s).2).1), (numR 8 (numR 8 s).2).2)
set_option maxHeartbeats 800000 in
theorem VB_any (base b : Nat) (s : St) (w : World) (hr : RdB base w b s) (hbase : base ≤ w.heap.size) :
    Calls Try.prog 39 #[.pointer (some ⟨b, 0, none⟩)] w fun e w' => e = .returned (vV (plR s).1) ∧ RdB base w' b (plR s).2 ∧ Chg [b] w w' := by
  unfold vV plR
  simp only
  have hc1 := fun W (h : RdB base W b s) => FB_any base b s W h
  have hc2 := fun W (h : RdB base W b (numR 8 s).2) => FB_any base b (numR 8 s).2 W h
  generalize numR 8 (numR 8 s).2 = z at *
  generalize numR 8 s = y at *
  have hlt := hr.lt
  have hk := Blk.new w #[.int .i64 0, .int .i64 0] 30
  have hr0 := hr.k ((Chg.refl [] w).alloc (.cells #[.int .i64 0, .int .i64 0] 30))
  have hc0 : Chg [b] w (w.alloc (.cells #[.int .i64 0, .int .i64 0] 30)) := (Chg.refl [b] w).alloc _
  go_enter Try.func39, Try.ntmps39
  go_wp2_with fail
  refine (hc1 _ hr0).mono ?_
  rintro e w1 ⟨rfl, hr1, hm1⟩
  have hk1 := hk.chg hm1 (by simp; omega)
  have hm1' := hc0.trans hm1 (fun x hx _ => hx)
  go_wp2_with fail
  refine (hc2 _ hr1).mono ?_
  rintro e w2 ⟨rfl, hr2, hm2⟩
  have hk2 := hk1.chg hm2 (by simp; omega)
  have hm2' := hm1'.trans hm2 (fun x hx _ => hx)
  have q0 := hk2.cell 0
  have q1 := hk2.cell 1
  have f0 := hk2.free 0
  have f1 := hk2.free 1
  simp at q0 q1
  clear hk hr0 hc0 hk1 hm1' hr1 hm1 hm2 hc1 hc2
  go_wp2_with fail
  have hk3 := (hk2.set 0 (.int .i64 y.1)).set 1 (.int .i64 z.1)
  have p0 := hk3.cell 0
  have p1 := hk3.cell 1
  simp at p0 p1
  refine bodyPost_ret (v := .agg #[.int .i64 y.1, .int .i64 z.1]) ?_ rfl ?_
  · simp only [results]
    go_simp
  · have hX : Chg [w.heap.size] w2 ((w2.setCell ⟨w.heap.size, 0, none⟩ (.int .i64 y.1)).setCell ⟨w.heap.size, 1, none⟩ (.int .i64 z.1)) := ((Chg.refl _ _).setCell _ _ (by simp)).setCell _ _ (by simp)
    exact ⟨rfl, hr2.keep hX (by simp; omega), (hm2'.setCell _ _ (by simp)).setCell _ _ (by simp)⟩
end Go.Proofs.Ytlicefbgcoddbaa

/- order.used. -/
namespace Go.Proofs.Ytlicefbgcoddbaa
open Go.RowKit

/-- A record of an order's own block, cell by cell. -/
theorem Blk.set1 {w : World} {b : Nat} {cs cs' : Array Value} {t : TypeId} (h : Blk w b cs t) (j : Nat) (u : Value) (e : cs.setIfInBounds j u = cs') : Blk (w.setCell ⟨b, j, none⟩ u) b cs' t := e ▸ h.set j u
/-- The record behind a store of the whole of it. -/
theorem Blk.row {w : World} {b : Nat} {cs cs' : Array Value} {t : TypeId} (h : Blk w b cs t) : Blk (w.setRow b cs') b cs' t := setRow_heap w b cs cs' t (0, 0) h
theorem Chg.row {S : List Nat} {a b : World} (h : Chg S a b) (g : Nat) (cs : Array Value) (hg : g < a.heap.size → g ∈ S) : Chg S a (b.setRow g cs) :=
  ⟨h.os, h.tape, h.output, by rw [show (b.setRow g cs).heap.size = b.heap.size by simp [World.setRow]]; exact h.size, fun k hk hn => (setRow_other b g k cs (fun e => hn (e ▸ hg (e ▸ hk)))).trans (h.block k hk hn)⟩
end Go.Proofs.Ytlicefbgcoddbaa

/- codec.reader: shapes. -/
namespace Go.Proofs.Ytlicefbgcoddbaa
open Go.RowKit

def psR : Nat → St → List V2 × St
  | 0, s => ([], s)
  | n + 1, s => if s.2 = true then ([], s) else ((plR s).1 :: (psR n (plR s).2).1, (psR n (plR s).2).2)
def shapeR (s : St) : Shp × St :=
  if (numR 1 s).1 = 1 then (⟨1, (numR 8 (numR 1 s).2).1, []⟩, (numR 8 (numR 1 s).2).2)
  else (⟨(numR 1 s).1, 0, (psR (numR 1 (numR 1 s).2).1.toNat (numR 1 (numR 1 s).2).2).1⟩, (psR (numR 1 (numR 1 s).2).1.toNat (numR 1 (numR 1 s).2).2).2)
theorem rowV : RowT Try.prog 31 30 2 16 := RowT.mk (z := .agg #[.int .i64 0, .int .i64 0]) (by kernel_rfl) (by kernel_rfl) rfl (by decide)

set_option maxRecDepth 100000 in
set_option maxHeartbeats 8000000 in
/-- A circle. -/
theorem RShape_circle (base b : Nat) (s : St) (w : World) (hr : RdB base w b s) (hbase : base ≤ w.heap.size) (h1 : (numR 1 s).1 = 1) :
    Calls Try.prog 53 #[.agg #[.pointer (some ⟨b, 0, none⟩)]] w fun e w' => e = .returned (.agg #[.int .i64 1, .int .i64 (numR 8 (numR 1 s).2).1, .slice none 0 0]) ∧ RdB base w' b (numR 8 (numR 1 s).2).2 ∧ Chg [b] w w' := by
  have hc1 := fun W (h : RdB base W b s) => NumB_any 1 base b s W h (by omega)
  have hc2 := fun W (h : RdB base W b (numR 1 s).2) => FB_any base b (numR 1 s).2 W h
  rw [h1] at hc1
  clear h1
  generalize numR 8 (numR 1 s).2 = z at *
  generalize (numR 1 s).2 = y at *
  have hlt := hr.lt
  have hcA := (Chg.refl [] w).alloc (.cells #[.pointer (some ⟨b, 0, none⟩)] 73)
  have hcB := hcA.alloc (.cells #[.int .i64 0, .int .i64 0, .slice none 0 0] 33)
  have kA := (Blk.new w #[.pointer (some ⟨b, 0, none⟩)] 73).alloc (.cells #[.int .i64 0, .int .i64 0, .slice none 0 0] 33)
  have kB := Blk.new (w.alloc (.cells #[.pointer (some ⟨b, 0, none⟩)] 73)) #[.int .i64 0, .int .i64 0, .slice none 0 0] 33
  rw [World.size_alloc] at kB
  have hr0 := hr.k hcB
  have hc1 := hc1 _ hr0
  go_enter Try.func53, Try.ntmps53
  go_upto_region 1 with (fail)
  have hsz : ((w.alloc (.cells #[.pointer (some ⟨b, 0, none⟩)] 73)).alloc (.cells #[.int .i64 0, .int .i64 0, .slice none 0 0] 33)).heap.size = w.heap.size + 1 + 1 := by simp
  generalize (w.alloc (.cells #[.pointer (some ⟨b, 0, none⟩)] 73)).alloc (.cells #[.int .i64 0, .int .i64 0, .slice none 0 0] 33) = w0 at *
  have a0 := kA.cell 0
  simp at a0
  go_upto_region 3 with (first
    | (go_at_call 38; refine hc1.mono ?_; rintro e w1 ⟨rfl, hr1, hm1⟩; have kA1 := kA.chg hm1 (by simp; omega); have kB1 := kB.chg hm1 (by simp; omega); have a1 := kA1.cell 0; simp at a1))
  have hcC := (Chg.refl [] w1).alloc (.cells #[.int .i64 1, .int .i64 0, .slice none 0 0] 33)
  have kC := Blk.new w1 #[.int .i64 1, .int .i64 0, .slice none 0 0] 33
  have kA2 := kA1.k hcC
  have kB2 := kB1.k hcC
  have hr2 := hr1.k hcC
  have hc2 := hc2 _ hr2
  have hM2 : Chg [b] w (w1.alloc (.cells #[.int .i64 1, .int .i64 0, .slice none 0 0] 33)) := ((hcB.mono (S' := [b]) (by simp)).trans hm1 (fun x hx _ => hx)).k' hcC
  have hT : w.heap.size + 1 < w1.heap.size := kB1.lt
  generalize w1.alloc (.cells #[.int .i64 1, .int .i64 0, .slice none 0 0] 33) = w2 at *
  have a2 := kA2.cell 0
  simp at a2
  clear a0 a1 kA kB kA1 kB1 hr0 hr1 hcA hcB hcC hr
  obtain ⟨tb, htb⟩ : ∃ tb, w1.heap.size = tb := ⟨_, rfl⟩
  obtain ⟨rb, hrb⟩ : ∃ rb, w.heap.size + 1 = rb := ⟨_, rfl⟩
  rw [htb] at kC hT ⊢
  rw [hrb] at kB2 hT ⊢
  have HT : Hd (rb < tb ∧ rb = w.heap.size + 1) := hd ⟨hT, hrb.symm⟩
  clear htb hrb hT hm1
  have HM2 := hd hM2
  clear hM2
  go_upto_region 4 with (first
    | (go_at_call 52; refine hc2.mono ?_; rintro e w3 ⟨rfl, hr3, hm3⟩; have kA3 := kA2.chg hm3 (by simp; omega); have kB3 := kB2.chg hm3 (by have := HT.out; simp; omega); have kC3 := kC.chg hm3 (by have := HT.out; simp; omega); have c1 := kC3.cell 1; have f1 := kC3.free 1; simp at c1))
  have hs := (Chg.refl [tb] w3).setCell ⟨tb, 1, none⟩ (.int .i64 z.1) (by simp)
  have k4 := kC3.set 1 (.int .i64 z.1)
  simp at k4
  have kB4 := kB3.chg hs (by have := HT.out; simp; omega)
  have hr4 := hr3.keep hs (by have := HT.out; simp; omega)
  have HM4 := hd ((HM2.out.trans hm3 (fun x hx _ => hx)).trans hs (fun x hx hl => by have := HT.out; simp at hx; omega))
  clear kA2 kB2 kC kA3 kB3 kC3 c1 f1 hs hr2 hr3 hm3 a2 HM2
  generalize w3.setCell ⟨tb, 1, none⟩ (.int .i64 z.1) = w4 at *
  go_wp2_with (first | (refine wpList_load_row rfl _ _ rfl tb rfl 33 _ (0, 0) _ k4 Try.underlying33 rfl (by kernel_rfl) ?_) | (refine wpList_store_row rfl _ _ _ rfl rb #[.int .i64 1, .int .i64 z.1, .slice none 0 0] rfl rfl 33 _ kB4 (by kernel_rfl) (by simp) (by simp [Value.oneCell']) ?_))
  have k5 : Blk (w4.setRow rb #[.int .i64 1, .int .i64 z.1, .slice none 0 0]) rb #[.int .i64 1, .int .i64 z.1, .slice none 0 0] 33 := kB4.row
  have hs5 := Chg.row (Chg.refl [rb] w4) rb #[.int .i64 1, .int .i64 z.1, .slice none 0 0] (by simp)
  refine bodyPost_ret (results_cell_row rfl _ _ rb 33 _ (0, 0) _ rfl k5 Try.underlying33 rfl (by kernel_rfl)) rfl ⟨rfl, ?_, ?_⟩
  · exact hr4.keep hs5 (by have := HT.out; simp; omega)
  · exact HM4.out.trans hs5 (fun x hx hl => by have := HT.out; simp at hx; omega)
end Go.Proofs.Ytlicefbgcoddbaa

/- codec.reader: shapes with corners. -/
namespace Go.Proofs.Ytlicefbgcoddbaa
open Go.RowKit

theorem numR1_lo (s : St) : 0 ≤ (numR 1 s).1 ∧ (numR 1 s).1 ≤ 255 := by
  unfold numR
  split
  · simp
  · rename_i h
    obtain ⟨l, bad⟩ := s
    cases l with
    | nil => simp at h
    | cons c l =>
      have h1 := n8_lo c
      have h2 := n8_hi c
      simp only [List.take_succ_cons, List.take_zero, rdNum, rdB, wrap64]
      omega
/-- What stands while the corners are read: the shape's record, the row of corners, the reader, the call's own records. -/
structure Cor (w0 : World) (base b xb rb tb : Nat) (kd : Int) (v : Value) (A : List V2) (cur : World) (st : St) : Prop where
  t : Blk cur tb #[.int .i64 kd, .int .i64 0, v] 33
  o : cur.ownsRow xb 30 2 v A.length (A.flatMap cV)
  r : RdB base cur b st
  x : Blk cur xb #[.pointer (some ⟨b, 0, none⟩)] 73
  q : Blk cur rb #[.int .i64 0, .int .i64 0, .slice none 0 0] 33
  c : Chg [b] w0 cur
theorem Cor.step {w0 : World} {base b xb rb tb : Nat} {kd : Int} {v : Value} {A : List V2} {cur cur' : World} {st st' : St} (h : Cor w0 base b xb rb tb kd v A cur st) (hm : Chg [b] cur cur') (hr : RdB base cur' b st') (hlo : b < xb ∧ xb < rb ∧ rb < tb) : Cor w0 base b xb rb tb kd v A cur' st' :=
  ⟨h.t.chg hm (by simp; omega), ownsRow_chg h.o hm (fun k hk => by have := (World.ownsRow.lt h.o k hk).1; simp; omega), hr, h.x.chg hm (by simp; omega), h.q.chg hm (by simp; omega), h.c.trans hm (fun x hx _ => hx)⟩
theorem Cor.k {w0 : World} {base b xb rb tb : Nat} {kd : Int} {v : Value} {A : List V2} {cur cur' : World} {st : St} (h : Cor w0 base b xb rb tb kd v A cur st) (hm : Chg [] cur cur') : Cor w0 base b xb rb tb kd v A cur' st :=
  ⟨h.t.k hm, ownsRow_k h.o hm, h.r.k hm, h.x.k hm, h.q.k hm, h.c.k' hm⟩
theorem Cor.lit {w0 : World} {base b xb rb tb : Nat} {kd : Int} {v : Value} {A : List V2} {cur : World} {st : St} (h : Cor w0 base b xb rb tb kd v A cur st) (px py : Int) :
    Cor w0 base b xb rb tb kd v A (cur.alloc (.cells #[.int .i64 px, .int .i64 py] 30)) st ∧ Rd (cur.alloc (.cells #[.int .i64 px, .int .i64 py] 30)) 2 (.slice (some ⟨cur.heap.size, 0, none⟩) 1 1) 1 [.int .i64 px, .int .i64 py] :=
  ⟨h.k ((Chg.refl [] _).alloc _), Rd.lit cur 2 1 _ _ _ rfl rfl (by decide)⟩
theorem Cor.app {w0 : World} {base b xb rb tb : Nat} {kd : Int} {v u : Value} {A : List V2} {cur w6 : World} {st : St} {px py : Int} (h : Cor w0 base b xb rb tb kd v A cur st) (hg : cur.grownBy w6 v.ownBlock) (hr : w6.ownsRow xb 30 2 u (A.length + 1) (A.flatMap cV ++ [.int .i64 px, .int .i64 py])) (hlo : rb < tb ∧ xb < rb ∧ base ≤ xb ∧ b < xb ∧ xb = w0.heap.size) :
    Cor w0 base b xb rb tb kd u (A ++ [(px, py)]) (w6.setCell ⟨tb, 2, none⟩ u) st := by
  have e1 := ownsRow_apart h.o h.t (by decide)
  have e2 := ownsRow_apart h.o h.x (by decide)
  have e3 := ownsRow_apart h.o h.q (by decide)
  have t6 := h.t.grown hg e1
  have x6 := h.x.grown hg e2
  have q6 := h.q.grown hg e3
  have r6 := h.r.keep ((Chg.refl v.ownBlock.toList cur).grown hg (fun k hk _ => by simp [hk])) (fun k hk => by have := (World.ownsRow.lt h.o k (by simpa using hk)).1; omega)
  refine ⟨?_, ?_, ?_, ?_, ?_, ?_⟩
  · have := t6.set 2 u; simpa using this
  · have := ownsRow_set hr t6 (by decide) 2 u
    rw [List.length_append, List.flatMap_append]
    exact this
  · exact r6.keep ((Chg.refl [tb] w6).setCell ⟨tb, 2, none⟩ u (by simp)) (by simp; omega)
  · exact x6.other (by simp; omega) _
  · exact q6.other (by simp; omega) _
  · exact (h.c.grown hg (fun k hk hl => by have := (World.ownsRow.lt h.o k hk).1; omega)).setCell _ _ (fun hx => by simp at hx; omega)
theorem psR_no (m : Nat) (st : St) (h : st.2 = true) : psR m st = ([], st) := by
  cases m with
  | zero => rfl
  | succ m => simp only [psR, h, if_true]
theorem psR_go (m : Nat) (st : St) (h : st.2 = false) : psR (m + 1) st = ((plR st).1 :: (psR m (plR st).2).1, (psR m (plR st).2).2) := by
  simp only [psR, h, Bool.false_eq_true, if_false]
set_option maxRecDepth 100000 in
set_option maxHeartbeats 8000000 in
theorem RShape_poly (base b : Nat) (s : St) (w : World) (hr : RdB base w b s) (hbase : base ≤ w.heap.size) (h1 : (numR 1 s).1 ≠ 1) :
    Calls Try.prog 53 #[.agg #[.pointer (some ⟨b, 0, none⟩)]] w fun e w' => ∃ v, e = .returned (.agg #[.int .i64 (numR 1 s).1, .int .i64 0, v]) ∧ w'.ownsRow w.heap.size 30 2 v (psR (numR 1 (numR 1 s).2).1.toNat (numR 1 (numR 1 s).2).2).1.length ((psR (numR 1 (numR 1 s).2).1.toNat (numR 1 (numR 1 s).2).2).1.flatMap cV) ∧ RdB base w' b (psR (numR 1 (numR 1 s).2).1.toNat (numR 1 (numR 1 s).2).2).2 ∧ Chg [b] w w' := by
  have hc1 := fun W (h : RdB base W b s) => NumB_any 1 base b s W h (by omega)
  have hc2 := fun W (h : RdB base W b (numR 1 s).2) => NumB_any 1 base b (numR 1 s).2 W h (by omega)
  have hn := numR1_lo (numR 1 s).2
  generalize numR 1 (numR 1 s).2 = z at *
  have g1 : ((numR 1 s).1 == 1) = false := by rw [beq_eq_false_iff_ne]; exact h1
  generalize (numR 1 s).1 = kd at *
  generalize (numR 1 s).2 = y at *
  clear h1
  obtain ⟨n, s0⟩ := z
  simp only at hc2 hn ⊢
  obtain ⟨n, rfl⟩ := Int.eq_ofNat_of_zero_le hn.1
  simp only [Int.toNat_natCast]
  have hn2 : n ≤ 255 := by omega
  clear hn
  have hlt := hr.lt
  have hcA := (Chg.refl [] w).alloc (.cells #[.pointer (some ⟨b, 0, none⟩)] 73)
  have hcB := hcA.alloc (.cells #[.int .i64 0, .int .i64 0, .slice none 0 0] 33)
  have kA := (Blk.new w #[.pointer (some ⟨b, 0, none⟩)] 73).alloc (.cells #[.int .i64 0, .int .i64 0, .slice none 0 0] 33)
  have kB := Blk.new (w.alloc (.cells #[.pointer (some ⟨b, 0, none⟩)] 73)) #[.int .i64 0, .int .i64 0, .slice none 0 0] 33
  rw [World.size_alloc] at kB
  have hr0 := hr.k hcB
  have hc1 := hc1 _ hr0
  go_enter Try.func53, Try.ntmps53
  go_upto_region 1 with (fail)
  have hsz : ((w.alloc (.cells #[.pointer (some ⟨b, 0, none⟩)] 73)).alloc (.cells #[.int .i64 0, .int .i64 0, .slice none 0 0] 33)).heap.size = w.heap.size + 1 + 1 := by simp
  generalize (w.alloc (.cells #[.pointer (some ⟨b, 0, none⟩)] 73)).alloc (.cells #[.int .i64 0, .int .i64 0, .slice none 0 0] 33) = w0 at *
  have a0 := kA.cell 0
  simp at a0
  go_upto_region 5 with (first
    | (go_at_call 38; refine hc1.mono ?_; rintro e w1 ⟨rfl, hr1, hm1⟩; have kA1 := kA.chg hm1 (by simp; omega); have kB1 := kB.chg hm1 (by simp; omega); have a1 := kA1.cell 0; simp at a1))
  have hcC := (Chg.refl [] w1).alloc (.cells #[.int .i64 kd, .int .i64 0, .slice none 0 0] 33)
  have kC := Blk.new w1 #[.int .i64 kd, .int .i64 0, .slice none 0 0] 33
  have kA2 := kA1.k hcC
  have kB2 := kB1.k hcC
  have hr2 := hr1.k hcC
  have hc2 := hc2 _ hr2
  have hM2 : Chg [b] w (w1.alloc (.cells #[.int .i64 kd, .int .i64 0, .slice none 0 0] 33)) := ((hcB.mono (S' := [b]) (by simp)).trans hm1 (fun x hx _ => hx)).k' hcC
  have hT : w.heap.size + 1 < w1.heap.size := kB1.lt
  generalize w1.alloc (.cells #[.int .i64 kd, .int .i64 0, .slice none 0 0] 33) = w2 at *
  have a2 := kA2.cell 0
  simp at a2
  clear a0 a1 kA kB kA1 kB1 hr0 hr1 hcA hcB hcC hr hc1
  obtain ⟨tb, htb⟩ : ∃ tb, w1.heap.size = tb := ⟨_, rfl⟩
  obtain ⟨rb, hrb⟩ : ∃ rb, w.heap.size + 1 = rb := ⟨_, rfl⟩
  obtain ⟨xb, hxb⟩ : ∃ xb, w.heap.size = xb := ⟨_, rfl⟩
  rw [htb] at kC hT ⊢
  rw [hrb] at kB2 hT ⊢
  rw [hxb] at kA2 a2 hbase ⊢
  have HT : Hd (rb < tb ∧ xb < rb ∧ base ≤ xb ∧ b < xb ∧ xb = w.heap.size) := hd ⟨hT, by omega, hbase, by omega, hxb.symm⟩
  clear htb hrb hT hm1 hxb hbase hlt hsz
  have HM2 := hd hM2
  clear hM2
  go_wp2_with (first
    | (go_at_call 38; refine hc2.mono ?_; rintro e w3 ⟨rfl, hr3, hm3⟩))
  have kA3 := kA2.chg hm3 (by have := HT.out; simp; omega)
  have kB3 := kB2.chg hm3 (by have := HT.out; simp; omega)
  have kC3 := kC.chg hm3 (by have := HT.out; simp; omega)
  have HM3 := hd (HM2.out.trans hm3 (fun x hx _ => hx))
  clear kA2 kB2 kC hr2 hm3 a2 HM2 hc2
  have hcor : Cor w base b xb rb tb kd (.slice none 0 0) [] w3 s0 := ⟨kC3, World.ownsRow_nil _ _ _ _, hr3, kA3, kB3, HM3.out⟩
  clear hr3 kA3 kB3 kC3 HM3
  go_loopw [19] (fun i wr => ∃ (j : Nat) (A : List V2) (v : Value) (st : St), j ≤ n ∧ A.length ≤ j ∧ i = .int .i64 j ∧ A ++ (psR (n - j) st).1 = (psR n s0).1 ∧ (psR (n - j) st).2 = (psR n s0).2 ∧ Cor w base b xb rb tb kd v A wr st)
    (fun i _ => n - (intOf i).toNat)
  case atStart => exact ⟨0, [], _, s0, by omega, by simp, rfl, rfl, rfl, hcor⟩
  case round =>
    clear hcor
    obtain ⟨j, A, v, st, hj, hAj, rfl, hp1, hp2, hcor⟩ := hrel
    have a0 := hcor.x.cell 0
    simp at a0
    obtain ⟨ao, c, rfl⟩ : ∃ ao c, v = .slice ao A.length c := by
      rcases hcor.o.2 with ⟨rfl, hz⟩ | ⟨g, cap, cur, rfl, _⟩
      · exact ⟨none, 0, by rw [hz]⟩
      · exact ⟨_, cap, rfl⟩
    by_cases hlt : j < n
    · by_cases hbad : st.2 = true
      · rw [psR_no _ _ hbad] at hp1 hp2
        have HBAD := hd hbad
        clear hbad
        have hA : A = (psR n s0).1 ∧ st = (psR n s0).2 := ⟨by simpa using hp1, hp2⟩
        obtain ⟨hA1, hA2⟩ := hA
        have k4 := hcor.t
        have kB4 := hcor.q
        have HC := hd hcor
        have HPS := hd hA1
        have HPT := hd hA2
        clear hA1 hA2 hp1 hp2 hcor
        go_wp2_with (first | (go_at_call 23; refine (BadB_any base b st _ HC.out.r).mono ?_; rintro e w5 ⟨rfl, rfl⟩; rw [HBAD.out]) | (refine wpList_load_row rfl _ _ rfl tb rfl 33 _ (0, 0) _ k4 Try.underlying33 rfl (by kernel_rfl) ?_) | (refine wpList_store_row rfl _ _ _ rfl rb #[.int .i64 kd, .int .i64 0, .slice ao A.length c] rfl rfl 33 _ kB4 (by kernel_rfl) (by simp) (by simp [Value.oneCell']) ?_))
        have k5 : Blk (wr.setRow rb #[.int .i64 kd, .int .i64 0, .slice ao A.length c]) rb #[.int .i64 kd, .int .i64 0, .slice ao A.length c] 33 := kB4.row
        have hs5 := Chg.row (Chg.refl [rb] wr) rb #[.int .i64 kd, .int .i64 0, .slice ao A.length c] (by simp)
        refine bodyPost_ret (results_cell_row rfl _ _ rb 33 _ (0, 0) _ rfl k5 Try.underlying33 rfl (by kernel_rfl)) rfl ⟨_, rfl, ?_, ?_, ?_⟩
        · rw [← HPS.out, ← HT.out.2.2.2.2]
          exact ownsRow_chg HC.out.o hs5 (fun k hk hx => by rw [List.mem_singleton.mp hx] at hk; exact ownsRow_apart HC.out.o kB4 (by decide) hk)
        · rw [← HPT.out]
          exact HC.out.r.keep hs5 (by have := HT.out; simp; omega)
        · exact HC.out.c.trans hs5 (fun x hx hl => by have := HT.out; simp at hx; omega)
      · have hbad : st.2 = false := by simpa using hbad
        have HBAD := hd hbad
        obtain ⟨m, hm⟩ : ∃ m, n - j = m + 1 := ⟨n - j - 1, by omega⟩
        rw [hm, psR_go _ _ hbad] at hp1 hp2
        have HM := hd hm
        clear hbad hm
        have hcV := fun W (h : RdB base W b st) (hb : base ≤ W.heap.size) => VB_any base b st W h hb
        unfold vV at hcV
        generalize plR st = pl at *
        obtain ⟨⟨px, py⟩, st1⟩ := pl
        simp only at hcV hp1 hp2
        have HP1 := hd hp1
        have HP2 := hd hp2
        clear hp1 hp2
        have HC := hd hcor
        have NX : Hd (xb ∉ b :: tb :: (Value.slice ao A.length c).ownBlock.toList) := hd (by
          have h1 := HT.out
          have h2 := ownsRow_apart hcor.o hcor.x (by decide)
          cases ao with
          | none => simp [Value.ownBlock]; omega
          | some a => simp [Value.ownBlock] at h2 ⊢; omega)
        have Q0 := hd a0
        clear hcor
        go_upto_region 8 with (first | (go_at_call 23; refine (BadB_any base b st _ HC.out.r).mono ?_; rintro e w5 ⟨rfl, rfl⟩; rw [HBAD.out]))
        clear a0
        have hB := HC.out.k (Chg.refl [] wr).drew
        refine anyH_start (n := 9) (L := #[false, false, false, false, false, false, false, false, false]) (by kernel_rfl) (by kernel_rfl) (S := (fun wx => Chg (b :: tb :: (Value.slice ao A.length c).ownBlock.toList) wr wx)) ((Chg.refl _ _).drew) (fun hHeld => ?_)
        generalize wr.drew = wd at *
        refine anyH_take (i := 0) (d := 24) (L' := #[true, false, false, false, false, false, false, false, false]) (v := ?v4) rfl rfl (by kernel_rfl) (fun _ _ _ h => h) (by rfl) ?hy4 (by assumption) ?rest4
        case hy4 => (intro wx hSw; (try dsimp only at hSw); (have t0 := Chg.cellT hSw Q0.out NX.out); go_simp; (try with_reducible rfl))
        simp only [Act.put, List.setIfInBounds_toArray, List.set_cons_zero, List.set_cons_succ]
        refine anyH_take (i := 2) (d := 26) (L' := #[true, false, true, false, false, false, false, false, false]) (v := ?v5) rfl rfl (by kernel_rfl) (fun _ _ _ h => h) (by rfl) ?hy5 (by assumption) ?rest5
        case hy5 => (intro wx hSw; (try dsimp only at hSw); (have t0 := Chg.cellT hSw Q0.out NX.out); go_simp; (try with_reducible rfl))
        simp only [Act.put, List.setIfInBounds_toArray, List.set_cons_zero, List.set_cons_succ]
        refine anyH_take (i := 3) (d := 27) (L' := #[true, false, true, true, false, false, false, false, false]) (v := ?v6) rfl rfl (by kernel_rfl) (fun _ _ _ h => h) (by rfl) ?hy6 (by assumption) ?rest6
        case hy6 => (intro wx hSw; (try dsimp only at hSw); (have t0 := Chg.cellT hSw Q0.out NX.out); go_simp; (try with_reducible rfl))
        simp only [Act.put, List.setIfInBounds_toArray, List.set_cons_zero, List.set_cons_succ]
        refine anyH_run2 (i := 1) (j := 4) (L1 := #[true, true, true, true, false, false, false, false, false]) (L2 := #[true, false, true, true, true, false, false, false, false]) rfl rfl (by kernel_rfl) (by rfl) (by rfl) (fun KK hKK => ?ra0) (fun KK hKK => ?rb0)
        case' ra0 =>
          (have t1 := hB.t.cell 2; simp at t1; go_simp)
          refine hKK.out _ _ (by assumption) (fun hHeld => ?_)
          clear hKK KK
          try simp only [Act.put, List.setIfInBounds_toArray, List.set_cons_zero, List.set_cons_succ]
          refine anyH_run (i := 4) (L' := #[true, true, true, true, true, false, false, false, false]) rfl (by kernel_rfl) (by rfl) (fun KK hKK => ?_)
          go_simp
          (refine (hcV _ hB.r (by have := HT.out; have := hB.x.lt; omega)).mono ?_; rintro e w4 ⟨rfl, hr4, hm4⟩; have hm := Chg.trans hHeld hm4 (by simp); replace hB := hB.step hm4 hr4 (by have := HT.out; omega); clear hm4 hr4; (try go_simp))
          refine hKK.out _ _ (by assumption) (fun hHeld => ?_)
          clear hKK KK
          try simp only [Act.put, List.setIfInBounds_toArray, List.set_cons_zero, List.set_cons_succ]
          refine anyH_run (i := 5) (L' := #[true, true, true, true, true, true, false, false, false]) rfl (by kernel_rfl) (by rfl) (fun KK hKK => ?_)
          (obtain ⟨m1, hLit⟩ := hB.lit px py; replace hB := m1; (try simp only [World.size_alloc] at hLit); have hm5 := Chg.alloc hHeld (.cells #[.int .i64 px, .int .i64 py] 30); go_simp)
          refine hKK.out _ _ (by assumption) (fun hHeld => ?_)
          clear hKK KK
          try simp only [Act.put, List.setIfInBounds_toArray, List.set_cons_zero, List.set_cons_succ]
          refine anyH_run (i := 6) (L' := #[true, true, true, true, true, true, true, false, false]) rfl (by kernel_rfl) (by rfl) (fun KK hKK => ?_)
          (refine wp_appT rowV _ _ rfl xb _ A.length (A.flatMap cV) rfl hB.o _ 1 [.int .i64 px, .int .i64 py] rfl hLit (by simp [Value.oneCell']) (by omega) (by omega) (Nat.le_of_lt hB.x.lt) ?_; intro ao6 c6 w6 hr6 hg6 hm6; have k6 := hB.t.grown hg6 (ownsRow_apart hB.o hB.t (by decide)); have q6 := k6.cell 2; have f6 := k6.free 2; simp at q6; have hS6 : Chg (b :: tb :: (Value.slice ao A.length c).ownBlock.toList) wr w6 := hHeld.grown hg6 (by intro k hk _; simp only [List.mem_cons, Option.mem_toList]; exact Or.inr (Or.inr hk)); clear hm6 k6)
          refine hKK.out _ _ (by assumption) (fun hHeld => ?_)
          clear hKK KK
          try simp only [Act.put, List.setIfInBounds_toArray, List.set_cons_zero, List.set_cons_succ]
          refine anyH_take (i := 7) (d := 31) (L' := #[true, true, true, true, true, true, true, true, false]) (v := ?v10) rfl rfl (by kernel_rfl) (fun _ _ _ h => h) (by rfl) ?hy10 (by assumption) ?rest10
          case hy10 => (intro wx hSw; (try dsimp only at hSw); (have t0 := Chg.cellT hSw Q0.out NX.out); go_simp; (try with_reducible rfl))
          simp only [Act.put, List.setIfInBounds_toArray, List.set_cons_zero, List.set_cons_succ]
          refine anyH_run (i := 8) (L' := #[true, true, true, true, true, true, true, true, true]) rfl (by kernel_rfl) (by rfl) (fun KK hKK => ?_)
          go_simp
          (have hS8 := Chg.setCell hHeld ⟨tb, 2, none⟩ (.slice ao6 (A.length + 1) c6) (by simp))
          refine hKK.out _ _ (by assumption) (fun hHeld => ?_)
          clear hKK KK
          try simp only [Act.put, List.setIfInBounds_toArray, List.set_cons_zero, List.set_cons_succ]
          refine wpAnyH_done (by kernel_rfl) ?_ _
          clear hHeld q6 f6; go_wp2_with (fail); refine ⟨⟨j + 1, A ++ [(px, py)], _, st1, by omega, by simp; omega, by go_num, ?_, ?_, hB.app hg6 hr6 HT.out⟩, by simp [intOf]; omega⟩; (rw [show n - (j + 1) = m by have := HM.out; omega]; simpa using HP1.out); (rw [show n - (j + 1) = m by have := HM.out; omega]; exact HP2.out)
        case' rb0 =>
          go_simp
          (refine (hcV _ hB.r (by have := HT.out; have := hB.x.lt; omega)).mono ?_; rintro e w4 ⟨rfl, hr4, hm4⟩; have hm := Chg.trans hHeld hm4 (by simp); replace hB := hB.step hm4 hr4 (by have := HT.out; omega); clear hm4 hr4; (try go_simp))
          refine hKK.out _ _ (by assumption) (fun hHeld => ?_)
          clear hKK KK
          try simp only [Act.put, List.setIfInBounds_toArray, List.set_cons_zero, List.set_cons_succ]
          refine anyH_run2 (i := 1) (j := 5) (L1 := #[true, true, true, true, true, false, false, false, false]) (L2 := #[true, false, true, true, true, true, false, false, false]) rfl rfl (by kernel_rfl) (by rfl) (by rfl) (fun KK hKK => ?ra1) (fun KK hKK => ?rb1)
          case' ra1 =>
            (have t1 := hB.t.cell 2; simp at t1; go_simp)
            refine hKK.out _ _ (by assumption) (fun hHeld => ?_)
            clear hKK KK
            try simp only [Act.put, List.setIfInBounds_toArray, List.set_cons_zero, List.set_cons_succ]
            refine anyH_run (i := 5) (L' := #[true, true, true, true, true, true, false, false, false]) rfl (by kernel_rfl) (by rfl) (fun KK hKK => ?_)
            (obtain ⟨m1, hLit⟩ := hB.lit px py; replace hB := m1; (try simp only [World.size_alloc] at hLit); have hm5 := Chg.alloc hHeld (.cells #[.int .i64 px, .int .i64 py] 30); go_simp)
            refine hKK.out _ _ (by assumption) (fun hHeld => ?_)
            clear hKK KK
            try simp only [Act.put, List.setIfInBounds_toArray, List.set_cons_zero, List.set_cons_succ]
            refine anyH_run (i := 6) (L' := #[true, true, true, true, true, true, true, false, false]) rfl (by kernel_rfl) (by rfl) (fun KK hKK => ?_)
            (refine wp_appT rowV _ _ rfl xb _ A.length (A.flatMap cV) rfl hB.o _ 1 [.int .i64 px, .int .i64 py] rfl hLit (by simp [Value.oneCell']) (by omega) (by omega) (Nat.le_of_lt hB.x.lt) ?_; intro ao6 c6 w6 hr6 hg6 hm6; have k6 := hB.t.grown hg6 (ownsRow_apart hB.o hB.t (by decide)); have q6 := k6.cell 2; have f6 := k6.free 2; simp at q6; have hS6 : Chg (b :: tb :: (Value.slice ao A.length c).ownBlock.toList) wr w6 := hHeld.grown hg6 (by intro k hk _; simp only [List.mem_cons, Option.mem_toList]; exact Or.inr (Or.inr hk)); clear hm6 k6)
            refine hKK.out _ _ (by assumption) (fun hHeld => ?_)
            clear hKK KK
            try simp only [Act.put, List.setIfInBounds_toArray, List.set_cons_zero, List.set_cons_succ]
            refine anyH_take (i := 7) (d := 31) (L' := #[true, true, true, true, true, true, true, true, false]) (v := ?v15) rfl rfl (by kernel_rfl) (fun _ _ _ h => h) (by rfl) ?hy15 (by assumption) ?rest15
            case hy15 => (intro wx hSw; (try dsimp only at hSw); (have t0 := Chg.cellT hSw Q0.out NX.out); go_simp; (try with_reducible rfl))
            simp only [Act.put, List.setIfInBounds_toArray, List.set_cons_zero, List.set_cons_succ]
            refine anyH_run (i := 8) (L' := #[true, true, true, true, true, true, true, true, true]) rfl (by kernel_rfl) (by rfl) (fun KK hKK => ?_)
            go_simp
            (have hS8 := Chg.setCell hHeld ⟨tb, 2, none⟩ (.slice ao6 (A.length + 1) c6) (by simp))
            refine hKK.out _ _ (by assumption) (fun hHeld => ?_)
            clear hKK KK
            try simp only [Act.put, List.setIfInBounds_toArray, List.set_cons_zero, List.set_cons_succ]
            refine wpAnyH_done (by kernel_rfl) ?_ _
            clear hHeld q6 f6; go_wp2_with (fail); refine ⟨⟨j + 1, A ++ [(px, py)], _, st1, by omega, by simp; omega, by go_num, ?_, ?_, hB.app hg6 hr6 HT.out⟩, by simp [intOf]; omega⟩; (rw [show n - (j + 1) = m by have := HM.out; omega]; simpa using HP1.out); (rw [show n - (j + 1) = m by have := HM.out; omega]; exact HP2.out)
          case' rb1 =>
            (obtain ⟨m1, hLit⟩ := hB.lit px py; replace hB := m1; (try simp only [World.size_alloc] at hLit); have hm5 := Chg.alloc hHeld (.cells #[.int .i64 px, .int .i64 py] 30); go_simp)
            refine hKK.out _ _ (by assumption) (fun hHeld => ?_)
            clear hKK KK
            try simp only [Act.put, List.setIfInBounds_toArray, List.set_cons_zero, List.set_cons_succ]
            refine anyH_run (i := 1) (L' := #[true, true, true, true, true, true, false, false, false]) rfl (by kernel_rfl) (by rfl) (fun KK hKK => ?_)
            (have t1 := hB.t.cell 2; simp at t1; go_simp)
            refine hKK.out _ _ (by assumption) (fun hHeld => ?_)
            clear hKK KK
            try simp only [Act.put, List.setIfInBounds_toArray, List.set_cons_zero, List.set_cons_succ]
            refine anyH_run (i := 6) (L' := #[true, true, true, true, true, true, true, false, false]) rfl (by kernel_rfl) (by rfl) (fun KK hKK => ?_)
            (refine wp_appT rowV _ _ rfl xb _ A.length (A.flatMap cV) rfl hB.o _ 1 [.int .i64 px, .int .i64 py] rfl hLit (by simp [Value.oneCell']) (by omega) (by omega) (Nat.le_of_lt hB.x.lt) ?_; intro ao6 c6 w6 hr6 hg6 hm6; have k6 := hB.t.grown hg6 (ownsRow_apart hB.o hB.t (by decide)); have q6 := k6.cell 2; have f6 := k6.free 2; simp at q6; have hS6 : Chg (b :: tb :: (Value.slice ao A.length c).ownBlock.toList) wr w6 := hHeld.grown hg6 (by intro k hk _; simp only [List.mem_cons, Option.mem_toList]; exact Or.inr (Or.inr hk)); clear hm6 k6)
            refine hKK.out _ _ (by assumption) (fun hHeld => ?_)
            clear hKK KK
            try simp only [Act.put, List.setIfInBounds_toArray, List.set_cons_zero, List.set_cons_succ]
            refine anyH_take (i := 7) (d := 31) (L' := #[true, true, true, true, true, true, true, true, false]) (v := ?v20) rfl rfl (by kernel_rfl) (fun _ _ _ h => h) (by rfl) ?hy20 (by assumption) ?rest20
            case hy20 => (intro wx hSw; (try dsimp only at hSw); (have t0 := Chg.cellT hSw Q0.out NX.out); go_simp; (try with_reducible rfl))
            simp only [Act.put, List.setIfInBounds_toArray, List.set_cons_zero, List.set_cons_succ]
            refine anyH_run (i := 8) (L' := #[true, true, true, true, true, true, true, true, true]) rfl (by kernel_rfl) (by rfl) (fun KK hKK => ?_)
            go_simp
            (have hS8 := Chg.setCell hHeld ⟨tb, 2, none⟩ (.slice ao6 (A.length + 1) c6) (by simp))
            refine hKK.out _ _ (by assumption) (fun hHeld => ?_)
            clear hKK KK
            try simp only [Act.put, List.setIfInBounds_toArray, List.set_cons_zero, List.set_cons_succ]
            refine wpAnyH_done (by kernel_rfl) ?_ _
            clear hHeld q6 f6; go_wp2_with (fail); refine ⟨⟨j + 1, A ++ [(px, py)], _, st1, by omega, by simp; omega, by go_num, ?_, ?_, hB.app hg6 hr6 HT.out⟩, by simp [intOf]; omega⟩; (rw [show n - (j + 1) = m by have := HM.out; omega]; simpa using HP1.out); (rw [show n - (j + 1) = m by have := HM.out; omega]; exact HP2.out)
    · have hjn : n - j = 0 := by omega
      rw [hjn] at hp1 hp2
      simp only [psR] at hp1 hp2
      have hA : A = (psR n s0).1 ∧ st = (psR n s0).2 := ⟨by simpa using hp1, hp2⟩
      obtain ⟨hA1, hA2⟩ := hA
      have k4 := hcor.t
      have kB4 := hcor.q
      have HC := hd hcor
      have HPS := hd hA1
      have HPT := hd hA2
      clear hA1 hA2 hp1 hp2 hcor
      go_wp2_with (first | (refine wpList_load_row rfl _ _ rfl tb rfl 33 _ (0, 0) _ k4 Try.underlying33 rfl (by kernel_rfl) ?_) | (refine wpList_store_row rfl _ _ _ rfl rb #[.int .i64 kd, .int .i64 0, .slice ao A.length c] rfl rfl 33 _ kB4 (by kernel_rfl) (by simp) (by simp [Value.oneCell']) ?_))
      have k5 : Blk (wr.setRow rb #[.int .i64 kd, .int .i64 0, .slice ao A.length c]) rb #[.int .i64 kd, .int .i64 0, .slice ao A.length c] 33 := kB4.row
      have hs5 := Chg.row (Chg.refl [rb] wr) rb #[.int .i64 kd, .int .i64 0, .slice ao A.length c] (by simp)
      refine bodyPost_ret (results_cell_row rfl _ _ rb 33 _ (0, 0) _ rfl k5 Try.underlying33 rfl (by kernel_rfl)) rfl ⟨_, rfl, ?_, ?_, ?_⟩
      · rw [← HPS.out, ← HT.out.2.2.2.2]
        exact ownsRow_chg HC.out.o hs5 (fun k hk hx => by rw [List.mem_singleton.mp hx] at hk; exact ownsRow_apart HC.out.o kB4 (by decide) hk)
      · rw [← HPT.out]
        exact HC.out.r.keep hs5 (by have := HT.out; simp; omega)
      · exact HC.out.c.trans hs5 (fun x hx hl => by have := HT.out; simp at hx; omega)
end Go.Proofs.Ytlicefbgcoddbaa

/- codec.reader.shape; what stands while an order is read. -/
namespace Go.Proofs.Ytlicefbgcoddbaa
open Go.RowKit

theorem RShape_any (base b : Nat) (s : St) (w : World) (hr : RdB base w b s) (hbase : base ≤ w.heap.size) :
    Calls Try.prog 53 #[.agg #[.pointer (some ⟨b, 0, none⟩)]] w fun e w' => ∃ pv, e = .returned (vS (shapeR s).1 pv) ∧ VsS w' pv (shapeR s).1.p ∧ (∀ k, pv.ownBlock = some k → w.heap.size ≤ k) ∧ RdB base w' b (shapeR s).2 ∧ Chg [b] w w' := by
  by_cases h1 : (numR 1 s).1 = 1
  · refine (RShape_circle base b s w hr hbase h1).mono ?_
    rintro e w' ⟨rfl, h2, h3⟩
    have e1 : shapeR s = (⟨1, (numR 8 (numR 1 s).2).1, []⟩, (numR 8 (numR 1 s).2).2) := if_pos h1
    rw [e1]
    exact ⟨_, rfl, Rd.ofOwn (e := 30) (base := 0) (World.ownsRow_nil _ _ _ _), by simp [Value.ownBlock], h2, h3⟩
  · refine (RShape_poly base b s w hr hbase h1).mono ?_
    rintro e w' ⟨v, rfl, h2, h3, h4⟩
    have e1 : shapeR s = (⟨(numR 1 s).1, 0, (psR (numR 1 (numR 1 s).2).1.toNat (numR 1 (numR 1 s).2).2).1⟩, (psR (numR 1 (numR 1 s).2).1.toNat (numR 1 (numR 1 s).2).2).2) := if_neg h1
    rw [e1]
    exact ⟨v, rfl, Rd.ofOwn h2, fun k hk => (World.ownsRow.lt h2 k hk).1, h3, h4⟩
/-- What stands while an order is read: its record, the reader, the call's own records. -/
structure Ost (w0 : World) (base b xb rb tb : Nat) (cs : Array Value) (cur : World) (st : St) : Prop where
  t : Blk cur tb cs 35
  r : RdB base cur b st
  x : Blk cur xb #[.pointer (some ⟨b, 0, none⟩)] 73
  q : ∃ zs : Array Value, zs.size = 15 ∧ Blk cur rb zs 35
  c : Chg [b] w0 cur
  lo : rb < tb ∧ xb < rb ∧ base ≤ xb ∧ b < xb ∧ xb = w0.heap.size
theorem Ost.step {w0 : World} {base b xb rb tb : Nat} {cs : Array Value} {cur cur' : World} {st st' : St} (h : Ost w0 base b xb rb tb cs cur st) (hm : Chg [b] cur cur') (hr : RdB base cur' b st') : Ost w0 base b xb rb tb cs cur' st' := by
  have hl := h.lo
  obtain ⟨zs, hz, hq⟩ := h.q
  exact ⟨h.t.chg hm (by simp; omega), hr, h.x.chg hm (by simp; omega), ⟨zs, hz, hq.chg hm (by simp; omega)⟩, h.c.trans hm (fun x hx _ => hx), hl⟩
theorem Ost.k {w0 : World} {base b xb rb tb : Nat} {cs : Array Value} {cur cur' : World} {st : St} (h : Ost w0 base b xb rb tb cs cur st) (hm : Chg [] cur cur') : Ost w0 base b xb rb tb cs cur' st := by
  obtain ⟨zs, hz, hq⟩ := h.q
  exact ⟨h.t.k hm, h.r.k hm, h.x.k hm, ⟨zs, hz, hq.k hm⟩, h.c.k' hm, h.lo⟩
theorem Ost.set {w0 : World} {base b xb rb tb : Nat} {cs : Array Value} {cur : World} {st : St} (h : Ost w0 base b xb rb tb cs cur st) (j : Nat) (u : Value) {cs' : Array Value} (e : cs.setIfInBounds j u = cs') : Ost w0 base b xb rb tb cs' (cur.setCell ⟨tb, j, none⟩ u) st := by
  have hl := h.lo
  subst e
  obtain ⟨zs, hz, hq⟩ := h.q
  have hs := (Chg.refl [tb] cur).setCell ⟨tb, j, none⟩ u (by simp)
  exact ⟨h.t.set j u, h.r.keep hs (by simp; omega), h.x.other (by simp; omega) _, ⟨zs, hz, hq.other (by simp; omega) _⟩, h.c.setCell _ _ (fun hx => by simp at hx; omega), hl⟩
end Go.Proofs.Ytlicefbgcoddbaa

/- order.used, case 1. -/
namespace Go.Proofs.Ytlicefbgcoddbaa
open Go.RowKit

set_option maxRecDepth 100000 in
set_option maxHeartbeats 8000000 in
theorem used1_any (w : World) (i a b px py vx vy an sp de ln sk sr : Int) (ao : Option Addr) (n c : Nat) : Calls Try.prog 26 #[.agg #[.int .i64 1, .int .i64 i, .int .i64 a, .int .i64 b, .int .i64 px, .int .i64 py, .int .i64 vx, .int .i64 vy, .int .i64 an, .int .i64 sp, .int .i64 de, .int .i64 ln, .int .i64 sk, .int .i64 sr, .slice ao n c]] w fun e w' => e = .returned (.agg #[.int .i64 1, .int .i64 0, .int .i64 0, .int .i64 0, .int .i64 px, .int .i64 py, .int .i64 vx, .int .i64 vy, .int .i64 an, .int .i64 sp, .int .i64 de, .int .i64 0, .int .i64 sk, .int .i64 sr, .slice ao n c]) ∧ Chg [] w w' := by
  go_enter Try.func26, Try.ntmps26
  go_wp2
  refine bodyPost_ret (v := .agg #[.int .i64 1, .int .i64 0, .int .i64 0, .int .i64 0, .int .i64 px, .int .i64 py, .int .i64 vx, .int .i64 vy, .int .i64 an, .int .i64 sp, .int .i64 de, .int .i64 0, .int .i64 sk, .int .i64 sr, .slice ao n c]) (by simp only [results]; go_simp) rfl ⟨rfl, ?_⟩
  exact (((Chg.refl [] w).alloc _).alloc _).alloc _
end Go.Proofs.Ytlicefbgcoddbaa

/- order.used, case 2. -/
namespace Go.Proofs.Ytlicefbgcoddbaa
open Go.RowKit

set_option maxRecDepth 100000 in
set_option maxHeartbeats 8000000 in
theorem used2_any (w : World) (i a b px py vx vy an sp de ln sk sr : Int) (ao : Option Addr) (n c : Nat) : Calls Try.prog 26 #[.agg #[.int .i64 2, .int .i64 i, .int .i64 a, .int .i64 b, .int .i64 px, .int .i64 py, .int .i64 vx, .int .i64 vy, .int .i64 an, .int .i64 sp, .int .i64 de, .int .i64 ln, .int .i64 sk, .int .i64 sr, .slice ao n c]] w fun e w' => e = .returned (.agg #[.int .i64 2, .int .i64 i, .int .i64 0, .int .i64 0, .int .i64 0, .int .i64 0, .int .i64 0, .int .i64 0, .int .i64 0, .int .i64 0, .int .i64 0, .int .i64 0, .int .i64 0, .int .i64 0, .slice none 0 0]) ∧ Chg [] w w' := by
  go_enter Try.func26, Try.ntmps26
  go_wp2
  refine bodyPost_ret (v := .agg #[.int .i64 2, .int .i64 i, .int .i64 0, .int .i64 0, .int .i64 0, .int .i64 0, .int .i64 0, .int .i64 0, .int .i64 0, .int .i64 0, .int .i64 0, .int .i64 0, .int .i64 0, .int .i64 0, .slice none 0 0]) (by simp only [results]; go_simp) rfl ⟨rfl, ?_⟩
  exact (((Chg.refl [] w).alloc _).alloc _).alloc _
end Go.Proofs.Ytlicefbgcoddbaa

/- order.used, case 3. -/
namespace Go.Proofs.Ytlicefbgcoddbaa
open Go.RowKit

set_option maxRecDepth 100000 in
set_option maxHeartbeats 8000000 in
theorem used3_any (w : World) (i a b px py vx vy an sp de ln sk sr : Int) (ao : Option Addr) (n c : Nat) : Calls Try.prog 26 #[.agg #[.int .i64 3, .int .i64 i, .int .i64 a, .int .i64 b, .int .i64 px, .int .i64 py, .int .i64 vx, .int .i64 vy, .int .i64 an, .int .i64 sp, .int .i64 de, .int .i64 ln, .int .i64 sk, .int .i64 sr, .slice ao n c]] w fun e w' => e = .returned (.agg #[.int .i64 3, .int .i64 0, .int .i64 a, .int .i64 b, .int .i64 px, .int .i64 py, .int .i64 vx, .int .i64 vy, .int .i64 0, .int .i64 0, .int .i64 0, .int .i64 ln, .int .i64 0, .int .i64 0, .slice none 0 0]) ∧ Chg [] w w' := by
  go_enter Try.func26, Try.ntmps26
  go_upto_region 10 with (fail)
  have hz1 : (w.alloc (.cells #[.int .i64 3, .int .i64 i, .int .i64 a, .int .i64 b, .int .i64 px, .int .i64 py, .int .i64 vx, .int .i64 vy, .int .i64 an, .int .i64 sp, .int .i64 de, .int .i64 ln, .int .i64 sk, .int .i64 sr, .slice ao n c] 35)).heap.size = w.heap.size + 1 := by simp
  have hz2 : ((w.alloc (.cells #[.int .i64 3, .int .i64 i, .int .i64 a, .int .i64 b, .int .i64 px, .int .i64 py, .int .i64 vx, .int .i64 vy, .int .i64 an, .int .i64 sp, .int .i64 de, .int .i64 ln, .int .i64 sk, .int .i64 sr, .slice ao n c] 35)).alloc (.cells #[.int .i64 0, .int .i64 0, .int .i64 0, .int .i64 0, .int .i64 0, .int .i64 0, .int .i64 0, .int .i64 0, .int .i64 0, .int .i64 0, .int .i64 0, .int .i64 0, .int .i64 0, .int .i64 0, .slice none 0 0] 35)).heap.size = w.heap.size + 1 + 1 := by simp
  have k1 := ((Blk.new w #[.int .i64 3, .int .i64 i, .int .i64 a, .int .i64 b, .int .i64 px, .int .i64 py, .int .i64 vx, .int .i64 vy, .int .i64 an, .int .i64 sp, .int .i64 de, .int .i64 ln, .int .i64 sk, .int .i64 sr, .slice ao n c] 35).alloc (.cells #[.int .i64 0, .int .i64 0, .int .i64 0, .int .i64 0, .int .i64 0, .int .i64 0, .int .i64 0, .int .i64 0, .int .i64 0, .int .i64 0, .int .i64 0, .int .i64 0, .int .i64 0, .int .i64 0, .slice none 0 0] 35)).alloc (.cells #[.int .i64 3, .int .i64 0, .int .i64 0, .int .i64 0, .int .i64 0, .int .i64 0, .int .i64 0, .int .i64 0, .int .i64 0, .int .i64 0, .int .i64 0, .int .i64 0, .int .i64 0, .int .i64 0, .slice none 0 0] 35)
  have k2 := (Blk.new (w.alloc (.cells #[.int .i64 3, .int .i64 i, .int .i64 a, .int .i64 b, .int .i64 px, .int .i64 py, .int .i64 vx, .int .i64 vy, .int .i64 an, .int .i64 sp, .int .i64 de, .int .i64 ln, .int .i64 sk, .int .i64 sr, .slice ao n c] 35)) #[.int .i64 0, .int .i64 0, .int .i64 0, .int .i64 0, .int .i64 0, .int .i64 0, .int .i64 0, .int .i64 0, .int .i64 0, .int .i64 0, .int .i64 0, .int .i64 0, .int .i64 0, .int .i64 0, .slice none 0 0] 35).alloc (.cells #[.int .i64 3, .int .i64 0, .int .i64 0, .int .i64 0, .int .i64 0, .int .i64 0, .int .i64 0, .int .i64 0, .int .i64 0, .int .i64 0, .int .i64 0, .int .i64 0, .int .i64 0, .int .i64 0, .slice none 0 0] 35)
  have k3 := Blk.new ((w.alloc (.cells #[.int .i64 3, .int .i64 i, .int .i64 a, .int .i64 b, .int .i64 px, .int .i64 py, .int .i64 vx, .int .i64 vy, .int .i64 an, .int .i64 sp, .int .i64 de, .int .i64 ln, .int .i64 sk, .int .i64 sr, .slice ao n c] 35)).alloc (.cells #[.int .i64 0, .int .i64 0, .int .i64 0, .int .i64 0, .int .i64 0, .int .i64 0, .int .i64 0, .int .i64 0, .int .i64 0, .int .i64 0, .int .i64 0, .int .i64 0, .int .i64 0, .int .i64 0, .slice none 0 0] 35)) #[.int .i64 3, .int .i64 0, .int .i64 0, .int .i64 0, .int .i64 0, .int .i64 0, .int .i64 0, .int .i64 0, .int .i64 0, .int .i64 0, .int .i64 0, .int .i64 0, .int .i64 0, .int .i64 0, .slice none 0 0] 35
  have hg := (((Chg.refl [] w).alloc (.cells #[.int .i64 3, .int .i64 i, .int .i64 a, .int .i64 b, .int .i64 px, .int .i64 py, .int .i64 vx, .int .i64 vy, .int .i64 an, .int .i64 sp, .int .i64 de, .int .i64 ln, .int .i64 sk, .int .i64 sr, .slice ao n c] 35)).alloc (.cells #[.int .i64 0, .int .i64 0, .int .i64 0, .int .i64 0, .int .i64 0, .int .i64 0, .int .i64 0, .int .i64 0, .int .i64 0, .int .i64 0, .int .i64 0, .int .i64 0, .int .i64 0, .int .i64 0, .slice none 0 0] 35)).alloc (.cells #[.int .i64 3, .int .i64 0, .int .i64 0, .int .i64 0, .int .i64 0, .int .i64 0, .int .i64 0, .int .i64 0, .int .i64 0, .int .i64 0, .int .i64 0, .int .i64 0, .int .i64 0, .int .i64 0, .slice none 0 0] 35)
  rw [hz1] at k2
  rw [hz2] at k3
  generalize ((w.alloc (.cells #[.int .i64 3, .int .i64 i, .int .i64 a, .int .i64 b, .int .i64 px, .int .i64 py, .int .i64 vx, .int .i64 vy, .int .i64 an, .int .i64 sp, .int .i64 de, .int .i64 ln, .int .i64 sk, .int .i64 sr, .slice ao n c] 35)).alloc (.cells #[.int .i64 0, .int .i64 0, .int .i64 0, .int .i64 0, .int .i64 0, .int .i64 0, .int .i64 0, .int .i64 0, .int .i64 0, .int .i64 0, .int .i64 0, .int .i64 0, .int .i64 0, .int .i64 0, .slice none 0 0] 35)).alloc (.cells #[.int .i64 3, .int .i64 0, .int .i64 0, .int .i64 0, .int .i64 0, .int .i64 0, .int .i64 0, .int .i64 0, .int .i64 0, .int .i64 0, .int .i64 0, .int .i64 0, .int .i64 0, .int .i64 0, .slice none 0 0] 35) = w0 at *
  obtain ⟨ub, hub⟩ : ∃ ub, w.heap.size + 1 + 1 = ub := ⟨_, rfl⟩
  obtain ⟨rb, hrb⟩ : ∃ rb, w.heap.size + 1 = rb := ⟨_, rfl⟩
  rw [hub] at k3 ⊢
  rw [hrb] at k2 ⊢
  have HNE : Hd (ub ≠ rb ∧ ub ≠ w.heap.size ∧ w.heap.size ≤ ub ∧ w.heap.size ≤ rb) := hd (by omega)
  have HQ : Hd (∀ wx, Chg [ub] w0 wx → wx.cell? ⟨w.heap.size, 1, none⟩ = some (.int .i64 i) ∧ wx.cell? ⟨w.heap.size, 2, none⟩ = some (.int .i64 a) ∧ wx.cell? ⟨w.heap.size, 3, none⟩ = some (.int .i64 b) ∧ wx.cell? ⟨w.heap.size, 4, none⟩ = some (.int .i64 px) ∧ wx.cell? ⟨w.heap.size, 5, none⟩ = some (.int .i64 py) ∧ wx.cell? ⟨w.heap.size, 6, none⟩ = some (.int .i64 vx) ∧ wx.cell? ⟨w.heap.size, 7, none⟩ = some (.int .i64 vy) ∧ wx.cell? ⟨w.heap.size, 8, none⟩ = some (.int .i64 an) ∧ wx.cell? ⟨w.heap.size, 9, none⟩ = some (.int .i64 sp) ∧ wx.cell? ⟨w.heap.size, 10, none⟩ = some (.int .i64 de) ∧ wx.cell? ⟨w.heap.size, 11, none⟩ = some (.int .i64 ln)) := hd fun wx hx => ⟨hx.cellT (k1.cell 1) (by simp; omega), hx.cellT (k1.cell 2) (by simp; omega), hx.cellT (k1.cell 3) (by simp; omega), hx.cellT (k1.cell 4) (by simp; omega), hx.cellT (k1.cell 5) (by simp; omega), hx.cellT (k1.cell 6) (by simp; omega), hx.cellT (k1.cell 7) (by simp; omega), hx.cellT (k1.cell 8) (by simp; omega), hx.cellT (k1.cell 9) (by simp; omega), hx.cellT (k1.cell 10) (by simp; omega), hx.cellT (k1.cell 11) (by simp; omega)⟩
  have K2 := hd k2
  have K3 := hd k3
  have HG := hd hg
  clear k1 k2 k3 hg hz1 hz2 hub hrb
  refine anyH_start (n := 20) (L := #[false, false, false, false, false, false, false, false, false, false, false, false, false, false, false, false, false, false, false, false]) (by kernel_rfl) (by kernel_rfl) (S := (fun wx => Chg [ub] w0 wx)) ((Chg.refl _ _).drew) (fun hHeld => ?_)
  refine anyH_take (i := 0) (d := 24) (L' := #[true, false, false, false, false, false, false, false, false, false, false, false, false, false, false, false, false, false, false, false]) (v := ?v2) rfl rfl (by kernel_rfl) (fun _ _ _ h => h) (by rfl) ?hy2 (by assumption) ?rest2
  case hy2 => (intro wx hSw; (try dsimp only at hSw); (obtain ⟨t1, t2, t3, t4, t5, t6, t7, t8, t9, t10, t11⟩ := HQ.out _ hSw); go_simp; (try with_reducible rfl))
  simp only [Act.put, List.setIfInBounds_toArray, List.set_cons_zero, List.set_cons_succ]
  refine anyH_take (i := 1) (d := 25) (L' := #[true, true, false, false, false, false, false, false, false, false, false, false, false, false, false, false, false, false, false, false]) (v := ?v3) rfl rfl (by kernel_rfl) (fun _ _ _ h => h) (by rfl) ?hy3 (by assumption) ?rest3
  case hy3 => (intro wx hSw; (try dsimp only at hSw); (obtain ⟨t1, t2, t3, t4, t5, t6, t7, t8, t9, t10, t11⟩ := HQ.out _ hSw); go_simp; (try with_reducible rfl))
  simp only [Act.put, List.setIfInBounds_toArray, List.set_cons_zero, List.set_cons_succ]
  refine anyH_take (i := 2) (d := 26) (L' := #[true, true, true, false, false, false, false, false, false, false, false, false, false, false, false, false, false, false, false, false]) (v := ?v4) rfl rfl (by kernel_rfl) (fun _ _ _ h => h) (by rfl) ?hy4 (by assumption) ?rest4
  case hy4 => (intro wx hSw; (try dsimp only at hSw); (obtain ⟨t1, t2, t3, t4, t5, t6, t7, t8, t9, t10, t11⟩ := HQ.out _ hSw); go_simp; (try with_reducible rfl))
  simp only [Act.put, List.setIfInBounds_toArray, List.set_cons_zero, List.set_cons_succ]
  refine anyH_take (i := 3) (d := 27) (L' := #[true, true, true, true, false, false, false, false, false, false, false, false, false, false, false, false, false, false, false, false]) (v := ?v5) rfl rfl (by kernel_rfl) (fun _ _ _ h => h) (by rfl) ?hy5 (by assumption) ?rest5
  case hy5 => (intro wx hSw; (try dsimp only at hSw); (obtain ⟨t1, t2, t3, t4, t5, t6, t7, t8, t9, t10, t11⟩ := HQ.out _ hSw); go_simp; (try with_reducible rfl))
  simp only [Act.put, List.setIfInBounds_toArray, List.set_cons_zero, List.set_cons_succ]
  refine anyH_take (i := 4) (d := 28) (L' := #[true, true, true, true, true, false, false, false, false, false, false, false, false, false, false, false, false, false, false, false]) (v := ?v6) rfl rfl (by kernel_rfl) (fun _ _ _ h => h) (by rfl) ?hy6 (by assumption) ?rest6
  case hy6 => (intro wx hSw; (try dsimp only at hSw); (obtain ⟨t1, t2, t3, t4, t5, t6, t7, t8, t9, t10, t11⟩ := HQ.out _ hSw); go_simp; (try with_reducible rfl))
  simp only [Act.put, List.setIfInBounds_toArray, List.set_cons_zero, List.set_cons_succ]
  refine anyH_take (i := 5) (d := 29) (L' := #[true, true, true, true, true, true, false, false, false, false, false, false, false, false, false, false, false, false, false, false]) (v := ?v7) rfl rfl (by kernel_rfl) (fun _ _ _ h => h) (by rfl) ?hy7 (by assumption) ?rest7
  case hy7 => (intro wx hSw; (try dsimp only at hSw); (obtain ⟨t1, t2, t3, t4, t5, t6, t7, t8, t9, t10, t11⟩ := HQ.out _ hSw); go_simp; (try with_reducible rfl))
  simp only [Act.put, List.setIfInBounds_toArray, List.set_cons_zero, List.set_cons_succ]
  refine anyH_take (i := 6) (d := 30) (L' := #[true, true, true, true, true, true, true, false, false, false, false, false, false, false, false, false, false, false, false, false]) (v := ?v8) rfl rfl (by kernel_rfl) (fun _ _ _ h => h) (by rfl) ?hy8 (by assumption) ?rest8
  case hy8 => (intro wx hSw; (try dsimp only at hSw); (obtain ⟨t1, t2, t3, t4, t5, t6, t7, t8, t9, t10, t11⟩ := HQ.out _ hSw); go_simp; (try with_reducible rfl))
  simp only [Act.put, List.setIfInBounds_toArray, List.set_cons_zero, List.set_cons_succ]
  refine anyH_take (i := 7) (d := 31) (L' := #[true, true, true, true, true, true, true, true, false, false, false, false, false, false, false, false, false, false, false, false]) (v := ?v9) rfl rfl (by kernel_rfl) (fun _ _ _ h => h) (by rfl) ?hy9 (by assumption) ?rest9
  case hy9 => (intro wx hSw; (try dsimp only at hSw); (obtain ⟨t1, t2, t3, t4, t5, t6, t7, t8, t9, t10, t11⟩ := HQ.out _ hSw); go_simp; (try with_reducible rfl))
  simp only [Act.put, List.setIfInBounds_toArray, List.set_cons_zero, List.set_cons_succ]
  refine anyH_take (i := 8) (d := 32) (L' := #[true, true, true, true, true, true, true, true, true, false, false, false, false, false, false, false, false, false, false, false]) (v := ?v10) rfl rfl (by kernel_rfl) (fun _ _ _ h => h) (by rfl) ?hy10 (by assumption) ?rest10
  case hy10 => (intro wx hSw; (try dsimp only at hSw); (obtain ⟨t1, t2, t3, t4, t5, t6, t7, t8, t9, t10, t11⟩ := HQ.out _ hSw); go_simp; (try with_reducible rfl))
  simp only [Act.put, List.setIfInBounds_toArray, List.set_cons_zero, List.set_cons_succ]
  refine anyH_take (i := 9) (d := 33) (L' := #[true, true, true, true, true, true, true, true, true, true, false, false, false, false, false, false, false, false, false, false]) (v := ?v11) rfl rfl (by kernel_rfl) (fun _ _ _ h => h) (by rfl) ?hy11 (by assumption) ?rest11
  case hy11 => (intro wx hSw; (try dsimp only at hSw); (obtain ⟨t1, t2, t3, t4, t5, t6, t7, t8, t9, t10, t11⟩ := HQ.out _ hSw); go_simp; (try with_reducible rfl))
  simp only [Act.put, List.setIfInBounds_toArray, List.set_cons_zero, List.set_cons_succ]
  refine anyH_take (i := 10) (d := 34) (L' := #[true, true, true, true, true, true, true, true, true, true, true, false, false, false, false, false, false, false, false, false]) (v := ?v12) rfl rfl (by kernel_rfl) (fun _ _ _ h => h) (by rfl) ?hy12 (by assumption) ?rest12
  case hy12 => (intro wx hSw; (try dsimp only at hSw); (obtain ⟨t1, t2, t3, t4, t5, t6, t7, t8, t9, t10, t11⟩ := HQ.out _ hSw); go_simp; (try with_reducible rfl))
  simp only [Act.put, List.setIfInBounds_toArray, List.set_cons_zero, List.set_cons_succ]
  refine anyH_run (i := 11) (L' := #[true, true, true, true, true, true, true, true, true, true, true, true, false, false, false, false, false, false, false, false]) rfl (by kernel_rfl) (by rfl) (fun KK hKK => ?_)
  (have p2 := K3.out.cell 2; have f2 := K3.out.free 2; have p3 := K3.out.cell 3; have f3 := K3.out.free 3; have p4 := K3.out.cell 4; have f4 := K3.out.free 4; have p5 := K3.out.cell 5; have f5 := K3.out.free 5; have p6 := K3.out.cell 6; have f6 := K3.out.free 6; have p7 := K3.out.cell 7; have f7 := K3.out.free 7; have p11 := K3.out.cell 11; have f11 := K3.out.free 11; simp at p2 p3 p4 p5 p6 p7 p11; have s11 := ((Chg.refl [ub] w0).setCell ⟨ub, 2, none⟩ (.int .i64 a) (by simp)).drew; go_simp)
  refine hKK.out _ _ (by assumption) (fun hHeld => ?_)
  clear hKK KK
  try simp only [Act.put, List.setIfInBounds_toArray, List.set_cons_zero, List.set_cons_succ]
  refine anyH_take (i := 12) (d := 35) (L' := #[true, true, true, true, true, true, true, true, true, true, true, true, true, false, false, false, false, false, false, false]) (v := ?v14) rfl rfl (by kernel_rfl) (fun _ _ _ h => h) (by rfl) ?hy14 (by assumption) ?rest14
  case hy14 => (intro wx hSw; (try dsimp only at hSw); (obtain ⟨t1, t2, t3, t4, t5, t6, t7, t8, t9, t10, t11⟩ := HQ.out _ hSw); go_simp; (try with_reducible rfl))
  simp only [Act.put, List.setIfInBounds_toArray, List.set_cons_zero, List.set_cons_succ]
  refine anyH_run (i := 13) (L' := #[true, true, true, true, true, true, true, true, true, true, true, true, true, true, false, false, false, false, false, false]) rfl (by kernel_rfl) (by rfl) (fun KK hKK => ?_)
  (have p2 := K3.out.cell 2; have f2 := K3.out.free 2; have p3 := K3.out.cell 3; have f3 := K3.out.free 3; have p4 := K3.out.cell 4; have f4 := K3.out.free 4; have p5 := K3.out.cell 5; have f5 := K3.out.free 5; have p6 := K3.out.cell 6; have f6 := K3.out.free 6; have p7 := K3.out.cell 7; have f7 := K3.out.free 7; have p11 := K3.out.cell 11; have f11 := K3.out.free 11; simp at p2 p3 p4 p5 p6 p7 p11; have s13 := (((Chg.refl [ub] w0).setCell ⟨ub, 2, none⟩ (.int .i64 a) (by simp)).setCell ⟨ub, 3, none⟩ (.int .i64 b) (by simp)).drew; go_simp)
  refine hKK.out _ _ (by assumption) (fun hHeld => ?_)
  clear hKK KK
  try simp only [Act.put, List.setIfInBounds_toArray, List.set_cons_zero, List.set_cons_succ]
  refine anyH_take (i := 14) (d := 36) (L' := #[true, true, true, true, true, true, true, true, true, true, true, true, true, true, true, false, false, false, false, false]) (v := ?v16) rfl rfl (by kernel_rfl) (fun _ _ _ h => h) (by rfl) ?hy16 (by assumption) ?rest16
  case hy16 => (intro wx hSw; (try dsimp only at hSw); (obtain ⟨t1, t2, t3, t4, t5, t6, t7, t8, t9, t10, t11⟩ := HQ.out _ hSw); go_simp; (try with_reducible rfl))
  simp only [Act.put, List.setIfInBounds_toArray, List.set_cons_zero, List.set_cons_succ]
  refine anyH_run (i := 15) (L' := #[true, true, true, true, true, true, true, true, true, true, true, true, true, true, true, true, false, false, false, false]) rfl (by kernel_rfl) (by rfl) (fun KK hKK => ?_)
  (have p2 := K3.out.cell 2; have f2 := K3.out.free 2; have p3 := K3.out.cell 3; have f3 := K3.out.free 3; have p4 := K3.out.cell 4; have f4 := K3.out.free 4; have p5 := K3.out.cell 5; have f5 := K3.out.free 5; have p6 := K3.out.cell 6; have f6 := K3.out.free 6; have p7 := K3.out.cell 7; have f7 := K3.out.free 7; have p11 := K3.out.cell 11; have f11 := K3.out.free 11; simp at p2 p3 p4 p5 p6 p7 p11; have s15 := (((((Chg.refl [ub] w0).setCell ⟨ub, 2, none⟩ (.int .i64 a) (by simp)).setCell ⟨ub, 3, none⟩ (.int .i64 b) (by simp)).setCell ⟨ub, 4, none⟩ (.int .i64 px) (by simp)).setCell ⟨ub, 5, none⟩ (.int .i64 py) (by simp)).drew; go_simp)
  refine hKK.out _ _ (by assumption) (fun hHeld => ?_)
  clear hKK KK
  try simp only [Act.put, List.setIfInBounds_toArray, List.set_cons_zero, List.set_cons_succ]
  refine anyH_take (i := 16) (d := 37) (L' := #[true, true, true, true, true, true, true, true, true, true, true, true, true, true, true, true, true, false, false, false]) (v := ?v18) rfl rfl (by kernel_rfl) (fun _ _ _ h => h) (by rfl) ?hy18 (by assumption) ?rest18
  case hy18 => (intro wx hSw; (try dsimp only at hSw); (obtain ⟨t1, t2, t3, t4, t5, t6, t7, t8, t9, t10, t11⟩ := HQ.out _ hSw); go_simp; (try with_reducible rfl))
  simp only [Act.put, List.setIfInBounds_toArray, List.set_cons_zero, List.set_cons_succ]
  refine anyH_run (i := 17) (L' := #[true, true, true, true, true, true, true, true, true, true, true, true, true, true, true, true, true, true, false, false]) rfl (by kernel_rfl) (by rfl) (fun KK hKK => ?_)
  (have p2 := K3.out.cell 2; have f2 := K3.out.free 2; have p3 := K3.out.cell 3; have f3 := K3.out.free 3; have p4 := K3.out.cell 4; have f4 := K3.out.free 4; have p5 := K3.out.cell 5; have f5 := K3.out.free 5; have p6 := K3.out.cell 6; have f6 := K3.out.free 6; have p7 := K3.out.cell 7; have f7 := K3.out.free 7; have p11 := K3.out.cell 11; have f11 := K3.out.free 11; simp at p2 p3 p4 p5 p6 p7 p11; have s17 := (((((((Chg.refl [ub] w0).setCell ⟨ub, 2, none⟩ (.int .i64 a) (by simp)).setCell ⟨ub, 3, none⟩ (.int .i64 b) (by simp)).setCell ⟨ub, 4, none⟩ (.int .i64 px) (by simp)).setCell ⟨ub, 5, none⟩ (.int .i64 py) (by simp)).setCell ⟨ub, 6, none⟩ (.int .i64 vx) (by simp)).setCell ⟨ub, 7, none⟩ (.int .i64 vy) (by simp)).drew; go_simp)
  refine hKK.out _ _ (by assumption) (fun hHeld => ?_)
  clear hKK KK
  try simp only [Act.put, List.setIfInBounds_toArray, List.set_cons_zero, List.set_cons_succ]
  refine anyH_take (i := 18) (d := 38) (L' := #[true, true, true, true, true, true, true, true, true, true, true, true, true, true, true, true, true, true, true, false]) (v := ?v20) rfl rfl (by kernel_rfl) (fun _ _ _ h => h) (by rfl) ?hy20 (by assumption) ?rest20
  case hy20 => (intro wx hSw; (try dsimp only at hSw); (obtain ⟨t1, t2, t3, t4, t5, t6, t7, t8, t9, t10, t11⟩ := HQ.out _ hSw); go_simp; (try with_reducible rfl))
  simp only [Act.put, List.setIfInBounds_toArray, List.set_cons_zero, List.set_cons_succ]
  refine anyH_run (i := 19) (L' := #[true, true, true, true, true, true, true, true, true, true, true, true, true, true, true, true, true, true, true, true]) rfl (by kernel_rfl) (by rfl) (fun KK hKK => ?_)
  (have p2 := K3.out.cell 2; have f2 := K3.out.free 2; have p3 := K3.out.cell 3; have f3 := K3.out.free 3; have p4 := K3.out.cell 4; have f4 := K3.out.free 4; have p5 := K3.out.cell 5; have f5 := K3.out.free 5; have p6 := K3.out.cell 6; have f6 := K3.out.free 6; have p7 := K3.out.cell 7; have f7 := K3.out.free 7; have p11 := K3.out.cell 11; have f11 := K3.out.free 11; simp at p2 p3 p4 p5 p6 p7 p11; have s19 := ((((((((Chg.refl [ub] w0).setCell ⟨ub, 2, none⟩ (.int .i64 a) (by simp)).setCell ⟨ub, 3, none⟩ (.int .i64 b) (by simp)).setCell ⟨ub, 4, none⟩ (.int .i64 px) (by simp)).setCell ⟨ub, 5, none⟩ (.int .i64 py) (by simp)).setCell ⟨ub, 6, none⟩ (.int .i64 vx) (by simp)).setCell ⟨ub, 7, none⟩ (.int .i64 vy) (by simp)).setCell ⟨ub, 11, none⟩ (.int .i64 ln) (by simp)).drew; go_simp)
  refine hKK.out _ _ (by assumption) (fun hHeld => ?_)
  clear hKK KK
  try simp only [Act.put, List.setIfInBounds_toArray, List.set_cons_zero, List.set_cons_succ]
  refine wpAnyH_done (by kernel_rfl) ?_ _
  skip
  have K6 := (((((((K3.out.set 2 (.int .i64 a)).set 3 (.int .i64 b)).set 4 (.int .i64 px)).set 5 (.int .i64 py)).set 6 (.int .i64 vx)).set 7 (.int .i64 vy)).set 11 (.int .i64 ln)).k (Chg.refl [] _).drew
  have K7 := K2.out.chg s19 (by simpa using fun e => HNE.out.1 e.symm)
  have HS := hd s19
  clear s11 s13 s15 s17 s19 hHeld p2 f2 p3 f3 p4 f4 p5 f5 p6 f6 p7 f7 p11 f11
  generalize (((((((w0.setCell ⟨ub, 2, none⟩ (.int .i64 a)).setCell ⟨ub, 3, none⟩ (.int .i64 b)).setCell ⟨ub, 4, none⟩ (.int .i64 px)).setCell ⟨ub, 5, none⟩ (.int .i64 py)).setCell ⟨ub, 6, none⟩ (.int .i64 vx)).setCell ⟨ub, 7, none⟩ (.int .i64 vy)).setCell ⟨ub, 11, none⟩ (.int .i64 ln)).drew = w6 at *
  simp at K6
  clear K2 K3 HQ
  go_wp2_with (first | (refine wpList_load_row rfl _ _ rfl ub rfl 35 _ (0, 0) _ K6 Try.underlying35 rfl (by kernel_rfl) ?_) | (refine wpList_store_row rfl _ _ _ rfl rb #[.int .i64 3, .int .i64 0, .int .i64 a, .int .i64 b, .int .i64 px, .int .i64 py, .int .i64 vx, .int .i64 vy, .int .i64 0, .int .i64 0, .int .i64 0, .int .i64 ln, .int .i64 0, .int .i64 0, .slice none 0 0] rfl rfl 35 _ K7 (by kernel_rfl) (by simp) (by simp [Value.oneCell']) ?_))
  have K8 := K7.row (cs' := #[.int .i64 3, .int .i64 0, .int .i64 a, .int .i64 b, .int .i64 px, .int .i64 py, .int .i64 vx, .int .i64 vy, .int .i64 0, .int .i64 0, .int .i64 0, .int .i64 ln, .int .i64 0, .int .i64 0, .slice none 0 0])
  refine bodyPost_ret (results_cell_row rfl _ _ rb 35 _ (0, 0) _ rfl K8 Try.underlying35 rfl (by kernel_rfl)) rfl ⟨rfl, ?_⟩
  exact (HG.out.trans HS.out (fun x hx hl => by rw [List.mem_singleton.mp hx] at hl; exact absurd hl (Nat.not_lt.mpr HNE.out.2.2.1))).row rb _ (fun e => absurd e (Nat.not_lt.mpr HNE.out.2.2.2))
end Go.Proofs.Ytlicefbgcoddbaa

/- order.used, case 4. -/
namespace Go.Proofs.Ytlicefbgcoddbaa
open Go.RowKit

set_option maxRecDepth 100000 in
set_option maxHeartbeats 8000000 in
theorem used4_any (w : World) (i a b px py vx vy an sp de ln sk sr : Int) (ao : Option Addr) (n c : Nat) : Calls Try.prog 26 #[.agg #[.int .i64 4, .int .i64 i, .int .i64 a, .int .i64 b, .int .i64 px, .int .i64 py, .int .i64 vx, .int .i64 vy, .int .i64 an, .int .i64 sp, .int .i64 de, .int .i64 ln, .int .i64 sk, .int .i64 sr, .slice ao n c]] w fun e w' => e = .returned (.agg #[.int .i64 4, .int .i64 i, .int .i64 0, .int .i64 0, .int .i64 0, .int .i64 0, .int .i64 0, .int .i64 0, .int .i64 0, .int .i64 0, .int .i64 0, .int .i64 0, .int .i64 0, .int .i64 0, .slice none 0 0]) ∧ Chg [] w w' := by
  go_enter Try.func26, Try.ntmps26
  go_wp2
  refine bodyPost_ret (v := .agg #[.int .i64 4, .int .i64 i, .int .i64 0, .int .i64 0, .int .i64 0, .int .i64 0, .int .i64 0, .int .i64 0, .int .i64 0, .int .i64 0, .int .i64 0, .int .i64 0, .int .i64 0, .int .i64 0, .slice none 0 0]) (by simp only [results]; go_simp) rfl ⟨rfl, ?_⟩
  exact (((Chg.refl [] w).alloc _).alloc _).alloc _
end Go.Proofs.Ytlicefbgcoddbaa

/- order.used, case 5. -/
namespace Go.Proofs.Ytlicefbgcoddbaa
open Go.RowKit

set_option maxRecDepth 100000 in
set_option maxHeartbeats 8000000 in
theorem used5_any (w : World) (i a b px py vx vy an sp de ln sk sr : Int) (ao : Option Addr) (n c : Nat) : Calls Try.prog 26 #[.agg #[.int .i64 5, .int .i64 i, .int .i64 a, .int .i64 b, .int .i64 px, .int .i64 py, .int .i64 vx, .int .i64 vy, .int .i64 an, .int .i64 sp, .int .i64 de, .int .i64 ln, .int .i64 sk, .int .i64 sr, .slice ao n c]] w fun e w' => e = .returned (.agg #[.int .i64 5, .int .i64 i, .int .i64 0, .int .i64 0, .int .i64 0, .int .i64 0, .int .i64 vx, .int .i64 vy, .int .i64 0, .int .i64 sp, .int .i64 0, .int .i64 0, .int .i64 0, .int .i64 0, .slice none 0 0]) ∧ Chg [] w w' := by
  go_enter Try.func26, Try.ntmps26
  go_upto_region 12 with (fail)
  have hz1 : (w.alloc (.cells #[.int .i64 5, .int .i64 i, .int .i64 a, .int .i64 b, .int .i64 px, .int .i64 py, .int .i64 vx, .int .i64 vy, .int .i64 an, .int .i64 sp, .int .i64 de, .int .i64 ln, .int .i64 sk, .int .i64 sr, .slice ao n c] 35)).heap.size = w.heap.size + 1 := by simp
  have hz2 : ((w.alloc (.cells #[.int .i64 5, .int .i64 i, .int .i64 a, .int .i64 b, .int .i64 px, .int .i64 py, .int .i64 vx, .int .i64 vy, .int .i64 an, .int .i64 sp, .int .i64 de, .int .i64 ln, .int .i64 sk, .int .i64 sr, .slice ao n c] 35)).alloc (.cells #[.int .i64 0, .int .i64 0, .int .i64 0, .int .i64 0, .int .i64 0, .int .i64 0, .int .i64 0, .int .i64 0, .int .i64 0, .int .i64 0, .int .i64 0, .int .i64 0, .int .i64 0, .int .i64 0, .slice none 0 0] 35)).heap.size = w.heap.size + 1 + 1 := by simp
  have k1 := ((Blk.new w #[.int .i64 5, .int .i64 i, .int .i64 a, .int .i64 b, .int .i64 px, .int .i64 py, .int .i64 vx, .int .i64 vy, .int .i64 an, .int .i64 sp, .int .i64 de, .int .i64 ln, .int .i64 sk, .int .i64 sr, .slice ao n c] 35).alloc (.cells #[.int .i64 0, .int .i64 0, .int .i64 0, .int .i64 0, .int .i64 0, .int .i64 0, .int .i64 0, .int .i64 0, .int .i64 0, .int .i64 0, .int .i64 0, .int .i64 0, .int .i64 0, .int .i64 0, .slice none 0 0] 35)).alloc (.cells #[.int .i64 5, .int .i64 0, .int .i64 0, .int .i64 0, .int .i64 0, .int .i64 0, .int .i64 0, .int .i64 0, .int .i64 0, .int .i64 0, .int .i64 0, .int .i64 0, .int .i64 0, .int .i64 0, .slice none 0 0] 35)
  have k2 := (Blk.new (w.alloc (.cells #[.int .i64 5, .int .i64 i, .int .i64 a, .int .i64 b, .int .i64 px, .int .i64 py, .int .i64 vx, .int .i64 vy, .int .i64 an, .int .i64 sp, .int .i64 de, .int .i64 ln, .int .i64 sk, .int .i64 sr, .slice ao n c] 35)) #[.int .i64 0, .int .i64 0, .int .i64 0, .int .i64 0, .int .i64 0, .int .i64 0, .int .i64 0, .int .i64 0, .int .i64 0, .int .i64 0, .int .i64 0, .int .i64 0, .int .i64 0, .int .i64 0, .slice none 0 0] 35).alloc (.cells #[.int .i64 5, .int .i64 0, .int .i64 0, .int .i64 0, .int .i64 0, .int .i64 0, .int .i64 0, .int .i64 0, .int .i64 0, .int .i64 0, .int .i64 0, .int .i64 0, .int .i64 0, .int .i64 0, .slice none 0 0] 35)
  have k3 := Blk.new ((w.alloc (.cells #[.int .i64 5, .int .i64 i, .int .i64 a, .int .i64 b, .int .i64 px, .int .i64 py, .int .i64 vx, .int .i64 vy, .int .i64 an, .int .i64 sp, .int .i64 de, .int .i64 ln, .int .i64 sk, .int .i64 sr, .slice ao n c] 35)).alloc (.cells #[.int .i64 0, .int .i64 0, .int .i64 0, .int .i64 0, .int .i64 0, .int .i64 0, .int .i64 0, .int .i64 0, .int .i64 0, .int .i64 0, .int .i64 0, .int .i64 0, .int .i64 0, .int .i64 0, .slice none 0 0] 35)) #[.int .i64 5, .int .i64 0, .int .i64 0, .int .i64 0, .int .i64 0, .int .i64 0, .int .i64 0, .int .i64 0, .int .i64 0, .int .i64 0, .int .i64 0, .int .i64 0, .int .i64 0, .int .i64 0, .slice none 0 0] 35
  have hg := (((Chg.refl [] w).alloc (.cells #[.int .i64 5, .int .i64 i, .int .i64 a, .int .i64 b, .int .i64 px, .int .i64 py, .int .i64 vx, .int .i64 vy, .int .i64 an, .int .i64 sp, .int .i64 de, .int .i64 ln, .int .i64 sk, .int .i64 sr, .slice ao n c] 35)).alloc (.cells #[.int .i64 0, .int .i64 0, .int .i64 0, .int .i64 0, .int .i64 0, .int .i64 0, .int .i64 0, .int .i64 0, .int .i64 0, .int .i64 0, .int .i64 0, .int .i64 0, .int .i64 0, .int .i64 0, .slice none 0 0] 35)).alloc (.cells #[.int .i64 5, .int .i64 0, .int .i64 0, .int .i64 0, .int .i64 0, .int .i64 0, .int .i64 0, .int .i64 0, .int .i64 0, .int .i64 0, .int .i64 0, .int .i64 0, .int .i64 0, .int .i64 0, .slice none 0 0] 35)
  rw [hz1] at k2
  rw [hz2] at k3
  generalize ((w.alloc (.cells #[.int .i64 5, .int .i64 i, .int .i64 a, .int .i64 b, .int .i64 px, .int .i64 py, .int .i64 vx, .int .i64 vy, .int .i64 an, .int .i64 sp, .int .i64 de, .int .i64 ln, .int .i64 sk, .int .i64 sr, .slice ao n c] 35)).alloc (.cells #[.int .i64 0, .int .i64 0, .int .i64 0, .int .i64 0, .int .i64 0, .int .i64 0, .int .i64 0, .int .i64 0, .int .i64 0, .int .i64 0, .int .i64 0, .int .i64 0, .int .i64 0, .int .i64 0, .slice none 0 0] 35)).alloc (.cells #[.int .i64 5, .int .i64 0, .int .i64 0, .int .i64 0, .int .i64 0, .int .i64 0, .int .i64 0, .int .i64 0, .int .i64 0, .int .i64 0, .int .i64 0, .int .i64 0, .int .i64 0, .int .i64 0, .slice none 0 0] 35) = w0 at *
  obtain ⟨ub, hub⟩ : ∃ ub, w.heap.size + 1 + 1 = ub := ⟨_, rfl⟩
  obtain ⟨rb, hrb⟩ : ∃ rb, w.heap.size + 1 = rb := ⟨_, rfl⟩
  rw [hub] at k3 ⊢
  rw [hrb] at k2 ⊢
  have HNE : Hd (ub ≠ rb ∧ ub ≠ w.heap.size ∧ w.heap.size ≤ ub ∧ w.heap.size ≤ rb) := hd (by omega)
  have HQ : Hd (∀ wx, Chg [ub] w0 wx → wx.cell? ⟨w.heap.size, 1, none⟩ = some (.int .i64 i) ∧ wx.cell? ⟨w.heap.size, 2, none⟩ = some (.int .i64 a) ∧ wx.cell? ⟨w.heap.size, 3, none⟩ = some (.int .i64 b) ∧ wx.cell? ⟨w.heap.size, 4, none⟩ = some (.int .i64 px) ∧ wx.cell? ⟨w.heap.size, 5, none⟩ = some (.int .i64 py) ∧ wx.cell? ⟨w.heap.size, 6, none⟩ = some (.int .i64 vx) ∧ wx.cell? ⟨w.heap.size, 7, none⟩ = some (.int .i64 vy) ∧ wx.cell? ⟨w.heap.size, 8, none⟩ = some (.int .i64 an) ∧ wx.cell? ⟨w.heap.size, 9, none⟩ = some (.int .i64 sp) ∧ wx.cell? ⟨w.heap.size, 10, none⟩ = some (.int .i64 de) ∧ wx.cell? ⟨w.heap.size, 11, none⟩ = some (.int .i64 ln)) := hd fun wx hx => ⟨hx.cellT (k1.cell 1) (by simp; omega), hx.cellT (k1.cell 2) (by simp; omega), hx.cellT (k1.cell 3) (by simp; omega), hx.cellT (k1.cell 4) (by simp; omega), hx.cellT (k1.cell 5) (by simp; omega), hx.cellT (k1.cell 6) (by simp; omega), hx.cellT (k1.cell 7) (by simp; omega), hx.cellT (k1.cell 8) (by simp; omega), hx.cellT (k1.cell 9) (by simp; omega), hx.cellT (k1.cell 10) (by simp; omega), hx.cellT (k1.cell 11) (by simp; omega)⟩
  have K2 := hd k2
  have K3 := hd k3
  have HG := hd hg
  clear k1 k2 k3 hg hz1 hz2 hub hrb
  refine anyH_start (n := 12) (L := #[false, false, false, false, false, false, false, false, false, false, false, false]) (by kernel_rfl) (by kernel_rfl) (S := (fun wx => Chg [ub] w0 wx)) ((Chg.refl _ _).drew) (fun hHeld => ?_)
  refine anyH_take (i := 0) (d := 41) (L' := #[true, false, false, false, false, false, false, false, false, false, false, false]) (v := ?v2) rfl rfl (by kernel_rfl) (fun _ _ _ h => h) (by rfl) ?hy2 (by assumption) ?rest2
  case hy2 => (intro wx hSw; (try dsimp only at hSw); (obtain ⟨t1, t2, t3, t4, t5, t6, t7, t8, t9, t10, t11⟩ := HQ.out _ hSw); go_simp; (try with_reducible rfl))
  simp only [Act.put, List.setIfInBounds_toArray, List.set_cons_zero, List.set_cons_succ]
  refine anyH_take (i := 1) (d := 42) (L' := #[true, true, false, false, false, false, false, false, false, false, false, false]) (v := ?v3) rfl rfl (by kernel_rfl) (fun _ _ _ h => h) (by rfl) ?hy3 (by assumption) ?rest3
  case hy3 => (intro wx hSw; (try dsimp only at hSw); (obtain ⟨t1, t2, t3, t4, t5, t6, t7, t8, t9, t10, t11⟩ := HQ.out _ hSw); go_simp; (try with_reducible rfl))
  simp only [Act.put, List.setIfInBounds_toArray, List.set_cons_zero, List.set_cons_succ]
  refine anyH_take (i := 2) (d := 43) (L' := #[true, true, true, false, false, false, false, false, false, false, false, false]) (v := ?v4) rfl rfl (by kernel_rfl) (fun _ _ _ h => h) (by rfl) ?hy4 (by assumption) ?rest4
  case hy4 => (intro wx hSw; (try dsimp only at hSw); (obtain ⟨t1, t2, t3, t4, t5, t6, t7, t8, t9, t10, t11⟩ := HQ.out _ hSw); go_simp; (try with_reducible rfl))
  simp only [Act.put, List.setIfInBounds_toArray, List.set_cons_zero, List.set_cons_succ]
  refine anyH_take (i := 3) (d := 44) (L' := #[true, true, true, true, false, false, false, false, false, false, false, false]) (v := ?v5) rfl rfl (by kernel_rfl) (fun _ _ _ h => h) (by rfl) ?hy5 (by assumption) ?rest5
  case hy5 => (intro wx hSw; (try dsimp only at hSw); (obtain ⟨t1, t2, t3, t4, t5, t6, t7, t8, t9, t10, t11⟩ := HQ.out _ hSw); go_simp; (try with_reducible rfl))
  simp only [Act.put, List.setIfInBounds_toArray, List.set_cons_zero, List.set_cons_succ]
  refine anyH_take (i := 4) (d := 45) (L' := #[true, true, true, true, true, false, false, false, false, false, false, false]) (v := ?v6) rfl rfl (by kernel_rfl) (fun _ _ _ h => h) (by rfl) ?hy6 (by assumption) ?rest6
  case hy6 => (intro wx hSw; (try dsimp only at hSw); (obtain ⟨t1, t2, t3, t4, t5, t6, t7, t8, t9, t10, t11⟩ := HQ.out _ hSw); go_simp; (try with_reducible rfl))
  simp only [Act.put, List.setIfInBounds_toArray, List.set_cons_zero, List.set_cons_succ]
  refine anyH_take (i := 5) (d := 46) (L' := #[true, true, true, true, true, true, false, false, false, false, false, false]) (v := ?v7) rfl rfl (by kernel_rfl) (fun _ _ _ h => h) (by rfl) ?hy7 (by assumption) ?rest7
  case hy7 => (intro wx hSw; (try dsimp only at hSw); (obtain ⟨t1, t2, t3, t4, t5, t6, t7, t8, t9, t10, t11⟩ := HQ.out _ hSw); go_simp; (try with_reducible rfl))
  simp only [Act.put, List.setIfInBounds_toArray, List.set_cons_zero, List.set_cons_succ]
  refine anyH_take (i := 6) (d := 47) (L' := #[true, true, true, true, true, true, true, false, false, false, false, false]) (v := ?v8) rfl rfl (by kernel_rfl) (fun _ _ _ h => h) (by rfl) ?hy8 (by assumption) ?rest8
  case hy8 => (intro wx hSw; (try dsimp only at hSw); (obtain ⟨t1, t2, t3, t4, t5, t6, t7, t8, t9, t10, t11⟩ := HQ.out _ hSw); go_simp; (try with_reducible rfl))
  simp only [Act.put, List.setIfInBounds_toArray, List.set_cons_zero, List.set_cons_succ]
  refine anyH_run (i := 7) (L' := #[true, true, true, true, true, true, true, true, false, false, false, false]) rfl (by kernel_rfl) (by rfl) (fun KK hKK => ?_)
  (have p1 := K3.out.cell 1; have f1 := K3.out.free 1; have p6 := K3.out.cell 6; have f6 := K3.out.free 6; have p7 := K3.out.cell 7; have f7 := K3.out.free 7; have p9 := K3.out.cell 9; have f9 := K3.out.free 9; simp at p1 p6 p7 p9; have s7 := ((Chg.refl [ub] w0).setCell ⟨ub, 1, none⟩ (.int .i64 i) (by simp)).drew; go_simp)
  refine hKK.out _ _ (by assumption) (fun hHeld => ?_)
  clear hKK KK
  try simp only [Act.put, List.setIfInBounds_toArray, List.set_cons_zero, List.set_cons_succ]
  refine anyH_take (i := 8) (d := 48) (L' := #[true, true, true, true, true, true, true, true, true, false, false, false]) (v := ?v10) rfl rfl (by kernel_rfl) (fun _ _ _ h => h) (by rfl) ?hy10 (by assumption) ?rest10
  case hy10 => (intro wx hSw; (try dsimp only at hSw); (obtain ⟨t1, t2, t3, t4, t5, t6, t7, t8, t9, t10, t11⟩ := HQ.out _ hSw); go_simp; (try with_reducible rfl))
  simp only [Act.put, List.setIfInBounds_toArray, List.set_cons_zero, List.set_cons_succ]
  refine anyH_run (i := 9) (L' := #[true, true, true, true, true, true, true, true, true, true, false, false]) rfl (by kernel_rfl) (by rfl) (fun KK hKK => ?_)
  (have p1 := K3.out.cell 1; have f1 := K3.out.free 1; have p6 := K3.out.cell 6; have f6 := K3.out.free 6; have p7 := K3.out.cell 7; have f7 := K3.out.free 7; have p9 := K3.out.cell 9; have f9 := K3.out.free 9; simp at p1 p6 p7 p9; have s9 := ((((Chg.refl [ub] w0).setCell ⟨ub, 1, none⟩ (.int .i64 i) (by simp)).setCell ⟨ub, 6, none⟩ (.int .i64 vx) (by simp)).setCell ⟨ub, 7, none⟩ (.int .i64 vy) (by simp)).drew; go_simp)
  refine hKK.out _ _ (by assumption) (fun hHeld => ?_)
  clear hKK KK
  try simp only [Act.put, List.setIfInBounds_toArray, List.set_cons_zero, List.set_cons_succ]
  refine anyH_take (i := 10) (d := 49) (L' := #[true, true, true, true, true, true, true, true, true, true, true, false]) (v := ?v12) rfl rfl (by kernel_rfl) (fun _ _ _ h => h) (by rfl) ?hy12 (by assumption) ?rest12
  case hy12 => (intro wx hSw; (try dsimp only at hSw); (obtain ⟨t1, t2, t3, t4, t5, t6, t7, t8, t9, t10, t11⟩ := HQ.out _ hSw); go_simp; (try with_reducible rfl))
  simp only [Act.put, List.setIfInBounds_toArray, List.set_cons_zero, List.set_cons_succ]
  refine anyH_run (i := 11) (L' := #[true, true, true, true, true, true, true, true, true, true, true, true]) rfl (by kernel_rfl) (by rfl) (fun KK hKK => ?_)
  (have p1 := K3.out.cell 1; have f1 := K3.out.free 1; have p6 := K3.out.cell 6; have f6 := K3.out.free 6; have p7 := K3.out.cell 7; have f7 := K3.out.free 7; have p9 := K3.out.cell 9; have f9 := K3.out.free 9; simp at p1 p6 p7 p9; have s11 := (((((Chg.refl [ub] w0).setCell ⟨ub, 1, none⟩ (.int .i64 i) (by simp)).setCell ⟨ub, 6, none⟩ (.int .i64 vx) (by simp)).setCell ⟨ub, 7, none⟩ (.int .i64 vy) (by simp)).setCell ⟨ub, 9, none⟩ (.int .i64 sp) (by simp)).drew; go_simp)
  refine hKK.out _ _ (by assumption) (fun hHeld => ?_)
  clear hKK KK
  try simp only [Act.put, List.setIfInBounds_toArray, List.set_cons_zero, List.set_cons_succ]
  refine wpAnyH_done (by kernel_rfl) ?_ _
  skip
  have K6 := ((((K3.out.set 1 (.int .i64 i)).set 6 (.int .i64 vx)).set 7 (.int .i64 vy)).set 9 (.int .i64 sp)).k (Chg.refl [] _).drew
  have K7 := K2.out.chg s11 (by simpa using fun e => HNE.out.1 e.symm)
  have HS := hd s11
  clear s7 s9 s11 hHeld p1 f1 p6 f6 p7 f7 p9 f9
  generalize ((((w0.setCell ⟨ub, 1, none⟩ (.int .i64 i)).setCell ⟨ub, 6, none⟩ (.int .i64 vx)).setCell ⟨ub, 7, none⟩ (.int .i64 vy)).setCell ⟨ub, 9, none⟩ (.int .i64 sp)).drew = w6 at *
  simp at K6
  clear K2 K3 HQ
  go_wp2_with (first | (refine wpList_load_row rfl _ _ rfl ub rfl 35 _ (0, 0) _ K6 Try.underlying35 rfl (by kernel_rfl) ?_) | (refine wpList_store_row rfl _ _ _ rfl rb #[.int .i64 5, .int .i64 i, .int .i64 0, .int .i64 0, .int .i64 0, .int .i64 0, .int .i64 vx, .int .i64 vy, .int .i64 0, .int .i64 sp, .int .i64 0, .int .i64 0, .int .i64 0, .int .i64 0, .slice none 0 0] rfl rfl 35 _ K7 (by kernel_rfl) (by simp) (by simp [Value.oneCell']) ?_))
  have K8 := K7.row (cs' := #[.int .i64 5, .int .i64 i, .int .i64 0, .int .i64 0, .int .i64 0, .int .i64 0, .int .i64 vx, .int .i64 vy, .int .i64 0, .int .i64 sp, .int .i64 0, .int .i64 0, .int .i64 0, .int .i64 0, .slice none 0 0])
  refine bodyPost_ret (results_cell_row rfl _ _ rb 35 _ (0, 0) _ rfl K8 Try.underlying35 rfl (by kernel_rfl)) rfl ⟨rfl, ?_⟩
  exact (HG.out.trans HS.out (fun x hx hl => by rw [List.mem_singleton.mp hx] at hl; exact absurd hl (Nat.not_lt.mpr HNE.out.2.2.1))).row rb _ (fun e => absurd e (Nat.not_lt.mpr HNE.out.2.2.2))
end Go.Proofs.Ytlicefbgcoddbaa

/- order.used, case 6. -/
namespace Go.Proofs.Ytlicefbgcoddbaa
open Go.RowKit

set_option maxRecDepth 100000 in
set_option maxHeartbeats 8000000 in
theorem used6_any (w : World) (i a b px py vx vy an sp de ln sk sr : Int) (ao : Option Addr) (n c : Nat) : Calls Try.prog 26 #[.agg #[.int .i64 6, .int .i64 i, .int .i64 a, .int .i64 b, .int .i64 px, .int .i64 py, .int .i64 vx, .int .i64 vy, .int .i64 an, .int .i64 sp, .int .i64 de, .int .i64 ln, .int .i64 sk, .int .i64 sr, .slice ao n c]] w fun e w' => e = .returned (.agg #[.int .i64 6, .int .i64 0, .int .i64 0, .int .i64 0, .int .i64 0, .int .i64 0, .int .i64 vx, .int .i64 vy, .int .i64 0, .int .i64 0, .int .i64 0, .int .i64 0, .int .i64 0, .int .i64 0, .slice none 0 0]) ∧ Chg [] w w' := by
  go_enter Try.func26, Try.ntmps26
  go_wp2
  refine bodyPost_ret (v := .agg #[.int .i64 6, .int .i64 0, .int .i64 0, .int .i64 0, .int .i64 0, .int .i64 0, .int .i64 vx, .int .i64 vy, .int .i64 0, .int .i64 0, .int .i64 0, .int .i64 0, .int .i64 0, .int .i64 0, .slice none 0 0]) (by simp only [results]; go_simp) rfl ⟨rfl, ?_⟩
  exact (((Chg.refl [] w).alloc _).alloc _).alloc _
end Go.Proofs.Ytlicefbgcoddbaa

/- order.used, case 7. -/
namespace Go.Proofs.Ytlicefbgcoddbaa
open Go.RowKit

set_option maxRecDepth 100000 in
set_option maxHeartbeats 8000000 in
theorem used7_any (w : World) (k i a b px py vx vy an sp de ln sk sr : Int) (ao : Option Addr) (n c : Nat) (q1 : (k == 1) = false) (q2 : (k == 2) = false) (q3 : (k == 3) = false) (q4 : (k == 4) = false) (q5 : (k == 5) = false) (q6 : (k == 6) = false) : Calls Try.prog 26 #[.agg #[.int .i64 k, .int .i64 i, .int .i64 a, .int .i64 b, .int .i64 px, .int .i64 py, .int .i64 vx, .int .i64 vy, .int .i64 an, .int .i64 sp, .int .i64 de, .int .i64 ln, .int .i64 sk, .int .i64 sr, .slice ao n c]] w fun e w' => e = .returned (.agg #[.int .i64 k, .int .i64 0, .int .i64 0, .int .i64 0, .int .i64 0, .int .i64 0, .int .i64 0, .int .i64 0, .int .i64 0, .int .i64 0, .int .i64 0, .int .i64 0, .int .i64 0, .int .i64 0, .slice none 0 0]) ∧ Chg [] w w' := by
  go_enter Try.func26, Try.ntmps26
  go_wp2
  refine bodyPost_ret (v := .agg #[.int .i64 k, .int .i64 0, .int .i64 0, .int .i64 0, .int .i64 0, .int .i64 0, .int .i64 0, .int .i64 0, .int .i64 0, .int .i64 0, .int .i64 0, .int .i64 0, .int .i64 0, .int .i64 0, .slice none 0 0]) (by simp only [results]; go_simp) rfl ⟨rfl, ?_⟩
  exact (((Chg.refl [] w).alloc _).alloc _).alloc _
end Go.Proofs.Ytlicefbgcoddbaa

/- order.used. -/
namespace Go.Proofs.Ytlicefbgcoddbaa
open Go.RowKit

set_option maxRecDepth 100000 in
set_option maxHeartbeats 8000000 in
theorem Used_any (w : World) (o : Ord) (pv : Value) (hpv : IsSl pv) : Calls Try.prog 26 #[vO o pv] w fun e w' => e = .returned (vO (usedO o) (usedP o pv)) ∧ Chg [] w w' := by
  obtain ⟨k, i, a, b, ⟨px, py⟩, ⟨vx, vy⟩, an, sp, de, ln, ⟨sk, sr, p⟩⟩ := o
  obtain ⟨ao, n, c, rfl⟩ := hpv
  unfold vO usedO usedP
  simp only
  by_cases h1 : k = 1
  · subst h1
    simp only [if_pos]
    exact used1_any w i a b px py vx vy an sp de ln sk sr ao n c
  · have q1 : (k == 1) = false := by rw [beq_eq_false_iff_ne]; exact h1
    rw [if_neg h1, if_neg h1]
    by_cases h2 : k = 2
    · subst h2
      rw [if_pos (.inl rfl)]
      unfold noS
      simp only
      exact used2_any w i a b px py vx vy an sp de ln sk sr ao n c
    · have q2 : (k == 2) = false := by rw [beq_eq_false_iff_ne]; exact h2
      by_cases h4 : k = 4
      · subst h4
        rw [if_pos (.inr rfl)]
        unfold noS
        simp only
        exact used4_any w i a b px py vx vy an sp de ln sk sr ao n c
      · have q4 : (k == 4) = false := by rw [beq_eq_false_iff_ne]; exact h4
        rw [if_neg (by omega)]
        by_cases h3 : k = 3
        · subst h3
          rw [if_pos rfl]
          unfold noS
          simp only
          exact used3_any w i a b px py vx vy an sp de ln sk sr ao n c
        · have q3 : (k == 3) = false := by rw [beq_eq_false_iff_ne]; exact h3
          rw [if_neg h3]
          by_cases h5 : k = 5
          · subst h5
            rw [if_pos rfl]
            unfold noS
            simp only
            exact used5_any w i a b px py vx vy an sp de ln sk sr ao n c
          · have q5 : (k == 5) = false := by rw [beq_eq_false_iff_ne]; exact h5
            rw [if_neg h5]
            by_cases h6 : k = 6
            · subst h6
              rw [if_pos rfl]
              unfold noS
              simp only
              exact used6_any w i a b px py vx vy an sp de ln sk sr ao n c
            · have q6 : (k == 6) = false := by rw [beq_eq_false_iff_ne]; exact h6
              rw [if_neg h6]
              unfold noS
              simp only
              exact used7_any w k i a b px py vx vy an sp de ln sk sr ao n c q1 q2 q3 q4 q5 q6
end Go.Proofs.Ytlicefbgcoddbaa

/- order.Same. -/
namespace Go.Proofs.Ytlicefbgcoddbaa
open Go.RowKit

set_option maxRecDepth 100000 in
set_option maxHeartbeats 8000000 in
theorem OSame_any (w : World) (x y : Ord) (pv qv : Value) (hx : VsS w pv x.shape.p) (hy : VsS w qv y.shape.p) : Calls Try.prog 25 #[vO x pv, vO y qv] w fun e w' => e = .returned (.bool (sameO x y)) ∧ Chg [] w w' := by
  obtain ⟨k, i, a, b, ⟨px, py⟩, ⟨vx, vy⟩, an, sp, de, ln, ⟨sk, sr, p⟩⟩ := x
  obtain ⟨k2, i2, a2, b2, ⟨px2, py2⟩, ⟨vx2, vy2⟩, an2, sp2, de2, ln2, ⟨sk2, sr2, p2⟩⟩ := y
  simp only at hx hy
  have hc1 := fun W (hW : Chg [] w W) => SSame_any W ⟨sk, sr, p⟩ ⟨sk2, sr2, p2⟩ pv qv (hx.k hW) (hy.k hW)
  unfold sameO vO
  unfold vS at hc1
  simp only at hc1 ⊢
  generalize sameS ⟨sk, sr, p⟩ ⟨sk2, sr2, p2⟩ = s at *
  obtain ⟨ao, c, rfl, -⟩ := hx.form
  obtain ⟨ao2, c2, rfl, -⟩ := hy.form
  clear hx hy
  generalize p.length = x1 at *
  generalize p2.length = x2 at *
  have hcb := ((Chg.refl [] w).alloc (.cells #[.int .i64 k, .int .i64 i, .int .i64 a, .int .i64 b, .int .i64 px, .int .i64 py, .int .i64 vx, .int .i64 vy, .int .i64 an, .int .i64 sp, .int .i64 de, .int .i64 ln, .int .i64 sk, .int .i64 sr, .slice ao x1 c] 35)).alloc (.cells #[.int .i64 k2, .int .i64 i2, .int .i64 a2, .int .i64 b2, .int .i64 px2, .int .i64 py2, .int .i64 vx2, .int .i64 vy2, .int .i64 an2, .int .i64 sp2, .int .i64 de2, .int .i64 ln2, .int .i64 sk2, .int .i64 sr2, .slice ao2 x2 c2] 35)
  have hk1 := (Blk.new w #[.int .i64 k, .int .i64 i, .int .i64 a, .int .i64 b, .int .i64 px, .int .i64 py, .int .i64 vx, .int .i64 vy, .int .i64 an, .int .i64 sp, .int .i64 de, .int .i64 ln, .int .i64 sk, .int .i64 sr, .slice ao x1 c] 35).alloc (.cells #[.int .i64 k2, .int .i64 i2, .int .i64 a2, .int .i64 b2, .int .i64 px2, .int .i64 py2, .int .i64 vx2, .int .i64 vy2, .int .i64 an2, .int .i64 sp2, .int .i64 de2, .int .i64 ln2, .int .i64 sk2, .int .i64 sr2, .slice ao2 x2 c2] 35)
  have hk2 := Blk.new (w.alloc (.cells #[.int .i64 k, .int .i64 i, .int .i64 a, .int .i64 b, .int .i64 px, .int .i64 py, .int .i64 vx, .int .i64 vy, .int .i64 an, .int .i64 sp, .int .i64 de, .int .i64 ln, .int .i64 sk, .int .i64 sr, .slice ao x1 c] 35)) #[.int .i64 k2, .int .i64 i2, .int .i64 a2, .int .i64 b2, .int .i64 px2, .int .i64 py2, .int .i64 vx2, .int .i64 vy2, .int .i64 an2, .int .i64 sp2, .int .i64 de2, .int .i64 ln2, .int .i64 sk2, .int .i64 sr2, .slice ao2 x2 c2] 35
  rw [show (w.alloc (.cells #[.int .i64 k, .int .i64 i, .int .i64 a, .int .i64 b, .int .i64 px, .int .i64 py, .int .i64 vx, .int .i64 vy, .int .i64 an, .int .i64 sp, .int .i64 de, .int .i64 ln, .int .i64 sk, .int .i64 sr, .slice ao x1 c] 35)).heap.size = w.heap.size + 1 by simp] at hk2
  have hc1 := hc1 _ hcb
  go_enter Try.func25, Try.ntmps25
  go_upto_region 1 with (fail)
  generalize (w.alloc (.cells #[.int .i64 k, .int .i64 i, .int .i64 a, .int .i64 b, .int .i64 px, .int .i64 py, .int .i64 vx, .int .i64 vy, .int .i64 an, .int .i64 sp, .int .i64 de, .int .i64 ln, .int .i64 sk, .int .i64 sr, .slice ao x1 c] 35)).alloc (.cells #[.int .i64 k2, .int .i64 i2, .int .i64 a2, .int .i64 b2, .int .i64 px2, .int .i64 py2, .int .i64 vx2, .int .i64 vy2, .int .i64 an2, .int .i64 sp2, .int .i64 de2, .int .i64 ln2, .int .i64 sk2, .int .i64 sr2, .slice ao2 x2 c2] 35) = w0 at *
  generalize w.heap.size + 1 = bk2 at *
  generalize w.heap.size = bk1 at *
  have HQ : Hd (∀ wx, Chg [] w0 wx → (wx.cell? ⟨bk1, 0, none⟩ = some (.int .i64 k) ∧ wx.cell? ⟨bk1, 1, none⟩ = some (.int .i64 i) ∧ wx.cell? ⟨bk1, 2, none⟩ = some (.int .i64 a) ∧ wx.cell? ⟨bk1, 3, none⟩ = some (.int .i64 b) ∧ wx.cell? ⟨bk1, 4, none⟩ = some (.int .i64 px) ∧ wx.cell? ⟨bk1, 5, none⟩ = some (.int .i64 py) ∧ wx.cell? ⟨bk1, 6, none⟩ = some (.int .i64 vx) ∧ wx.cell? ⟨bk1, 7, none⟩ = some (.int .i64 vy) ∧ wx.cell? ⟨bk1, 8, none⟩ = some (.int .i64 an) ∧ wx.cell? ⟨bk1, 9, none⟩ = some (.int .i64 sp) ∧ wx.cell? ⟨bk1, 10, none⟩ = some (.int .i64 de) ∧ wx.cell? ⟨bk1, 11, none⟩ = some (.int .i64 ln) ∧ wx.cell? ⟨bk1, 12, none⟩ = some (.int .i64 sk) ∧ wx.cell? ⟨bk1, 13, none⟩ = some (.int .i64 sr) ∧ wx.cell? ⟨bk1, 14, none⟩ = some (.slice ao x1 c) ∧ wx.cell? ⟨bk2, 0, none⟩ = some (.int .i64 k2) ∧ wx.cell? ⟨bk2, 1, none⟩ = some (.int .i64 i2) ∧ wx.cell? ⟨bk2, 2, none⟩ = some (.int .i64 a2) ∧ wx.cell? ⟨bk2, 3, none⟩ = some (.int .i64 b2) ∧ wx.cell? ⟨bk2, 4, none⟩ = some (.int .i64 px2) ∧ wx.cell? ⟨bk2, 5, none⟩ = some (.int .i64 py2) ∧ wx.cell? ⟨bk2, 6, none⟩ = some (.int .i64 vx2) ∧ wx.cell? ⟨bk2, 7, none⟩ = some (.int .i64 vy2) ∧ wx.cell? ⟨bk2, 8, none⟩ = some (.int .i64 an2) ∧ wx.cell? ⟨bk2, 9, none⟩ = some (.int .i64 sp2) ∧ wx.cell? ⟨bk2, 10, none⟩ = some (.int .i64 de2) ∧ wx.cell? ⟨bk2, 11, none⟩ = some (.int .i64 ln2) ∧ wx.cell? ⟨bk2, 12, none⟩ = some (.int .i64 sk2) ∧ wx.cell? ⟨bk2, 13, none⟩ = some (.int .i64 sr2) ∧ wx.cell? ⟨bk2, 14, none⟩ = some (.slice ao2 x2 c2))) :=
    hd fun wx hx => ⟨hx.cellS (hk1.cell 0), hx.cellS (hk1.cell 1), hx.cellS (hk1.cell 2), hx.cellS (hk1.cell 3), hx.cellS (hk1.cell 4), hx.cellS (hk1.cell 5), hx.cellS (hk1.cell 6), hx.cellS (hk1.cell 7), hx.cellS (hk1.cell 8), hx.cellS (hk1.cell 9), hx.cellS (hk1.cell 10), hx.cellS (hk1.cell 11), hx.cellS (hk1.cell 12), hx.cellS (hk1.cell 13), hx.cellS (hk1.cell 14), hx.cellS (hk2.cell 0), hx.cellS (hk2.cell 1), hx.cellS (hk2.cell 2), hx.cellS (hk2.cell 3), hx.cellS (hk2.cell 4), hx.cellS (hk2.cell 5), hx.cellS (hk2.cell 6), hx.cellS (hk2.cell 7), hx.cellS (hk2.cell 8), hx.cellS (hk2.cell 9), hx.cellS (hk2.cell 10), hx.cellS (hk2.cell 11), hx.cellS (hk2.cell 12), hx.cellS (hk2.cell 13), hx.cellS (hk2.cell 14)⟩
  have HCB := hd hcb
  clear hcb hk1 hk2
  obtain ⟨q0, q1, q2, q3, q4, q5, q6, q7, q8, q9, q10, q11, q12, q13, q14, u0, u1, u2, u3, u4, u5, u6, u7, u8, u9, u10, u11, u12, u13, u14⟩ := HQ.out w0 (Chg.refl _ _)
  cases s
  · go_wp2_with (first
      | (go_at_call 54; refine hc1.mono ?_; rintro e w1 ⟨rfl, hk1⟩))
    go_ret
    exact ⟨rfl, HCB.out.k hk1⟩
  go_wp2_with (first
      | (go_at_call 54; refine hc1.mono ?_; rintro e w1 ⟨rfl, hk1⟩; obtain ⟨q0, q1, q2, q3, q4, q5, q6, q7, q8, q9, q10, q11, q12, q13, q14, u0, u1, u2, u3, u4, u5, u6, u7, u8, u9, u10, u11, u12, u13, u14⟩ := HQ.out w1 hk1))
  all_goals (first | go_ret | skip)
  all_goals (try refine ⟨ret_of (congrArg Value.bool ?_), HCB.out.k hk1⟩)
  all_goals clear HQ hc1 HCB q0 q1 q2 q3 q4 q5 q6 q7 q8 q9 q10 q11 q12 q13 q14 u0 u1 u2 u3 u4 u5 u6 u7 u8 u9 u10 u11 u12 u13 u14
  all_goals (first | (simp_all; done) | (simp_all; rfl))
end Go.Proofs.Ytlicefbgcoddbaa

/- order.Right. -/
namespace Go.Proofs.Ytlicefbgcoddbaa
open Go.RowKit

set_option maxRecDepth 100000 in
set_option maxHeartbeats 8000000 in
theorem ORight_any (w : World) (o : Ord) (pv : Value) (hp : VsS w pv o.shape.p) (hi : IO o) : Calls Try.prog 8 #[vO o pv] w fun e w' => e = .returned (.bool (rightO o)) ∧ Chg [] w w' := by
  have hcu := fun W => Used_any W o pv hp.sl
  have hcs := fun W (hW : Chg [] w W) => OSame_any W o (usedO o) pv (usedP o pv) (hp.k hW) ((used_p o hp).k hW)
  have hcB := fun W => OBody_any W o pv hp.sl
  have hcJ := fun W => OJoint_any W o pv hp.sl
  have hcR := fun W (hW : Chg [] w W) => RightB_any W (bodyO o) pv (hp.k hW) hi.sp hi.pos hi.vel hi.spin
  have hcL := fun W => RightJ_any W (jointO o) hi.pos hi.vel
  have hc5 := fun W => OWithin_any o.vel 4611686018427387904 hi.vel W
  have hc6 := fun W => OWithin_any o.vel 17592186044416 hi.vel W
  have hcA := fun W => Abs_any o.spin hi.spin W
  unfold rightO
  obtain ⟨kd, hkd⟩ : ∃ kd, kd = kindO o := ⟨_, rfl⟩
  rw [← hkd]
  unfold kindO at hkd
  generalize vO (usedO o) (usedP o pv) = vz at *
  generalize sameO o (usedO o) = s at *
  generalize vB (bodyO o) pv = vb at *
  generalize vJ (jointO o) = vj at *
  generalize rightB (bodyO o) = rb at *
  generalize rightJ (jointO o) = rj at *
  generalize nearV o.vel 4611686018427387904 = n5 at *
  generalize nearV o.vel 17592186044416 = n6 at *
  generalize absF o.spin = ab at *
  obtain ⟨k, i, a, b, ⟨px, py⟩, ⟨vx, vy⟩, an, sp, de, ln, ⟨sk, sr, p⟩⟩ := o
  simp only at hp hc5 hc6 hcA
  unfold vO at hcu hcs hcB hcJ ⊢
  unfold vV at hc5 hc6
  simp only at hcu hcs hcB hcJ hc5 hc6 hcA hkd ⊢
  have HK := hd hkd
  clear hkd
  obtain ⟨ao, c, rfl, -⟩ := hp.form
  clear hp hi
  generalize p.length = x1 at *
  have hcb := (Chg.refl [] w).alloc (.cells #[.int .i64 k, .int .i64 i, .int .i64 a, .int .i64 b, .int .i64 px, .int .i64 py, .int .i64 vx, .int .i64 vy, .int .i64 an, .int .i64 sp, .int .i64 de, .int .i64 ln, .int .i64 sk, .int .i64 sr, .slice ao x1 c] 35)
  have hk1 := Blk.new w #[.int .i64 k, .int .i64 i, .int .i64 a, .int .i64 b, .int .i64 px, .int .i64 py, .int .i64 vx, .int .i64 vy, .int .i64 an, .int .i64 sp, .int .i64 de, .int .i64 ln, .int .i64 sk, .int .i64 sr, .slice ao x1 c] 35
  go_enter Try.func8, Try.ntmps8
  go_upto_region 1 with (fail)
  generalize w.alloc (.cells #[.int .i64 k, .int .i64 i, .int .i64 a, .int .i64 b, .int .i64 px, .int .i64 py, .int .i64 vx, .int .i64 vy, .int .i64 an, .int .i64 sp, .int .i64 de, .int .i64 ln, .int .i64 sk, .int .i64 sr, .slice ao x1 c] 35) = w0 at *
  generalize w.heap.size = bk at *
  have HQ : Hd (∀ wx, Chg [] w0 wx → (wx.cell? ⟨bk, 0, none⟩ = some (.int .i64 k) ∧ wx.cell? ⟨bk, 1, none⟩ = some (.int .i64 i) ∧ wx.cell? ⟨bk, 2, none⟩ = some (.int .i64 a) ∧ wx.cell? ⟨bk, 3, none⟩ = some (.int .i64 b) ∧ wx.cell? ⟨bk, 4, none⟩ = some (.int .i64 px) ∧ wx.cell? ⟨bk, 5, none⟩ = some (.int .i64 py) ∧ wx.cell? ⟨bk, 6, none⟩ = some (.int .i64 vx) ∧ wx.cell? ⟨bk, 7, none⟩ = some (.int .i64 vy) ∧ wx.cell? ⟨bk, 8, none⟩ = some (.int .i64 an) ∧ wx.cell? ⟨bk, 9, none⟩ = some (.int .i64 sp) ∧ wx.cell? ⟨bk, 10, none⟩ = some (.int .i64 de) ∧ wx.cell? ⟨bk, 11, none⟩ = some (.int .i64 ln) ∧ wx.cell? ⟨bk, 12, none⟩ = some (.int .i64 sk) ∧ wx.cell? ⟨bk, 13, none⟩ = some (.int .i64 sr) ∧ wx.cell? ⟨bk, 14, none⟩ = some (.slice ao x1 c))) :=
    hd fun wx hx => ⟨hx.cellS (hk1.cell 0), hx.cellS (hk1.cell 1), hx.cellS (hk1.cell 2), hx.cellS (hk1.cell 3), hx.cellS (hk1.cell 4), hx.cellS (hk1.cell 5), hx.cellS (hk1.cell 6), hx.cellS (hk1.cell 7), hx.cellS (hk1.cell 8), hx.cellS (hk1.cell 9), hx.cellS (hk1.cell 10), hx.cellS (hk1.cell 11), hx.cellS (hk1.cell 12), hx.cellS (hk1.cell 13), hx.cellS (hk1.cell 14)⟩
  have HCB := hd hcb
  clear hcb hk1
  refine anyH_start (n := 5) (L := #[false, false, false, false, false]) (by kernel_rfl) (by kernel_rfl) (S := (fun wx => Chg [] w0 wx)) ((Chg.refl _ _).drew) (fun hHeld => ?_)
  refine anyH_take (i := 0) (d := 3) (L' := #[true, false, false, false, false]) (v := ?v2) rfl rfl (by kernel_rfl) (fun _ _ _ h => h) (by rfl) ?hy2 (by assumption) ?rest2
  case hy2 => (intro wx hSw; (try dsimp only at hSw); (obtain ⟨q0, q1, q2, q3, q4, q5, q6, q7, q8, q9, q10, q11, q12, q13, q14⟩ := HQ.out wx hSw); go_simp; (try with_reducible rfl))
  simp only [Act.put, List.setIfInBounds_toArray, List.set_cons_zero, List.set_cons_succ]
  refine anyH_take (i := 1) (d := 4) (L' := #[true, true, false, false, false]) (v := ?v3) rfl rfl (by kernel_rfl) (fun _ _ _ h => h) (by rfl) ?hy3 (by assumption) ?rest3
  case hy3 => (intro wx hSw; (try dsimp only at hSw); (obtain ⟨q0, q1, q2, q3, q4, q5, q6, q7, q8, q9, q10, q11, q12, q13, q14⟩ := HQ.out wx hSw); go_simp; (try with_reducible rfl))
  simp only [Act.put, List.setIfInBounds_toArray, List.set_cons_zero, List.set_cons_succ]
  refine anyH_run (i := 2) (L' := #[true, true, true, false, false]) rfl (by kernel_rfl) (by rfl) (fun KK hKK => ?_)
  go_simp
  (refine (hcu _).mono ?_; rintro e w2 ⟨rfl, hc2⟩; have hm2 := Chg.k hHeld hc2; clear hc2; (try go_simp))
  refine hKK.out _ _ (by assumption) (fun hHeld => ?_)
  clear hKK KK
  try simp only [Act.put, List.setIfInBounds_toArray, List.set_cons_zero, List.set_cons_succ]
  refine anyH_run (i := 3) (L' := #[true, true, true, true, false]) rfl (by kernel_rfl) (by rfl) (fun KK hKK => ?_)
  go_simp
  (refine (hcs _ (HCB.out.k hm2)).mono ?_; rintro e w3 ⟨rfl, hc3⟩; have hm3 := Chg.k hm2 hc3; clear hc3; (try go_simp))
  refine hKK.out _ _ (by assumption) (fun hHeld => ?_)
  clear hKK KK
  try simp only [Act.put, List.setIfInBounds_toArray, List.set_cons_zero, List.set_cons_succ]
  refine anyH_run (i := 4) (L' := #[true, true, true, true, true]) rfl (by kernel_rfl) (by rfl) (fun KK hKK => ?_)
  go_simp
  (skip)
  refine hKK.out _ _ (by assumption) (fun hHeld => ?_)
  clear hKK KK
  try simp only [Act.put, List.setIfInBounds_toArray, List.set_cons_zero, List.set_cons_succ]
  refine wpAnyH_done (by kernel_rfl) ?_ _
  skip
  obtain ⟨q0, q1, q2, q3, q4, q5, q6, q7, q8, q9, q10, q11, q12, q13, q14⟩ := HQ.out w3 hm3
  clear hm2
  cases s
  · go_wp2_with (fail)
    all_goals go_ret
    all_goals exact ⟨rfl, HCB.out.k hm3⟩
  have HM := HCB.out.k hm3
  by_cases h1 : k = 1
  · subst h1
    go_wp2_with (first
      | (go_at_call 28; refine (hcB _).mono ?_; rintro e w4 ⟨rfl, hm4⟩)
      | (go_at_call 27; refine (hcR _ (HM.k hm4)).mono ?_; rintro e w5 ⟨rfl, hm5⟩))
    go_ret
    exact ⟨ret_of (congrArg Value.bool (by rw [HK.out]; simp)), (HM.k hm4).k hm5⟩
  have g1 : (k == 1) = false := by rw [beq_eq_false_iff_ne]; exact h1
  by_cases h2 : k = 2
  · subst h2
    clear h1 g1
    go_wp2_with (fail)
    go_ret
    exact ⟨ret_of (congrArg Value.bool (by rw [HK.out]; simp)), HM⟩
  have g2 : (k == 2) = false := by rw [beq_eq_false_iff_ne]; exact h2
  by_cases h4 : k = 4
  · subst h4
    clear h1 g1 h2 g2
    go_wp2_with (fail)
    go_ret
    exact ⟨ret_of (congrArg Value.bool (by rw [HK.out]; simp)), HM⟩
  have g4 : (k == 4) = false := by rw [beq_eq_false_iff_ne]; exact h4
  by_cases h3 : k = 3
  · subst h3
    clear h1 g1 h2 g2 h4 g4
    go_wp2_with (first
      | (go_at_call 30; refine (hcJ _).mono ?_; rintro e w4 ⟨rfl, hm4⟩)
      | (go_at_call 29; refine (hcL _).mono ?_; rintro e w5 ⟨rfl, hm5⟩))
    go_ret
    exact ⟨ret_of (congrArg Value.bool (by rw [HK.out]; simp)), (HM.k hm4).k hm5⟩
  have g3 : (k == 3) = false := by rw [beq_eq_false_iff_ne]; exact h3
  by_cases h5 : k = 5
  · subst h5
    clear h1 g1 h2 g2 h4 g4 h3 g3
    go_wp2_with (first
      | (go_at_call 31; refine (hc5 _).mono ?_; rintro e w4 ⟨rfl, hm4⟩; obtain ⟨q0, q1, q2, q3, q4, q5, q6, q7, q8, q9, q10, q11, q12, q13, q14⟩ := HQ.out w4 (hm3.k hm4))
      | (go_at_call 32; refine (hcA _).mono ?_; rintro e w5 ⟨rfl, rfl⟩))
    all_goals (first | go_ret | skip)
    all_goals (try refine ⟨ret_of (congrArg Value.bool ?_), (by first | exact HM.k hm4 | exact HM)⟩)
    all_goals have hk := HK.out
    all_goals clear HK HQ hcu hcs hcB hcJ hcR hcL hc5 hc6 hcA q0 q1 q2 q3 q4 q5 q6 q7 q8 q9 q10 q11 q12 q13 q14
    all_goals (first | (simp_all; done) | (simp_all; omega) | (simp_all; rfl))
  have g5 : (k == 5) = false := by rw [beq_eq_false_iff_ne]; exact h5
  by_cases h6 : k = 6
  · subst h6
    clear h1 g1 h2 g2 h4 g4 h3 g3 h5 g5
    go_wp2_with (first
      | (go_at_call 31; refine (hc6 _).mono ?_; rintro e w4 ⟨rfl, hm4⟩))
    go_ret
    exact ⟨ret_of (congrArg Value.bool (by rw [HK.out]; simp)), HM.k hm4⟩
  have g6 : (k == 6) = false := by rw [beq_eq_false_iff_ne]; exact h6
  have HE : Hd (kd = false) := hd (by rw [HK.out]; simp [h1, h2, h3, h4, h5, h6])
  clear h1 h2 h3 h4 h5 h6
  go_wp2_with (fail)
  go_ret
  exact ⟨ret_of (congrArg Value.bool (by rw [HE.out]; rfl)), HM⟩
end Go.Proofs.Ytlicefbgcoddbaa

/- codec.reader.order as a function; the kinds of one number. -/
namespace Go.Proofs.Ytlicefbgcoddbaa
open Go.RowKit

def zeroO (k : Int) : Ord := ⟨k, 0, 0, 0, (0, 0), (0, 0), 0, 0, 0, 0, noS⟩
def orderR0 (s : St) : Ord × St :=
  if (numR 1 s).1 = 1 then
    let p := plR (numR 1 s).2; let v := plR p.2; let a := numR 8 v.2; let sp := numR 8 a.2; let d := numR 8 sp.2; let sh := shapeR d.2
    (⟨1, 0, 0, 0, p.1, v.1, a.1, sp.1, d.1, 0, sh.1⟩, sh.2)
  else if (numR 1 s).1 = 2 ∨ (numR 1 s).1 = 4 then
    let i := numR 8 (numR 1 s).2
    (⟨(numR 1 s).1, i.1, 0, 0, (0, 0), (0, 0), 0, 0, 0, 0, noS⟩, i.2)
  else if (numR 1 s).1 = 3 then
    let a := numR 8 (numR 1 s).2; let c := numR 8 a.2; let p := plR c.2; let v := plR p.2; let l := numR 8 v.2
    (⟨3, 0, a.1, c.1, p.1, v.1, 0, 0, 0, l.1, noS⟩, l.2)
  else if (numR 1 s).1 = 5 then
    let i := numR 8 (numR 1 s).2; let v := plR i.2; let sp := numR 8 v.2
    (⟨5, i.1, 0, 0, (0, 0), v.1, 0, sp.1, 0, 0, noS⟩, sp.2)
  else if (numR 1 s).1 = 6 then
    let v := plR (numR 1 s).2
    (⟨6, 0, 0, 0, (0, 0), v.1, 0, 0, 0, 0, noS⟩, v.2)
  else (zeroO (numR 1 s).1, (numR 1 s).2)
def orderR (s : St) : Ord × St := ((orderR0 s).1, if rightO (orderR0 s).1 = true then (orderR0 s).2 else failS)
theorem numR_I64 (n : Nat) (s : St) : I64 (numR n s).1 := by
  unfold numR I64
  split
  · simp
  · simp only [rdNum, wrap64]; omega
theorem plR_IV (s : St) : IV (plR s).1 := ⟨numR_I64 8 s, numR_I64 8 _⟩
theorem psR_IV (n : Nat) (s : St) : ∀ x ∈ (psR n s).1, IV x := by
  induction n generalizing s with
  | zero => simp [psR]
  | succ n ih =>
    by_cases h : s.2 = true
    · rw [psR_no _ _ h]; simp
    · rw [psR_go _ _ (by simpa using h)]
      intro x hx
      rcases List.mem_cons.mp hx with rfl | hx
      · exact plR_IV s
      · exact ih _ x hx
theorem shapeR_I (s : St) : I64 (shapeR s).1.kind ∧ I64 (shapeR s).1.r ∧ ∀ x ∈ (shapeR s).1.p, IV x := by
  unfold shapeR
  split
  · exact ⟨by unfold I64; simp, numR_I64 8 _, by simp⟩
  · exact ⟨numR_I64 1 _, by unfold I64; simp, psR_IV _ _⟩
theorem orderR0_IO (s : St) : IO (orderR0 s).1 := by
  have z : I64 0 := by unfold I64; simp
  have zv : IV (0, 0) := ⟨z, z⟩
  unfold orderR0
  repeat' split
  all_goals dsimp only [zeroO]
  all_goals constructor
  all_goals dsimp only [noS]
  all_goals (first | with_reducible exact z | with_reducible exact zv | with_reducible exact plR_IV _ | with_reducible exact numR_I64 _ _ | with_reducible exact (shapeR_I _).1 | with_reducible exact (shapeR_I _).2.1 | with_reducible exact (shapeR_I _).2.2 | (unfold I64; omega) | (intro x hx; cases hx))
end Go.Proofs.Ytlicefbgcoddbaa
