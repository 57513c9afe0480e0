/- Words and walks that Codec rests on: Order, CodecR, OrderU0, CodecRS, CodecRP, CodecRA. -/
import Derived.Test.YtlicefbgcoddbaaWCodec6
import Derived.Test.YtlicefbgcoddbaaWCodec1
import Derived.Laws.Rows
import Derived.Laws.Tables
/- Package order: which orders may be. -/
namespace Go.Proofs.Ytlicefbgcoddbaa
open Go.RowKit

structure Ord where
  kind : Int
  id : Int
  a : Int
  b : Int
  pos : V2
  vel : V2
  angle : Int
  spin : Int
  density : Int
  len : Int
  shape : Shp
def IsSl (v : Value) : Prop := ∃ ao n c, v = .slice ao n c
theorem VsS.sl {w : World} {v : Value} {l : List V2} (h : VsS w v l) : IsSl v := let ⟨ao, c, e, _⟩ := h.form; ⟨ao, _, c, e⟩
def noS : Shp := ⟨0, 0, []⟩
def vO (o : Ord) (pv : Value) : Value := .agg #[.int .i64 o.kind, .int .i64 o.id, .int .i64 o.a, .int .i64 o.b, .int .i64 o.pos.1, .int .i64 o.pos.2, .int .i64 o.vel.1, .int .i64 o.vel.2, .int .i64 o.angle, .int .i64 o.spin, .int .i64 o.density, .int .i64 o.len, .int .i64 o.shape.kind, .int .i64 o.shape.r, pv]
def cO (o : Ord) (pv : Value) : List Value := [.int .i64 o.kind, .int .i64 o.id, .int .i64 o.a, .int .i64 o.b, .int .i64 o.pos.1, .int .i64 o.pos.2, .int .i64 o.vel.1, .int .i64 o.vel.2, .int .i64 o.angle, .int .i64 o.spin, .int .i64 o.density, .int .i64 o.len, .int .i64 o.shape.kind, .int .i64 o.shape.r, pv]
/-- All numbers of an order fit 64 bits. -/
structure IO (o : Ord) : Prop where
  kind : I64 o.kind
  id : I64 o.id
  a : I64 o.a
  b : I64 o.b
  pos : IV o.pos
  vel : IV o.vel
  angle : I64 o.angle
  spin : I64 o.spin
  density : I64 o.density
  len : I64 o.len
  skind : I64 o.shape.kind
  sr : I64 o.shape.r
  sp : ∀ x ∈ o.shape.p, IV x
def bodyO (o : Ord) : Bdy := ⟨0, o.pos, o.vel, o.angle, o.spin, o.density, o.shape⟩
def jointO (o : Ord) : Jnt := ⟨0, o.a, o.b, o.pos, o.vel, o.len⟩
def usedO (o : Ord) : Ord :=
  if o.kind = 1 then ⟨o.kind, 0, 0, 0, o.pos, o.vel, o.angle, o.spin, o.density, 0, o.shape⟩
  else if o.kind = 2 ∨ o.kind = 4 then ⟨o.kind, o.id, 0, 0, (0, 0), (0, 0), 0, 0, 0, 0, noS⟩
  else if o.kind = 3 then ⟨o.kind, 0, o.a, o.b, o.pos, o.vel, 0, 0, 0, o.len, noS⟩
  else if o.kind = 5 then ⟨o.kind, o.id, 0, 0, (0, 0), o.vel, 0, o.spin, 0, 0, noS⟩
  else if o.kind = 6 then ⟨o.kind, 0, 0, 0, (0, 0), o.vel, 0, 0, 0, 0, noS⟩
  else ⟨o.kind, 0, 0, 0, (0, 0), (0, 0), 0, 0, 0, 0, noS⟩
def usedP (o : Ord) (pv : Value) : Value := if o.kind = 1 then pv else .slice none 0 0
def sameO (x y : Ord) : Bool :=
  sameS x.shape y.shape && decide (x.kind = y.kind) && decide (x.id = y.id) && decide (x.a = y.a) && decide (x.b = y.b) && (decide (x.pos.1 = y.pos.1) && decide (x.pos.2 = y.pos.2)) && (decide (x.vel.1 = y.vel.1) && decide (x.vel.2 = y.vel.2)) &&
    decide (x.angle = y.angle) && decide (x.spin = y.spin) && decide (x.density = y.density) && decide (x.len = y.len)
def kindO (o : Ord) : Bool :=
  if o.kind = 1 then rightB (bodyO o)
  else if o.kind = 2 ∨ o.kind = 4 then decide (1 ≤ o.id)
  else if o.kind = 3 then rightJ (jointO o)
  else if o.kind = 5 then decide (1 ≤ o.id) && nearV o.vel 4611686018427387904 && decide (absF o.spin ≤ 4611686018427387904)
  else if o.kind = 6 then nearV o.vel 17592186044416
  else false
def rightO (o : Ord) : Bool := sameO o (usedO o) && kindO o
theorem used_p (o : Ord) {w : World} {pv : Value} (h : VsS w pv o.shape.p) : VsS w (usedP o pv) (usedO o).shape.p := by
  unfold usedP usedO
  by_cases h1 : o.kind = 1
  · rw [if_pos h1, if_pos h1]; exact h
  · rw [if_neg h1, if_neg h1]
    have hn : VsS w (.slice none 0 0) [] := Rd.ofOwn (e := 30) (base := 0) (World.ownsRow_nil _ _ _ _)
    by_cases h2 : o.kind = 2 ∨ o.kind = 4
    · rw [if_pos h2]; exact hn
    · rw [if_neg h2]
      by_cases h3 : o.kind = 3
      · rw [if_pos h3]; exact hn
      · rw [if_neg h3]
        by_cases h5 : o.kind = 5
        · rw [if_pos h5]; exact hn
        · rw [if_neg h5]
          by_cases h6 : o.kind = 6
          · rw [if_pos h6]; exact hn
          · rw [if_neg h6]; exact hn

set_option maxHeartbeats 4000000 in
theorem OBody_any (w : World) (o : Ord) (pv : Value) (hpv : IsSl pv) : Calls Try.prog 28 #[vO o pv] w fun e w' => e = .returned (vB (bodyO o) pv) ∧ Chg [] w w' := by
  obtain ⟨k, i, a, b, ⟨px, py⟩, ⟨vx, vy⟩, an, sp, de, ln, ⟨sk, sr, p⟩⟩ := o
  obtain ⟨ao, n, c, rfl⟩ := hpv
  unfold vO vB bodyO
  simp only
  go_enter Try.func28, Try.ntmps28
  go_wp2
  refine bodyPost_ret (v := .agg #[.int .i64 0, .int .i64 px, .int .i64 py, .int .i64 vx, .int .i64 vy, .int .i64 an, .int .i64 sp, .int .i64 de, .int .i64 sk, .int .i64 sr, .slice ao n c]) (by simp only [results]; go_simp) rfl ⟨rfl, ?_⟩
  exact ((Chg.refl [] w).alloc _).alloc _
set_option maxHeartbeats 4000000 in
theorem OJoint_any (w : World) (o : Ord) (pv : Value) (hpv : IsSl pv) : Calls Try.prog 30 #[vO o pv] w fun e w' => e = .returned (vJ (jointO o)) ∧ Chg [] w w' := by
  obtain ⟨k, i, a, b, ⟨px, py⟩, ⟨vx, vy⟩, an, sp, de, ln, ⟨sk, sr, p⟩⟩ := o
  obtain ⟨ao, n, c, rfl⟩ := hpv
  unfold vO vJ jointO
  simp only
  go_enter Try.func30, Try.ntmps30
  go_wp2
  refine bodyPost_ret (v := .agg #[.int .i64 0, .int .i64 a, .int .i64 b, .int .i64 px, .int .i64 py, .int .i64 vx, .int .i64 vy, .int .i64 ln]) (by simp only [results]; go_simp) rfl ⟨rfl, ?_⟩
  exact ((Chg.refl [] w).alloc _).alloc _
end Go.Proofs.Ytlicefbgcoddbaa

/- Reader.V; codec.reader: shapes. -/
namespace Go.Proofs.Ytlicefbgcoddbaa
open Go.RowKit

def plR (s : St) : V2 × St := (((numR 8 s).1, (numR 8 (numR 8 s).2).1), (numR 8 (numR 8 s).2).2)
set_option maxHeartbeats 800000 in
theorem VB_any (base b : Nat) (s : St) (w : World) (hr : RdB base w b s) (hbase : base ≤ w.heap.size) :
    Calls Try.prog 39 #[.pointer (some ⟨b, 0, none⟩)] w fun e w' => e = .returned (vV (plR s).1) ∧ RdB base w' b (plR s).2 ∧ Chg [b] w w' := by
  unfold vV plR
  simp only
  have hc1 := fun W (h : RdB base W b s) => FB_any base b s W h
  have hc2 := fun W (h : RdB base W b (numR 8 s).2) => FB_any base b (numR 8 s).2 W h
  generalize numR 8 (numR 8 s).2 = z at *
  generalize numR 8 s = y at *
  have hlt := hr.lt
  have hk := Blk.new w #[.int .i64 0, .int .i64 0] 30
  have hr0 := hr.k ((Chg.refl [] w).alloc (.cells #[.int .i64 0, .int .i64 0] 30))
  have hc0 : Chg [b] w (w.alloc (.cells #[.int .i64 0, .int .i64 0] 30)) := (Chg.refl [b] w).alloc _
  go_enter Try.func39, Try.ntmps39
  go_wp2_with fail
  refine (hc1 _ hr0).mono ?_
  rintro e w1 ⟨rfl, hr1, hm1⟩
  have hk1 := hk.chg hm1 (by simp; omega)
  have hm1' := hc0.trans hm1 (fun x hx _ => hx)
  go_wp2_with fail
  refine (hc2 _ hr1).mono ?_
  rintro e w2 ⟨rfl, hr2, hm2⟩
  have hk2 := hk1.chg hm2 (by simp; omega)
  have hm2' := hm1'.trans hm2 (fun x hx _ => hx)
  have q0 := hk2.cell 0
  have q1 := hk2.cell 1
  have f0 := hk2.free 0
  have f1 := hk2.free 1
  simp at q0 q1
  clear hk hr0 hc0 hk1 hm1' hr1 hm1 hm2 hc1 hc2
  go_wp2_with fail
  have hk3 := (hk2.set 0 (.int .i64 y.1)).set 1 (.int .i64 z.1)
  have p0 := hk3.cell 0
  have p1 := hk3.cell 1
  simp at p0 p1
  refine bodyPost_ret (v := .agg #[.int .i64 y.1, .int .i64 z.1]) ?_ rfl ?_
  · simp only [results]
    go_simp
  · have hX : Chg [w.heap.size] w2 ((w2.setCell ⟨w.heap.size, 0, none⟩ (.int .i64 y.1)).setCell ⟨w.heap.size, 1, none⟩ (.int .i64 z.1)) := ((Chg.refl _ _).setCell _ _ (by simp)).setCell _ _ (by simp)
    exact ⟨rfl, hr2.keep hX (by simp; omega), (hm2'.setCell _ _ (by simp)).setCell _ _ (by simp)⟩
end Go.Proofs.Ytlicefbgcoddbaa

/- order.used. -/
namespace Go.Proofs.Ytlicefbgcoddbaa
open Go.RowKit

/-- A record of an order's own block, cell by cell. -/
theorem Blk.set1 {w : World} {b : Nat} {cs cs' : Array Value} {t : TypeId} (h : Blk w b cs t) (j : Nat) (u : Value) (e : cs.setIfInBounds j u = cs') : Blk (w.setCell ⟨b, j, none⟩ u) b cs' t := e ▸ h.set j u
/-- The record behind a store of the whole of it. -/
theorem Blk.row {w : World} {b : Nat} {cs cs' : Array Value} {t : TypeId} (h : Blk w b cs t) : Blk (w.setRow b cs') b cs' t := setRow_heap w b cs cs' t (0, 0) h
theorem Chg.row {S : List Nat} {a b : World} (h : Chg S a b) (g : Nat) (cs : Array Value) (hg : g < a.heap.size → g ∈ S) : Chg S a (b.setRow g cs) :=
  ⟨h.os, h.tape, h.output, by rw [show (b.setRow g cs).heap.size = b.heap.size by simp [World.setRow]]; exact h.size, fun k hk hn => (setRow_other b g k cs (fun e => hn (e ▸ hg (e ▸ hk)))).trans (h.block k hk hn)⟩
end Go.Proofs.Ytlicefbgcoddbaa

/- codec.reader: shapes. -/
namespace Go.Proofs.Ytlicefbgcoddbaa
open Go.RowKit

def psR : Nat → St → List V2 × St
  | 0, s => ([], s)
  | n + 1, s => if s.2 = true then ([], s) else ((plR s).1 :: (psR n (plR s).2).1, (psR n (plR s).2).2)
def shapeR (s : St) : Shp × St :=
  if (numR 1 s).1 = 1 then (⟨1, (numR 8 (numR 1 s).2).1, []⟩, (numR 8 (numR 1 s).2).2)
  else (⟨(numR 1 s).1, 0, (psR (numR 1 (numR 1 s).2).1.toNat (numR 1 (numR 1 s).2).2).1⟩, (psR (numR 1 (numR 1 s).2).1.toNat (numR 1 (numR 1 s).2).2).2)
theorem rowV : RowT Try.prog 31 30 2 16 := RowT.mk (z := .agg #[.int .i64 0, .int .i64 0]) (by kernel_rfl) (by kernel_rfl) rfl (by decide)

set_option maxRecDepth 100000 in
set_option maxHeartbeats 8000000 in
/-- A circle. -/
theorem RShape_circle (base b : Nat) (s : St) (w : World) (hr : RdB base w b s) (hbase : base ≤ w.heap.size) (h1 : (numR 1 s).1 = 1) :
    Calls Try.prog 53 #[.agg #[.pointer (some ⟨b, 0, none⟩)]] w fun e w' => e = .returned (.agg #[.int .i64 1, .int .i64 (numR 8 (numR 1 s).2).1, .slice none 0 0]) ∧ RdB base w' b (numR 8 (numR 1 s).2).2 ∧ Chg [b] w w' := by
  have hc1 := fun W (h : RdB base W b s) => NumB_any 1 base b s W h (by omega)
  have hc2 := fun W (h : RdB base W b (numR 1 s).2) => FB_any base b (numR 1 s).2 W h
  rw [h1] at hc1
  clear h1
  generalize numR 8 (numR 1 s).2 = z at *
  generalize (numR 1 s).2 = y at *
  have hlt := hr.lt
  have hcA := (Chg.refl [] w).alloc (.cells #[.pointer (some ⟨b, 0, none⟩)] 73)
  have hcB := hcA.alloc (.cells #[.int .i64 0, .int .i64 0, .slice none 0 0] 33)
  have kA := (Blk.new w #[.pointer (some ⟨b, 0, none⟩)] 73).alloc (.cells #[.int .i64 0, .int .i64 0, .slice none 0 0] 33)
  have kB := Blk.new (w.alloc (.cells #[.pointer (some ⟨b, 0, none⟩)] 73)) #[.int .i64 0, .int .i64 0, .slice none 0 0] 33
  rw [World.size_alloc] at kB
  have hr0 := hr.k hcB
  have hc1 := hc1 _ hr0
  go_enter Try.func53, Try.ntmps53
  go_upto_region 1 with (fail)
  have hsz : ((w.alloc (.cells #[.pointer (some ⟨b, 0, none⟩)] 73)).alloc (.cells #[.int .i64 0, .int .i64 0, .slice none 0 0] 33)).heap.size = w.heap.size + 1 + 1 := by simp
  generalize (w.alloc (.cells #[.pointer (some ⟨b, 0, none⟩)] 73)).alloc (.cells #[.int .i64 0, .int .i64 0, .slice none 0 0] 33) = w0 at *
  have a0 := kA.cell 0
  simp at a0
  go_upto_region 3 with (first
    | (go_at_call 38; refine hc1.mono ?_; rintro e w1 ⟨rfl, hr1, hm1⟩; have kA1 := kA.chg hm1 (by simp; omega); have kB1 := kB.chg hm1 (by simp; omega); have a1 := kA1.cell 0; simp at a1))
  have hcC := (Chg.refl [] w1).alloc (.cells #[.int .i64 1, .int .i64 0, .slice none 0 0] 33)
  have kC := Blk.new w1 #[.int .i64 1, .int .i64 0, .slice none 0 0] 33
  have kA2 := kA1.k hcC
  have kB2 := kB1.k hcC
  have hr2 := hr1.k hcC
  have hc2 := hc2 _ hr2
  have hM2 : Chg [b] w (w1.alloc (.cells #[.int .i64 1, .int .i64 0, .slice none 0 0] 33)) := ((hcB.mono (S' := [b]) (by simp)).trans hm1 (fun x hx _ => hx)).k' hcC
  have hT : w.heap.size + 1 < w1.heap.size := kB1.lt
  generalize w1.alloc (.cells #[.int .i64 1, .int .i64 0, .slice none 0 0] 33) = w2 at *
  have a2 := kA2.cell 0
  simp at a2
  clear a0 a1 kA kB kA1 kB1 hr0 hr1 hcA hcB hcC hr
  obtain ⟨tb, htb⟩ : ∃ tb, w1.heap.size = tb := ⟨_, rfl⟩
  obtain ⟨rb, hrb⟩ : ∃ rb, w.heap.size + 1 = rb := ⟨_, rfl⟩
  rw [htb] at kC hT ⊢
  rw [hrb] at kB2 hT ⊢
  have HT : Hd (rb < tb ∧ rb = w.heap.size + 1) := hd ⟨hT, hrb.symm⟩
  clear htb hrb hT hm1
  have HM2 := hd hM2
  clear hM2
  go_upto_region 4 with (first
    | (go_at_call 52; refine hc2.mono ?_; rintro e w3 ⟨rfl, hr3, hm3⟩; have kA3 := kA2.chg hm3 (by simp; omega); have kB3 := kB2.chg hm3 (by have := HT.out; simp; omega); have kC3 := kC.chg hm3 (by have := HT.out; simp; omega); have c1 := kC3.cell 1; have f1 := kC3.free 1; simp at c1))
  have hs := (Chg.refl [tb] w3).setCell ⟨tb, 1, none⟩ (.int .i64 z.1) (by simp)
  have k4 := kC3.set 1 (.int .i64 z.1)
  simp at k4
  have kB4 := kB3.chg hs (by have := HT.out; simp; omega)
  have hr4 := hr3.keep hs (by have := HT.out; simp; omega)
  have HM4 := hd ((HM2.out.trans hm3 (fun x hx _ => hx)).trans hs (fun x hx hl => by have := HT.out; simp at hx; omega))
  clear kA2 kB2 kC kA3 kB3 kC3 c1 f1 hs hr2 hr3 hm3 a2 HM2
  generalize w3.setCell ⟨tb, 1, none⟩ (.int .i64 z.1) = w4 at *
  go_wp2_with (first | (refine wpList_load_row rfl _ _ rfl tb rfl 33 _ (0, 0) _ k4 Try.underlying33 rfl (by kernel_rfl) ?_) | (refine wpList_store_row rfl _ _ _ rfl rb #[.int .i64 1, .int .i64 z.1, .slice none 0 0] rfl rfl 33 _ kB4 (by kernel_rfl) (by simp) (by simp [Value.oneCell']) ?_))
  have k5 : Blk (w4.setRow rb #[.int .i64 1, .int .i64 z.1, .slice none 0 0]) rb #[.int .i64 1, .int .i64 z.1, .slice none 0 0] 33 := kB4.row
  have hs5 := Chg.row (Chg.refl [rb] w4) rb #[.int .i64 1, .int .i64 z.1, .slice none 0 0] (by simp)
  refine bodyPost_ret (results_cell_row rfl _ _ rb 33 _ (0, 0) _ rfl k5 Try.underlying33 rfl (by kernel_rfl)) rfl ⟨rfl, ?_, ?_⟩
  · exact hr4.keep hs5 (by have := HT.out; simp; omega)
  · exact HM4.out.trans hs5 (fun x hx hl => by have := HT.out; simp at hx; omega)
end Go.Proofs.Ytlicefbgcoddbaa

/- codec.reader: shapes with corners. -/
namespace Go.Proofs.Ytlicefbgcoddbaa
open Go.RowKit

theorem numR1_lo (s : St) : 0 ≤ (numR 1 s).1 ∧ (numR 1 s).1 ≤ 255 := by
  unfold numR
  split
  · simp
  · rename_i h
    obtain ⟨l, bad⟩ := s
    cases l with
    | nil => simp at h
    | cons c l =>
      have h1 := n8_lo c
      have h2 := n8_hi c
      simp only [List.take_succ_cons, List.take_zero, rdNum, rdB, wrap64]
      omega
/-- What stands while the corners are read: the shape's record, the row of corners, the reader, the call's own records. -/
structure Cor (w0 : World) (base b xb rb tb : Nat) (kd : Int) (v : Value) (A : List V2) (cur : World) (st : St) : Prop where
  t : Blk cur tb #[.int .i64 kd, .int .i64 0, v] 33
  o : cur.ownsRow xb 30 2 v A.length (A.flatMap cV)
  r : RdB base cur b st
  x : Blk cur xb #[.pointer (some ⟨b, 0, none⟩)] 73
  q : Blk cur rb #[.int .i64 0, .int .i64 0, .slice none 0 0] 33
  c : Chg [b] w0 cur
theorem Cor.step {w0 : World} {base b xb rb tb : Nat} {kd : Int} {v : Value} {A : List V2} {cur cur' : World} {st st' : St} (h : Cor w0 base b xb rb tb kd v A cur st) (hm : Chg [b] cur cur') (hr : RdB base cur' b st') (hlo : b < xb ∧ xb < rb ∧ rb < tb) : Cor w0 base b xb rb tb kd v A cur' st' :=
  ⟨h.t.chg hm (by simp; omega), ownsRow_chg h.o hm (fun k hk => by have := (World.ownsRow.lt h.o k hk).1; simp; omega), hr, h.x.chg hm (by simp; omega), h.q.chg hm (by simp; omega), h.c.trans hm (fun x hx _ => hx)⟩
theorem Cor.k {w0 : World} {base b xb rb tb : Nat} {kd : Int} {v : Value} {A : List V2} {cur cur' : World} {st : St} (h : Cor w0 base b xb rb tb kd v A cur st) (hm : Chg [] cur cur') : Cor w0 base b xb rb tb kd v A cur' st :=
  ⟨h.t.k hm, ownsRow_k h.o hm, h.r.k hm, h.x.k hm, h.q.k hm, h.c.k' hm⟩
theorem Cor.lit {w0 : World} {base b xb rb tb : Nat} {kd : Int} {v : Value} {A : List V2} {cur : World} {st : St} (h : Cor w0 base b xb rb tb kd v A cur st) (px py : Int) :
    Cor w0 base b xb rb tb kd v A (cur.alloc (.cells #[.int .i64 px, .int .i64 py] 30)) st ∧ Rd (cur.alloc (.cells #[.int .i64 px, .int .i64 py] 30)) 2 (.slice (some ⟨cur.heap.size, 0, none⟩) 1 1) 1 [.int .i64 px, .int .i64 py] :=
  ⟨h.k ((Chg.refl [] _).alloc _), Rd.lit cur 2 1 _ _ _ rfl rfl (by decide)⟩
theorem Cor.app {w0 : World} {base b xb rb tb : Nat} {kd : Int} {v u : Value} {A : List V2} {cur w6 : World} {st : St} {px py : Int} (h : Cor w0 base b xb rb tb kd v A cur st) (hg : cur.grownBy w6 v.ownBlock) (hr : w6.ownsRow xb 30 2 u (A.length + 1) (A.flatMap cV ++ [.int .i64 px, .int .i64 py])) (hlo : rb < tb ∧ xb < rb ∧ base ≤ xb ∧ b < xb ∧ xb = w0.heap.size) :
    Cor w0 base b xb rb tb kd u (A ++ [(px, py)]) (w6.setCell ⟨tb, 2, none⟩ u) st := by
  have e1 := ownsRow_apart h.o h.t (by decide)
  have e2 := ownsRow_apart h.o h.x (by decide)
  have e3 := ownsRow_apart h.o h.q (by decide)
  have t6 := h.t.grown hg e1
  have x6 := h.x.grown hg e2
  have q6 := h.q.grown hg e3
  have r6 := h.r.keep ((Chg.refl v.ownBlock.toList cur).grown hg (fun k hk _ => by simp [hk])) (fun k hk => by have := (World.ownsRow.lt h.o k (by simpa using hk)).1; omega)
  refine ⟨?_, ?_, ?_, ?_, ?_, ?_⟩
  · have := t6.set 2 u; simpa using this
  · have := ownsRow_set hr t6 (by decide) 2 u
    rw [List.length_append, List.flatMap_append]
    exact this
  · exact r6.keep ((Chg.refl [tb] w6).setCell ⟨tb, 2, none⟩ u (by simp)) (by simp; omega)
  · exact x6.other (by simp; omega) _
  · exact q6.other (by simp; omega) _
  · exact (h.c.grown hg (fun k hk hl => by have := (World.ownsRow.lt h.o k hk).1; omega)).setCell _ _ (fun hx => by simp at hx; omega)
theorem psR_no (m : Nat) (st : St) (h : st.2 = true) : psR m st = ([], st) := by
  cases m with
  | zero => rfl
  | succ m => simp only [psR, h, if_true]
theorem psR_go (m : Nat) (st : St) (h : st.2 = false) : psR (m + 1) st = ((plR st).1 :: (psR m (plR st).2).1, (psR m (plR st).2).2) := by
  simp only [psR, h, Bool.false_eq_true, if_false]
set_option maxRecDepth 100000 in
set_option maxHeartbeats 8000000 in
theorem RShape_poly (base b : Nat) (s : St) (w : World) (hr : RdB base w b s) (hbase : base ≤ w.heap.size) (h1 : (numR 1 s).1 ≠ 1) :
    Calls Try.prog 53 #[.agg #[.pointer (some ⟨b, 0, none⟩)]] w fun e w' => ∃ v, e = .returned (.agg #[.int .i64 (numR 1 s).1, .int .i64 0, v]) ∧ w'.ownsRow w.heap.size 30 2 v (psR (numR 1 (numR 1 s).2).1.toNat (numR 1 (numR 1 s).2).2).1.length ((psR (numR 1 (numR 1 s).2).1.toNat (numR 1 (numR 1 s).2).2).1.flatMap cV) ∧ RdB base w' b (psR (numR 1 (numR 1 s).2).1.toNat (numR 1 (numR 1 s).2).2).2 ∧ Chg [b] w w' := by
  have hc1 := fun W (h : RdB base W b s) => NumB_any 1 base b s W h (by omega)
  have hc2 := fun W (h : RdB base W b (numR 1 s).2) => NumB_any 1 base b (numR 1 s).2 W h (by omega)
  have hn := numR1_lo (numR 1 s).2
  generalize numR 1 (numR 1 s).2 = z at *
  have g1 : ((numR 1 s).1 == 1) = false := by rw [beq_eq_false_iff_ne]; exact h1
  generalize (numR 1 s).1 = kd at *
  generalize (numR 1 s).2 = y at *
  clear h1
  obtain ⟨n, s0⟩ := z
  simp only at hc2 hn ⊢
  obtain ⟨n, rfl⟩ := Int.eq_ofNat_of_zero_le hn.1
  simp only [Int.toNat_natCast]
  have hn2 : n ≤ 255 := by omega
  clear hn
  have hlt := hr.lt
  have hcA := (Chg.refl [] w).alloc (.cells #[.pointer (some ⟨b, 0, none⟩)] 73)
  have hcB := hcA.alloc (.cells #[.int .i64 0, .int .i64 0, .slice none 0 0] 33)
  have kA := (Blk.new w #[.pointer (some ⟨b, 0, none⟩)] 73).alloc (.cells #[.int .i64 0, .int .i64 0, .slice none 0 0] 33)
  have kB := Blk.new (w.alloc (.cells #[.pointer (some ⟨b, 0, none⟩)] 73)) #[.int .i64 0, .int .i64 0, .slice none 0 0] 33
  rw [World.size_alloc] at kB
  have hr0 := hr.k hcB
  have hc1 := hc1 _ hr0
  go_enter Try.func53, Try.ntmps53
  go_upto_region 1 with (fail)
  have hsz : ((w.alloc (.cells #[.pointer (some ⟨b, 0, none⟩)] 73)).alloc (.cells #[.int .i64 0, .int .i64 0, .slice none 0 0] 33)).heap.size = w.heap.size + 1 + 1 := by simp
  generalize (w.alloc (.cells #[.pointer (some ⟨b, 0, none⟩)] 73)).alloc (.cells #[.int .i64 0, .int .i64 0, .slice none 0 0] 33) = w0 at *
  have a0 := kA.cell 0
  simp at a0
  go_upto_region 5 with (first
    | (go_at_call 38; refine hc1.mono ?_; rintro e w1 ⟨rfl, hr1, hm1⟩; have kA1 := kA.chg hm1 (by simp; omega); have kB1 := kB.chg hm1 (by simp; omega); have a1 := kA1.cell 0; simp at a1))
  have hcC := (Chg.refl [] w1).alloc (.cells #[.int .i64 kd, .int .i64 0, .slice none 0 0] 33)
  have kC := Blk.new w1 #[.int .i64 kd, .int .i64 0, .slice none 0 0] 33
  have kA2 := kA1.k hcC
  have kB2 := kB1.k hcC
  have hr2 := hr1.k hcC
  have hc2 := hc2 _ hr2
  have hM2 : Chg [b] w (w1.alloc (.cells #[.int .i64 kd, .int .i64 0, .slice none 0 0] 33)) := ((hcB.mono (S' := [b]) (by simp)).trans hm1 (fun x hx _ => hx)).k' hcC
  have hT : w.heap.size + 1 < w1.heap.size := kB1.lt
  generalize w1.alloc (.cells #[.int .i64 kd, .int .i64 0, .slice none 0 0] 33) = w2 at *
  have a2 := kA2.cell 0
  simp at a2
  clear a0 a1 kA kB kA1 kB1 hr0 hr1 hcA hcB hcC hr hc1
  obtain ⟨tb, htb⟩ : ∃ tb, w1.heap.size = tb := ⟨_, rfl⟩
  obtain ⟨rb, hrb⟩ : ∃ rb, w.heap.size + 1 = rb := ⟨_, rfl⟩
  obtain ⟨xb, hxb⟩ : ∃ xb, w.heap.size = xb := ⟨_, rfl⟩
  rw [htb] at kC hT ⊢
  rw [hrb] at kB2 hT ⊢
  rw [hxb] at kA2 a2 hbase ⊢
  have HT : Hd (rb < tb ∧ xb < rb ∧ base ≤ xb ∧ b < xb ∧ xb = w.heap.size) := hd ⟨hT, by omega, hbase, by omega, hxb.symm⟩
  clear htb hrb hT hm1 hxb hbase hlt hsz
  have HM2 := hd hM2
  clear hM2
  go_wp2_with (first
    | (go_at_call 38; refine hc2.mono ?_; rintro e w3 ⟨rfl, hr3, hm3⟩))
  have kA3 := kA2.chg hm3 (by have := HT.out; simp; omega)
  have kB3 := kB2.chg hm3 (by have := HT.out; simp; omega)
  have kC3 := kC.chg hm3 (by have := HT.out; simp; omega)
  have HM3 := hd (HM2.out.trans hm3 (fun x hx _ => hx))
  clear kA2 kB2 kC hr2 hm3 a2 HM2 hc2
  have hcor : Cor w base b xb rb tb kd (.slice none 0 0) [] w3 s0 := ⟨kC3, World.ownsRow_nil _ _ _ _, hr3, kA3, kB3, HM3.out⟩
  clear hr3 kA3 kB3 kC3 HM3
  go_loopw [19] (fun i wr => ∃ (j : Nat) (A : List V2) (v : Value) (st : St), j ≤ n ∧ A.length ≤ j ∧ i = .int .i64 j ∧ A ++ (psR (n - j) st).1 = (psR n s0).1 ∧ (psR (n - j) st).2 = (psR n s0).2 ∧ Cor w base b xb rb tb kd v A wr st)
    (fun i _ => n - (intOf i).toNat)
  case atStart => exact ⟨0, [], _, s0, by omega, by simp, rfl, rfl, rfl, hcor⟩
  case round =>
    clear hcor
    obtain ⟨j, A, v, st, hj, hAj, rfl, hp1, hp2, hcor⟩ := hrel
    have a0 := hcor.x.cell 0
    simp at a0
    obtain ⟨ao, c, rfl⟩ : ∃ ao c, v = .slice ao A.length c := by
      rcases hcor.o.2 with ⟨rfl, hz⟩ | ⟨g, cap, cur, rfl, _⟩
      · exact ⟨none, 0, by rw [hz]⟩
      · exact ⟨_, cap, rfl⟩
    by_cases hlt : j < n
    · by_cases hbad : st.2 = true
      · rw [psR_no _ _ hbad] at hp1 hp2
        have HBAD := hd hbad
        clear hbad
        have hA : A = (psR n s0).1 ∧ st = (psR n s0).2 := ⟨by simpa using hp1, hp2⟩
        obtain ⟨hA1, hA2⟩ := hA
        have k4 := hcor.t
        have kB4 := hcor.q
        have HC := hd hcor
        have HPS := hd hA1
        have HPT := hd hA2
        clear hA1 hA2 hp1 hp2 hcor
        go_wp2_with (first | (go_at_call 23; refine (BadB_any base b st _ HC.out.r).mono ?_; rintro e w5 ⟨rfl, rfl⟩; rw [HBAD.out]) | (refine wpList_load_row rfl _ _ rfl tb rfl 33 _ (0, 0) _ k4 Try.underlying33 rfl (by kernel_rfl) ?_) | (refine wpList_store_row rfl _ _ _ rfl rb #[.int .i64 kd, .int .i64 0, .slice ao A.length c] rfl rfl 33 _ kB4 (by kernel_rfl) (by simp) (by simp [Value.oneCell']) ?_))
        have k5 : Blk (wr.setRow rb #[.int .i64 kd, .int .i64 0, .slice ao A.length c]) rb #[.int .i64 kd, .int .i64 0, .slice ao A.length c] 33 := kB4.row
        have hs5 := Chg.row (Chg.refl [rb] wr) rb #[.int .i64 kd, .int .i64 0, .slice ao A.length c] (by simp)
        refine bodyPost_ret (results_cell_row rfl _ _ rb 33 _ (0, 0) _ rfl k5 Try.underlying33 rfl (by kernel_rfl)) rfl ⟨_, rfl, ?_, ?_, ?_⟩
        · rw [← HPS.out, ← HT.out.2.2.2.2]
          exact ownsRow_chg HC.out.o hs5 (fun k hk hx => by rw [List.mem_singleton.mp hx] at hk; exact ownsRow_apart HC.out.o kB4 (by decide) hk)
        · rw [← HPT.out]
          exact HC.out.r.keep hs5 (by have := HT.out; simp; omega)
        · exact HC.out.c.trans hs5 (fun x hx hl => by have := HT.out; simp at hx; omega)
      · have hbad : st.2 = false := by simpa using hbad
        have HBAD := hd hbad
        obtain ⟨m, hm⟩ : ∃ m, n - j = m + 1 := ⟨n - j - 1, by omega⟩
        rw [hm, psR_go _ _ hbad] at hp1 hp2
        have HM := hd hm
        clear hbad hm
        have hcV := fun W (h : RdB base W b st) (hb : base ≤ W.heap.size) => VB_any base b st W h hb
        unfold vV at hcV
        generalize plR st = pl at *
        obtain ⟨⟨px, py⟩, st1⟩ := pl
        simp only at hcV hp1 hp2
        have HP1 := hd hp1
        have HP2 := hd hp2
        clear hp1 hp2
        have HC := hd hcor
        have NX : Hd (xb ∉ b :: tb :: (Value.slice ao A.length c).ownBlock.toList) := hd (by
          have h1 := HT.out
          have h2 := ownsRow_apart hcor.o hcor.x (by decide)
          cases ao with
          | none => simp [Value.ownBlock]; omega
          | some a => simp [Value.ownBlock] at h2 ⊢; omega)
        have Q0 := hd a0
        clear hcor
        go_upto_region 8 with (first | (go_at_call 23; refine (BadB_any base b st _ HC.out.r).mono ?_; rintro e w5 ⟨rfl, rfl⟩; rw [HBAD.out]))
        clear a0
        have hB := HC.out.k (Chg.refl [] wr).drew
        refine anyH_start (n := 9) (L := #[false, false, false, false, false, false, false, false, false]) (by kernel_rfl) (by kernel_rfl) (S := (fun wx => Chg (b :: tb :: (Value.slice ao A.length c).ownBlock.toList) wr wx)) ((Chg.refl _ _).drew) (fun hHeld => ?_)
        generalize wr.drew = wd at *
        refine anyH_take (i := 0) (d := 24) (L' := #[true, false, false, false, false, false, false, false, false]) (v := ?v4) rfl rfl (by kernel_rfl) (fun _ _ _ h => h) (by rfl) ?hy4 (by assumption) ?rest4
        case hy4 => (intro wx hSw; (try dsimp only at hSw); (have t0 := Chg.cellT hSw Q0.out NX.out); go_simp; (try with_reducible rfl))
        simp only [Act.put, List.setIfInBounds_toArray, List.set_cons_zero, List.set_cons_succ]
        refine anyH_take (i := 2) (d := 26) (L' := #[true, false, true, false, false, false, false, false, false]) (v := ?v5) rfl rfl (by kernel_rfl) (fun _ _ _ h => h) (by rfl) ?hy5 (by assumption) ?rest5
        case hy5 => (intro wx hSw; (try dsimp only at hSw); (have t0 := Chg.cellT hSw Q0.out NX.out); go_simp; (try with_reducible rfl))
        simp only [Act.put, List.setIfInBounds_toArray, List.set_cons_zero, List.set_cons_succ]
        refine anyH_take (i := 3) (d := 27) (L' := #[true, false, true, true, false, false, false, false, false]) (v := ?v6) rfl rfl (by kernel_rfl) (fun _ _ _ h => h) (by rfl) ?hy6 (by assumption) ?rest6
        case hy6 => (intro wx hSw; (try dsimp only at hSw); (have t0 := Chg.cellT hSw Q0.out NX.out); go_simp; (try with_reducible rfl))
        simp only [Act.put, List.setIfInBounds_toArray, List.set_cons_zero, List.set_cons_succ]
        refine anyH_run2 (i := 1) (j := 4) (L1 := #[true, true, true, true, false, false, false, false, false]) (L2 := #[true, false, true, true, true, false, false, false, false]) rfl rfl (by kernel_rfl) (by rfl) (by rfl) (fun KK hKK => ?ra0) (fun KK hKK => ?rb0)
        case' ra0 =>
          (have t1 := hB.t.cell 2; simp at t1; go_simp)
          refine hKK.out _ _ (by assumption) (fun hHeld => ?_)
          clear hKK KK
          try simp only [Act.put, List.setIfInBounds_toArray, List.set_cons_zero, List.set_cons_succ]
          refine anyH_run (i := 4) (L' := #[true, true, true, true, true, false, false, false, false]) rfl (by kernel_rfl) (by rfl) (fun KK hKK => ?_)
          go_simp
          (refine (hcV _ hB.r (by have := HT.out; have := hB.x.lt; omega)).mono ?_; rintro e w4 ⟨rfl, hr4, hm4⟩; have hm := Chg.trans hHeld hm4 (by simp); replace hB := hB.step hm4 hr4 (by have := HT.out; omega); clear hm4 hr4; (try go_simp))
          refine hKK.out _ _ (by assumption) (fun hHeld => ?_)
          clear hKK KK
          try simp only [Act.put, List.setIfInBounds_toArray, List.set_cons_zero, List.set_cons_succ]
          refine anyH_run (i := 5) (L' := #[true, true, true, true, true, true, false, false, false]) rfl (by kernel_rfl) (by rfl) (fun KK hKK => ?_)
          (obtain ⟨m1, hLit⟩ := hB.lit px py; replace hB := m1; (try simp only [World.size_alloc] at hLit); have hm5 := Chg.alloc hHeld (.cells #[.int .i64 px, .int .i64 py] 30); go_simp)
          refine hKK.out _ _ (by assumption) (fun hHeld => ?_)
          clear hKK KK
          try simp only [Act.put, List.setIfInBounds_toArray, List.set_cons_zero, List.set_cons_succ]
          refine anyH_run (i := 6) (L' := #[true, true, true, true, true, true, true, false, false]) rfl (by kernel_rfl) (by rfl) (fun KK hKK => ?_)
          (refine wp_appT rowV _ _ rfl xb _ A.length (A.flatMap cV) rfl hB.o _ 1 [.int .i64 px, .int .i64 py] rfl hLit (by simp [Value.oneCell']) (by omega) (by omega) (Nat.le_of_lt hB.x.lt) ?_; intro ao6 c6 w6 hr6 hg6 hm6; have k6 := hB.t.grown hg6 (ownsRow_apart hB.o hB.t (by decide)); have q6 := k6.cell 2; have f6 := k6.free 2; simp at q6; have hS6 : Chg (b :: tb :: (Value.slice ao A.length c).ownBlock.toList) wr w6 := hHeld.grown hg6 (by intro k hk _; simp only [List.mem_cons, Option.mem_toList]; exact Or.inr (Or.inr hk)); clear hm6 k6)
          refine hKK.out _ _ (by assumption) (fun hHeld => ?_)
          clear hKK KK
          try simp only [Act.put, List.setIfInBounds_toArray, List.set_cons_zero, List.set_cons_succ]
          refine anyH_take (i := 7) (d := 31) (L' := #[true, true, true, true, true, true, true, true, false]) (v := ?v10) rfl rfl (by kernel_rfl) (fun _ _ _ h => h) (by rfl) ?hy10 (by assumption) ?rest10
          case hy10 => (intro wx hSw; (try dsimp only at hSw); (have t0 := Chg.cellT hSw Q0.out NX.out); go_simp; (try with_reducible rfl))
          simp only [Act.put, List.setIfInBounds_toArray, List.set_cons_zero, List.set_cons_succ]
          refine anyH_run (i := 8) (L' := #[true, true, true, true, true, true, true, true, true]) rfl (by kernel_rfl) (by rfl) (fun KK hKK => ?_)
          go_simp
          (have hS8 := Chg.setCell hHeld ⟨tb, 2, none⟩ (.slice ao6 (A.length + 1) c6) (by simp))
          refine hKK.out _ _ (by assumption) (fun hHeld => ?_)
          clear hKK KK
          try simp only [Act.put, List.setIfInBounds_toArray, List.set_cons_zero, List.set_cons_succ]
          refine wpAnyH_done (by kernel_rfl) ?_ _
          clear hHeld q6 f6; go_wp2_with (fail); refine ⟨⟨j + 1, A ++ [(px, py)], _, st1, by omega, by simp; omega, by go_num, ?_, ?_, hB.app hg6 hr6 HT.out⟩, by simp [intOf]; omega⟩; (rw [show n - (j + 1) = m by have := HM.out; omega]; simpa using HP1.out); (rw [show n - (j + 1) = m by have := HM.out; omega]; exact HP2.out)
        case' rb0 =>
          go_simp
          (refine (hcV _ hB.r (by have := HT.out; have := hB.x.lt; omega)).mono ?_; rintro e w4 ⟨rfl, hr4, hm4⟩; have hm := Chg.trans hHeld hm4 (by simp); replace hB := hB.step hm4 hr4 (by have := HT.out; omega); clear hm4 hr4; (try go_simp))
          refine hKK.out _ _ (by assumption) (fun hHeld => ?_)
          clear hKK KK
          try simp only [Act.put, List.setIfInBounds_toArray, List.set_cons_zero, List.set_cons_succ]
          refine anyH_run2 (i := 1) (j := 5) (L1 := #[true, true, true, true, true, false, false, false, false]) (L2 := #[true, false, true, true, true, true, false, false, false]) rfl rfl (by kernel_rfl) (by rfl) (by rfl) (fun KK hKK => ?ra1) (fun KK hKK => ?rb1)
          case' ra1 =>
            (have t1 := hB.t.cell 2; simp at t1; go_simp)
            refine hKK.out _ _ (by assumption) (fun hHeld => ?_)
            clear hKK KK
            try simp only [Act.put, List.setIfInBounds_toArray, List.set_cons_zero, List.set_cons_succ]
            refine anyH_run (i := 5) (L' := #[true, true, true, true, true, true, false, false, false]) rfl (by kernel_rfl) (by rfl) (fun KK hKK => ?_)
            (obtain ⟨m1, hLit⟩ := hB.lit px py; replace hB := m1; (try simp only [World.size_alloc] at hLit); have hm5 := Chg.alloc hHeld (.cells #[.int .i64 px, .int .i64 py] 30); go_simp)
            refine hKK.out _ _ (by assumption) (fun hHeld => ?_)
            clear hKK KK
            try simp only [Act.put, List.setIfInBounds_toArray, List.set_cons_zero, List.set_cons_succ]
            refine anyH_run (i := 6) (L' := #[true, true, true, true, true, true, true, false, false]) rfl (by kernel_rfl) (by rfl) (fun KK hKK => ?_)
            (refine wp_appT rowV _ _ rfl xb _ A.length (A.flatMap cV) rfl hB.o _ 1 [.int .i64 px, .int .i64 py] rfl hLit (by simp [Value.oneCell']) (by omega) (by omega) (Nat.le_of_lt hB.x.lt) ?_; intro ao6 c6 w6 hr6 hg6 hm6; have k6 := hB.t.grown hg6 (ownsRow_apart hB.o hB.t (by decide)); have q6 := k6.cell 2; have f6 := k6.free 2; simp at q6; have hS6 : Chg (b :: tb :: (Value.slice ao A.length c).ownBlock.toList) wr w6 := hHeld.grown hg6 (by intro k hk _; simp only [List.mem_cons, Option.mem_toList]; exact Or.inr (Or.inr hk)); clear hm6 k6)
            refine hKK.out _ _ (by assumption) (fun hHeld => ?_)
            clear hKK KK
            try simp only [Act.put, List.setIfInBounds_toArray, List.set_cons_zero, List.set_cons_succ]
            refine anyH_take (i := 7) (d := 31) (L' := #[true, true, true, true, true, true, true, true, false]) (v := ?v15) rfl rfl (by kernel_rfl) (fun _ _ _ h => h) (by rfl) ?hy15 (by assumption) ?rest15
            case hy15 => (intro wx hSw; (try dsimp only at hSw); (have t0 := Chg.cellT hSw Q0.out NX.out); go_simp; (try with_reducible rfl))
            simp only [Act.put, List.setIfInBounds_toArray, List.set_cons_zero, List.set_cons_succ]
            refine anyH_run (i := 8) (L' := #[true, true, true, true, true, true, true, true, true]) rfl (by kernel_rfl) (by rfl) (fun KK hKK => ?_)
            go_simp
            (have hS8 := Chg.setCell hHeld ⟨tb, 2, none⟩ (.slice ao6 (A.length + 1) c6) (by simp))
            refine hKK.out _ _ (by assumption) (fun hHeld => ?_)
            clear hKK KK
            try simp only [Act.put, List.setIfInBounds_toArray, List.set_cons_zero, List.set_cons_succ]
            refine wpAnyH_done (by kernel_rfl) ?_ _
            clear hHeld q6 f6; go_wp2_with (fail); refine ⟨⟨j + 1, A ++ [(px, py)], _, st1, by omega, by simp; omega, by go_num, ?_, ?_, hB.app hg6 hr6 HT.out⟩, by simp [intOf]; omega⟩; (rw [show n - (j + 1) = m by have := HM.out; omega]; simpa using HP1.out); (rw [show n - (j + 1) = m by have := HM.out; omega]; exact HP2.out)
          case' rb1 =>
            (obtain ⟨m1, hLit⟩ := hB.lit px py; replace hB := m1; (try simp only [World.size_alloc] at hLit); have hm5 := Chg.alloc hHeld (.cells #[.int .i64 px, .int .i64 py] 30); go_simp)
            refine hKK.out _ _ (by assumption) (fun hHeld => ?_)
            clear hKK KK
            try simp only [Act.put, List.setIfInBounds_toArray, List.set_cons_zero, List.set_cons_succ]
            refine anyH_run (i := 1) (L' := #[true, true, true, true, true, true, false, false, false]) rfl (by kernel_rfl) (by rfl) (fun KK hKK => ?_)
            (have t1 := hB.t.cell 2; simp at t1; go_simp)
            refine hKK.out _ _ (by assumption) (fun hHeld => ?_)
            clear hKK KK
            try simp only [Act.put, List.setIfInBounds_toArray, List.set_cons_zero, List.set_cons_succ]
            refine anyH_run (i := 6) (L' := #[true, true, true, true, true, true, true, false, false]) rfl (by kernel_rfl) (by rfl) (fun KK hKK => ?_)
            (refine wp_appT rowV _ _ rfl xb _ A.length (A.flatMap cV) rfl hB.o _ 1 [.int .i64 px, .int .i64 py] rfl hLit (by simp [Value.oneCell']) (by omega) (by omega) (Nat.le_of_lt hB.x.lt) ?_; intro ao6 c6 w6 hr6 hg6 hm6; have k6 := hB.t.grown hg6 (ownsRow_apart hB.o hB.t (by decide)); have q6 := k6.cell 2; have f6 := k6.free 2; simp at q6; have hS6 : Chg (b :: tb :: (Value.slice ao A.length c).ownBlock.toList) wr w6 := hHeld.grown hg6 (by intro k hk _; simp only [List.mem_cons, Option.mem_toList]; exact Or.inr (Or.inr hk)); clear hm6 k6)
            refine hKK.out _ _ (by assumption) (fun hHeld => ?_)
            clear hKK KK
            try simp only [Act.put, List.setIfInBounds_toArray, List.set_cons_zero, List.set_cons_succ]
            refine anyH_take (i := 7) (d := 31) (L' := #[true, true, true, true, true, true, true, true, false]) (v := ?v20) rfl rfl (by kernel_rfl) (fun _ _ _ h => h) (by rfl) ?hy20 (by assumption) ?rest20
            case hy20 => (intro wx hSw; (try dsimp only at hSw); (have t0 := Chg.cellT hSw Q0.out NX.out); go_simp; (try with_reducible rfl))
            simp only [Act.put, List.setIfInBounds_toArray, List.set_cons_zero, List.set_cons_succ]
            refine anyH_run (i := 8) (L' := #[true, true, true, true, true, true, true, true, true]) rfl (by kernel_rfl) (by rfl) (fun KK hKK => ?_)
            go_simp
            (have hS8 := Chg.setCell hHeld ⟨tb, 2, none⟩ (.slice ao6 (A.length + 1) c6) (by simp))
            refine hKK.out _ _ (by assumption) (fun hHeld => ?_)
            clear hKK KK
            try simp only [Act.put, List.setIfInBounds_toArray, List.set_cons_zero, List.set_cons_succ]
            refine wpAnyH_done (by kernel_rfl) ?_ _
            clear hHeld q6 f6; go_wp2_with (fail); refine ⟨⟨j + 1, A ++ [(px, py)], _, st1, by omega, by simp; omega, by go_num, ?_, ?_, hB.app hg6 hr6 HT.out⟩, by simp [intOf]; omega⟩; (rw [show n - (j + 1) = m by have := HM.out; omega]; simpa using HP1.out); (rw [show n - (j + 1) = m by have := HM.out; omega]; exact HP2.out)
    · have hjn : n - j = 0 := by omega
      rw [hjn] at hp1 hp2
      simp only [psR] at hp1 hp2
      have hA : A = (psR n s0).1 ∧ st = (psR n s0).2 := ⟨by simpa using hp1, hp2⟩
      obtain ⟨hA1, hA2⟩ := hA
      have k4 := hcor.t
      have kB4 := hcor.q
      have HC := hd hcor
      have HPS := hd hA1
      have HPT := hd hA2
      clear hA1 hA2 hp1 hp2 hcor
      go_wp2_with (first | (refine wpList_load_row rfl _ _ rfl tb rfl 33 _ (0, 0) _ k4 Try.underlying33 rfl (by kernel_rfl) ?_) | (refine wpList_store_row rfl _ _ _ rfl rb #[.int .i64 kd, .int .i64 0, .slice ao A.length c] rfl rfl 33 _ kB4 (by kernel_rfl) (by simp) (by simp [Value.oneCell']) ?_))
      have k5 : Blk (wr.setRow rb #[.int .i64 kd, .int .i64 0, .slice ao A.length c]) rb #[.int .i64 kd, .int .i64 0, .slice ao A.length c] 33 := kB4.row
      have hs5 := Chg.row (Chg.refl [rb] wr) rb #[.int .i64 kd, .int .i64 0, .slice ao A.length c] (by simp)
      refine bodyPost_ret (results_cell_row rfl _ _ rb 33 _ (0, 0) _ rfl k5 Try.underlying33 rfl (by kernel_rfl)) rfl ⟨_, rfl, ?_, ?_, ?_⟩
      · rw [← HPS.out, ← HT.out.2.2.2.2]
        exact ownsRow_chg HC.out.o hs5 (fun k hk hx => by rw [List.mem_singleton.mp hx] at hk; exact ownsRow_apart HC.out.o kB4 (by decide) hk)
      · rw [← HPT.out]
        exact HC.out.r.keep hs5 (by have := HT.out; simp; omega)
      · exact HC.out.c.trans hs5 (fun x hx hl => by have := HT.out; simp at hx; omega)
end Go.Proofs.Ytlicefbgcoddbaa

/- codec.reader.shape; what stands while an order is read. -/
namespace Go.Proofs.Ytlicefbgcoddbaa
open Go.RowKit

theorem RShape_any (base b : Nat) (s : St) (w : World) (hr : RdB base w b s) (hbase : base ≤ w.heap.size) :
    Calls Try.prog 53 #[.agg #[.pointer (some ⟨b, 0, none⟩)]] w fun e w' => ∃ pv, e = .returned (vS (shapeR s).1 pv) ∧ VsS w' pv (shapeR s).1.p ∧ (∀ k, pv.ownBlock = some k → w.heap.size ≤ k) ∧ RdB base w' b (shapeR s).2 ∧ Chg [b] w w' := by
  by_cases h1 : (numR 1 s).1 = 1
  · refine (RShape_circle base b s w hr hbase h1).mono ?_
    rintro e w' ⟨rfl, h2, h3⟩
    have e1 : shapeR s = (⟨1, (numR 8 (numR 1 s).2).1, []⟩, (numR 8 (numR 1 s).2).2) := if_pos h1
    rw [e1]
    exact ⟨_, rfl, Rd.ofOwn (e := 30) (base := 0) (World.ownsRow_nil _ _ _ _), by simp [Value.ownBlock], h2, h3⟩
  · refine (RShape_poly base b s w hr hbase h1).mono ?_
    rintro e w' ⟨v, rfl, h2, h3, h4⟩
    have e1 : shapeR s = (⟨(numR 1 s).1, 0, (psR (numR 1 (numR 1 s).2).1.toNat (numR 1 (numR 1 s).2).2).1⟩, (psR (numR 1 (numR 1 s).2).1.toNat (numR 1 (numR 1 s).2).2).2) := if_neg h1
    rw [e1]
    exact ⟨v, rfl, Rd.ofOwn h2, fun k hk => (World.ownsRow.lt h2 k hk).1, h3, h4⟩
/-- What stands while an order is read: its record, the reader, the call's own records. -/
structure Ost (w0 : World) (base b xb rb tb : Nat) (cs : Array Value) (cur : World) (st : St) : Prop where
  t : Blk cur tb cs 35
  r : RdB base cur b st
  x : Blk cur xb #[.pointer (some ⟨b, 0, none⟩)] 73
  q : ∃ zs : Array Value, zs.size = 15 ∧ Blk cur rb zs 35
  c : Chg [b] w0 cur
  lo : rb < tb ∧ xb < rb ∧ base ≤ xb ∧ b < xb ∧ xb = w0.heap.size
theorem Ost.step {w0 : World} {base b xb rb tb : Nat} {cs : Array Value} {cur cur' : World} {st st' : St} (h : Ost w0 base b xb rb tb cs cur st) (hm : Chg [b] cur cur') (hr : RdB base cur' b st') : Ost w0 base b xb rb tb cs cur' st' := by
  have hl := h.lo
  obtain ⟨zs, hz, hq⟩ := h.q
  exact ⟨h.t.chg hm (by simp; omega), hr, h.x.chg hm (by simp; omega), ⟨zs, hz, hq.chg hm (by simp; omega)⟩, h.c.trans hm (fun x hx _ => hx), hl⟩
theorem Ost.k {w0 : World} {base b xb rb tb : Nat} {cs : Array Value} {cur cur' : World} {st : St} (h : Ost w0 base b xb rb tb cs cur st) (hm : Chg [] cur cur') : Ost w0 base b xb rb tb cs cur' st := by
  obtain ⟨zs, hz, hq⟩ := h.q
  exact ⟨h.t.k hm, h.r.k hm, h.x.k hm, ⟨zs, hz, hq.k hm⟩, h.c.k' hm, h.lo⟩
theorem Ost.set {w0 : World} {base b xb rb tb : Nat} {cs : Array Value} {cur : World} {st : St} (h : Ost w0 base b xb rb tb cs cur st) (j : Nat) (u : Value) {cs' : Array Value} (e : cs.setIfInBounds j u = cs') : Ost w0 base b xb rb tb cs' (cur.setCell ⟨tb, j, none⟩ u) st := by
  have hl := h.lo
  subst e
  obtain ⟨zs, hz, hq⟩ := h.q
  have hs := (Chg.refl [tb] cur).setCell ⟨tb, j, none⟩ u (by simp)
  exact ⟨h.t.set j u, h.r.keep hs (by simp; omega), h.x.other (by simp; omega) _, ⟨zs, hz, hq.other (by simp; omega) _⟩, h.c.setCell _ _ (fun hx => by simp at hx; omega), hl⟩
end Go.Proofs.Ytlicefbgcoddbaa
