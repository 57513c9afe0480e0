/- Words and walks that Apart rests on: Seed. -/
import Derived.Test.YtpadflhffiiglaaGreatWApart31
import Derived.Test.YtpadflhffiiglaaGreatWApart15
/- law04.Seed.Shape. -/
namespace Go.Proofs.YtpadflhffiiglaaGreat
open Go.RowKit

structure Sd where
  kind : Int
  n : Int
  size : Int
  turn : Int
def vSd (s : Sd) : Value := .agg #[.int .i64 s.kind, .int .i64 s.n, .int .i64 s.size, .int .i64 s.turn]
def sizeSd (x : Int) : Int := (1 + x) * 268435456
def ringAt (m u i : Nat) : V2 := ringL.getD ((i * 10 / m + u) % 10) (0, 0)
def cornSd (sz : Int) (m u i : Nat) : V2 := (((ringAt m u i).1 * sz).tdiv 64, ((ringAt m u i).2 * sz).tdiv 64)
def shapeSd (s : Sd) : Shp :=
  let sz := sizeSd (s.size % 64)
  if s.kind % 4 = 0 then ⟨1, sz, []⟩
  else if s.kind % 4 = 1 then ⟨2, 0, [(-sz, -sizeSd (s.turn % 32)), (sz, -sizeSd (s.turn % 32)), (sz, sizeSd (s.turn % 32)), (-sz, sizeSd (s.turn % 32))]⟩
  else ⟨2, 0, (List.range (3 + (s.n % 256).toNat % 6)).map (cornSd sz (3 + (s.n % 256).toNat % 6) (s.turn % 256).toNat)⟩
theorem ringAt_lo (m u i : Nat) : -65 ≤ (ringAt m u i).1 ∧ (ringAt m u i).1 ≤ 65 ∧ -65 ≤ (ringAt m u i).2 ∧ (ringAt m u i).2 ≤ 65 := by
  unfold ringAt
  have h : (i * 10 / m + u) % 10 < 10 := Nat.mod_lt _ (by omega)
  generalize (i * 10 / m + u) % 10 = j at *
  have : j = 0 ∨ j = 1 ∨ j = 2 ∨ j = 3 ∨ j = 4 ∨ j = 5 ∨ j = 6 ∨ j = 7 ∨ j = 8 ∨ j = 9 := by omega
  rcases this with rfl | rfl | rfl | rfl | rfl | rfl | rfl | rfl | rfl | rfl <;> simp [ringL]
theorem size_div (x : Int) (h0 : 0 ≤ x) : ((1 + x) * 4294967296).tdiv 16 = sizeSd x := by
  unfold sizeSd
  rw [Int.tdiv_eq_ediv_of_nonneg (by omega)]
  omega
set_option maxRecDepth 100000 in
set_option maxHeartbeats 2000000 in
theorem SeedShape0 (s : Sd) (w : World) (hk : s.kind % 4 = 0 ∨ s.kind % 4 = 1) : Calls Tryz.prog 94 #[vSd s] w fun e w' => ∃ pv, e = .returned (vS (shapeSd s) pv) ∧ VsS w' pv (shapeSd s).p ∧ Chg [] w w' ∧ ∀ k, pv.ownBlock = some k → w.heap.size ≤ k := by
  obtain ⟨k, n, z, u⟩ := s
  unfold vSd shapeSd vS
  simp only at hk ⊢
  have a63 : bits .and .i64 z 63 = z % 64 := and_mask z 6 (by decide)
  have a3 : bits .and .i64 k 3 = k % 4 := and_mask k 2 (by decide)
  have a31 : bits .and .i64 u 31 = u % 32 := and_mask u 5 (by decide)
  have b63 : 0 ≤ z % 64 ∧ z % 64 < 64 := by omega
  have b31 : 0 ≤ u % 32 ∧ u % 32 < 32 := by omega
  have d1 := size_div (z % 64) b63.1
  have d2 := size_div (u % 32) b31.1
  have e1 : 268435456 ≤ sizeSd (z % 64) ∧ sizeSd (z % 64) ≤ 17179869184 := by unfold sizeSd; omega
  have e2 : 268435456 ≤ sizeSd (u % 32) ∧ sizeSd (u % 32) ≤ 17179869184 := by unfold sizeSd; omega
  generalize sizeSd (z % 64) = sz at *
  generalize sizeSd (u % 32) = su at *
  generalize z % 64 = zs at *
  generalize u % 32 = us at *
  generalize k % 4 = kk at *
  have hb := fun W => Box_any sz su (by unfold I64; omega) (by unfold I64; omega) W
  have n1 : negF sz = -sz := by unfold negF whF; omega
  have n2 : negF su = -su := by unfold negF whF; omega
  rw [n1, n2] at hb
  unfold vS at hb
  simp only at hb
  clear n1 n2
  rcases hk with rfl | rfl
  · go_enter Tryz.func94, Tryz.ntmps94
    go_wp2_with (fail)
    refine bodyPost_ret (v := .agg #[.int .i64 1, .int .i64 sz, .slice none 0 0]) (by simp only [results]; go_simp) rfl ⟨_, rfl, ?_, ((Chg.refl [] w).alloc _).alloc _, by simp [Value.ownBlock]⟩
    exact Rd.ofOwn (e := 27) (base := 0) (World.ownsRow_nil _ _ _ _)
  · have hkb := Blk.new (w.alloc (.cells #[.int .i64 k, .int .i64 n, .int .i64 z, .int .i64 u] 24)) #[.int .i64 0, .int .i64 0, .slice none 0 0] 32
    rw [World.size_alloc] at hkb
    have hc := ((Chg.refl [] w).alloc (.cells #[.int .i64 k, .int .i64 n, .int .i64 z, .int .i64 u] 24)).alloc (.cells #[.int .i64 0, .int .i64 0, .slice none 0 0] 32)
    go_enter Tryz.func94, Tryz.ntmps94
    go_wp2_with (first
      | (go_at_call 137; refine (hb _).mono ?_; rintro e w1 ⟨pv, rfl, hv, hm, hpo⟩; obtain ⟨ap, cp, rfl, -⟩ := hv.form; have kB4 := hkb.k hm; have HM := hd (hc.k' hm); have HV := hd hv; have hlo : w.heap.size < w1.heap.size := (by have := hm.size; simp at this; omega); clear hm hc hv)
      | (refine wpList_store_row rfl _ _ _ rfl (w.heap.size + 1) #[.int .i64 2, .int .i64 0, .slice ap 4 cp] rfl rfl 32 _ kB4 (by kernel_rfl) (by simp) (by simp [Value.oneCell']) ?_))
    have k5 : Blk (w1.setRow (w.heap.size + 1) #[.int .i64 2, .int .i64 0, .slice ap 4 cp]) (w.heap.size + 1) #[.int .i64 2, .int .i64 0, .slice ap 4 cp] 32 := kB4.row
    have hs := Chg.row (Chg.refl [w.heap.size + 1] w1) (w.heap.size + 1) #[.int .i64 2, .int .i64 0, .slice ap 4 cp] (by simp)
    refine bodyPost_ret (results_cell_row rfl _ _ (w.heap.size + 1) 32 _ (0, 0) _ rfl k5 Tryz.underlying32 rfl (by kernel_rfl)) rfl ⟨_, rfl, ?_, ?_, fun k' hk' => by have := hpo k' hk'; simp at this; omega⟩
    · exact Rd.keep HV.out hs (fun _ k' hk' hx => by have := hpo k' hk'; simp at hx this; omega)
    · exact HM.out.trans hs (fun x hx hl => by simp at hx; omega)
theorem ring_cell {w : World} {g : Nat} (h : VsS w (.slice (some ⟨g, 0, none⟩) 10 10) ringL) (j : Nat) (hj : j < 10) (m : Nat) (hm : m < 2) : w.cell? ⟨g, 0 + j * 2 + m, none⟩ = some ((cV (ringL.getD j (0, 0)))[m]'(by rw [cV_len]; exact hm)) := by
  have := Rd.cellAt (l := ringL) cV_len h j hj m hm
  rw [this]
  congr 2
  rw [List.getD_eq_getElem?_getD, List.getElem?_eq_getElem hj]
  rfl
structure Pol (w0 : World) (base tb xb rb g : Nat) (xs : Array Value) (v : Value) (A : List V2) (cur : World) : Prop where
  t : Blk cur tb #[.int .i64 2, .int .i64 0, v] 32
  o : cur.ownsRow base 27 2 v A.length (A.flatMap cV)
  x : Blk cur xb xs 24
  q : Blk cur rb #[.int .i64 0, .int .i64 0, .slice none 0 0] 32
  r : VsS cur (.slice (some ⟨g, 0, none⟩) 10 10) ringL
  c : Chg [] w0 cur
theorem Pol.k {w0 : World} {base tb xb rb g : Nat} {xs : Array Value} {v : Value} {A : List V2} {cur cur' : World} (h : Pol w0 base tb xb rb g xs v A cur) (hm : Chg [] cur cur') : Pol w0 base tb xb rb g xs v A cur' :=
  ⟨h.t.k hm, ownsRow_k h.o hm, h.x.k hm, h.q.k hm, h.r.k hm, h.c.k' hm⟩
theorem Pol.app {w0 : World} {base tb xb rb g : Nat} {xs : Array Value} {v u : Value} {A : List V2} {cur w6 : World} {px py : Int} (h : Pol w0 base tb xb rb g xs v A cur) (hg : cur.grownBy w6 v.ownBlock) (hr : w6.ownsRow base 27 2 u (A.length + 1) (A.flatMap cV ++ [.int .i64 px, .int .i64 py])) (hlo : w0.heap.size ≤ tb ∧ w0.heap.size ≤ base ∧ g < base ∧ g ≠ tb ∧ xb ≠ tb ∧ rb ≠ tb) :
    Pol w0 base tb xb rb g xs u (A ++ [(px, py)]) (w6.setCell ⟨tb, 2, none⟩ u) := by
  have t6 := h.t.grown hg (ownsRow_apart h.o h.t (by decide))
  have x6 := h.x.grown hg (ownsRow_apart h.o h.x (by decide))
  have q6 := h.q.grown hg (ownsRow_apart h.o h.q (by decide))
  have r6 := Rd.keep h.r ((Chg.refl v.ownBlock.toList cur).grown hg (fun k hk _ => by simp [hk])) (fun _ k hk hx => by
    have h1 : g = k := by simpa [Value.ownBlock] using hk
    have := (World.ownsRow.lt h.o k (by simpa using hx)).1; omega)
  have hs := (Chg.refl [tb] w6).setCell ⟨tb, 2, none⟩ u (by simp)
  refine ⟨?_, ?_, x6.chg hs (by simp; omega), q6.chg hs (by simp; omega), ?_, ?_⟩
  · have := t6.set 2 u; simpa using this
  · have := ownsRow_set hr t6 (by decide) 2 u
    rw [List.length_append, List.flatMap_append]
    exact this
  · exact Rd.keep r6 hs (fun _ k hk hx => by
      have h1 : g = k := by simpa [Value.ownBlock] using hk
      simp at hx; omega)
  · exact (h.c.grown hg (fun k hk hl => by have := (World.ownsRow.lt h.o k hk).1; omega)).setCell _ _ (fun hx => by simp at hx; omega)
end Go.Proofs.YtpadflhffiiglaaGreat
