/- Words and walks that Codec rests on: CodecRK4, CodecRK6, CodecRD, CodecOK0, CodecOK2, CodecOK4, CodecOK6, CodecO. -/
import Derived.Test.YtlicefbgcoddbaaWCodec18
import Derived.Test.YtlicefbgcoddbaaWCodec19
import Derived.Test.YtlicefbgcoddbaaWCodec20
import Derived.Test.YtlicefbgcoddbaaWCodec21
import Derived.Test.YtlicefbgcoddbaaWCodec22
import Derived.Test.YtlicefbgcoddbaaWCodec23
import Derived.Test.YtlicefbgcoddbaaWCodec24
import Derived.Test.YtlicefbgcoddbaaWCodec25
import Derived.Test.YtlicefbgcoddbaaWCodec26
/- codec.reader.order: kind 4. -/
namespace Go.Proofs.Ytlicefbgcoddbaa
open Go.RowKit

set_option maxRecDepth 100000 in
set_option maxHeartbeats 8000000 in
theorem ROrderK4_any (base b : Nat) (s : St) (w : World) (hr : RdB base w b s) (hbase : base ≤ w.heap.size) (hk : (numR 1 s).1 = 4) :
    Calls Try.prog 22 #[.agg #[.pointer (some ⟨b, 0, none⟩)]] w fun e w' => ∃ pv, e = .returned (vO (orderR s).1 pv) ∧ VsS w' pv (orderR s).1.shape.p ∧ (∀ k, pv.ownBlock = some k → w.heap.size ≤ k) ∧ RdB base w' b (orderR s).2 ∧ Chg [b] w w' := by
  have hio := orderR0_IO s
  have e0 : orderR0 s = (⟨4, (numR 8 (numR 1 s).2).1, 0, 0, (0, 0), (0, 0), 0, 0, 0, 0, noS⟩, (numR 8 (numR 1 s).2).2) := by
    unfold orderR0; rw [hk]; rfl
  unfold orderR
  rw [e0] at hio ⊢
  have hc1 := fun W (h : RdB base W b s) => NumB_any 1 base b s W h (by omega)
  have hc2 := fun W (h : RdB base W b (numR 1 s).2) => NumB_any 8 base b (numR 1 s).2 W h (by omega)
  rw [hk] at hc1
  clear hk e0
  generalize numR 8 (numR 1 s).2 = z at *
  generalize (numR 1 s).2 = y at *
  have hcR := fun W => ORight_any W ⟨4, z.1, 0, 0, (0, 0), (0, 0), 0, 0, 0, 0, noS⟩ (.slice none 0 0) (Rd.ofOwn (e := 30) (base := 0) (World.ownsRow_nil _ _ _ _)) hio
  generalize rightO ⟨4, z.1, 0, 0, (0, 0), (0, 0), 0, 0, 0, 0, noS⟩ = rt at *
  unfold vO noS at hcR ⊢
  simp only at hcR ⊢
  have hlt := hr.lt
  have hcA := (Chg.refl [] w).alloc (.cells #[.pointer (some ⟨b, 0, none⟩)] 73)
  have hcB := hcA.alloc (.cells #[.int .i64 0, .int .i64 0, .int .i64 0, .int .i64 0, .int .i64 0, .int .i64 0, .int .i64 0, .int .i64 0, .int .i64 0, .int .i64 0, .int .i64 0, .int .i64 0, .int .i64 0, .int .i64 0, .slice none 0 0] 35)
  have kA := (Blk.new w #[.pointer (some ⟨b, 0, none⟩)] 73).alloc (.cells #[.int .i64 0, .int .i64 0, .int .i64 0, .int .i64 0, .int .i64 0, .int .i64 0, .int .i64 0, .int .i64 0, .int .i64 0, .int .i64 0, .int .i64 0, .int .i64 0, .int .i64 0, .int .i64 0, .slice none 0 0] 35)
  have kB := Blk.new (w.alloc (.cells #[.pointer (some ⟨b, 0, none⟩)] 73)) #[.int .i64 0, .int .i64 0, .int .i64 0, .int .i64 0, .int .i64 0, .int .i64 0, .int .i64 0, .int .i64 0, .int .i64 0, .int .i64 0, .int .i64 0, .int .i64 0, .int .i64 0, .int .i64 0, .slice none 0 0] 35
  rw [World.size_alloc] at kB
  have hr0 := hr.k hcB
  have hc1 := hc1 _ hr0
  go_enter Try.func22, Try.ntmps22
  go_upto_region 1 with (fail)
  have hsz : ((w.alloc (.cells #[.pointer (some ⟨b, 0, none⟩)] 73)).alloc (.cells #[.int .i64 0, .int .i64 0, .int .i64 0, .int .i64 0, .int .i64 0, .int .i64 0, .int .i64 0, .int .i64 0, .int .i64 0, .int .i64 0, .int .i64 0, .int .i64 0, .int .i64 0, .int .i64 0, .slice none 0 0] 35)).heap.size = w.heap.size + 1 + 1 := by simp
  generalize (w.alloc (.cells #[.pointer (some ⟨b, 0, none⟩)] 73)).alloc (.cells #[.int .i64 0, .int .i64 0, .int .i64 0, .int .i64 0, .int .i64 0, .int .i64 0, .int .i64 0, .int .i64 0, .int .i64 0, .int .i64 0, .int .i64 0, .int .i64 0, .int .i64 0, .int .i64 0, .slice none 0 0] 35) = w0 at *
  have a0 := kA.cell 0
  simp at a0
  go_upto_region 9 with (first
    | (go_at_call 38; refine hc1.mono ?_; rintro e w1 ⟨rfl, hr1, hm1⟩; have kA1 := kA.chg hm1 (by simp; omega); have kB1 := kB.chg hm1 (by simp; omega); have a1 := kA1.cell 0; simp at a1))
  have hcC := (Chg.refl [] w1).alloc (.cells #[.int .i64 4, .int .i64 0, .int .i64 0, .int .i64 0, .int .i64 0, .int .i64 0, .int .i64 0, .int .i64 0, .int .i64 0, .int .i64 0, .int .i64 0, .int .i64 0, .int .i64 0, .int .i64 0, .slice none 0 0] 35)
  have kC := Blk.new w1 #[.int .i64 4, .int .i64 0, .int .i64 0, .int .i64 0, .int .i64 0, .int .i64 0, .int .i64 0, .int .i64 0, .int .i64 0, .int .i64 0, .int .i64 0, .int .i64 0, .int .i64 0, .int .i64 0, .slice none 0 0] 35
  have hT : w.heap.size + 1 < w1.heap.size := kB1.lt
  have hO : Ost w base b w.heap.size (w.heap.size + 1) w1.heap.size #[.int .i64 4, .int .i64 0, .int .i64 0, .int .i64 0, .int .i64 0, .int .i64 0, .int .i64 0, .int .i64 0, .int .i64 0, .int .i64 0, .int .i64 0, .int .i64 0, .int .i64 0, .int .i64 0, .slice none 0 0] (w1.alloc (.cells #[.int .i64 4, .int .i64 0, .int .i64 0, .int .i64 0, .int .i64 0, .int .i64 0, .int .i64 0, .int .i64 0, .int .i64 0, .int .i64 0, .int .i64 0, .int .i64 0, .int .i64 0, .int .i64 0, .slice none 0 0] 35)) y := ⟨kC, hr1.k hcC, kA1.k hcC, ⟨_, rfl, kB1.k hcC⟩, ((hcB.mono (S' := [b]) (by simp)).trans hm1 (fun x hx _ => hx)).k' hcC, by omega⟩
  clear a0 a1 kA kB kA1 kB1 kC hr0 hr1 hcA hcB hcC hr hc1 hm1 hsz hlt hbase
  generalize w1.alloc (.cells #[.int .i64 4, .int .i64 0, .int .i64 0, .int .i64 0, .int .i64 0, .int .i64 0, .int .i64 0, .int .i64 0, .int .i64 0, .int .i64 0, .int .i64 0, .int .i64 0, .int .i64 0, .int .i64 0, .slice none 0 0] 35) = w2 at *
  generalize w1.heap.size = tb at *
  generalize hrb : w.heap.size + 1 = rb at *
  generalize hxb : w.heap.size = xb at *
  clear hrb hT
  have HX := hd hxb
  clear hxb
  have a2 := hO.x.cell 0
  simp at a2
  go_upto_region 19 with (first
    | (go_at_call 38; refine (hc2 _ hO.r).mono ?_; rintro e w3 ⟨rfl, hr3, hm3⟩; have hO3 := hO.step hm3 hr3; have c1 := hO3.t.cell 1; have f1 := hO3.t.free 1; simp at c1))
  have hO4 := hO3.set 1 (.int .i64 z.1) (cs' := #[.int .i64 4, .int .i64 z.1, .int .i64 0, .int .i64 0, .int .i64 0, .int .i64 0, .int .i64 0, .int .i64 0, .int .i64 0, .int .i64 0, .int .i64 0, .int .i64 0, .int .i64 0, .int .i64 0, .slice none 0 0]) (by simp)
  clear hO hO3 hm3 hr3 c1 f1 a2
  generalize w3.setCell ⟨tb, 1, none⟩ (.int .i64 z.1) = w4 at *
  cases rt
  · have a4 := hO4.x.cell 0
    simp at a4
    go_wp2_with (first
      | (refine wpList_load_row rfl _ _ rfl tb rfl 35 _ (0, 0) _ hO4.t Try.underlying35 rfl (by kernel_rfl) ?_)
      | (go_at_call 8; refine (hcR _).mono ?_; rintro e w5 ⟨rfl, hm5⟩; have hO5 := hO4.k hm5; have a5 := hO5.x.cell 0; simp at a5)
      | (go_at_call 51; refine (FailB_any base b _ _ hO5.r).mono ?_; rintro e w6 ⟨rfl, hr6, hm6⟩; have hO6 := hO5.step hm6 hr6; obtain ⟨zs, hzs, hq6⟩ := hO6.q)
      | (refine wpList_load_row rfl _ _ rfl tb rfl 35 _ (0, 0) _ hO6.t Try.underlying35 rfl (by kernel_rfl) ?_)
      | (refine wpList_store_row rfl _ _ _ rfl rb #[.int .i64 4, .int .i64 z.1, .int .i64 0, .int .i64 0, .int .i64 0, .int .i64 0, .int .i64 0, .int .i64 0, .int .i64 0, .int .i64 0, .int .i64 0, .int .i64 0, .int .i64 0, .int .i64 0, .slice none 0 0] rfl rfl 35 _ hq6 (by kernel_rfl) (by rw [hzs]; rfl) (by simp [Value.oneCell']) ?_))
    have k7 : Blk (w6.setRow rb #[.int .i64 4, .int .i64 z.1, .int .i64 0, .int .i64 0, .int .i64 0, .int .i64 0, .int .i64 0, .int .i64 0, .int .i64 0, .int .i64 0, .int .i64 0, .int .i64 0, .int .i64 0, .int .i64 0, .slice none 0 0]) rb #[.int .i64 4, .int .i64 z.1, .int .i64 0, .int .i64 0, .int .i64 0, .int .i64 0, .int .i64 0, .int .i64 0, .int .i64 0, .int .i64 0, .int .i64 0, .int .i64 0, .int .i64 0, .int .i64 0, .slice none 0 0] 35 := hq6.row
    have hs7 := Chg.row (Chg.refl [rb] w6) rb #[.int .i64 4, .int .i64 z.1, .int .i64 0, .int .i64 0, .int .i64 0, .int .i64 0, .int .i64 0, .int .i64 0, .int .i64 0, .int .i64 0, .int .i64 0, .int .i64 0, .int .i64 0, .int .i64 0, .slice none 0 0] (by simp)
    have hlo := hO6.lo
    refine bodyPost_ret (results_cell_row rfl _ _ rb 35 _ (0, 0) _ rfl k7 Try.underlying35 rfl (by kernel_rfl)) rfl ⟨_, rfl, Rd.ofOwn (e := 30) (base := 0) (World.ownsRow_nil _ _ _ _), by simp [Value.ownBlock], ?_, ?_⟩
    · exact hO6.r.keep hs7 (by simp; omega)
    · exact hO6.c.trans hs7 (fun x hx hl => by simp at hx; omega)
  · go_wp2_with (first
      | (refine wpList_load_row rfl _ _ rfl tb rfl 35 _ (0, 0) _ hO4.t Try.underlying35 rfl (by kernel_rfl) ?_)
      | (go_at_call 8; refine (hcR _).mono ?_; rintro e w6 ⟨rfl, hm5⟩; have hO6 := hO4.k hm5; obtain ⟨zs, hzs, hq6⟩ := hO6.q)
      | (refine wpList_load_row rfl _ _ rfl tb rfl 35 _ (0, 0) _ hO6.t Try.underlying35 rfl (by kernel_rfl) ?_)
      | (refine wpList_store_row rfl _ _ _ rfl rb #[.int .i64 4, .int .i64 z.1, .int .i64 0, .int .i64 0, .int .i64 0, .int .i64 0, .int .i64 0, .int .i64 0, .int .i64 0, .int .i64 0, .int .i64 0, .int .i64 0, .int .i64 0, .int .i64 0, .slice none 0 0] rfl rfl 35 _ hq6 (by kernel_rfl) (by rw [hzs]; rfl) (by simp [Value.oneCell']) ?_))
    have k7 : Blk (w6.setRow rb #[.int .i64 4, .int .i64 z.1, .int .i64 0, .int .i64 0, .int .i64 0, .int .i64 0, .int .i64 0, .int .i64 0, .int .i64 0, .int .i64 0, .int .i64 0, .int .i64 0, .int .i64 0, .int .i64 0, .slice none 0 0]) rb #[.int .i64 4, .int .i64 z.1, .int .i64 0, .int .i64 0, .int .i64 0, .int .i64 0, .int .i64 0, .int .i64 0, .int .i64 0, .int .i64 0, .int .i64 0, .int .i64 0, .int .i64 0, .int .i64 0, .slice none 0 0] 35 := hq6.row
    have hs7 := Chg.row (Chg.refl [rb] w6) rb #[.int .i64 4, .int .i64 z.1, .int .i64 0, .int .i64 0, .int .i64 0, .int .i64 0, .int .i64 0, .int .i64 0, .int .i64 0, .int .i64 0, .int .i64 0, .int .i64 0, .int .i64 0, .int .i64 0, .slice none 0 0] (by simp)
    have hlo := hO6.lo
    refine bodyPost_ret (results_cell_row rfl _ _ rb 35 _ (0, 0) _ rfl k7 Try.underlying35 rfl (by kernel_rfl)) rfl ⟨_, rfl, Rd.ofOwn (e := 30) (base := 0) (World.ownsRow_nil _ _ _ _), by simp [Value.ownBlock], ?_, ?_⟩
    · exact hO6.r.keep hs7 (by simp; omega)
    · exact hO6.c.trans hs7 (fun x hx hl => by simp at hx; omega)
end Go.Proofs.Ytlicefbgcoddbaa

/- codec.reader.order: kind 6. -/
namespace Go.Proofs.Ytlicefbgcoddbaa
open Go.RowKit

set_option maxRecDepth 100000 in
set_option maxHeartbeats 8000000 in
theorem ROrderK6_any (base b : Nat) (s : St) (w : World) (hr : RdB base w b s) (hbase : base ≤ w.heap.size) (hk : (numR 1 s).1 = 6) :
    Calls Try.prog 22 #[.agg #[.pointer (some ⟨b, 0, none⟩)]] w fun e w' => ∃ pv, e = .returned (vO (orderR s).1 pv) ∧ VsS w' pv (orderR s).1.shape.p ∧ (∀ k, pv.ownBlock = some k → w.heap.size ≤ k) ∧ RdB base w' b (orderR s).2 ∧ Chg [b] w w' := by
  have hio := orderR0_IO s
  have e0 : orderR0 s = (⟨6, 0, 0, 0, (0, 0), (plR (numR 1 s).2).1, 0, 0, 0, 0, noS⟩, (plR (numR 1 s).2).2) := by
    unfold orderR0; rw [hk]; rfl
  unfold orderR
  rw [e0] at hio ⊢
  have hc1 := fun W (h : RdB base W b s) => NumB_any 1 base b s W h (by omega)
  have hc2 := fun W (h : RdB base W b (numR 1 s).2) (hb : base ≤ W.heap.size) => VB_any base b (numR 1 s).2 W h hb
  rw [hk] at hc1
  clear hk e0
  generalize plR (numR 1 s).2 = z at *
  obtain ⟨⟨vx, vy⟩, z⟩ := z
  unfold vV at hc2
  simp only at hc2 hio
  generalize (numR 1 s).2 = y at *
  have hcR := fun W => ORight_any W ⟨6, 0, 0, 0, (0, 0), (vx, vy), 0, 0, 0, 0, noS⟩ (.slice none 0 0) (Rd.ofOwn (e := 30) (base := 0) (World.ownsRow_nil _ _ _ _)) hio
  generalize rightO ⟨6, 0, 0, 0, (0, 0), (vx, vy), 0, 0, 0, 0, noS⟩ = rt at *
  unfold vO noS at hcR ⊢
  simp only at hcR ⊢
  have hlt := hr.lt
  have hcA := (Chg.refl [] w).alloc (.cells #[.pointer (some ⟨b, 0, none⟩)] 73)
  have hcB := hcA.alloc (.cells #[.int .i64 0, .int .i64 0, .int .i64 0, .int .i64 0, .int .i64 0, .int .i64 0, .int .i64 0, .int .i64 0, .int .i64 0, .int .i64 0, .int .i64 0, .int .i64 0, .int .i64 0, .int .i64 0, .slice none 0 0] 35)
  have kA := (Blk.new w #[.pointer (some ⟨b, 0, none⟩)] 73).alloc (.cells #[.int .i64 0, .int .i64 0, .int .i64 0, .int .i64 0, .int .i64 0, .int .i64 0, .int .i64 0, .int .i64 0, .int .i64 0, .int .i64 0, .int .i64 0, .int .i64 0, .int .i64 0, .int .i64 0, .slice none 0 0] 35)
  have kB := Blk.new (w.alloc (.cells #[.pointer (some ⟨b, 0, none⟩)] 73)) #[.int .i64 0, .int .i64 0, .int .i64 0, .int .i64 0, .int .i64 0, .int .i64 0, .int .i64 0, .int .i64 0, .int .i64 0, .int .i64 0, .int .i64 0, .int .i64 0, .int .i64 0, .int .i64 0, .slice none 0 0] 35
  rw [World.size_alloc] at kB
  have hr0 := hr.k hcB
  have hc1 := hc1 _ hr0
  go_enter Try.func22, Try.ntmps22
  go_upto_region 1 with (fail)
  have hsz : ((w.alloc (.cells #[.pointer (some ⟨b, 0, none⟩)] 73)).alloc (.cells #[.int .i64 0, .int .i64 0, .int .i64 0, .int .i64 0, .int .i64 0, .int .i64 0, .int .i64 0, .int .i64 0, .int .i64 0, .int .i64 0, .int .i64 0, .int .i64 0, .int .i64 0, .int .i64 0, .slice none 0 0] 35)).heap.size = w.heap.size + 1 + 1 := by simp
  generalize (w.alloc (.cells #[.pointer (some ⟨b, 0, none⟩)] 73)).alloc (.cells #[.int .i64 0, .int .i64 0, .int .i64 0, .int .i64 0, .int .i64 0, .int .i64 0, .int .i64 0, .int .i64 0, .int .i64 0, .int .i64 0, .int .i64 0, .int .i64 0, .int .i64 0, .int .i64 0, .slice none 0 0] 35) = w0 at *
  have a0 := kA.cell 0
  simp at a0
  go_upto_region 18 with (first
    | (go_at_call 38; refine hc1.mono ?_; rintro e w1 ⟨rfl, hr1, hm1⟩; have kA1 := kA.chg hm1 (by simp; omega); have kB1 := kB.chg hm1 (by simp; omega); have a1 := kA1.cell 0; simp at a1))
  have hcC := (Chg.refl [] w1).alloc (.cells #[.int .i64 6, .int .i64 0, .int .i64 0, .int .i64 0, .int .i64 0, .int .i64 0, .int .i64 0, .int .i64 0, .int .i64 0, .int .i64 0, .int .i64 0, .int .i64 0, .int .i64 0, .int .i64 0, .slice none 0 0] 35)
  have kC := Blk.new w1 #[.int .i64 6, .int .i64 0, .int .i64 0, .int .i64 0, .int .i64 0, .int .i64 0, .int .i64 0, .int .i64 0, .int .i64 0, .int .i64 0, .int .i64 0, .int .i64 0, .int .i64 0, .int .i64 0, .slice none 0 0] 35
  have hT : w.heap.size + 1 < w1.heap.size := kB1.lt
  have hO : Ost w base b w.heap.size (w.heap.size + 1) w1.heap.size #[.int .i64 6, .int .i64 0, .int .i64 0, .int .i64 0, .int .i64 0, .int .i64 0, .int .i64 0, .int .i64 0, .int .i64 0, .int .i64 0, .int .i64 0, .int .i64 0, .int .i64 0, .int .i64 0, .slice none 0 0] (w1.alloc (.cells #[.int .i64 6, .int .i64 0, .int .i64 0, .int .i64 0, .int .i64 0, .int .i64 0, .int .i64 0, .int .i64 0, .int .i64 0, .int .i64 0, .int .i64 0, .int .i64 0, .int .i64 0, .int .i64 0, .slice none 0 0] 35)) y := ⟨kC, hr1.k hcC, kA1.k hcC, ⟨_, rfl, kB1.k hcC⟩, ((hcB.mono (S' := [b]) (by simp)).trans hm1 (fun x hx _ => hx)).k' hcC, by omega⟩
  clear a0 a1 kA kB kA1 kB1 kC hr0 hr1 hcA hcB hcC hr hc1 hm1 hsz hlt hbase
  generalize w1.alloc (.cells #[.int .i64 6, .int .i64 0, .int .i64 0, .int .i64 0, .int .i64 0, .int .i64 0, .int .i64 0, .int .i64 0, .int .i64 0, .int .i64 0, .int .i64 0, .int .i64 0, .int .i64 0, .int .i64 0, .slice none 0 0] 35) = w2 at *
  generalize w1.heap.size = tb at *
  generalize hrb : w.heap.size + 1 = rb at *
  generalize hxb : w.heap.size = xb at *
  clear hrb hT
  have HX := hd hxb
  clear hxb
  have a2 := hO.x.cell 0
  simp at a2
  go_upto_region 19 with (first
    | (go_at_call 39; refine (hc2 _ hO.r (by have := hO.lo; have := hO.x.lt; omega)).mono ?_; rintro e w3 ⟨rfl, hr3, hm3⟩; have hO3 := hO.step hm3 hr3; have c1 := hO3.t.cell 6; have f1 := hO3.t.free 6; have c2 := hO3.t.cell 7; have f2 := hO3.t.free 7; simp at c1 c2))
  have hO4 := (hO3.set 6 (.int .i64 vx) (cs' := #[.int .i64 6, .int .i64 0, .int .i64 0, .int .i64 0, .int .i64 0, .int .i64 0, .int .i64 vx, .int .i64 0, .int .i64 0, .int .i64 0, .int .i64 0, .int .i64 0, .int .i64 0, .int .i64 0, .slice none 0 0]) (by simp)).set 7 (.int .i64 vy) (cs' := #[.int .i64 6, .int .i64 0, .int .i64 0, .int .i64 0, .int .i64 0, .int .i64 0, .int .i64 vx, .int .i64 vy, .int .i64 0, .int .i64 0, .int .i64 0, .int .i64 0, .int .i64 0, .int .i64 0, .slice none 0 0]) (by simp)
  clear hO hO3 hm3 hr3 c1 f1 c2 f2 a2
  generalize (w3.setCell ⟨tb, 6, none⟩ (.int .i64 vx)).setCell ⟨tb, 7, none⟩ (.int .i64 vy) = w4 at *
  cases rt
  · have a4 := hO4.x.cell 0
    simp at a4
    go_wp2_with (first
      | (refine wpList_load_row rfl _ _ rfl tb rfl 35 _ (0, 0) _ hO4.t Try.underlying35 rfl (by kernel_rfl) ?_)
      | (go_at_call 8; refine (hcR _).mono ?_; rintro e w5 ⟨rfl, hm5⟩; have hO5 := hO4.k hm5; have a5 := hO5.x.cell 0; simp at a5)
      | (go_at_call 51; refine (FailB_any base b _ _ hO5.r).mono ?_; rintro e w6 ⟨rfl, hr6, hm6⟩; have hO6 := hO5.step hm6 hr6; obtain ⟨zs, hzs, hq6⟩ := hO6.q)
      | (refine wpList_load_row rfl _ _ rfl tb rfl 35 _ (0, 0) _ hO6.t Try.underlying35 rfl (by kernel_rfl) ?_)
      | (refine wpList_store_row rfl _ _ _ rfl rb #[.int .i64 6, .int .i64 0, .int .i64 0, .int .i64 0, .int .i64 0, .int .i64 0, .int .i64 vx, .int .i64 vy, .int .i64 0, .int .i64 0, .int .i64 0, .int .i64 0, .int .i64 0, .int .i64 0, .slice none 0 0] rfl rfl 35 _ hq6 (by kernel_rfl) (by rw [hzs]; rfl) (by simp [Value.oneCell']) ?_))
    have k7 : Blk (w6.setRow rb #[.int .i64 6, .int .i64 0, .int .i64 0, .int .i64 0, .int .i64 0, .int .i64 0, .int .i64 vx, .int .i64 vy, .int .i64 0, .int .i64 0, .int .i64 0, .int .i64 0, .int .i64 0, .int .i64 0, .slice none 0 0]) rb #[.int .i64 6, .int .i64 0, .int .i64 0, .int .i64 0, .int .i64 0, .int .i64 0, .int .i64 vx, .int .i64 vy, .int .i64 0, .int .i64 0, .int .i64 0, .int .i64 0, .int .i64 0, .int .i64 0, .slice none 0 0] 35 := hq6.row
    have hs7 := Chg.row (Chg.refl [rb] w6) rb #[.int .i64 6, .int .i64 0, .int .i64 0, .int .i64 0, .int .i64 0, .int .i64 0, .int .i64 vx, .int .i64 vy, .int .i64 0, .int .i64 0, .int .i64 0, .int .i64 0, .int .i64 0, .int .i64 0, .slice none 0 0] (by simp)
    have hlo := hO6.lo
    refine bodyPost_ret (results_cell_row rfl _ _ rb 35 _ (0, 0) _ rfl k7 Try.underlying35 rfl (by kernel_rfl)) rfl ⟨_, rfl, Rd.ofOwn (e := 30) (base := 0) (World.ownsRow_nil _ _ _ _), by simp [Value.ownBlock], ?_, ?_⟩
    · exact hO6.r.keep hs7 (by simp; omega)
    · exact hO6.c.trans hs7 (fun x hx hl => by simp at hx; omega)
  · go_wp2_with (first
      | (refine wpList_load_row rfl _ _ rfl tb rfl 35 _ (0, 0) _ hO4.t Try.underlying35 rfl (by kernel_rfl) ?_)
      | (go_at_call 8; refine (hcR _).mono ?_; rintro e w6 ⟨rfl, hm5⟩; have hO6 := hO4.k hm5; obtain ⟨zs, hzs, hq6⟩ := hO6.q)
      | (refine wpList_load_row rfl _ _ rfl tb rfl 35 _ (0, 0) _ hO6.t Try.underlying35 rfl (by kernel_rfl) ?_)
      | (refine wpList_store_row rfl _ _ _ rfl rb #[.int .i64 6, .int .i64 0, .int .i64 0, .int .i64 0, .int .i64 0, .int .i64 0, .int .i64 vx, .int .i64 vy, .int .i64 0, .int .i64 0, .int .i64 0, .int .i64 0, .int .i64 0, .int .i64 0, .slice none 0 0] rfl rfl 35 _ hq6 (by kernel_rfl) (by rw [hzs]; rfl) (by simp [Value.oneCell']) ?_))
    have k7 : Blk (w6.setRow rb #[.int .i64 6, .int .i64 0, .int .i64 0, .int .i64 0, .int .i64 0, .int .i64 0, .int .i64 vx, .int .i64 vy, .int .i64 0, .int .i64 0, .int .i64 0, .int .i64 0, .int .i64 0, .int .i64 0, .slice none 0 0]) rb #[.int .i64 6, .int .i64 0, .int .i64 0, .int .i64 0, .int .i64 0, .int .i64 0, .int .i64 vx, .int .i64 vy, .int .i64 0, .int .i64 0, .int .i64 0, .int .i64 0, .int .i64 0, .int .i64 0, .slice none 0 0] 35 := hq6.row
    have hs7 := Chg.row (Chg.refl [rb] w6) rb #[.int .i64 6, .int .i64 0, .int .i64 0, .int .i64 0, .int .i64 0, .int .i64 0, .int .i64 vx, .int .i64 vy, .int .i64 0, .int .i64 0, .int .i64 0, .int .i64 0, .int .i64 0, .int .i64 0, .slice none 0 0] (by simp)
    have hlo := hO6.lo
    refine bodyPost_ret (results_cell_row rfl _ _ rb 35 _ (0, 0) _ rfl k7 Try.underlying35 rfl (by kernel_rfl)) rfl ⟨_, rfl, Rd.ofOwn (e := 30) (base := 0) (World.ownsRow_nil _ _ _ _), by simp [Value.ownBlock], ?_, ?_⟩
    · exact hO6.r.keep hs7 (by simp; omega)
    · exact hO6.c.trans hs7 (fun x hx hl => by simp at hx; omega)
end Go.Proofs.Ytlicefbgcoddbaa

/- codec.reader.order. -/
namespace Go.Proofs.Ytlicefbgcoddbaa
open Go.RowKit

theorem ROrder_any (base b : Nat) (s : St) (w : World) (hr : RdB base w b s) (hbase : base ≤ w.heap.size) :
    Calls Try.prog 22 #[.agg #[.pointer (some ⟨b, 0, none⟩)]] w fun e w' => ∃ pv, e = .returned (vO (orderR s).1 pv) ∧ VsS w' pv (orderR s).1.shape.p ∧ (∀ k, pv.ownBlock = some k → w.heap.size ≤ k) ∧ RdB base w' b (orderR s).2 ∧ Chg [b] w w' := by
  by_cases h1 : (numR 1 s).1 = 1
  · exact ROrderK1_any base b s w hr hbase h1
  by_cases h2 : (numR 1 s).1 = 2
  · exact ROrderK2_any base b s w hr hbase h2
  by_cases h3 : (numR 1 s).1 = 3
  · exact ROrderK3_any base b s w hr hbase h3
  by_cases h4 : (numR 1 s).1 = 4
  · exact ROrderK4_any base b s w hr hbase h4
  by_cases h5 : (numR 1 s).1 = 5
  · exact ROrderK5_any base b s w hr hbase h5
  by_cases h6 : (numR 1 s).1 = 6
  · exact ROrderK6_any base b s w hr hbase h6
  exact ROrderK0_any base b s w hr hbase h1 h2 h3 h4 h5 h6
end Go.Proofs.Ytlicefbgcoddbaa

/- codec.writer.order, kind None. -/
namespace Go.Proofs.Ytlicefbgcoddbaa
open Go.RowKit

set_option maxRecDepth 100000 in
set_option maxHeartbeats 8000000 in
theorem WOrderK0_any (base b : Nat) (l : List UInt8) (o : Ord) (pv : Value) (w : World) (hw : WrT 87 w base b l) (hb : base ≤ b) (hz : ∀ w', Fr base b w w' → VsS w' pv o.shape.p) (h1 : o.kind ≠ 1) (h2 : o.kind ≠ 2) (h3 : o.kind ≠ 3) (h4 : o.kind ≠ 4) (h5 : o.kind ≠ 5) (h6 : o.kind ≠ 6) (hl : l.length + 16 * o.shape.p.length + 200 ≤ 140737488355000) :
    Calls Try.prog 33 #[.pointer (some ⟨b, 0, none⟩), vO o pv] w fun e w' =>
      e = .returned (.tuple #[]) ∧ WrT 87 w' base b (l ++ leO o) ∧ Fr base b w w' := by
  obtain ⟨L, hL⟩ : ∃ L, L = leO o := ⟨_, rfl⟩
  rw [← hL]
  unfold leO at hL
  obtain ⟨k, i, a, b1, ⟨px, py⟩, ⟨vx, vy⟩, an, sp, de, ln, ⟨sk, sr, p⟩⟩ := o
  simp only at hz hl hL
  simp only at h1 h2 h3 h4 h5 h6
  have hLE : L = leB 1 k := by rw [hL]; simp [h1, h2, h3, h4, h5, h6]
  replace hL := hLE
  clear hLE
  have g1 : (k == 1) = false := by rw [beq_eq_false_iff_ne]; exact h1
  have g2 : (k == 2) = false := by rw [beq_eq_false_iff_ne]; exact h2
  have g3 : (k == 3) = false := by rw [beq_eq_false_iff_ne]; exact h3
  have g4 : (k == 4) = false := by rw [beq_eq_false_iff_ne]; exact h4
  have g5 : (k == 5) = false := by rw [beq_eq_false_iff_ne]; exact h5
  have g6 : (k == 6) = false := by rw [beq_eq_false_iff_ne]; exact h6
  clear h1 h2 h3 h4 h5 h6
  have HLL := hd hL
  clear hL
  have hblt := hw.lt
  obtain ⟨ao, c, rfl, -⟩ := (hz w (Fr.refl _ _ _)).form
  have hcb := (Chg.refl [] w).alloc (.cells #[.int .i64 k, .int .i64 i, .int .i64 a, .int .i64 b1, .int .i64 px, .int .i64 py, .int .i64 vx, .int .i64 vy, .int .i64 an, .int .i64 sp, .int .i64 de, .int .i64 ln, .int .i64 sk, .int .i64 sr, .slice ao p.length c] 35)
  have hkb := Blk.new w #[.int .i64 k, .int .i64 i, .int .i64 a, .int .i64 b1, .int .i64 px, .int .i64 py, .int .i64 vx, .int .i64 vy, .int .i64 an, .int .i64 sp, .int .i64 de, .int .i64 ln, .int .i64 sk, .int .i64 sr, .slice ao p.length c] 35
  have hf0 : Fr base b w (w.alloc (.cells #[.int .i64 k, .int .i64 i, .int .i64 a, .int .i64 b1, .int .i64 px, .int .i64 py, .int .i64 vx, .int .i64 vy, .int .i64 an, .int .i64 sp, .int .i64 de, .int .i64 ln, .int .i64 sk, .int .i64 sr, .slice ao p.length c] 35)) := Fr.chg hcb (by omega)
  have hw0 := hw.k hcb
  have hz0 : ∀ w', Fr base b (w.alloc (.cells #[.int .i64 k, .int .i64 i, .int .i64 a, .int .i64 b1, .int .i64 px, .int .i64 py, .int .i64 vx, .int .i64 vy, .int .i64 an, .int .i64 sp, .int .i64 de, .int .i64 ln, .int .i64 sk, .int .i64 sr, .slice ao p.length c] 35)) w' → VsS w' (.slice ao p.length c) p := fun w' h => hz w' (hf0.trans h)
  have hsz : (w.alloc (.cells #[.int .i64 k, .int .i64 i, .int .i64 a, .int .i64 b1, .int .i64 px, .int .i64 py, .int .i64 vx, .int .i64 vy, .int .i64 an, .int .i64 sp, .int .i64 de, .int .i64 ln, .int .i64 sk, .int .i64 sr, .slice ao p.length c] 35)).heap.size = w.heap.size + 1 := by simp
  unfold vO
  simp only
  clear hw hz hcb
  go_enter Try.func33, Try.ntmps33
  go_upto_region 1 with (fail)
  generalize w.alloc (.cells #[.int .i64 k, .int .i64 i, .int .i64 a, .int .i64 b1, .int .i64 px, .int .i64 py, .int .i64 vx, .int .i64 vy, .int .i64 an, .int .i64 sp, .int .i64 de, .int .i64 ln, .int .i64 sk, .int .i64 sr, .slice ao p.length c] 35) = w0 at *
  have hbn : b ≠ w.heap.size := by omega
  generalize w.heap.size = bk at *
  have HQ : Hd (∀ wx, Fr base b w0 wx → wx.cell? ⟨bk, 0, none⟩ = some (.int .i64 k) ∧ wx.cell? ⟨bk, 1, none⟩ = some (.int .i64 i) ∧ wx.cell? ⟨bk, 2, none⟩ = some (.int .i64 a) ∧ wx.cell? ⟨bk, 3, none⟩ = some (.int .i64 b1) ∧ wx.cell? ⟨bk, 4, none⟩ = some (.int .i64 px) ∧ wx.cell? ⟨bk, 5, none⟩ = some (.int .i64 py) ∧ wx.cell? ⟨bk, 6, none⟩ = some (.int .i64 vx) ∧ wx.cell? ⟨bk, 7, none⟩ = some (.int .i64 vy) ∧ wx.cell? ⟨bk, 8, none⟩ = some (.int .i64 an) ∧ wx.cell? ⟨bk, 9, none⟩ = some (.int .i64 sp) ∧ wx.cell? ⟨bk, 10, none⟩ = some (.int .i64 de) ∧ wx.cell? ⟨bk, 11, none⟩ = some (.int .i64 ln) ∧ wx.cell? ⟨bk, 12, none⟩ = some (.int .i64 sk) ∧ wx.cell? ⟨bk, 13, none⟩ = some (.int .i64 sr) ∧ wx.cell? ⟨bk, 14, none⟩ = some (.slice ao p.length c)) := hd fun wx hx => by
    have := hx.kp _ _ _ hkb (by decide) (fun e => hbn e.symm)
    exact ⟨this.cell 0, this.cell 1, this.cell 2, this.cell 3, this.cell 4, this.cell 5, this.cell 6, this.cell 7, this.cell 8, this.cell 9, this.cell 10, this.cell 11, this.cell 12, this.cell 13, this.cell 14⟩
  have HF0 := hd hf0
  have HZ0 := hd hz0
  have HL := hd hl
  have HB : Hd (base ≤ w0.heap.size) := hd (by omega)
  have hW := hw0.k (Chg.refl [] w0).drew
  clear hw0 hf0 hz0 hkb hbn hsz hl hblt
  refine anyH_start (n := 6) (L := #[false, false, false, false, false, false]) (by kernel_rfl) (by kernel_rfl) (S := (fun wx => Fr base b w0 wx)) (Fr.chg (Chg.refl _ _).drew HB.out) (fun hHeld => ?_)
  generalize w0.drew = w2 at *
  refine anyH_take (i := 0) (d := 4) (L' := #[true, false, false, false, false, false]) (v := ?v2) rfl rfl (by kernel_rfl) (fun _ _ _ h => h) (by rfl) ?hy2 (by assumption) ?rest2
  case hy2 => (intro wx hSw; (try dsimp only at hSw); (obtain ⟨q0, q1, q2, q3, q4, q5, q6, q7, q8, q9, q10, q11, q12, q13, q14⟩ := HQ.out _ hSw); go_simp; (try with_reducible rfl))
  simp only [Act.put, List.setIfInBounds_toArray, List.set_cons_zero, List.set_cons_succ]
  refine anyH_take (i := 1) (d := 5) (L' := #[true, true, false, false, false, false]) (v := ?v3) rfl rfl (by kernel_rfl) (fun _ _ _ h => h) (by rfl) ?hy3 (by assumption) ?rest3
  case hy3 => (intro wx hSw; (try dsimp only at hSw); (obtain ⟨q0, q1, q2, q3, q4, q5, q6, q7, q8, q9, q10, q11, q12, q13, q14⟩ := HQ.out _ hSw); go_simp; (try with_reducible rfl))
  simp only [Act.put, List.setIfInBounds_toArray, List.set_cons_zero, List.set_cons_succ]
  refine anyH_take (i := 2) (d := 6) (L' := #[true, true, true, false, false, false]) (v := ?v4) rfl rfl (by kernel_rfl) (fun _ _ _ h => h) (by rfl) ?hy4 (by assumption) ?rest4
  case hy4 => (intro wx hSw; (try dsimp only at hSw); (obtain ⟨q0, q1, q2, q3, q4, q5, q6, q7, q8, q9, q10, q11, q12, q13, q14⟩ := HQ.out _ hSw); go_simp; (try with_reducible rfl))
  simp only [Act.put, List.setIfInBounds_toArray, List.set_cons_zero, List.set_cons_succ]
  refine anyH_take (i := 3) (d := 7) (L' := #[true, true, true, true, false, false]) (v := ?v5) rfl rfl (by kernel_rfl) (fun _ _ _ h => h) (by rfl) ?hy5 (by assumption) ?rest5
  case hy5 => (intro wx hSw; (try dsimp only at hSw); (obtain ⟨q0, q1, q2, q3, q4, q5, q6, q7, q8, q9, q10, q11, q12, q13, q14⟩ := HQ.out _ hSw); go_simp; (try with_reducible rfl))
  simp only [Act.put, List.setIfInBounds_toArray, List.set_cons_zero, List.set_cons_succ]
  refine anyH_take (i := 4) (d := 8) (L' := #[true, true, true, true, true, false]) (v := ?v6) rfl rfl (by kernel_rfl) (fun _ _ _ h => h) (by rfl) ?hy6 (by assumption) ?rest6
  case hy6 => (intro wx hSw; (try dsimp only at hSw); (obtain ⟨q0, q1, q2, q3, q4, q5, q6, q7, q8, q9, q10, q11, q12, q13, q14⟩ := HQ.out _ hSw); go_simp; (try with_reducible rfl))
  simp only [Act.put, List.setIfInBounds_toArray, List.set_cons_zero, List.set_cons_succ]
  refine anyH_run (i := 5) (L' := #[true, true, true, true, true, true]) rfl (by kernel_rfl) (by rfl) (fun KK hKK => ?_)
  go_simp
  (refine (WTNum_any _ (by decide) 1 k base b _ _ hW hb (by omega) (by omega) (by have := HL.out; simp; omega)).mono ?_; rintro e w5 ⟨rfl, hW5, hf⟩; have hm := Fr.trans hHeld hf; (try replace hV := fun w' h => hV w' (hf.trans h)); (try replace hF := fun w' h => hF w' (hf.trans h)); replace hW := hW5; clear hf hW5; (try go_simp))
  refine hKK.out _ _ (by assumption) (fun hHeld => ?_)
  clear hKK KK
  try simp only [Act.put, List.setIfInBounds_toArray, List.set_cons_zero, List.set_cons_succ]
  refine wpAnyH_done (by kernel_rfl) ?_ _
  skip
  have HR1 := hd hm
  have HW1 := hd hW
  have HB1 : Hd (base ≤ w5.heap.size) := hd (by have := hW.lt; omega)
  clear hHeld hm hW
  obtain ⟨q0, q1, q2, q3, q4, q5, q6, q7, q8, q9, q10, q11, q12, q13, q14⟩ := HQ.out w5 HR1.out
  generalize w5 = w1 at *
  go_wp2_with (fail)
  go_end0
  exact ⟨rfl, by have := HW1.out; rw [HLL.out]; simpa using this, HF0.out.trans HR1.out⟩
end Go.Proofs.Ytlicefbgcoddbaa

/- codec.writer.order, kind 2. -/
namespace Go.Proofs.Ytlicefbgcoddbaa
open Go.RowKit

set_option maxRecDepth 100000 in
set_option maxHeartbeats 8000000 in
theorem WOrderK2_any (base b : Nat) (l : List UInt8) (o : Ord) (pv : Value) (w : World) (hw : WrT 87 w base b l) (hb : base ≤ b) (hz : ∀ w', Fr base b w w' → VsS w' pv o.shape.p) (hk : o.kind = 2) (hl : l.length + 16 * o.shape.p.length + 200 ≤ 140737488355000) :
    Calls Try.prog 33 #[.pointer (some ⟨b, 0, none⟩), vO o pv] w fun e w' =>
      e = .returned (.tuple #[]) ∧ WrT 87 w' base b (l ++ leO o) ∧ Fr base b w w' := by
  obtain ⟨L, hL⟩ : ∃ L, L = leO o := ⟨_, rfl⟩
  rw [← hL]
  unfold leO at hL
  obtain ⟨k, i, a, b1, ⟨px, py⟩, ⟨vx, vy⟩, an, sp, de, ln, ⟨sk, sr, p⟩⟩ := o
  simp only at hz hl hL
  simp only at hk
  subst hk
  have HLL := hd hL
  clear hL
  have hblt := hw.lt
  obtain ⟨ao, c, rfl, -⟩ := (hz w (Fr.refl _ _ _)).form
  have hcb := (Chg.refl [] w).alloc (.cells #[.int .i64 2, .int .i64 i, .int .i64 a, .int .i64 b1, .int .i64 px, .int .i64 py, .int .i64 vx, .int .i64 vy, .int .i64 an, .int .i64 sp, .int .i64 de, .int .i64 ln, .int .i64 sk, .int .i64 sr, .slice ao p.length c] 35)
  have hkb := Blk.new w #[.int .i64 2, .int .i64 i, .int .i64 a, .int .i64 b1, .int .i64 px, .int .i64 py, .int .i64 vx, .int .i64 vy, .int .i64 an, .int .i64 sp, .int .i64 de, .int .i64 ln, .int .i64 sk, .int .i64 sr, .slice ao p.length c] 35
  have hf0 : Fr base b w (w.alloc (.cells #[.int .i64 2, .int .i64 i, .int .i64 a, .int .i64 b1, .int .i64 px, .int .i64 py, .int .i64 vx, .int .i64 vy, .int .i64 an, .int .i64 sp, .int .i64 de, .int .i64 ln, .int .i64 sk, .int .i64 sr, .slice ao p.length c] 35)) := Fr.chg hcb (by omega)
  have hw0 := hw.k hcb
  have hz0 : ∀ w', Fr base b (w.alloc (.cells #[.int .i64 2, .int .i64 i, .int .i64 a, .int .i64 b1, .int .i64 px, .int .i64 py, .int .i64 vx, .int .i64 vy, .int .i64 an, .int .i64 sp, .int .i64 de, .int .i64 ln, .int .i64 sk, .int .i64 sr, .slice ao p.length c] 35)) w' → VsS w' (.slice ao p.length c) p := fun w' h => hz w' (hf0.trans h)
  have hsz : (w.alloc (.cells #[.int .i64 2, .int .i64 i, .int .i64 a, .int .i64 b1, .int .i64 px, .int .i64 py, .int .i64 vx, .int .i64 vy, .int .i64 an, .int .i64 sp, .int .i64 de, .int .i64 ln, .int .i64 sk, .int .i64 sr, .slice ao p.length c] 35)).heap.size = w.heap.size + 1 := by simp
  unfold vO
  simp only
  clear hw hz hcb
  go_enter Try.func33, Try.ntmps33
  go_upto_region 1 with (fail)
  generalize w.alloc (.cells #[.int .i64 2, .int .i64 i, .int .i64 a, .int .i64 b1, .int .i64 px, .int .i64 py, .int .i64 vx, .int .i64 vy, .int .i64 an, .int .i64 sp, .int .i64 de, .int .i64 ln, .int .i64 sk, .int .i64 sr, .slice ao p.length c] 35) = w0 at *
  have hbn : b ≠ w.heap.size := by omega
  generalize w.heap.size = bk at *
  have HQ : Hd (∀ wx, Fr base b w0 wx → wx.cell? ⟨bk, 0, none⟩ = some (.int .i64 2) ∧ wx.cell? ⟨bk, 1, none⟩ = some (.int .i64 i) ∧ wx.cell? ⟨bk, 2, none⟩ = some (.int .i64 a) ∧ wx.cell? ⟨bk, 3, none⟩ = some (.int .i64 b1) ∧ wx.cell? ⟨bk, 4, none⟩ = some (.int .i64 px) ∧ wx.cell? ⟨bk, 5, none⟩ = some (.int .i64 py) ∧ wx.cell? ⟨bk, 6, none⟩ = some (.int .i64 vx) ∧ wx.cell? ⟨bk, 7, none⟩ = some (.int .i64 vy) ∧ wx.cell? ⟨bk, 8, none⟩ = some (.int .i64 an) ∧ wx.cell? ⟨bk, 9, none⟩ = some (.int .i64 sp) ∧ wx.cell? ⟨bk, 10, none⟩ = some (.int .i64 de) ∧ wx.cell? ⟨bk, 11, none⟩ = some (.int .i64 ln) ∧ wx.cell? ⟨bk, 12, none⟩ = some (.int .i64 sk) ∧ wx.cell? ⟨bk, 13, none⟩ = some (.int .i64 sr) ∧ wx.cell? ⟨bk, 14, none⟩ = some (.slice ao p.length c)) := hd fun wx hx => by
    have := hx.kp _ _ _ hkb (by decide) (fun e => hbn e.symm)
    exact ⟨this.cell 0, this.cell 1, this.cell 2, this.cell 3, this.cell 4, this.cell 5, this.cell 6, this.cell 7, this.cell 8, this.cell 9, this.cell 10, this.cell 11, this.cell 12, this.cell 13, this.cell 14⟩
  have HF0 := hd hf0
  have HZ0 := hd hz0
  have HL := hd hl
  have HB : Hd (base ≤ w0.heap.size) := hd (by omega)
  have hW := hw0.k (Chg.refl [] w0).drew
  clear hw0 hf0 hz0 hkb hbn hsz hl hblt
  refine anyH_start (n := 6) (L := #[false, false, false, false, false, false]) (by kernel_rfl) (by kernel_rfl) (S := (fun wx => Fr base b w0 wx)) (Fr.chg (Chg.refl _ _).drew HB.out) (fun hHeld => ?_)
  generalize w0.drew = w2 at *
  refine anyH_take (i := 0) (d := 4) (L' := #[true, false, false, false, false, false]) (v := ?v2) rfl rfl (by kernel_rfl) (fun _ _ _ h => h) (by rfl) ?hy2 (by assumption) ?rest2
  case hy2 => (intro wx hSw; (try dsimp only at hSw); (obtain ⟨q0, q1, q2, q3, q4, q5, q6, q7, q8, q9, q10, q11, q12, q13, q14⟩ := HQ.out _ hSw); go_simp; (try with_reducible rfl))
  simp only [Act.put, List.setIfInBounds_toArray, List.set_cons_zero, List.set_cons_succ]
  refine anyH_take (i := 1) (d := 5) (L' := #[true, true, false, false, false, false]) (v := ?v3) rfl rfl (by kernel_rfl) (fun _ _ _ h => h) (by rfl) ?hy3 (by assumption) ?rest3
  case hy3 => (intro wx hSw; (try dsimp only at hSw); (obtain ⟨q0, q1, q2, q3, q4, q5, q6, q7, q8, q9, q10, q11, q12, q13, q14⟩ := HQ.out _ hSw); go_simp; (try with_reducible rfl))
  simp only [Act.put, List.setIfInBounds_toArray, List.set_cons_zero, List.set_cons_succ]
  refine anyH_take (i := 2) (d := 6) (L' := #[true, true, true, false, false, false]) (v := ?v4) rfl rfl (by kernel_rfl) (fun _ _ _ h => h) (by rfl) ?hy4 (by assumption) ?rest4
  case hy4 => (intro wx hSw; (try dsimp only at hSw); (obtain ⟨q0, q1, q2, q3, q4, q5, q6, q7, q8, q9, q10, q11, q12, q13, q14⟩ := HQ.out _ hSw); go_simp; (try with_reducible rfl))
  simp only [Act.put, List.setIfInBounds_toArray, List.set_cons_zero, List.set_cons_succ]
  refine anyH_take (i := 3) (d := 7) (L' := #[true, true, true, true, false, false]) (v := ?v5) rfl rfl (by kernel_rfl) (fun _ _ _ h => h) (by rfl) ?hy5 (by assumption) ?rest5
  case hy5 => (intro wx hSw; (try dsimp only at hSw); (obtain ⟨q0, q1, q2, q3, q4, q5, q6, q7, q8, q9, q10, q11, q12, q13, q14⟩ := HQ.out _ hSw); go_simp; (try with_reducible rfl))
  simp only [Act.put, List.setIfInBounds_toArray, List.set_cons_zero, List.set_cons_succ]
  refine anyH_take (i := 4) (d := 8) (L' := #[true, true, true, true, true, false]) (v := ?v6) rfl rfl (by kernel_rfl) (fun _ _ _ h => h) (by rfl) ?hy6 (by assumption) ?rest6
  case hy6 => (intro wx hSw; (try dsimp only at hSw); (obtain ⟨q0, q1, q2, q3, q4, q5, q6, q7, q8, q9, q10, q11, q12, q13, q14⟩ := HQ.out _ hSw); go_simp; (try with_reducible rfl))
  simp only [Act.put, List.setIfInBounds_toArray, List.set_cons_zero, List.set_cons_succ]
  refine anyH_run (i := 5) (L' := #[true, true, true, true, true, true]) rfl (by kernel_rfl) (by rfl) (fun KK hKK => ?_)
  go_simp
  (refine (WTNum_any _ (by decide) 1 2 base b _ _ hW hb (by omega) (by omega) (by have := HL.out; simp; omega)).mono ?_; rintro e w5 ⟨rfl, hW5, hf⟩; have hm := Fr.trans hHeld hf; (try replace hV := fun w' h => hV w' (hf.trans h)); (try replace hF := fun w' h => hF w' (hf.trans h)); replace hW := hW5; clear hf hW5; (try go_simp))
  refine hKK.out _ _ (by assumption) (fun hHeld => ?_)
  clear hKK KK
  try simp only [Act.put, List.setIfInBounds_toArray, List.set_cons_zero, List.set_cons_succ]
  refine wpAnyH_done (by kernel_rfl) ?_ _
  skip
  have HR1 := hd hm
  have HW1 := hd hW
  have HB1 : Hd (base ≤ w5.heap.size) := hd (by have := hW.lt; omega)
  clear hHeld hm hW
  obtain ⟨q0, q1, q2, q3, q4, q5, q6, q7, q8, q9, q10, q11, q12, q13, q14⟩ := HQ.out w5 HR1.out
  generalize w5 = w1 at *
  go_upto_region 8 with (fail)
  clear q0 q1 q2 q3 q4 q5 q6 q7 q8 q9 q10 q11 q12 q13 q14
  have hW := HW1.out.k (Chg.refl [] w1).drew
  refine anyH_start (n := 6) (L := #[false, false, false, false, false, false]) (by kernel_rfl) (by kernel_rfl) (S := (fun wx => Fr base b w1 wx)) (Fr.chg (Chg.refl _ _).drew HB1.out) (fun hHeld => ?_)
  generalize w1.drew = w2 at *
  refine anyH_take (i := 0) (d := 38) (L' := #[true, false, false, false, false, false]) (v := ?v10) rfl rfl (by kernel_rfl) (fun _ _ _ h => h) (by rfl) ?hy10 (by assumption) ?rest10
  case hy10 => (intro wx hSw; (try dsimp only at hSw); (obtain ⟨q0, q1, q2, q3, q4, q5, q6, q7, q8, q9, q10, q11, q12, q13, q14⟩ := HQ.out _ (HR1.out.trans hSw)); go_simp; (try with_reducible rfl))
  simp only [Act.put, List.setIfInBounds_toArray, List.set_cons_zero, List.set_cons_succ]
  refine anyH_take (i := 1) (d := 39) (L' := #[true, true, false, false, false, false]) (v := ?v11) rfl rfl (by kernel_rfl) (fun _ _ _ h => h) (by rfl) ?hy11 (by assumption) ?rest11
  case hy11 => (intro wx hSw; (try dsimp only at hSw); (obtain ⟨q0, q1, q2, q3, q4, q5, q6, q7, q8, q9, q10, q11, q12, q13, q14⟩ := HQ.out _ (HR1.out.trans hSw)); go_simp; (try with_reducible rfl))
  simp only [Act.put, List.setIfInBounds_toArray, List.set_cons_zero, List.set_cons_succ]
  refine anyH_take (i := 2) (d := 40) (L' := #[true, true, true, false, false, false]) (v := ?v12) rfl rfl (by kernel_rfl) (fun _ _ _ h => h) (by rfl) ?hy12 (by assumption) ?rest12
  case hy12 => (intro wx hSw; (try dsimp only at hSw); (obtain ⟨q0, q1, q2, q3, q4, q5, q6, q7, q8, q9, q10, q11, q12, q13, q14⟩ := HQ.out _ (HR1.out.trans hSw)); go_simp; (try with_reducible rfl))
  simp only [Act.put, List.setIfInBounds_toArray, List.set_cons_zero, List.set_cons_succ]
  refine anyH_take (i := 3) (d := 41) (L' := #[true, true, true, true, false, false]) (v := ?v13) rfl rfl (by kernel_rfl) (fun _ _ _ h => h) (by rfl) ?hy13 (by assumption) ?rest13
  case hy13 => (intro wx hSw; (try dsimp only at hSw); (obtain ⟨q0, q1, q2, q3, q4, q5, q6, q7, q8, q9, q10, q11, q12, q13, q14⟩ := HQ.out _ (HR1.out.trans hSw)); go_simp; (try with_reducible rfl))
  simp only [Act.put, List.setIfInBounds_toArray, List.set_cons_zero, List.set_cons_succ]
  refine anyH_take (i := 4) (d := 42) (L' := #[true, true, true, true, true, false]) (v := ?v14) rfl rfl (by kernel_rfl) (fun _ _ _ h => h) (by rfl) ?hy14 (by assumption) ?rest14
  case hy14 => (intro wx hSw; (try dsimp only at hSw); (obtain ⟨q0, q1, q2, q3, q4, q5, q6, q7, q8, q9, q10, q11, q12, q13, q14⟩ := HQ.out _ (HR1.out.trans hSw)); go_simp; (try with_reducible rfl))
  simp only [Act.put, List.setIfInBounds_toArray, List.set_cons_zero, List.set_cons_succ]
  refine anyH_run (i := 5) (L' := #[true, true, true, true, true, true]) rfl (by kernel_rfl) (by rfl) (fun KK hKK => ?_)
  go_simp
  (refine (WTNum_any _ (by decide) 8 i base b _ _ hW hb (by omega) (by omega) (by have := HL.out; simp; omega)).mono ?_; rintro e w5 ⟨rfl, hW5, hf⟩; have hm := Fr.trans hHeld hf; (try replace hV := fun w' h => hV w' (hf.trans h)); (try replace hF := fun w' h => hF w' (hf.trans h)); replace hW := hW5; clear hf hW5; (try go_simp))
  refine hKK.out _ _ (by assumption) (fun hHeld => ?_)
  clear hKK KK
  try simp only [Act.put, List.setIfInBounds_toArray, List.set_cons_zero, List.set_cons_succ]
  refine wpAnyH_done (by kernel_rfl) ?_ _
  go_wp2_with (fail); go_end0; exact ⟨rfl, by have := hW; rw [HLL.out]; simpa using this, (HF0.out.trans HR1.out).trans hHeld⟩
end Go.Proofs.Ytlicefbgcoddbaa

/- codec.writer.order, kind 4. -/
namespace Go.Proofs.Ytlicefbgcoddbaa
open Go.RowKit

set_option maxRecDepth 100000 in
set_option maxHeartbeats 8000000 in
theorem WOrderK4_any (base b : Nat) (l : List UInt8) (o : Ord) (pv : Value) (w : World) (hw : WrT 87 w base b l) (hb : base ≤ b) (hz : ∀ w', Fr base b w w' → VsS w' pv o.shape.p) (hk : o.kind = 4) (hl : l.length + 16 * o.shape.p.length + 200 ≤ 140737488355000) :
    Calls Try.prog 33 #[.pointer (some ⟨b, 0, none⟩), vO o pv] w fun e w' =>
      e = .returned (.tuple #[]) ∧ WrT 87 w' base b (l ++ leO o) ∧ Fr base b w w' := by
  obtain ⟨L, hL⟩ : ∃ L, L = leO o := ⟨_, rfl⟩
  rw [← hL]
  unfold leO at hL
  obtain ⟨k, i, a, b1, ⟨px, py⟩, ⟨vx, vy⟩, an, sp, de, ln, ⟨sk, sr, p⟩⟩ := o
  simp only at hz hl hL
  simp only at hk
  subst hk
  have HLL := hd hL
  clear hL
  have hblt := hw.lt
  obtain ⟨ao, c, rfl, -⟩ := (hz w (Fr.refl _ _ _)).form
  have hcb := (Chg.refl [] w).alloc (.cells #[.int .i64 4, .int .i64 i, .int .i64 a, .int .i64 b1, .int .i64 px, .int .i64 py, .int .i64 vx, .int .i64 vy, .int .i64 an, .int .i64 sp, .int .i64 de, .int .i64 ln, .int .i64 sk, .int .i64 sr, .slice ao p.length c] 35)
  have hkb := Blk.new w #[.int .i64 4, .int .i64 i, .int .i64 a, .int .i64 b1, .int .i64 px, .int .i64 py, .int .i64 vx, .int .i64 vy, .int .i64 an, .int .i64 sp, .int .i64 de, .int .i64 ln, .int .i64 sk, .int .i64 sr, .slice ao p.length c] 35
  have hf0 : Fr base b w (w.alloc (.cells #[.int .i64 4, .int .i64 i, .int .i64 a, .int .i64 b1, .int .i64 px, .int .i64 py, .int .i64 vx, .int .i64 vy, .int .i64 an, .int .i64 sp, .int .i64 de, .int .i64 ln, .int .i64 sk, .int .i64 sr, .slice ao p.length c] 35)) := Fr.chg hcb (by omega)
  have hw0 := hw.k hcb
  have hz0 : ∀ w', Fr base b (w.alloc (.cells #[.int .i64 4, .int .i64 i, .int .i64 a, .int .i64 b1, .int .i64 px, .int .i64 py, .int .i64 vx, .int .i64 vy, .int .i64 an, .int .i64 sp, .int .i64 de, .int .i64 ln, .int .i64 sk, .int .i64 sr, .slice ao p.length c] 35)) w' → VsS w' (.slice ao p.length c) p := fun w' h => hz w' (hf0.trans h)
  have hsz : (w.alloc (.cells #[.int .i64 4, .int .i64 i, .int .i64 a, .int .i64 b1, .int .i64 px, .int .i64 py, .int .i64 vx, .int .i64 vy, .int .i64 an, .int .i64 sp, .int .i64 de, .int .i64 ln, .int .i64 sk, .int .i64 sr, .slice ao p.length c] 35)).heap.size = w.heap.size + 1 := by simp
  unfold vO
  simp only
  clear hw hz hcb
  go_enter Try.func33, Try.ntmps33
  go_upto_region 1 with (fail)
  generalize w.alloc (.cells #[.int .i64 4, .int .i64 i, .int .i64 a, .int .i64 b1, .int .i64 px, .int .i64 py, .int .i64 vx, .int .i64 vy, .int .i64 an, .int .i64 sp, .int .i64 de, .int .i64 ln, .int .i64 sk, .int .i64 sr, .slice ao p.length c] 35) = w0 at *
  have hbn : b ≠ w.heap.size := by omega
  generalize w.heap.size = bk at *
  have HQ : Hd (∀ wx, Fr base b w0 wx → wx.cell? ⟨bk, 0, none⟩ = some (.int .i64 4) ∧ wx.cell? ⟨bk, 1, none⟩ = some (.int .i64 i) ∧ wx.cell? ⟨bk, 2, none⟩ = some (.int .i64 a) ∧ wx.cell? ⟨bk, 3, none⟩ = some (.int .i64 b1) ∧ wx.cell? ⟨bk, 4, none⟩ = some (.int .i64 px) ∧ wx.cell? ⟨bk, 5, none⟩ = some (.int .i64 py) ∧ wx.cell? ⟨bk, 6, none⟩ = some (.int .i64 vx) ∧ wx.cell? ⟨bk, 7, none⟩ = some (.int .i64 vy) ∧ wx.cell? ⟨bk, 8, none⟩ = some (.int .i64 an) ∧ wx.cell? ⟨bk, 9, none⟩ = some (.int .i64 sp) ∧ wx.cell? ⟨bk, 10, none⟩ = some (.int .i64 de) ∧ wx.cell? ⟨bk, 11, none⟩ = some (.int .i64 ln) ∧ wx.cell? ⟨bk, 12, none⟩ = some (.int .i64 sk) ∧ wx.cell? ⟨bk, 13, none⟩ = some (.int .i64 sr) ∧ wx.cell? ⟨bk, 14, none⟩ = some (.slice ao p.length c)) := hd fun wx hx => by
    have := hx.kp _ _ _ hkb (by decide) (fun e => hbn e.symm)
    exact ⟨this.cell 0, this.cell 1, this.cell 2, this.cell 3, this.cell 4, this.cell 5, this.cell 6, this.cell 7, this.cell 8, this.cell 9, this.cell 10, this.cell 11, this.cell 12, this.cell 13, this.cell 14⟩
  have HF0 := hd hf0
  have HZ0 := hd hz0
  have HL := hd hl
  have HB : Hd (base ≤ w0.heap.size) := hd (by omega)
  have hW := hw0.k (Chg.refl [] w0).drew
  clear hw0 hf0 hz0 hkb hbn hsz hl hblt
  refine anyH_start (n := 6) (L := #[false, false, false, false, false, false]) (by kernel_rfl) (by kernel_rfl) (S := (fun wx => Fr base b w0 wx)) (Fr.chg (Chg.refl _ _).drew HB.out) (fun hHeld => ?_)
  generalize w0.drew = w2 at *
  refine anyH_take (i := 0) (d := 4) (L' := #[true, false, false, false, false, false]) (v := ?v2) rfl rfl (by kernel_rfl) (fun _ _ _ h => h) (by rfl) ?hy2 (by assumption) ?rest2
  case hy2 => (intro wx hSw; (try dsimp only at hSw); (obtain ⟨q0, q1, q2, q3, q4, q5, q6, q7, q8, q9, q10, q11, q12, q13, q14⟩ := HQ.out _ hSw); go_simp; (try with_reducible rfl))
  simp only [Act.put, List.setIfInBounds_toArray, List.set_cons_zero, List.set_cons_succ]
  refine anyH_take (i := 1) (d := 5) (L' := #[true, true, false, false, false, false]) (v := ?v3) rfl rfl (by kernel_rfl) (fun _ _ _ h => h) (by rfl) ?hy3 (by assumption) ?rest3
  case hy3 => (intro wx hSw; (try dsimp only at hSw); (obtain ⟨q0, q1, q2, q3, q4, q5, q6, q7, q8, q9, q10, q11, q12, q13, q14⟩ := HQ.out _ hSw); go_simp; (try with_reducible rfl))
  simp only [Act.put, List.setIfInBounds_toArray, List.set_cons_zero, List.set_cons_succ]
  refine anyH_take (i := 2) (d := 6) (L' := #[true, true, true, false, false, false]) (v := ?v4) rfl rfl (by kernel_rfl) (fun _ _ _ h => h) (by rfl) ?hy4 (by assumption) ?rest4
  case hy4 => (intro wx hSw; (try dsimp only at hSw); (obtain ⟨q0, q1, q2, q3, q4, q5, q6, q7, q8, q9, q10, q11, q12, q13, q14⟩ := HQ.out _ hSw); go_simp; (try with_reducible rfl))
  simp only [Act.put, List.setIfInBounds_toArray, List.set_cons_zero, List.set_cons_succ]
  refine anyH_take (i := 3) (d := 7) (L' := #[true, true, true, true, false, false]) (v := ?v5) rfl rfl (by kernel_rfl) (fun _ _ _ h => h) (by rfl) ?hy5 (by assumption) ?rest5
  case hy5 => (intro wx hSw; (try dsimp only at hSw); (obtain ⟨q0, q1, q2, q3, q4, q5, q6, q7, q8, q9, q10, q11, q12, q13, q14⟩ := HQ.out _ hSw); go_simp; (try with_reducible rfl))
  simp only [Act.put, List.setIfInBounds_toArray, List.set_cons_zero, List.set_cons_succ]
  refine anyH_take (i := 4) (d := 8) (L' := #[true, true, true, true, true, false]) (v := ?v6) rfl rfl (by kernel_rfl) (fun _ _ _ h => h) (by rfl) ?hy6 (by assumption) ?rest6
  case hy6 => (intro wx hSw; (try dsimp only at hSw); (obtain ⟨q0, q1, q2, q3, q4, q5, q6, q7, q8, q9, q10, q11, q12, q13, q14⟩ := HQ.out _ hSw); go_simp; (try with_reducible rfl))
  simp only [Act.put, List.setIfInBounds_toArray, List.set_cons_zero, List.set_cons_succ]
  refine anyH_run (i := 5) (L' := #[true, true, true, true, true, true]) rfl (by kernel_rfl) (by rfl) (fun KK hKK => ?_)
  go_simp
  (refine (WTNum_any _ (by decide) 1 4 base b _ _ hW hb (by omega) (by omega) (by have := HL.out; simp; omega)).mono ?_; rintro e w5 ⟨rfl, hW5, hf⟩; have hm := Fr.trans hHeld hf; (try replace hV := fun w' h => hV w' (hf.trans h)); (try replace hF := fun w' h => hF w' (hf.trans h)); replace hW := hW5; clear hf hW5; (try go_simp))
  refine hKK.out _ _ (by assumption) (fun hHeld => ?_)
  clear hKK KK
  try simp only [Act.put, List.setIfInBounds_toArray, List.set_cons_zero, List.set_cons_succ]
  refine wpAnyH_done (by kernel_rfl) ?_ _
  skip
  have HR1 := hd hm
  have HW1 := hd hW
  have HB1 : Hd (base ≤ w5.heap.size) := hd (by have := hW.lt; omega)
  clear hHeld hm hW
  obtain ⟨q0, q1, q2, q3, q4, q5, q6, q7, q8, q9, q10, q11, q12, q13, q14⟩ := HQ.out w5 HR1.out
  generalize w5 = w1 at *
  go_upto_region 8 with (fail)
  clear q0 q1 q2 q3 q4 q5 q6 q7 q8 q9 q10 q11 q12 q13 q14
  have hW := HW1.out.k (Chg.refl [] w1).drew
  refine anyH_start (n := 6) (L := #[false, false, false, false, false, false]) (by kernel_rfl) (by kernel_rfl) (S := (fun wx => Fr base b w1 wx)) (Fr.chg (Chg.refl _ _).drew HB1.out) (fun hHeld => ?_)
  generalize w1.drew = w2 at *
  refine anyH_take (i := 0) (d := 38) (L' := #[true, false, false, false, false, false]) (v := ?v10) rfl rfl (by kernel_rfl) (fun _ _ _ h => h) (by rfl) ?hy10 (by assumption) ?rest10
  case hy10 => (intro wx hSw; (try dsimp only at hSw); (obtain ⟨q0, q1, q2, q3, q4, q5, q6, q7, q8, q9, q10, q11, q12, q13, q14⟩ := HQ.out _ (HR1.out.trans hSw)); go_simp; (try with_reducible rfl))
  simp only [Act.put, List.setIfInBounds_toArray, List.set_cons_zero, List.set_cons_succ]
  refine anyH_take (i := 1) (d := 39) (L' := #[true, true, false, false, false, false]) (v := ?v11) rfl rfl (by kernel_rfl) (fun _ _ _ h => h) (by rfl) ?hy11 (by assumption) ?rest11
  case hy11 => (intro wx hSw; (try dsimp only at hSw); (obtain ⟨q0, q1, q2, q3, q4, q5, q6, q7, q8, q9, q10, q11, q12, q13, q14⟩ := HQ.out _ (HR1.out.trans hSw)); go_simp; (try with_reducible rfl))
  simp only [Act.put, List.setIfInBounds_toArray, List.set_cons_zero, List.set_cons_succ]
  refine anyH_take (i := 2) (d := 40) (L' := #[true, true, true, false, false, false]) (v := ?v12) rfl rfl (by kernel_rfl) (fun _ _ _ h => h) (by rfl) ?hy12 (by assumption) ?rest12
  case hy12 => (intro wx hSw; (try dsimp only at hSw); (obtain ⟨q0, q1, q2, q3, q4, q5, q6, q7, q8, q9, q10, q11, q12, q13, q14⟩ := HQ.out _ (HR1.out.trans hSw)); go_simp; (try with_reducible rfl))
  simp only [Act.put, List.setIfInBounds_toArray, List.set_cons_zero, List.set_cons_succ]
  refine anyH_take (i := 3) (d := 41) (L' := #[true, true, true, true, false, false]) (v := ?v13) rfl rfl (by kernel_rfl) (fun _ _ _ h => h) (by rfl) ?hy13 (by assumption) ?rest13
  case hy13 => (intro wx hSw; (try dsimp only at hSw); (obtain ⟨q0, q1, q2, q3, q4, q5, q6, q7, q8, q9, q10, q11, q12, q13, q14⟩ := HQ.out _ (HR1.out.trans hSw)); go_simp; (try with_reducible rfl))
  simp only [Act.put, List.setIfInBounds_toArray, List.set_cons_zero, List.set_cons_succ]
  refine anyH_take (i := 4) (d := 42) (L' := #[true, true, true, true, true, false]) (v := ?v14) rfl rfl (by kernel_rfl) (fun _ _ _ h => h) (by rfl) ?hy14 (by assumption) ?rest14
  case hy14 => (intro wx hSw; (try dsimp only at hSw); (obtain ⟨q0, q1, q2, q3, q4, q5, q6, q7, q8, q9, q10, q11, q12, q13, q14⟩ := HQ.out _ (HR1.out.trans hSw)); go_simp; (try with_reducible rfl))
  simp only [Act.put, List.setIfInBounds_toArray, List.set_cons_zero, List.set_cons_succ]
  refine anyH_run (i := 5) (L' := #[true, true, true, true, true, true]) rfl (by kernel_rfl) (by rfl) (fun KK hKK => ?_)
  go_simp
  (refine (WTNum_any _ (by decide) 8 i base b _ _ hW hb (by omega) (by omega) (by have := HL.out; simp; omega)).mono ?_; rintro e w5 ⟨rfl, hW5, hf⟩; have hm := Fr.trans hHeld hf; (try replace hV := fun w' h => hV w' (hf.trans h)); (try replace hF := fun w' h => hF w' (hf.trans h)); replace hW := hW5; clear hf hW5; (try go_simp))
  refine hKK.out _ _ (by assumption) (fun hHeld => ?_)
  clear hKK KK
  try simp only [Act.put, List.setIfInBounds_toArray, List.set_cons_zero, List.set_cons_succ]
  refine wpAnyH_done (by kernel_rfl) ?_ _
  go_wp2_with (fail); go_end0; exact ⟨rfl, by have := hW; rw [HLL.out]; simpa using this, (HF0.out.trans HR1.out).trans hHeld⟩
end Go.Proofs.Ytlicefbgcoddbaa

/- codec.writer.order, kind 6. -/
namespace Go.Proofs.Ytlicefbgcoddbaa
open Go.RowKit

set_option maxRecDepth 100000 in
set_option maxHeartbeats 8000000 in
theorem WOrderK6_any (base b : Nat) (l : List UInt8) (o : Ord) (pv : Value) (w : World) (hw : WrT 87 w base b l) (hb : base ≤ b) (hz : ∀ w', Fr base b w w' → VsS w' pv o.shape.p) (hk : o.kind = 6) (hl : l.length + 16 * o.shape.p.length + 200 ≤ 140737488355000) :
    Calls Try.prog 33 #[.pointer (some ⟨b, 0, none⟩), vO o pv] w fun e w' =>
      e = .returned (.tuple #[]) ∧ WrT 87 w' base b (l ++ leO o) ∧ Fr base b w w' := by
  obtain ⟨L, hL⟩ : ∃ L, L = leO o := ⟨_, rfl⟩
  rw [← hL]
  unfold leO at hL
  obtain ⟨k, i, a, b1, ⟨px, py⟩, ⟨vx, vy⟩, an, sp, de, ln, ⟨sk, sr, p⟩⟩ := o
  simp only at hz hl hL
  simp only at hk
  subst hk
  have HLL := hd hL
  clear hL
  have hblt := hw.lt
  obtain ⟨ao, c, rfl, -⟩ := (hz w (Fr.refl _ _ _)).form
  have hcb := (Chg.refl [] w).alloc (.cells #[.int .i64 6, .int .i64 i, .int .i64 a, .int .i64 b1, .int .i64 px, .int .i64 py, .int .i64 vx, .int .i64 vy, .int .i64 an, .int .i64 sp, .int .i64 de, .int .i64 ln, .int .i64 sk, .int .i64 sr, .slice ao p.length c] 35)
  have hkb := Blk.new w #[.int .i64 6, .int .i64 i, .int .i64 a, .int .i64 b1, .int .i64 px, .int .i64 py, .int .i64 vx, .int .i64 vy, .int .i64 an, .int .i64 sp, .int .i64 de, .int .i64 ln, .int .i64 sk, .int .i64 sr, .slice ao p.length c] 35
  have hf0 : Fr base b w (w.alloc (.cells #[.int .i64 6, .int .i64 i, .int .i64 a, .int .i64 b1, .int .i64 px, .int .i64 py, .int .i64 vx, .int .i64 vy, .int .i64 an, .int .i64 sp, .int .i64 de, .int .i64 ln, .int .i64 sk, .int .i64 sr, .slice ao p.length c] 35)) := Fr.chg hcb (by omega)
  have hw0 := hw.k hcb
  have hz0 : ∀ w', Fr base b (w.alloc (.cells #[.int .i64 6, .int .i64 i, .int .i64 a, .int .i64 b1, .int .i64 px, .int .i64 py, .int .i64 vx, .int .i64 vy, .int .i64 an, .int .i64 sp, .int .i64 de, .int .i64 ln, .int .i64 sk, .int .i64 sr, .slice ao p.length c] 35)) w' → VsS w' (.slice ao p.length c) p := fun w' h => hz w' (hf0.trans h)
  have hsz : (w.alloc (.cells #[.int .i64 6, .int .i64 i, .int .i64 a, .int .i64 b1, .int .i64 px, .int .i64 py, .int .i64 vx, .int .i64 vy, .int .i64 an, .int .i64 sp, .int .i64 de, .int .i64 ln, .int .i64 sk, .int .i64 sr, .slice ao p.length c] 35)).heap.size = w.heap.size + 1 := by simp
  unfold vO
  simp only
  clear hw hz hcb
  go_enter Try.func33, Try.ntmps33
  go_upto_region 1 with (fail)
  generalize w.alloc (.cells #[.int .i64 6, .int .i64 i, .int .i64 a, .int .i64 b1, .int .i64 px, .int .i64 py, .int .i64 vx, .int .i64 vy, .int .i64 an, .int .i64 sp, .int .i64 de, .int .i64 ln, .int .i64 sk, .int .i64 sr, .slice ao p.length c] 35) = w0 at *
  have hbn : b ≠ w.heap.size := by omega
  generalize w.heap.size = bk at *
  have HQ : Hd (∀ wx, Fr base b w0 wx → wx.cell? ⟨bk, 0, none⟩ = some (.int .i64 6) ∧ wx.cell? ⟨bk, 1, none⟩ = some (.int .i64 i) ∧ wx.cell? ⟨bk, 2, none⟩ = some (.int .i64 a) ∧ wx.cell? ⟨bk, 3, none⟩ = some (.int .i64 b1) ∧ wx.cell? ⟨bk, 4, none⟩ = some (.int .i64 px) ∧ wx.cell? ⟨bk, 5, none⟩ = some (.int .i64 py) ∧ wx.cell? ⟨bk, 6, none⟩ = some (.int .i64 vx) ∧ wx.cell? ⟨bk, 7, none⟩ = some (.int .i64 vy) ∧ wx.cell? ⟨bk, 8, none⟩ = some (.int .i64 an) ∧ wx.cell? ⟨bk, 9, none⟩ = some (.int .i64 sp) ∧ wx.cell? ⟨bk, 10, none⟩ = some (.int .i64 de) ∧ wx.cell? ⟨bk, 11, none⟩ = some (.int .i64 ln) ∧ wx.cell? ⟨bk, 12, none⟩ = some (.int .i64 sk) ∧ wx.cell? ⟨bk, 13, none⟩ = some (.int .i64 sr) ∧ wx.cell? ⟨bk, 14, none⟩ = some (.slice ao p.length c)) := hd fun wx hx => by
    have := hx.kp _ _ _ hkb (by decide) (fun e => hbn e.symm)
    exact ⟨this.cell 0, this.cell 1, this.cell 2, this.cell 3, this.cell 4, this.cell 5, this.cell 6, this.cell 7, this.cell 8, this.cell 9, this.cell 10, this.cell 11, this.cell 12, this.cell 13, this.cell 14⟩
  have HF0 := hd hf0
  have HZ0 := hd hz0
  have HL := hd hl
  have HB : Hd (base ≤ w0.heap.size) := hd (by omega)
  have hW := hw0.k (Chg.refl [] w0).drew
  clear hw0 hf0 hz0 hkb hbn hsz hl hblt
  refine anyH_start (n := 6) (L := #[false, false, false, false, false, false]) (by kernel_rfl) (by kernel_rfl) (S := (fun wx => Fr base b w0 wx)) (Fr.chg (Chg.refl _ _).drew HB.out) (fun hHeld => ?_)
  generalize w0.drew = w2 at *
  refine anyH_take (i := 0) (d := 4) (L' := #[true, false, false, false, false, false]) (v := ?v2) rfl rfl (by kernel_rfl) (fun _ _ _ h => h) (by rfl) ?hy2 (by assumption) ?rest2
  case hy2 => (intro wx hSw; (try dsimp only at hSw); (obtain ⟨q0, q1, q2, q3, q4, q5, q6, q7, q8, q9, q10, q11, q12, q13, q14⟩ := HQ.out _ hSw); go_simp; (try with_reducible rfl))
  simp only [Act.put, List.setIfInBounds_toArray, List.set_cons_zero, List.set_cons_succ]
  refine anyH_take (i := 1) (d := 5) (L' := #[true, true, false, false, false, false]) (v := ?v3) rfl rfl (by kernel_rfl) (fun _ _ _ h => h) (by rfl) ?hy3 (by assumption) ?rest3
  case hy3 => (intro wx hSw; (try dsimp only at hSw); (obtain ⟨q0, q1, q2, q3, q4, q5, q6, q7, q8, q9, q10, q11, q12, q13, q14⟩ := HQ.out _ hSw); go_simp; (try with_reducible rfl))
  simp only [Act.put, List.setIfInBounds_toArray, List.set_cons_zero, List.set_cons_succ]
  refine anyH_take (i := 2) (d := 6) (L' := #[true, true, true, false, false, false]) (v := ?v4) rfl rfl (by kernel_rfl) (fun _ _ _ h => h) (by rfl) ?hy4 (by assumption) ?rest4
  case hy4 => (intro wx hSw; (try dsimp only at hSw); (obtain ⟨q0, q1, q2, q3, q4, q5, q6, q7, q8, q9, q10, q11, q12, q13, q14⟩ := HQ.out _ hSw); go_simp; (try with_reducible rfl))
  simp only [Act.put, List.setIfInBounds_toArray, List.set_cons_zero, List.set_cons_succ]
  refine anyH_take (i := 3) (d := 7) (L' := #[true, true, true, true, false, false]) (v := ?v5) rfl rfl (by kernel_rfl) (fun _ _ _ h => h) (by rfl) ?hy5 (by assumption) ?rest5
  case hy5 => (intro wx hSw; (try dsimp only at hSw); (obtain ⟨q0, q1, q2, q3, q4, q5, q6, q7, q8, q9, q10, q11, q12, q13, q14⟩ := HQ.out _ hSw); go_simp; (try with_reducible rfl))
  simp only [Act.put, List.setIfInBounds_toArray, List.set_cons_zero, List.set_cons_succ]
  refine anyH_take (i := 4) (d := 8) (L' := #[true, true, true, true, true, false]) (v := ?v6) rfl rfl (by kernel_rfl) (fun _ _ _ h => h) (by rfl) ?hy6 (by assumption) ?rest6
  case hy6 => (intro wx hSw; (try dsimp only at hSw); (obtain ⟨q0, q1, q2, q3, q4, q5, q6, q7, q8, q9, q10, q11, q12, q13, q14⟩ := HQ.out _ hSw); go_simp; (try with_reducible rfl))
  simp only [Act.put, List.setIfInBounds_toArray, List.set_cons_zero, List.set_cons_succ]
  refine anyH_run (i := 5) (L' := #[true, true, true, true, true, true]) rfl (by kernel_rfl) (by rfl) (fun KK hKK => ?_)
  go_simp
  (refine (WTNum_any _ (by decide) 1 6 base b _ _ hW hb (by omega) (by omega) (by have := HL.out; simp; omega)).mono ?_; rintro e w5 ⟨rfl, hW5, hf⟩; have hm := Fr.trans hHeld hf; (try replace hV := fun w' h => hV w' (hf.trans h)); (try replace hF := fun w' h => hF w' (hf.trans h)); replace hW := hW5; clear hf hW5; (try go_simp))
  refine hKK.out _ _ (by assumption) (fun hHeld => ?_)
  clear hKK KK
  try simp only [Act.put, List.setIfInBounds_toArray, List.set_cons_zero, List.set_cons_succ]
  refine wpAnyH_done (by kernel_rfl) ?_ _
  skip
  have HR1 := hd hm
  have HW1 := hd hW
  have HB1 : Hd (base ≤ w5.heap.size) := hd (by have := hW.lt; omega)
  clear hHeld hm hW
  obtain ⟨q0, q1, q2, q3, q4, q5, q6, q7, q8, q9, q10, q11, q12, q13, q14⟩ := HQ.out w5 HR1.out
  generalize w5 = w1 at *
  go_upto_region 14 with (fail)
  clear q0 q1 q2 q3 q4 q5 q6 q7 q8 q9 q10 q11 q12 q13 q14
  have hW := HW1.out.k (Chg.refl [] w1).drew
  refine anyH_start (n := 7) (L := #[false, false, false, false, false, false, false]) (by kernel_rfl) (by kernel_rfl) (S := (fun wx => Fr base b w1 wx)) (Fr.chg (Chg.refl _ _).drew HB1.out) (fun hHeld => ?_)
  generalize w1.drew = w2 at *
  refine anyH_take (i := 0) (d := 83) (L' := #[true, false, false, false, false, false, false]) (v := ?v10) rfl rfl (by kernel_rfl) (fun _ _ _ h => h) (by rfl) ?hy10 (by assumption) ?rest10
  case hy10 => (intro wx hSw; (try dsimp only at hSw); (obtain ⟨q0, q1, q2, q3, q4, q5, q6, q7, q8, q9, q10, q11, q12, q13, q14⟩ := HQ.out _ (HR1.out.trans hSw)); go_simp; (try with_reducible rfl))
  simp only [Act.put, List.setIfInBounds_toArray, List.set_cons_zero, List.set_cons_succ]
  refine anyH_take (i := 1) (d := 84) (L' := #[true, true, false, false, false, false, false]) (v := ?v11) rfl rfl (by kernel_rfl) (fun _ _ _ h => h) (by rfl) ?hy11 (by assumption) ?rest11
  case hy11 => (intro wx hSw; (try dsimp only at hSw); (obtain ⟨q0, q1, q2, q3, q4, q5, q6, q7, q8, q9, q10, q11, q12, q13, q14⟩ := HQ.out _ (HR1.out.trans hSw)); go_simp; (try with_reducible rfl))
  simp only [Act.put, List.setIfInBounds_toArray, List.set_cons_zero, List.set_cons_succ]
  refine anyH_take (i := 2) (d := 85) (L' := #[true, true, true, false, false, false, false]) (v := ?v12) rfl rfl (by kernel_rfl) (fun _ _ _ h => h) (by rfl) ?hy12 (by assumption) ?rest12
  case hy12 => (intro wx hSw; (try dsimp only at hSw); (obtain ⟨q0, q1, q2, q3, q4, q5, q6, q7, q8, q9, q10, q11, q12, q13, q14⟩ := HQ.out _ (HR1.out.trans hSw)); go_simp; (try with_reducible rfl))
  simp only [Act.put, List.setIfInBounds_toArray, List.set_cons_zero, List.set_cons_succ]
  refine anyH_take (i := 3) (d := 86) (L' := #[true, true, true, true, false, false, false]) (v := ?v13) rfl rfl (by kernel_rfl) (fun _ _ _ h => h) (by rfl) ?hy13 (by assumption) ?rest13
  case hy13 => (intro wx hSw; (try dsimp only at hSw); (obtain ⟨q0, q1, q2, q3, q4, q5, q6, q7, q8, q9, q10, q11, q12, q13, q14⟩ := HQ.out _ (HR1.out.trans hSw)); go_simp; (try with_reducible rfl))
  simp only [Act.put, List.setIfInBounds_toArray, List.set_cons_zero, List.set_cons_succ]
  refine anyH_take (i := 4) (d := 87) (L' := #[true, true, true, true, true, false, false]) (v := ?v14) rfl rfl (by kernel_rfl) (fun _ _ _ h => h) (by rfl) ?hy14 (by assumption) ?rest14
  case hy14 => (intro wx hSw; (try dsimp only at hSw); (obtain ⟨q0, q1, q2, q3, q4, q5, q6, q7, q8, q9, q10, q11, q12, q13, q14⟩ := HQ.out _ (HR1.out.trans hSw)); go_simp; (try with_reducible rfl))
  simp only [Act.put, List.setIfInBounds_toArray, List.set_cons_zero, List.set_cons_succ]
  refine anyH_run (i := 5) (L' := #[true, true, true, true, true, true, false]) rfl (by kernel_rfl) (by rfl) (fun KK hKK => ?_)
  (obtain ⟨m1, m2, hV⟩ := Fr.litV hHeld hW hb [(vx, vy)] #[.int .i64 vx, .int .i64 vy] 30 1 (by decide) rfl rfl (by simp); (try simp only [World.size_alloc] at hV); (try replace hF := fun w' h => hF w' ((Fr.lit0 hHeld hW hb (.cells #[.int .i64 vx, .int .i64 vy] 30)).trans h)); replace hW := m1; go_simp)
  refine hKK.out _ _ (by assumption) (fun hHeld => ?_)
  clear hKK KK
  try simp only [Act.put, List.setIfInBounds_toArray, List.set_cons_zero, List.set_cons_succ]
  refine anyH_run (i := 6) (L' := #[true, true, true, true, true, true, true]) rfl (by kernel_rfl) (by rfl) (fun KK hKK => ?_)
  go_simp
  (refine (WTV_any _ (by decide) base b _ _ [(vx, vy)] _ hW hb hV (by have := HL.out; simp; omega)).mono ?_; rintro e w6 ⟨rfl, hW6, hf⟩; have hm := Fr.trans hHeld hf; clear hV; (try replace hF := fun w' h => hF w' (hf.trans h)); replace hW := hW6; clear hf hW6; (try go_simp))
  refine hKK.out _ _ (by assumption) (fun hHeld => ?_)
  clear hKK KK
  try simp only [Act.put, List.setIfInBounds_toArray, List.set_cons_zero, List.set_cons_succ]
  refine wpAnyH_done (by kernel_rfl) ?_ _
  go_wp2_with (fail); go_end0; exact ⟨rfl, by have := hW; rw [HLL.out]; simpa using this, (HF0.out.trans HR1.out).trans hHeld⟩
end Go.Proofs.Ytlicefbgcoddbaa

/- codec.writer.order. -/
namespace Go.Proofs.Ytlicefbgcoddbaa
open Go.RowKit

theorem WOrder_any (base b : Nat) (l : List UInt8) (o : Ord) (pv : Value) (w : World) (hw : WrT 87 w base b l) (hb : base ≤ b) (hz : ∀ w', Fr base b w w' → VsS w' pv o.shape.p) (hl : l.length + 16 * o.shape.p.length + 200 ≤ 140737488355000) :
    Calls Try.prog 33 #[.pointer (some ⟨b, 0, none⟩), vO o pv] w fun e w' =>
      e = .returned (.tuple #[]) ∧ WrT 87 w' base b (l ++ leO o) ∧ Fr base b w w' := by
  by_cases h1 : o.kind = 1
  · exact WOrderK1_any base b l o pv w hw hb hz h1 hl
  by_cases h2 : o.kind = 2
  · exact WOrderK2_any base b l o pv w hw hb hz h2 hl
  by_cases h3 : o.kind = 3
  · exact WOrderK3_any base b l o pv w hw hb hz h3 hl
  by_cases h4 : o.kind = 4
  · exact WOrderK4_any base b l o pv w hw hb hz h4 hl
  by_cases h5 : o.kind = 5
  · exact WOrderK5_any base b l o pv w hw hb hz h5 hl
  by_cases h6 : o.kind = 6
  · exact WOrderK6_any base b l o pv w hw hb hz h6 hl
  exact WOrderK0_any base b l o pv w hw hb hz h1 h2 h3 h4 h5 h6 hl
end Go.Proofs.Ytlicefbgcoddbaa
