/- Words and walks that Codec rests on: CodecRK0. -/
import Derived.Test.YtlicefbgcoddbaaWCodec18
/- codec.reader.order: other kinds. -/
namespace Go.Proofs.Ytlicefbgcoddbaa
open Go.RowKit

set_option maxRecDepth 100000 in
set_option maxHeartbeats 8000000 in
theorem ROrderK0_any (base b : Nat) (s : St) (w : World) (hr : RdB base w b s) (hbase : base ≤ w.heap.size) (h1 : (numR 1 s).1 ≠ 1) (h2 : (numR 1 s).1 ≠ 2) (h3 : (numR 1 s).1 ≠ 3) (h4 : (numR 1 s).1 ≠ 4) (h5 : (numR 1 s).1 ≠ 5) (h6 : (numR 1 s).1 ≠ 6) :
    Calls Try.prog 22 #[.agg #[.pointer (some ⟨b, 0, none⟩)]] w fun e w' => ∃ pv, e = .returned (vO (orderR s).1 pv) ∧ VsS w' pv (orderR s).1.shape.p ∧ (∀ k, pv.ownBlock = some k → w.heap.size ≤ k) ∧ RdB base w' b (orderR s).2 ∧ Chg [b] w w' := by
  have hio := orderR0_IO s
  have e0 : orderR0 s = (zeroO (numR 1 s).1, (numR 1 s).2) := by unfold orderR0; simp [h1, h2, h3, h4, h5, h6]
  unfold orderR
  rw [e0] at hio ⊢
  have hc1 := fun W (h : RdB base W b s) => NumB_any 1 base b s W h (by omega)
  clear e0
  generalize (numR 1 s).1 = k at *
  generalize (numR 1 s).2 = y at *
  have g1 : (k == 1) = false := by rw [beq_eq_false_iff_ne]; exact h1
  have g2 : (k == 2) = false := by rw [beq_eq_false_iff_ne]; exact h2
  have g3 : (k == 3) = false := by rw [beq_eq_false_iff_ne]; exact h3
  have g4 : (k == 4) = false := by rw [beq_eq_false_iff_ne]; exact h4
  have g5 : (k == 5) = false := by rw [beq_eq_false_iff_ne]; exact h5
  have g6 : (k == 6) = false := by rw [beq_eq_false_iff_ne]; exact h6
  clear h1 h2 h3 h4 h5 h6
  have hcR := fun W => ORight_any W (zeroO k) (.slice none 0 0) (Rd.ofOwn (e := 30) (base := 0) (World.ownsRow_nil _ _ _ _)) hio
  generalize rightO (zeroO k) = rt at *
  unfold vO zeroO noS at hcR ⊢
  simp only at hcR ⊢
  have hlt := hr.lt
  have hcA := (Chg.refl [] w).alloc (.cells #[.pointer (some ⟨b, 0, none⟩)] 73)
  have hcB := hcA.alloc (.cells #[.int .i64 0, .int .i64 0, .int .i64 0, .int .i64 0, .int .i64 0, .int .i64 0, .int .i64 0, .int .i64 0, .int .i64 0, .int .i64 0, .int .i64 0, .int .i64 0, .int .i64 0, .int .i64 0, .slice none 0 0] 35)
  have kA := (Blk.new w #[.pointer (some ⟨b, 0, none⟩)] 73).alloc (.cells #[.int .i64 0, .int .i64 0, .int .i64 0, .int .i64 0, .int .i64 0, .int .i64 0, .int .i64 0, .int .i64 0, .int .i64 0, .int .i64 0, .int .i64 0, .int .i64 0, .int .i64 0, .int .i64 0, .slice none 0 0] 35)
  have kB := Blk.new (w.alloc (.cells #[.pointer (some ⟨b, 0, none⟩)] 73)) #[.int .i64 0, .int .i64 0, .int .i64 0, .int .i64 0, .int .i64 0, .int .i64 0, .int .i64 0, .int .i64 0, .int .i64 0, .int .i64 0, .int .i64 0, .int .i64 0, .int .i64 0, .int .i64 0, .slice none 0 0] 35
  rw [World.size_alloc] at kB
  have hr0 := hr.k hcB
  have hc1 := hc1 _ hr0
  go_enter Try.func22, Try.ntmps22
  go_upto_region 1 with (fail)
  have hsz : ((w.alloc (.cells #[.pointer (some ⟨b, 0, none⟩)] 73)).alloc (.cells #[.int .i64 0, .int .i64 0, .int .i64 0, .int .i64 0, .int .i64 0, .int .i64 0, .int .i64 0, .int .i64 0, .int .i64 0, .int .i64 0, .int .i64 0, .int .i64 0, .int .i64 0, .int .i64 0, .slice none 0 0] 35)).heap.size = w.heap.size + 1 + 1 := by simp
  generalize (w.alloc (.cells #[.pointer (some ⟨b, 0, none⟩)] 73)).alloc (.cells #[.int .i64 0, .int .i64 0, .int .i64 0, .int .i64 0, .int .i64 0, .int .i64 0, .int .i64 0, .int .i64 0, .int .i64 0, .int .i64 0, .int .i64 0, .int .i64 0, .int .i64 0, .int .i64 0, .slice none 0 0] 35) = w0 at *
  have a0 := kA.cell 0
  simp at a0
  go_upto_region 19 with (first
    | (go_at_call 38; refine hc1.mono ?_; rintro e w1 ⟨rfl, hr1, hm1⟩; have kA1 := kA.chg hm1 (by simp; omega); have kB1 := kB.chg hm1 (by simp; omega); have a1 := kA1.cell 0; simp at a1))
  have hcC := (Chg.refl [] w1).alloc (.cells #[.int .i64 k, .int .i64 0, .int .i64 0, .int .i64 0, .int .i64 0, .int .i64 0, .int .i64 0, .int .i64 0, .int .i64 0, .int .i64 0, .int .i64 0, .int .i64 0, .int .i64 0, .int .i64 0, .slice none 0 0] 35)
  have kC := Blk.new w1 #[.int .i64 k, .int .i64 0, .int .i64 0, .int .i64 0, .int .i64 0, .int .i64 0, .int .i64 0, .int .i64 0, .int .i64 0, .int .i64 0, .int .i64 0, .int .i64 0, .int .i64 0, .int .i64 0, .slice none 0 0] 35
  have hT : w.heap.size + 1 < w1.heap.size := kB1.lt
  have hO : Ost w base b w.heap.size (w.heap.size + 1) w1.heap.size #[.int .i64 k, .int .i64 0, .int .i64 0, .int .i64 0, .int .i64 0, .int .i64 0, .int .i64 0, .int .i64 0, .int .i64 0, .int .i64 0, .int .i64 0, .int .i64 0, .int .i64 0, .int .i64 0, .slice none 0 0] (w1.alloc (.cells #[.int .i64 k, .int .i64 0, .int .i64 0, .int .i64 0, .int .i64 0, .int .i64 0, .int .i64 0, .int .i64 0, .int .i64 0, .int .i64 0, .int .i64 0, .int .i64 0, .int .i64 0, .int .i64 0, .slice none 0 0] 35)) y := ⟨kC, hr1.k hcC, kA1.k hcC, ⟨_, rfl, kB1.k hcC⟩, ((hcB.mono (S' := [b]) (by simp)).trans hm1 (fun x hx _ => hx)).k' hcC, by omega⟩
  clear a0 a1 kA kB kA1 kB1 kC hr0 hr1 hcA hcB hcC hr hc1 hm1 hsz hlt hbase
  generalize w1.alloc (.cells #[.int .i64 k, .int .i64 0, .int .i64 0, .int .i64 0, .int .i64 0, .int .i64 0, .int .i64 0, .int .i64 0, .int .i64 0, .int .i64 0, .int .i64 0, .int .i64 0, .int .i64 0, .int .i64 0, .slice none 0 0] 35) = w2 at *
  generalize w1.heap.size = tb at *
  generalize hrb : w.heap.size + 1 = rb at *
  generalize hxb : w.heap.size = xb at *
  clear hrb hT
  have HX := hd hxb
  clear hxb
  have hO4 := hO
  clear hO
  generalize w2 = w4 at *
  cases rt
  · have a4 := hO4.x.cell 0
    simp at a4
    go_wp2_with (first
      | (refine wpList_load_row rfl _ _ rfl tb rfl 35 _ (0, 0) _ hO4.t Try.underlying35 rfl (by kernel_rfl) ?_)
      | (go_at_call 8; refine (hcR _).mono ?_; rintro e w5 ⟨rfl, hm5⟩; have hO5 := hO4.k hm5; have a5 := hO5.x.cell 0; simp at a5)
      | (go_at_call 51; refine (FailB_any base b _ _ hO5.r).mono ?_; rintro e w6 ⟨rfl, hr6, hm6⟩; have hO6 := hO5.step hm6 hr6; obtain ⟨zs, hzs, hq6⟩ := hO6.q)
      | (refine wpList_load_row rfl _ _ rfl tb rfl 35 _ (0, 0) _ hO6.t Try.underlying35 rfl (by kernel_rfl) ?_)
      | (refine wpList_store_row rfl _ _ _ rfl rb #[.int .i64 k, .int .i64 0, .int .i64 0, .int .i64 0, .int .i64 0, .int .i64 0, .int .i64 0, .int .i64 0, .int .i64 0, .int .i64 0, .int .i64 0, .int .i64 0, .int .i64 0, .int .i64 0, .slice none 0 0] rfl rfl 35 _ hq6 (by kernel_rfl) (by rw [hzs]; rfl) (by simp [Value.oneCell']) ?_))
    have k7 : Blk (w6.setRow rb #[.int .i64 k, .int .i64 0, .int .i64 0, .int .i64 0, .int .i64 0, .int .i64 0, .int .i64 0, .int .i64 0, .int .i64 0, .int .i64 0, .int .i64 0, .int .i64 0, .int .i64 0, .int .i64 0, .slice none 0 0]) rb #[.int .i64 k, .int .i64 0, .int .i64 0, .int .i64 0, .int .i64 0, .int .i64 0, .int .i64 0, .int .i64 0, .int .i64 0, .int .i64 0, .int .i64 0, .int .i64 0, .int .i64 0, .int .i64 0, .slice none 0 0] 35 := hq6.row
    have hs7 := Chg.row (Chg.refl [rb] w6) rb #[.int .i64 k, .int .i64 0, .int .i64 0, .int .i64 0, .int .i64 0, .int .i64 0, .int .i64 0, .int .i64 0, .int .i64 0, .int .i64 0, .int .i64 0, .int .i64 0, .int .i64 0, .int .i64 0, .slice none 0 0] (by simp)
    have hlo := hO6.lo
    refine bodyPost_ret (results_cell_row rfl _ _ rb 35 _ (0, 0) _ rfl k7 Try.underlying35 rfl (by kernel_rfl)) rfl ⟨_, rfl, Rd.ofOwn (e := 30) (base := 0) (World.ownsRow_nil _ _ _ _), by simp [Value.ownBlock], ?_, ?_⟩
    · exact hO6.r.keep hs7 (by simp; omega)
    · exact hO6.c.trans hs7 (fun x hx hl => by simp at hx; omega)
  · go_wp2_with (first
      | (refine wpList_load_row rfl _ _ rfl tb rfl 35 _ (0, 0) _ hO4.t Try.underlying35 rfl (by kernel_rfl) ?_)
      | (go_at_call 8; refine (hcR _).mono ?_; rintro e w6 ⟨rfl, hm5⟩; have hO6 := hO4.k hm5; obtain ⟨zs, hzs, hq6⟩ := hO6.q)
      | (refine wpList_load_row rfl _ _ rfl tb rfl 35 _ (0, 0) _ hO6.t Try.underlying35 rfl (by kernel_rfl) ?_)
      | (refine wpList_store_row rfl _ _ _ rfl rb #[.int .i64 k, .int .i64 0, .int .i64 0, .int .i64 0, .int .i64 0, .int .i64 0, .int .i64 0, .int .i64 0, .int .i64 0, .int .i64 0, .int .i64 0, .int .i64 0, .int .i64 0, .int .i64 0, .slice none 0 0] rfl rfl 35 _ hq6 (by kernel_rfl) (by rw [hzs]; rfl) (by simp [Value.oneCell']) ?_))
    have k7 : Blk (w6.setRow rb #[.int .i64 k, .int .i64 0, .int .i64 0, .int .i64 0, .int .i64 0, .int .i64 0, .int .i64 0, .int .i64 0, .int .i64 0, .int .i64 0, .int .i64 0, .int .i64 0, .int .i64 0, .int .i64 0, .slice none 0 0]) rb #[.int .i64 k, .int .i64 0, .int .i64 0, .int .i64 0, .int .i64 0, .int .i64 0, .int .i64 0, .int .i64 0, .int .i64 0, .int .i64 0, .int .i64 0, .int .i64 0, .int .i64 0, .int .i64 0, .slice none 0 0] 35 := hq6.row
    have hs7 := Chg.row (Chg.refl [rb] w6) rb #[.int .i64 k, .int .i64 0, .int .i64 0, .int .i64 0, .int .i64 0, .int .i64 0, .int .i64 0, .int .i64 0, .int .i64 0, .int .i64 0, .int .i64 0, .int .i64 0, .int .i64 0, .int .i64 0, .slice none 0 0] (by simp)
    have hlo := hO6.lo
    refine bodyPost_ret (results_cell_row rfl _ _ rb 35 _ (0, 0) _ rfl k7 Try.underlying35 rfl (by kernel_rfl)) rfl ⟨_, rfl, Rd.ofOwn (e := 30) (base := 0) (World.ownsRow_nil _ _ _ _), by simp [Value.ownBlock], ?_, ?_⟩
    · exact hO6.r.keep hs7 (by simp; omega)
    · exact hO6.c.trans hs7 (fun x hx hl => by simp at hx; omega)
end Go.Proofs.Ytlicefbgcoddbaa
