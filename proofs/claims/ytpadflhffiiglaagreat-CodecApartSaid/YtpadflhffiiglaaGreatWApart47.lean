/- Words and walks that Apart rests on: LawCodecApart. -/
import Derived.Test.YtpadflhffiiglaaGreatWApart44
import Derived.Test.YtpadflhffiiglaaGreatWApart43
import Derived.Test.YtpadflhffiiglaaGreatWApart46
import Derived.Test.YtpadflhffiiglaaGreatWApart1
import Derived.Deep.CutBlock
/- CodecApart: for every input the law returns true. -/
namespace Go.Proofs.YtpadflhffiiglaaGreat
open Go.RowKit

theorem leS_le {s : Shp} (h : s.p.length ≤ 4096) : (leS s).length ≤ 100000 := by
  unfold leS
  split
  · simp only [List.length_append, leB_length, leF_length, List.length_cons, List.length_nil]; omega
  · have e : ∀ l : List V2, (leF (fV l)).length = l.length * 16 := fun l => by rw [leF_length, fV_length]; omega
    simp only [List.length_append, leB_length, e]
    omega
theorem flat_le {α : Type} (f : α → List UInt8) (m : Nat) : ∀ (l : List α), (∀ x ∈ l, (f x).length ≤ m) → (l.flatMap f).length ≤ l.length * m
  | [], _ => by simp
  | x :: l, h => by
    have h1 := h x (by simp)
    have h2 := flat_le f m l (fun y hy => h y (by simp [hy]))
    rw [List.flatMap_cons, List.length_append, List.length_cons, Nat.succ_mul]
    omega
theorem leW_le (X : Wld) (h : FitW X) (hc : X.contacts.length ≤ 1000000) : (leW X).length ≤ 140737488000000 := by
  have h1 := flat_le leBd 200000 X.bodies (fun b hb => by
    have := leS_le (s := b.shape) (by have := rightS_len (h.b b hb).sh; omega)
    unfold leBd
    simp only [List.length_append, leB_length, leF_length, fV_length, List.length_cons, List.length_nil]
    omega)
  have h2 := flat_le leJt 1000 X.joints (fun b _ => by
    unfold leJt
    simp only [List.length_append, leB_length, leF_length, fV_length, List.length_cons, List.length_nil]
    omega)
  have h3 := flat_le leCt 1000 X.contacts (fun b _ => by
    unfold leCt
    simp only [List.length_append, leB_length, leF_length, List.length_cons, List.length_nil]
    omega)
  have hb := h.bl
  have hj := h.jl
  unfold leW leW3 leW2 leW1 leW0
  simp only [List.length_append, leB_length, leF_length, fV_length, List.length_cons, List.length_nil]
  have e1 : X.bodies.length * 200000 ≤ 1024 * 200000 := Nat.mul_le_mul_right _ hb
  have e2 : X.joints.length * 1000 ≤ 1024 * 1000 := Nat.mul_le_mul_right _ hj
  have e3 : X.contacts.length * 1000 ≤ 1000000 * 1000 := Nat.mul_le_mul_right _ hc
  omega
theorem FitW.p {X : Wld} (h : FitW X) : ∀ b ∈ X.bodies, b.shape.p.length ≤ 4096 := fun b hb => by have := rightS_len (h.b b hb).sh; omega
theorem mem_set' {α : Type} {l : List α} {i : Nat} {y x : α} (h : x ∈ l.set i y) : x ∈ l ∨ x = y := List.mem_or_eq_of_mem_set h
theorem WlP.same {w : World} {bv jv kv : Value} {L : List BV} {X Y : Wld} (h : WlP w bv jv kv L X) (e1 : Y.bodies = X.bodies) (e2 : Y.joints = X.joints) (e3 : Y.contacts = X.contacts) : WlP w bv jv kv L Y := ⟨h.b, by rw [e1]; exact h.l, by rw [e2]; exact h.j, by rw [e3]; exact h.c⟩
theorem FitW.turned {X : Wld} (h : FitW X) (i : Nat) (hi : i < X.bodies.length) (a : Int) (ha : I64 a) : FitW { X with bodies := X.bodies.set i { X.bodies[i] with angle := a } } :=
  ⟨h.tick, h.nb, h.nj, h.grav, fun x hx => by
    rcases mem_set' hx with h' | rfl
    · exact h.b x h'
    · have := h.b _ (List.getElem_mem hi)
      exact ⟨this.id, this.pos, this.vel, ha, this.spin, this.density, this.sh, this.sr, this.sp⟩, h.j, h.c, by simpa using h.bl, h.jl, h.cl⟩
/-- A body's angle is written in a copy. -/
theorem WlP.turn {w : World} {base g c : Nat} {jv kv : Value} {L : List BV} {X : Wld} (h : WlP w (.slice (some ⟨g, 0, none⟩) L.length c) jv kv L X) (hn : OwR cBV 11 34 w base (.slice (some ⟨g, 0, none⟩) L.length c) L)
    (hs : ∀ x ∈ L, 0 < x.1.shape.p.length → ∀ k, x.2.ownBlock = some k → k ∉ [g]) (hj : 0 < X.joints.length → ∀ k, jv.ownBlock = some k → k ∉ [g]) (hk : 0 < X.contacts.length → ∀ k, kv.ownBlock = some k → k ∉ [g]) (i : Nat) (hi : i < L.length) (hi' : i < X.bodies.length) (a : Int) :
    WlP (w.setCells g (i * 11 + 5) [.int .i64 a]) (.slice (some ⟨g, 0, none⟩) L.length c) jv kv (L.set i ({ L[i].1 with angle := a }, L[i].2)) { X with bodies := X.bodies.set i { X.bodies[i] with angle := a } } := by
  have hc := Chg.setCells' (g := g) [.int .i64 a] (i * 11 + 5) (Chg.refl [g] w) (by simp)
  have hXi : X.bodies[i] = L[i].1 := by have := h.l; simp [← this]
  have ho := OwR.setSub cBV_len hn i hi ({ L[i].1 with angle := a }, L[i].2) 5 [.int .i64 a] (by simp) (fun j hj => by
    have : j = 0 ∨ j = 1 ∨ j = 2 ∨ j = 3 ∨ j = 4 ∨ j = 5 ∨ j = 6 ∨ j = 7 ∨ j = 8 ∨ j = 9 ∨ j = 10 := by omega
    rcases this with rfl | rfl | rfl | rfl | rfl | rfl | rfl | rfl | rfl | rfl | rfl <;> simp [cBV])
  refine ⟨⟨?_, fun x hx => ?_⟩, ?_, h.j.chg hc hj, h.c.chg hc hk⟩
  · have := ho.rd
    rwa [List.length_set] at this ⊢
  · rcases mem_set' hx with h' | rfl
    · exact (h.b.ps x h').chg hc (hs x h')
    · exact (h.b.ps _ (List.getElem_mem hi)).chg hc (hs _ (List.getElem_mem hi))
  · rw [List.map_set, h.l, hXi]
theorem rightB_angle {b : Bdy} (h : rightB b = true) : 0 ≤ b.angle ∧ b.angle < 4294967296 := by
  unfold rightB at h
  simp only [Bool.and_eq_true, Bool.not_eq_true', decide_eq_false_iff_not] at h
  omega
theorem u8_and3 (z : Nat) (hz : z < 256) : bits .and .u8 (z : Int) 3 = ((z % 4 : Nat) : Int) := by
  have h : ∀ z : Fin 256, bits .and .u8 (z.1 : Int) 3 = ((z.1 % 4 : Nat) : Int) := by decide +kernel
  exact h ⟨z, hz⟩
/-- Two worlds in blocks of their own. -/
def Two (w : World) (ta tb : Nat) (wx : World) : Prop := ∃ bv jv kv L A b2 j2 k2 L2 B, Blk wx ta (wC A bv jv kv) 42 ∧ WlP wx bv jv kv L A ∧ Blk wx tb (wC B b2 j2 k2) 42 ∧ WlP wx b2 j2 k2 L2 B ∧ FitW A ∧ FitW B ∧ A.contacts = [] ∧ B.contacts = [] ∧ Chg [] w wx
set_option maxRecDepth 100000 in
set_option maxHeartbeats 8000000 in
theorem CodecApart_law (v : Value) (l : List DV) (d : Deed) (pv : Value) (how : UInt8) (w : World) (hl : DsS w v l) (hI : ∀ x ∈ l, ID x.1) (hp : VsS w pv d.raw.shape.p) (hD : ID d) :
    Calls Tryz.prog 3 #[v, vD d pv, .int .u8 (n8 how)] w fun e w' => e = .returned (.bool true) ∧ Chg [] w w' := by
  obtain ⟨P, hP⟩ : ∃ P : Ending → World → Prop, P = fun e w' => e = .returned (.bool true) ∧ Chg [] w w' := ⟨_, rfl⟩
  rw [← hP]
  have HP := hd hP
  clear hP
  obtain ⟨z, hz, hzz⟩ : ∃ z : Nat, n8 how = (z : Int) ∧ z < 256 := ⟨(n8 how).toNat, by have := n8_lo how; omega, by have := n8_lo how; have := n8_hi how; omega⟩
  rw [hz]
  have u3 := u8_and3 z hzz
  obtain ⟨m, hm, hm4⟩ : ∃ m : Nat, z % 4 = m ∧ m < 4 := ⟨_, rfl, Nat.mod_lt _ (by decide)⟩
  rw [hm] at u3
  clear hz hm
  obtain ⟨av, cv, rfl, -, -⟩ := Rd.form (by decide) hl.rd
  obtain ⟨ap, cp, rfl, -⟩ := hp.form
  have hc0 := (Chg.refl [] w).alloc (.cells (cD d (.slice ap d.raw.shape.p.length cp)).toArray 36)
  have hk0 := Blk.new w (cD d (.slice ap d.raw.shape.p.length cp)).toArray 36
  unfold vD at *
  go_enter Tryz.func3, Tryz.ntmps3
  go_upto_region 3 with (go_at_call 5; refine (fit15_any _).mono ?_; rintro e w1 ⟨rfl, h1⟩)
  have hc1 := hc0.k h1
  have hk1 := hk0.k h1
  generalize w.heap.size = xb at *
  clear hc0 hk0 h1
  have q29 := hk1.cell 29
  simp [cD] at q29
  have HK := hd hk1
  have HC1 := hd hc1
  have HL := hd hl
  have HI := hd hI
  have HPV := hd hp
  have HD := hd hD
  clear hk1 hc1 hl hI hp hD
  by_cases h12 : 12 < d.raw.shape.p.length
  · have h12' : (12 : Int) < (d.raw.shape.p.length : Int) := by omega
    go_wp2_with fail
    rw [HP.out]
    exact ⟨rfl, HC1.out⟩
  have h12' : ¬ (12 : Int) < (d.raw.shape.p.length : Int) := by omega
  go_upto_region 5 with fail
  have hmade := Made_any w1 _ l 6 (HL.out.k HC1.out) HI.out (by decide)
  have HID : Hd (∀ x ∈ (l.take 6).map (·.1), ID x) := hd (fun x hx => by obtain ⟨y, hy, rfl⟩ := List.mem_map.1 hx; exact HI.out y (List.mem_of_mem_take hy))
  have HGA := hd (made_GW _ HID.out)
  have HCA := hd (made_c ((l.take 6).map (·.1)))
  generalize madeW ((l.take 6).map (·.1)) = A at *
  clear h12 h12' q29 HL HI HID
  unfold MadeOut at hmade
  go_upto_region 6 with (first
    | (go_at_call 6; refine hmade.mono ?_; rintro e w2 ⟨x, rfl, ⟨bv, jv, kv, L, rfl, hA2⟩, h2⟩; rw [show vW A bv jv kv = .agg (wC A bv jv kv) from rfl]; have kA := Blk.new w2 #[.int .i64 0, .int .i64 0, .int .i64 0, .int .i64 0, .int .i64 0, .slice none 0 0, .slice none 0 0, .slice none 0 0] 42; have hall := wC_all hA2)
    | (refine wpList_store_row rfl _ _ _ rfl w2.heap.size (wC A bv jv kv) rfl rfl 42 _ kA (by kernel_rfl) rfl hall ?_))
  have hc3 : Chg [] w2 ((w2.alloc (.cells #[.int .i64 0, .int .i64 0, .int .i64 0, .int .i64 0, .int .i64 0, .slice none 0 0, .slice none 0 0, .slice none 0 0] 42)).setRow w2.heap.size (wC A bv jv kv)) := Chg.row ((Chg.refl [] w2).alloc _) w2.heap.size _ (fun h => absurd h (Nat.lt_irrefl _))
  have k3 := kA.row (cs' := wC A bv jv kv)
  generalize (w2.alloc (.cells #[.int .i64 0, .int .i64 0, .int .i64 0, .int .i64 0, .int .i64 0, .slice none 0 0, .slice none 0 0, .slice none 0 0] 42)).setRow w2.heap.size (wC A bv jv kv) = w3 at *
  obtain ⟨ta, hta⟩ : ∃ ta, ta = w2.heap.size := ⟨_, rfl⟩
  rw [← hta] at k3 ⊢
  have HK3 := hd k3
  have HA3 := hd (hA2.k hc3)
  have HC3 := hd ((HC1.out.k h2).k hc3)
  have HK13 := hd ((HK.out.k h2).k hc3)
  clear hta kA k3 hc3 hA2 h2 hmade hall HK
  have hcopy := CopyW_any w3 bv jv kv L A HA3.out (by have := HGA.out.fit.bl; omega) (by have := HGA.out.fit.jl; omega) (by have := HGA.out.fit.cl; omega) (fun x hx => by have := HGA.out.fit.p x hx; omega)
  unfold CopyWOut at hcopy
  rw [show vW A bv jv kv = .agg (wC A bv jv kv) from rfl] at hcopy
  go_upto_region 7 with (first
    | (refine wpList_load_row rfl _ _ rfl ta rfl 42 _ (0, 0) _ HK3.out Tryz.underlying42 rfl (by kernel_rfl) ?_)
    | (go_at_call 7; refine hcopy.mono ?_; rintro e w4 ⟨b2, j2, k2, L2, rfl, hB4, h4, hN4⟩; rw [show vW A b2 j2 k2 = .agg (wC A b2 j2 k2) from rfl]; have kB := Blk.new w4 #[.int .i64 0, .int .i64 0, .int .i64 0, .int .i64 0, .int .i64 0, .slice none 0 0, .slice none 0 0, .slice none 0 0] 42; have hall := wC_all hB4)
    | (refine wpList_store_row rfl _ _ _ rfl w4.heap.size (wC A b2 j2 k2) rfl rfl 42 _ kB (by kernel_rfl) rfl hall ?_))
  have hc5 : Chg [] w4 ((w4.alloc (.cells #[.int .i64 0, .int .i64 0, .int .i64 0, .int .i64 0, .int .i64 0, .slice none 0 0, .slice none 0 0, .slice none 0 0] 42)).setRow w4.heap.size (wC A b2 j2 k2)) := Chg.row ((Chg.refl [] w4).alloc _) w4.heap.size _ (fun h => absurd h (Nat.lt_irrefl _))
  have k5 := kB.row (cs' := wC A b2 j2 k2)
  generalize (w4.alloc (.cells #[.int .i64 0, .int .i64 0, .int .i64 0, .int .i64 0, .int .i64 0, .slice none 0 0, .slice none 0 0, .slice none 0 0] 42)).setRow w4.heap.size (wC A b2 j2 k2) = w5 at *
  obtain ⟨tb, htb⟩ : ∃ tb, tb = w4.heap.size := ⟨_, rfl⟩
  rw [← htb] at k5 ⊢
  have HTB : Hd (ta < tb ∧ xb < tb ∧ w3.heap.size ≤ tb ∧ tb < w5.heap.size) := hd (by have := HK3.out.lt; have := HK13.out.lt; have := h4.size; have := k5.lt; omega)
  have HKB := hd k5
  have HKA := hd ((HK3.out.k h4).k hc5)
  have HKD := hd ((HK13.out.k h4).k hc5)
  have HA5 := hd ((HA3.out.k h4).k hc5)
  have HB5 := hd (hB4.k hc5)
  have HC5 := hd ((HC3.out.k h4).k hc5)
  have HNB := hd (hN4.b.k hc5)
  have HNS := hd hN4.bs
  have HNJ := hd hN4.j
  have HBA := hd (hB4.apart (S := [tb]) (fun x hx => by simp at hx; omega))
  have HAA := hd ((HA3.out).apart (S := [tb]) (fun x hx => by have := HTB.out; simp at hx; omega))
  have HAN := hd (HA3.out.apart (S := (b2.ownBlock).toList) (fun x hx => (hN4.b.lo x (by simpa using hx)).1))
  have HTN := hd (show ∀ k, b2.ownBlock = some k → k ≠ ta ∧ k ≠ tb from fun k hk => by have h1 := hN4.b.lo k hk; have := HK3.out.lt; omega)
  have HW5 := hd (show w.heap.size ≤ w3.heap.size from HC3.out.size)
  clear htb kB k5 hc5 hB4 hN4 h4 hcopy hall HK3 HK13 HA3 HC3
  go_upto_block 0 with (fail)
  go_cut [9, 10] from 25 (fun _ _ wx => Two w ta tb wx)
  case first =>
    have c0 := HKB.out.cell 0
    have c3 := HKB.out.cell 3
    have c5 := HKB.out.cell 5
    have f0 := HKB.out.free 0
    have f3 := HKB.out.free 3
    simp [wC] at c0 c3 c5
    have hm' : m = 0 ∨ m = 1 ∨ m = 2 ∨ m = 3 := by omega
    rcases hm' with rfl | rfl | rfl | rfl
    · have hdo := Do_any w5 tb [tb] b2 j2 k2 L2 A d _ ⟨HKB.out, HB5.out, HBA.out, by simp, fun x hx => by have := HTB.out; simp at hx; omega⟩ HGA.out (HPV.out.k HC5.out) HD.out
      unfold DoOut vD at hdo
      have HGB := hd (doW_GW HGA.out d HD.out)
      have HCB := hd (doW_c HCA.out d)
      generalize doW A d = R at *
      obtain ⟨B, r1, r2, r3⟩ := R
      simp only at hdo HGB HCB
      clear c0 c3 c5 f0 f3
      go_wp2_with (first
        | (refine wpList_load_row rfl _ _ rfl xb rfl 36 _ (0, 0) _ HKD.out Tryz.underlying36 rfl (by kernel_rfl) ?_)
        | (go_at_call 8; refine hdo.mono ?_; rintro e w6 ⟨rfl, h6, b3, j3, k3, L3, hW6⟩))
      go_meet
      case rel => exact ⟨bv, jv, kv, L, A, b3, j3, k3, L3, B, HKA.out.chg h6 (by have := HTB.out; simp; omega), HA5.out.chg h6 HAA.out, hW6.blk, hW6.p, HGA.out.fit, HGB.out.fit, HCA.out, HCB.out, HC5.out.trans h6 (fun x hx hl => by have := HTB.out; have := HW5.out; simp at hx; omega)⟩
    · have hwr : wrap64 (A.tick + 1) = A.tick + 1 := IntWalk.wrap64_in _ (by have := HGA.out.t; omega)
      have h6 := Chg.setCell (Chg.refl [tb] w5) ⟨tb, 0, none⟩ (.int .i64 (A.tick + 1)) (by simp)
      have hk6 := HKB.out.set 0 (.int .i64 (A.tick + 1))
      have H6 := hd h6
      have HK6 := hd hk6
      clear h6 hk6 c3 c5 f3
      go_wp2_with (fail)
      go_meet
      case rel => exact ⟨bv, jv, kv, L, A, b2, j2, k2, L2, { A with tick := A.tick + 1 }, HKA.out.chg H6.out (by have := HTB.out; simp; omega), HA5.out.chg H6.out HAA.out, by simpa [wC] using HK6.out, (HB5.out.chg H6.out HBA.out).same rfl rfl rfl, HGA.out.fit, ⟨by have := HGA.out.t; unfold I64; dsimp only; omega, HGA.out.fit.nb, HGA.out.fit.nj, HGA.out.fit.grav, HGA.out.fit.b, HGA.out.fit.j, HGA.out.fit.c, HGA.out.fit.bl, HGA.out.fit.jl, HGA.out.fit.cl⟩, HCA.out, HCA.out, HC5.out.trans H6.out (fun x hx hl => by have := HTB.out; have := HW5.out; simp at hx; omega)⟩
    · have q8 := HKD.out.cell 8
      simp [cD] at q8
      have u8 : bits .and .i64 d.vel.1 255 = d.vel.1 % 256 := and_mask d.vel.1 8 (by decide)
      have h6 := Chg.setCell (Chg.refl [tb] w5) ⟨tb, 3, none⟩ (.int .i64 (1 + d.vel.1 % 256)) (by simp)
      have hk6 := HKB.out.set 3 (.int .i64 (1 + d.vel.1 % 256))
      have H6 := hd h6
      have HK6 := hd hk6
      clear h6 hk6 c0 c5 f0
      go_wp2_with (fail)
      go_meet
      case rel => exact ⟨bv, jv, kv, L, A, b2, j2, k2, L2, { A with grav := (1 + d.vel.1 % 256, A.grav.2) }, HKA.out.chg H6.out (by have := HTB.out; simp; omega), HA5.out.chg H6.out HAA.out, by simpa [wC] using HK6.out, (HB5.out.chg H6.out HBA.out).same rfl rfl rfl, HGA.out.fit, ⟨HGA.out.fit.tick, HGA.out.fit.nb, HGA.out.fit.nj, ⟨by unfold I64; dsimp only; omega, HGA.out.fit.grav.2⟩, HGA.out.fit.b, HGA.out.fit.j, HGA.out.fit.c, HGA.out.fit.bl, HGA.out.fit.jl, HGA.out.fit.cl⟩, HCA.out, HCA.out, HC5.out.trans H6.out (fun x hx hl => by have := HTB.out; have := HW5.out; simp at hx; omega)⟩
    · obtain ⟨a2, c2, hb2, hlen2, hnc2, hcm2, hf2⟩ : ∃ a2 c2, b2 = .slice a2 L2.length c2 ∧ L2.length = A.bodies.length ∧ L2.length ≤ c2 ∧ c2 ≤ 9223372036854775807 ∧ ((a2 = none ∧ L2 = []) ∨ ∃ g, a2 = some ⟨g, 0, none⟩) := by
        obtain ⟨a2, c2, e, h1, h2, h3⟩ := HNB.out.form
        exact ⟨a2, c2, e, by rw [← HB5.out.l, List.length_map], h1, h2, by rcases h3 with h | ⟨g, h, -⟩; exact .inl h; exact .inr ⟨g, h⟩⟩
      subst hb2
      have HLEN := hd hlen2
      have HBL : Hd (L2.length ≤ 1024) := hd (by rw [hlen2]; exact HGA.out.fit.bl)
      clear c0 c3 f0 f3 hlen2
      by_cases hn : 0 < L2.length
      · obtain ⟨g, rfl⟩ : ∃ g, a2 = some ⟨g, 0, none⟩ := by
          rcases hf2 with ⟨-, rfl⟩ | h
          · simp at hn
          · exact h
        obtain ⟨i, hi, hiz⟩ : ∃ i, i < L2.length ∧ (z / 4) % L2.length = i := ⟨_, Nat.mod_lt _ hn, rfl⟩
        have hbl := HBL.out
        have hrem : ((z : Int) / 4).tmod (L2.length : Int) = (i : Int) := by rw [Int.tmod_eq_emod_of_nonneg (by omega), ← hiz, Int.natCast_emod, Int.natCast_ediv]; rfl
        have hw4 : IntKind.i64.wrap ((z : Int) / 4) = (z : Int) / 4 := by rw [IntKind.wrap_i64]; omega
        have hne0 : L2 ≠ [] := List.ne_nil_of_length_pos hn
        have C5 := hd c5
        have HI := hd hiz
        clear hiz
        go_upto_region 10 with (fail)
        clear c5
        refine anyH_start (n := 9) (L := #[false, false, false, false, false, false, false, false, false]) (by kernel_rfl) (by kernel_rfl) (S := (fun wx => Chg [] w5 wx)) ((Chg.refl _ _).drew) (fun hHeld => ?_)
        generalize w5.drew = w5d at *
        refine anyH_take (i := 0) (d := 30) (L' := #[true, false, false, false, false, false, false, false, false]) (v := ?v2) rfl rfl (by kernel_rfl) (fun _ _ _ h => h) (by rfl) ?hy2 (by assumption) ?rest2
        case hy2 => (intro wx hSw; (try dsimp only at hSw); (have t5 := hSw.cellS C5.out; have t6 := hrem; have t7 := hw4; have t8 := hne0; have t9 := hi); go_simp; (try with_reducible rfl))
        simp only [Act.put, List.setIfInBounds_toArray, List.set_cons_zero, List.set_cons_succ]
        refine anyH_take (i := 1) (d := 31) (L' := #[true, true, false, false, false, false, false, false, false]) (v := ?v3) rfl rfl (by kernel_rfl) (fun _ _ _ h => h) (by rfl) ?hy3 (by assumption) ?rest3
        case hy3 => (intro wx hSw; (try dsimp only at hSw); (have t5 := hSw.cellS C5.out; have t6 := hrem; have t7 := hw4; have t8 := hne0; have t9 := hi); go_simp; (try with_reducible rfl))
        simp only [Act.put, List.setIfInBounds_toArray, List.set_cons_zero, List.set_cons_succ]
        refine anyH_take (i := 2) (d := 32) (L' := #[true, true, true, false, false, false, false, false, false]) (v := ?v4) rfl rfl (by kernel_rfl) (fun _ _ _ h => h) (by rfl) ?hy4 (by assumption) ?rest4
        case hy4 => (intro wx hSw; (try dsimp only at hSw); (have t5 := hSw.cellS C5.out; have t6 := hrem; have t7 := hw4; have t8 := hne0; have t9 := hi); go_simp; (try with_reducible rfl))
        simp only [Act.put, List.setIfInBounds_toArray, List.set_cons_zero, List.set_cons_succ]
        refine anyH_take (i := 3) (d := 33) (L' := #[true, true, true, true, false, false, false, false, false]) (v := ?v5) rfl rfl (by kernel_rfl) (fun _ _ _ h => h) (by rfl) ?hy5 (by assumption) ?rest5
        case hy5 => (intro wx hSw; (try dsimp only at hSw); (have t5 := hSw.cellS C5.out; have t6 := hrem; have t7 := hw4; have t8 := hne0; have t9 := hi); go_simp; (try with_reducible rfl))
        simp only [Act.put, List.setIfInBounds_toArray, List.set_cons_zero, List.set_cons_succ]
        refine anyH_take (i := 5) (d := 35) (L' := #[true, true, true, true, false, true, false, false, false]) (v := ?v6) rfl rfl (by kernel_rfl) (fun _ _ _ h => h) (by rfl) ?hy6 (by assumption) ?rest6
        case hy6 => (intro wx hSw; (try dsimp only at hSw); (have t5 := hSw.cellS C5.out; have t6 := hrem; have t7 := hw4; have t8 := hne0; have t9 := hi); go_simp; (try with_reducible rfl))
        simp only [Act.put, List.setIfInBounds_toArray, List.set_cons_zero, List.set_cons_succ]
        refine anyH_run (i := 4) (L' := #[true, true, true, true, true, true, false, false, false]) rfl (by kernel_rfl) (by rfl) (fun KK hKK => ?_)
        go_simp
        (skip)
        refine hKK.out _ _ (by assumption) (fun hHeld => ?_)
        clear hKK KK
        try simp only [Act.put, List.setIfInBounds_toArray, List.set_cons_zero, List.set_cons_succ]
        refine anyH_run (i := 6) (L' := #[true, true, true, true, true, true, true, false, false]) rfl (by kernel_rfl) (by rfl) (fun KK hKK => ?_)
        go_simp
        (skip)
        refine hKK.out _ _ (by assumption) (fun hHeld => ?_)
        clear hKK KK
        try simp only [Act.put, List.setIfInBounds_toArray, List.set_cons_zero, List.set_cons_succ]
        refine anyH_run (i := 7) (L' := #[true, true, true, true, true, true, true, true, false]) rfl (by kernel_rfl) (by rfl) (fun KK hKK => ?_)
        go_simp
        (skip)
        refine hKK.out _ _ (by assumption) (fun hHeld => ?_)
        clear hKK KK
        try simp only [Act.put, List.setIfInBounds_toArray, List.set_cons_zero, List.set_cons_succ]
        refine anyH_run (i := 8) (L' := #[true, true, true, true, true, true, true, true, true]) rfl (by kernel_rfl) (by rfl) (fun KK hKK => ?_)
        go_simp
        (skip)
        refine hKK.out _ _ (by assumption) (fun hHeld => ?_)
        clear hKK KK
        try simp only [Act.put, List.setIfInBounds_toArray, List.set_cons_zero, List.set_cons_succ]
        refine wpAnyH_done (by kernel_rfl) ?_ _
        skip
        have hNd := HNB.out.k hHeld
        have hBd := HB5.out.k hHeld
        have hiA : i < A.bodies.length := by have := HLEN.out; omega
        have hXi : A.bodies[i] = L2[i].1 := by have := HB5.out.l; simp [← this]
        have hang := rightB_angle (HGA.out.b _ (List.getElem_mem hiA))
        rw [hXi] at hang
        have hturn := WlP.turn hBd hNd (fun x hx hn k hk hm => by have := (HNS.out x hx hn k hk).2; simp at hm; subst hm; exact this rfl) (fun hn k hk hm => ?jn) (fun hn k hk hm => ?kn) i hi hiA ((L2[i].1.angle + 1) % 4294967296)
        case jn => have := (HNJ.out k hk).2; simp at hm; subst hm; exact this rfl
        case kn => have := HCA.out; rw [this] at hn; simp at hn
        rw [hXi] at hturn
        have hft := HGA.out.fit.turned i hiA ((L2[i].1.angle + 1) % 4294967296) (by unfold I64; omega)
        rw [hXi] at hft
        have q5 := Rd.rangeAt cBV_len hNd.rd i hi 5 (.int .i64 L2[i].1.angle) rfl
        have fz := (hNd.there i (by omega) 5 (by decide)).2
        rw [Nat.zero_add] at q5
        have u32 : bits .and .i64 (L2[i].1.angle + 1) 4294967295 = (L2[i].1.angle + 1) % 4294967296 := and_mask (L2[i].1.angle + 1) 32 (by decide)
        have hwr : wrap64 (L2[i].1.angle + 1) = L2[i].1.angle + 1 := IntWalk.wrap64_in _ (by omega)
        have hT := HTN.out g rfl
        have hs6 := Chg.setCells' (g := g) [.int .i64 ((L2[i].1.angle + 1) % 4294967296)] (i * 11 + 5) (Chg.refl [g] w5d) (by simp)
        have HS6 := hd hs6
        have HTU := hd hturn
        have HFT := hd hft
        have HKB6 := hd ((HKB.out.k hHeld).chg hs6 (by simp; omega))
        have HKA6 := hd ((HKA.out.k hHeld).chg hs6 (by simp; omega))
        have HA6 := hd ((HA5.out.k hHeld).chg hs6 HAN.out)
        have HC6 := hd ((HC5.out.k hHeld).trans hs6 (fun x hx hl => by have h1 := (HNB.out.lo g rfl).1; have := HW5.out; simp at hx; omega))
        clear hs6 hturn hft hNd hBd hXi hHeld hrem hw4 hne0 hang hT
        generalize L2[i] = x at *
        simp only [World.setCells] at *
        generalize hw6 : w5d.setCell ⟨g, i * 11 + 5, none⟩ (.int .i64 ((x.1.angle + 1) % 4294967296)) = w6 at *
        have HW6 := hd hw6
        clear hw6
        go_wp2_with (fail)
        rw [HW6.out]
        go_meet
        case rel => exact ⟨bv, jv, kv, L, A, _, j2, k2, _, { A with bodies := A.bodies.set i { x.1 with angle := (x.1.angle + 1) % 4294967296 } }, HKA6.out, HA6.out, HKB6.out, HTU.out, HGA.out.fit, HFT.out, HCA.out, HCA.out, HC6.out⟩
      · have hn' : ¬ (0 : Int) < (L2.length : Int) := by omega
        go_wp2_with (fail)
        go_meet
        case rel => exact ⟨bv, jv, kv, L, A, _, j2, k2, L2, A, HKA.out, HA5.out, HKB.out, HB5.out, HGA.out.fit, HGA.out.fit, HCA.out, HCA.out, HC5.out⟩
  case rest =>
    clear HKA HKB HKD HA5 HB5 HC5 HNB HNS HNJ HBA HAA HAN HTN HW5 HTB HGA HCA HPV HD u3 hm4
    obtain ⟨bx, jx, kx, LX, X, by', jy, ky, LY, Y, hkA, hpA, hkB, hpB, hfA, hfB, hcA, hcB, hc⟩ := hcut
    have hWA := fun W (h : Chg [] wc W) => World_any W (vW X bx jx kx) X ⟨_, _, _, _, rfl, hpA.k h⟩ hfA.p (leW_le X hfA (by rw [hcA]; simp))
    have hWB := fun W (h : Chg [] wc W) => World_any W (vW Y by' jy ky) Y ⟨_, _, _, _, rfl, hpB.k h⟩ hfB.p (leW_le Y hfB (by rw [hcB]; simp))
    have hSame := fun W (h : Chg [] wc W) => WSame_any W (vW X bx jx kx) (vW Y by' jy ky) X Y ⟨_, _, _, _, rfl, hpA.k h⟩ ⟨_, _, _, _, rfl, hpB.k h⟩ (by have := hfA.bl; omega)
    rw [show vW X bx jx kx = .agg (wC X bx jx kx) from rfl] at hWA hSame
    rw [show vW Y by' jy ky = .agg (wC Y by' jy ky) from rfl] at hWB hSame
    have HE : Hd (leW X = leW Y ↔ X = Y) := hd ⟨leW_inj hfA hfB, fun h => by rw [h]⟩
    have HKX := hd hkA
    have HKY := hd hkB
    have HC := hd hc
    have HWA := hd hWA
    have HWB := hd hWB
    have HSM := hd hSame
    clear hWA hWB hSame hkA hkB hpA hpB hfA hfB hcA hcB hc
    generalize leW X = la at *
    generalize leW Y = lb at *
    go_upto_region 18 with (fail)
    refine anyH_start (n := 12) (L := #[false, false, false, false, false, false, false, false, false, false, false, false]) (by kernel_rfl) (by kernel_rfl) (S := (fun wx => Chg [] wc wx)) ((Chg.refl _ _).drew) (fun hHeld => ?_)
    generalize wc.drew = wcd at *
    refine anyH_take (i := 0) (d := 66) (L' := #[true, false, false, false, false, false, false, false, false, false, false, false]) (v := ?v19) rfl rfl (by kernel_rfl) (fun _ _ _ h => h) (by rfl) ?hy19 (by assumption) ?rest19
    case hy19 => (intro wx hSw; (try dsimp only at hSw); (refine exec_load_row (x := .tmp 7) (t := 42) ?_ ?_ (HKX.out.k hSw) Tryz.underlying42 rfl (by kernel_rfl) <;> rfl))
    simp only [Act.put, List.setIfInBounds_toArray, List.set_cons_zero, List.set_cons_succ]
    refine anyH_take (i := 3) (d := 69) (L' := #[true, false, false, true, false, false, false, false, false, false, false, false]) (v := ?v20) rfl rfl (by kernel_rfl) (fun _ _ _ h => h) (by rfl) ?hy20 (by assumption) ?rest20
    case hy20 => (intro wx hSw; (try dsimp only at hSw); (refine exec_load_row (x := .tmp 8) (t := 42) ?_ ?_ (HKY.out.k hSw) Tryz.underlying42 rfl (by kernel_rfl) <;> rfl))
    simp only [Act.put, List.setIfInBounds_toArray, List.set_cons_zero, List.set_cons_succ]
    refine anyH_take (i := 7) (d := 73) (L' := #[true, false, false, true, false, false, false, true, false, false, false, false]) (v := ?v21) rfl rfl (by kernel_rfl) (fun _ _ _ h => h) (by rfl) ?hy21 (by assumption) ?rest21
    case hy21 => (intro wx hSw; (try dsimp only at hSw); (refine exec_load_row (x := .tmp 7) (t := 42) ?_ ?_ (HKX.out.k hSw) Tryz.underlying42 rfl (by kernel_rfl) <;> rfl))
    simp only [Act.put, List.setIfInBounds_toArray, List.set_cons_zero, List.set_cons_succ]
    refine anyH_take (i := 8) (d := 74) (L' := #[true, false, false, true, false, false, false, true, true, false, false, false]) (v := ?v22) rfl rfl (by kernel_rfl) (fun _ _ _ h => h) (by rfl) ?hy22 (by assumption) ?rest22
    case hy22 => (intro wx hSw; (try dsimp only at hSw); (refine exec_load_row (x := .tmp 8) (t := 42) ?_ ?_ (HKY.out.k hSw) Tryz.underlying42 rfl (by kernel_rfl) <;> rfl))
    simp only [Act.put, List.setIfInBounds_toArray, List.set_cons_zero, List.set_cons_succ]
    refine anyH_run (i := 1) (L' := #[true, true, false, true, false, false, false, true, true, false, false, false]) rfl (by kernel_rfl) (by rfl) (fun KK hKK => ?_)
    go_simp
    (refine (HWA.out _ hHeld).mono ?_; rintro e w1 ⟨a1, c1, rfl, ho1, hm1⟩; have hm := Chg.k' hHeld hm1; have hB1 := hd ho1.bs; (try go_simp))
    refine hKK.out _ _ (by assumption) (fun hHeld => ?_)
    clear hKK KK
    try simp only [Act.put, List.setIfInBounds_toArray, List.set_cons_zero, List.set_cons_succ]
    refine anyH_run2 (i := 2) (j := 4) (L1 := #[true, true, true, true, false, false, false, true, true, false, false, false]) (L2 := #[true, true, false, true, true, false, false, true, true, false, false, false]) rfl rfl (by kernel_rfl) (by rfl) (by rfl) (fun KK hKK => ?ra11) (fun KK hKK => ?rb11)
    case' ra11 =>
      (have t2 := run_str hB1.out; go_simp)
      refine hKK.out _ _ (by assumption) (fun hHeld => ?_)
      clear hKK KK
      try simp only [Act.put, List.setIfInBounds_toArray, List.set_cons_zero, List.set_cons_succ]
      refine anyH_run (i := 4) (L' := #[true, true, true, true, true, false, false, true, true, false, false, false]) rfl (by kernel_rfl) (by rfl) (fun KK hKK => ?_)
      go_simp
      (refine (HWB.out _ hHeld).mono ?_; rintro e w2 ⟨a2, c2, rfl, ho2, hm2⟩; have hm := Chg.k' hHeld hm2; have hB2 := hd ho2.bs; replace hB1 := hd (hB1.out.stays hm2); (try go_simp))
      refine hKK.out _ _ (by assumption) (fun hHeld => ?_)
      clear hKK KK
      try simp only [Act.put, List.setIfInBounds_toArray, List.set_cons_zero, List.set_cons_succ]
      refine anyH_run2 (i := 5) (j := 9) (L1 := #[true, true, true, true, true, true, false, true, true, false, false, false]) (L2 := #[true, true, true, true, true, false, false, true, true, true, false, false]) rfl rfl (by kernel_rfl) (by rfl) (by rfl) (fun KK hKK => ?ra12) (fun KK hKK => ?rb12)
      case' ra12 =>
        (have t5 := run_str hB2.out; go_simp)
        refine hKK.out _ _ (by assumption) (fun hHeld => ?_)
        clear hKK KK
        try simp only [Act.put, List.setIfInBounds_toArray, List.set_cons_zero, List.set_cons_succ]
        refine anyH_take (i := 6) (d := 72) (L' := #[true, true, true, true, true, true, true, true, true, false, false, false]) (v := ?v25) rfl rfl (by kernel_rfl) (fun _ _ _ h => h) (by rfl) ?hy25 (by assumption) ?rest25
        case hy25 => (intro wx hSw; (try dsimp only at hSw); (skip); go_simp; (try with_reducible rfl))
        simp only [Act.put, List.setIfInBounds_toArray, List.set_cons_zero, List.set_cons_succ]
        refine anyH_run (i := 9) (L' := #[true, true, true, true, true, true, true, true, true, true, false, false]) rfl (by kernel_rfl) (by rfl) (fun KK hKK => ?_)
        go_simp
        (refine (HSM.out _ hHeld).mono ?_; rintro e w3 ⟨⟨r, rfl, hr⟩, hm3⟩; have hm := Chg.k' hHeld hm3; replace hB1 := hd (hB1.out.stays hm3); replace hB2 := hd (hB2.out.stays hm3); (try go_simp))
        refine hKK.out _ _ (by assumption) (fun hHeld => ?_)
        clear hKK KK
        try simp only [Act.put, List.setIfInBounds_toArray, List.set_cons_zero, List.set_cons_succ]
        refine anyH_run (i := 10) (L' := #[true, true, true, true, true, true, true, true, true, true, true, false]) rfl (by kernel_rfl) (by rfl) (fun KK hKK => ?_)
        go_simp
        (skip)
        refine hKK.out _ _ (by assumption) (fun hHeld => ?_)
        clear hKK KK
        try simp only [Act.put, List.setIfInBounds_toArray, List.set_cons_zero, List.set_cons_succ]
        refine anyH_run (i := 11) (L' := #[true, true, true, true, true, true, true, true, true, true, true, true]) rfl (by kernel_rfl) (by rfl) (fun KK hKK => ?_)
        go_simp
        (skip)
        refine hKK.out _ _ (by assumption) (fun hHeld => ?_)
        clear hKK KK
        try simp only [Act.put, List.setIfInBounds_toArray, List.set_cons_zero, List.set_cons_succ]
        refine wpAnyH_done (by kernel_rfl) ?_ _
        skip
      case' rb12 =>
        go_simp
        (refine (HSM.out _ hHeld).mono ?_; rintro e w3 ⟨⟨r, rfl, hr⟩, hm3⟩; have hm := Chg.k' hHeld hm3; replace hB1 := hd (hB1.out.stays hm3); replace hB2 := hd (hB2.out.stays hm3); (try go_simp))
        refine hKK.out _ _ (by assumption) (fun hHeld => ?_)
        clear hKK KK
        try simp only [Act.put, List.setIfInBounds_toArray, List.set_cons_zero, List.set_cons_succ]
        refine anyH_run (i := 5) (L' := #[true, true, true, true, true, true, false, true, true, true, false, false]) rfl (by kernel_rfl) (by rfl) (fun KK hKK => ?_)
        (have t5 := run_str hB2.out; go_simp)
        refine hKK.out _ _ (by assumption) (fun hHeld => ?_)
        clear hKK KK
        try simp only [Act.put, List.setIfInBounds_toArray, List.set_cons_zero, List.set_cons_succ]
        refine anyH_run (i := 6) (L' := #[true, true, true, true, true, true, true, true, true, true, false, false]) rfl (by kernel_rfl) (by rfl) (fun KK hKK => ?_)
        go_simp
        (skip)
        refine hKK.out _ _ (by assumption) (fun hHeld => ?_)
        clear hKK KK
        try simp only [Act.put, List.setIfInBounds_toArray, List.set_cons_zero, List.set_cons_succ]
        refine anyH_run (i := 10) (L' := #[true, true, true, true, true, true, true, true, true, true, true, false]) rfl (by kernel_rfl) (by rfl) (fun KK hKK => ?_)
        go_simp
        (skip)
        refine hKK.out _ _ (by assumption) (fun hHeld => ?_)
        clear hKK KK
        try simp only [Act.put, List.setIfInBounds_toArray, List.set_cons_zero, List.set_cons_succ]
        refine anyH_run (i := 11) (L' := #[true, true, true, true, true, true, true, true, true, true, true, true]) rfl (by kernel_rfl) (by rfl) (fun KK hKK => ?_)
        go_simp
        (skip)
        refine hKK.out _ _ (by assumption) (fun hHeld => ?_)
        clear hKK KK
        try simp only [Act.put, List.setIfInBounds_toArray, List.set_cons_zero, List.set_cons_succ]
        refine wpAnyH_done (by kernel_rfl) ?_ _
        skip
    case' rb11 =>
      go_simp
      (refine (HWB.out _ hHeld).mono ?_; rintro e w2 ⟨a2, c2, rfl, ho2, hm2⟩; have hm := Chg.k' hHeld hm2; have hB2 := hd ho2.bs; replace hB1 := hd (hB1.out.stays hm2); (try go_simp))
      refine hKK.out _ _ (by assumption) (fun hHeld => ?_)
      clear hKK KK
      try simp only [Act.put, List.setIfInBounds_toArray, List.set_cons_zero, List.set_cons_succ]
      refine anyH_run3 (i := 2) (j := 5) (k := 9) (L1 := #[true, true, true, true, true, false, false, true, true, false, false, false]) (L2 := #[true, true, false, true, true, true, false, true, true, false, false, false]) (L3 := #[true, true, false, true, true, false, false, true, true, true, false, false]) rfl rfl rfl (by kernel_rfl) (by rfl) (by rfl) (by rfl) (fun KK hKK => ?ra13) (fun KK hKK => ?rb13) (fun KK hKK => ?rc13)
      case' ra13 =>
        (have t2 := run_str hB1.out; go_simp)
        refine hKK.out _ _ (by assumption) (fun hHeld => ?_)
        clear hKK KK
        try simp only [Act.put, List.setIfInBounds_toArray, List.set_cons_zero, List.set_cons_succ]
        refine anyH_run2 (i := 5) (j := 9) (L1 := #[true, true, true, true, true, true, false, true, true, false, false, false]) (L2 := #[true, true, true, true, true, false, false, true, true, true, false, false]) rfl rfl (by kernel_rfl) (by rfl) (by rfl) (fun KK hKK => ?ra14) (fun KK hKK => ?rb14)
        case' ra14 =>
          (have t5 := run_str hB2.out; go_simp)
          refine hKK.out _ _ (by assumption) (fun hHeld => ?_)
          clear hKK KK
          try simp only [Act.put, List.setIfInBounds_toArray, List.set_cons_zero, List.set_cons_succ]
          refine anyH_take (i := 6) (d := 72) (L' := #[true, true, true, true, true, true, true, true, true, false, false, false]) (v := ?v35) rfl rfl (by kernel_rfl) (fun _ _ _ h => h) (by rfl) ?hy35 (by assumption) ?rest35
          case hy35 => (intro wx hSw; (try dsimp only at hSw); (skip); go_simp; (try with_reducible rfl))
          simp only [Act.put, List.setIfInBounds_toArray, List.set_cons_zero, List.set_cons_succ]
          refine anyH_run (i := 9) (L' := #[true, true, true, true, true, true, true, true, true, true, false, false]) rfl (by kernel_rfl) (by rfl) (fun KK hKK => ?_)
          go_simp
          (refine (HSM.out _ hHeld).mono ?_; rintro e w3 ⟨⟨r, rfl, hr⟩, hm3⟩; have hm := Chg.k' hHeld hm3; replace hB1 := hd (hB1.out.stays hm3); replace hB2 := hd (hB2.out.stays hm3); (try go_simp))
          refine hKK.out _ _ (by assumption) (fun hHeld => ?_)
          clear hKK KK
          try simp only [Act.put, List.setIfInBounds_toArray, List.set_cons_zero, List.set_cons_succ]
          refine anyH_run (i := 10) (L' := #[true, true, true, true, true, true, true, true, true, true, true, false]) rfl (by kernel_rfl) (by rfl) (fun KK hKK => ?_)
          go_simp
          (skip)
          refine hKK.out _ _ (by assumption) (fun hHeld => ?_)
          clear hKK KK
          try simp only [Act.put, List.setIfInBounds_toArray, List.set_cons_zero, List.set_cons_succ]
          refine anyH_run (i := 11) (L' := #[true, true, true, true, true, true, true, true, true, true, true, true]) rfl (by kernel_rfl) (by rfl) (fun KK hKK => ?_)
          go_simp
          (skip)
          refine hKK.out _ _ (by assumption) (fun hHeld => ?_)
          clear hKK KK
          try simp only [Act.put, List.setIfInBounds_toArray, List.set_cons_zero, List.set_cons_succ]
          refine wpAnyH_done (by kernel_rfl) ?_ _
          skip
        case' rb14 =>
          go_simp
          (refine (HSM.out _ hHeld).mono ?_; rintro e w3 ⟨⟨r, rfl, hr⟩, hm3⟩; have hm := Chg.k' hHeld hm3; replace hB1 := hd (hB1.out.stays hm3); replace hB2 := hd (hB2.out.stays hm3); (try go_simp))
          refine hKK.out _ _ (by assumption) (fun hHeld => ?_)
          clear hKK KK
          try simp only [Act.put, List.setIfInBounds_toArray, List.set_cons_zero, List.set_cons_succ]
          refine anyH_run (i := 5) (L' := #[true, true, true, true, true, true, false, true, true, true, false, false]) rfl (by kernel_rfl) (by rfl) (fun KK hKK => ?_)
          (have t5 := run_str hB2.out; go_simp)
          refine hKK.out _ _ (by assumption) (fun hHeld => ?_)
          clear hKK KK
          try simp only [Act.put, List.setIfInBounds_toArray, List.set_cons_zero, List.set_cons_succ]
          refine anyH_run (i := 6) (L' := #[true, true, true, true, true, true, true, true, true, true, false, false]) rfl (by kernel_rfl) (by rfl) (fun KK hKK => ?_)
          go_simp
          (skip)
          refine hKK.out _ _ (by assumption) (fun hHeld => ?_)
          clear hKK KK
          try simp only [Act.put, List.setIfInBounds_toArray, List.set_cons_zero, List.set_cons_succ]
          refine anyH_run (i := 10) (L' := #[true, true, true, true, true, true, true, true, true, true, true, false]) rfl (by kernel_rfl) (by rfl) (fun KK hKK => ?_)
          go_simp
          (skip)
          refine hKK.out _ _ (by assumption) (fun hHeld => ?_)
          clear hKK KK
          try simp only [Act.put, List.setIfInBounds_toArray, List.set_cons_zero, List.set_cons_succ]
          refine anyH_run (i := 11) (L' := #[true, true, true, true, true, true, true, true, true, true, true, true]) rfl (by kernel_rfl) (by rfl) (fun KK hKK => ?_)
          go_simp
          (skip)
          refine hKK.out _ _ (by assumption) (fun hHeld => ?_)
          clear hKK KK
          try simp only [Act.put, List.setIfInBounds_toArray, List.set_cons_zero, List.set_cons_succ]
          refine wpAnyH_done (by kernel_rfl) ?_ _
          skip
      case' rb13 =>
        (have t5 := run_str hB2.out; go_simp)
        refine hKK.out _ _ (by assumption) (fun hHeld => ?_)
        clear hKK KK
        try simp only [Act.put, List.setIfInBounds_toArray, List.set_cons_zero, List.set_cons_succ]
        refine anyH_run2 (i := 2) (j := 9) (L1 := #[true, true, true, true, true, true, false, true, true, false, false, false]) (L2 := #[true, true, false, true, true, true, false, true, true, true, false, false]) rfl rfl (by kernel_rfl) (by rfl) (by rfl) (fun KK hKK => ?ra15) (fun KK hKK => ?rb15)
        case' ra15 =>
          (have t2 := run_str hB1.out; go_simp)
          refine hKK.out _ _ (by assumption) (fun hHeld => ?_)
          clear hKK KK
          try simp only [Act.put, List.setIfInBounds_toArray, List.set_cons_zero, List.set_cons_succ]
          refine anyH_take (i := 6) (d := 72) (L' := #[true, true, true, true, true, true, true, true, true, false, false, false]) (v := ?v45) rfl rfl (by kernel_rfl) (fun _ _ _ h => h) (by rfl) ?hy45 (by assumption) ?rest45
          case hy45 => (intro wx hSw; (try dsimp only at hSw); (skip); go_simp; (try with_reducible rfl))
          simp only [Act.put, List.setIfInBounds_toArray, List.set_cons_zero, List.set_cons_succ]
          refine anyH_run (i := 9) (L' := #[true, true, true, true, true, true, true, true, true, true, false, false]) rfl (by kernel_rfl) (by rfl) (fun KK hKK => ?_)
          go_simp
          (refine (HSM.out _ hHeld).mono ?_; rintro e w3 ⟨⟨r, rfl, hr⟩, hm3⟩; have hm := Chg.k' hHeld hm3; replace hB1 := hd (hB1.out.stays hm3); replace hB2 := hd (hB2.out.stays hm3); (try go_simp))
          refine hKK.out _ _ (by assumption) (fun hHeld => ?_)
          clear hKK KK
          try simp only [Act.put, List.setIfInBounds_toArray, List.set_cons_zero, List.set_cons_succ]
          refine anyH_run (i := 10) (L' := #[true, true, true, true, true, true, true, true, true, true, true, false]) rfl (by kernel_rfl) (by rfl) (fun KK hKK => ?_)
          go_simp
          (skip)
          refine hKK.out _ _ (by assumption) (fun hHeld => ?_)
          clear hKK KK
          try simp only [Act.put, List.setIfInBounds_toArray, List.set_cons_zero, List.set_cons_succ]
          refine anyH_run (i := 11) (L' := #[true, true, true, true, true, true, true, true, true, true, true, true]) rfl (by kernel_rfl) (by rfl) (fun KK hKK => ?_)
          go_simp
          (skip)
          refine hKK.out _ _ (by assumption) (fun hHeld => ?_)
          clear hKK KK
          try simp only [Act.put, List.setIfInBounds_toArray, List.set_cons_zero, List.set_cons_succ]
          refine wpAnyH_done (by kernel_rfl) ?_ _
          skip
        case' rb15 =>
          go_simp
          (refine (HSM.out _ hHeld).mono ?_; rintro e w3 ⟨⟨r, rfl, hr⟩, hm3⟩; have hm := Chg.k' hHeld hm3; replace hB1 := hd (hB1.out.stays hm3); replace hB2 := hd (hB2.out.stays hm3); (try go_simp))
          refine hKK.out _ _ (by assumption) (fun hHeld => ?_)
          clear hKK KK
          try simp only [Act.put, List.setIfInBounds_toArray, List.set_cons_zero, List.set_cons_succ]
          refine anyH_run (i := 2) (L' := #[true, true, true, true, true, true, false, true, true, true, false, false]) rfl (by kernel_rfl) (by rfl) (fun KK hKK => ?_)
          (have t2 := run_str hB1.out; go_simp)
          refine hKK.out _ _ (by assumption) (fun hHeld => ?_)
          clear hKK KK
          try simp only [Act.put, List.setIfInBounds_toArray, List.set_cons_zero, List.set_cons_succ]
          refine anyH_run (i := 6) (L' := #[true, true, true, true, true, true, true, true, true, true, false, false]) rfl (by kernel_rfl) (by rfl) (fun KK hKK => ?_)
          go_simp
          (skip)
          refine hKK.out _ _ (by assumption) (fun hHeld => ?_)
          clear hKK KK
          try simp only [Act.put, List.setIfInBounds_toArray, List.set_cons_zero, List.set_cons_succ]
          refine anyH_run (i := 10) (L' := #[true, true, true, true, true, true, true, true, true, true, true, false]) rfl (by kernel_rfl) (by rfl) (fun KK hKK => ?_)
          go_simp
          (skip)
          refine hKK.out _ _ (by assumption) (fun hHeld => ?_)
          clear hKK KK
          try simp only [Act.put, List.setIfInBounds_toArray, List.set_cons_zero, List.set_cons_succ]
          refine anyH_run (i := 11) (L' := #[true, true, true, true, true, true, true, true, true, true, true, true]) rfl (by kernel_rfl) (by rfl) (fun KK hKK => ?_)
          go_simp
          (skip)
          refine hKK.out _ _ (by assumption) (fun hHeld => ?_)
          clear hKK KK
          try simp only [Act.put, List.setIfInBounds_toArray, List.set_cons_zero, List.set_cons_succ]
          refine wpAnyH_done (by kernel_rfl) ?_ _
          skip
      case' rc13 =>
        go_simp
        (refine (HSM.out _ hHeld).mono ?_; rintro e w3 ⟨⟨r, rfl, hr⟩, hm3⟩; have hm := Chg.k' hHeld hm3; replace hB1 := hd (hB1.out.stays hm3); replace hB2 := hd (hB2.out.stays hm3); (try go_simp))
        refine hKK.out _ _ (by assumption) (fun hHeld => ?_)
        clear hKK KK
        try simp only [Act.put, List.setIfInBounds_toArray, List.set_cons_zero, List.set_cons_succ]
        refine anyH_run2 (i := 2) (j := 5) (L1 := #[true, true, true, true, true, false, false, true, true, true, false, false]) (L2 := #[true, true, false, true, true, true, false, true, true, true, false, false]) rfl rfl (by kernel_rfl) (by rfl) (by rfl) (fun KK hKK => ?ra16) (fun KK hKK => ?rb16)
        case' ra16 =>
          (have t2 := run_str hB1.out; go_simp)
          refine hKK.out _ _ (by assumption) (fun hHeld => ?_)
          clear hKK KK
          try simp only [Act.put, List.setIfInBounds_toArray, List.set_cons_zero, List.set_cons_succ]
          refine anyH_run (i := 5) (L' := #[true, true, true, true, true, true, false, true, true, true, false, false]) rfl (by kernel_rfl) (by rfl) (fun KK hKK => ?_)
          (have t5 := run_str hB2.out; go_simp)
          refine hKK.out _ _ (by assumption) (fun hHeld => ?_)
          clear hKK KK
          try simp only [Act.put, List.setIfInBounds_toArray, List.set_cons_zero, List.set_cons_succ]
          refine anyH_run (i := 6) (L' := #[true, true, true, true, true, true, true, true, true, true, false, false]) rfl (by kernel_rfl) (by rfl) (fun KK hKK => ?_)
          go_simp
          (skip)
          refine hKK.out _ _ (by assumption) (fun hHeld => ?_)
          clear hKK KK
          try simp only [Act.put, List.setIfInBounds_toArray, List.set_cons_zero, List.set_cons_succ]
          refine anyH_run (i := 10) (L' := #[true, true, true, true, true, true, true, true, true, true, true, false]) rfl (by kernel_rfl) (by rfl) (fun KK hKK => ?_)
          go_simp
          (skip)
          refine hKK.out _ _ (by assumption) (fun hHeld => ?_)
          clear hKK KK
          try simp only [Act.put, List.setIfInBounds_toArray, List.set_cons_zero, List.set_cons_succ]
          refine anyH_run (i := 11) (L' := #[true, true, true, true, true, true, true, true, true, true, true, true]) rfl (by kernel_rfl) (by rfl) (fun KK hKK => ?_)
          go_simp
          (skip)
          refine hKK.out _ _ (by assumption) (fun hHeld => ?_)
          clear hKK KK
          try simp only [Act.put, List.setIfInBounds_toArray, List.set_cons_zero, List.set_cons_succ]
          refine wpAnyH_done (by kernel_rfl) ?_ _
          skip
        case' rb16 =>
          (have t5 := run_str hB2.out; go_simp)
          refine hKK.out _ _ (by assumption) (fun hHeld => ?_)
          clear hKK KK
          try simp only [Act.put, List.setIfInBounds_toArray, List.set_cons_zero, List.set_cons_succ]
          refine anyH_run (i := 2) (L' := #[true, true, true, true, true, true, false, true, true, true, false, false]) rfl (by kernel_rfl) (by rfl) (fun KK hKK => ?_)
          (have t2 := run_str hB1.out; go_simp)
          refine hKK.out _ _ (by assumption) (fun hHeld => ?_)
          clear hKK KK
          try simp only [Act.put, List.setIfInBounds_toArray, List.set_cons_zero, List.set_cons_succ]
          refine anyH_run (i := 6) (L' := #[true, true, true, true, true, true, true, true, true, true, false, false]) rfl (by kernel_rfl) (by rfl) (fun KK hKK => ?_)
          go_simp
          (skip)
          refine hKK.out _ _ (by assumption) (fun hHeld => ?_)
          clear hKK KK
          try simp only [Act.put, List.setIfInBounds_toArray, List.set_cons_zero, List.set_cons_succ]
          refine anyH_run (i := 10) (L' := #[true, true, true, true, true, true, true, true, true, true, true, false]) rfl (by kernel_rfl) (by rfl) (fun KK hKK => ?_)
          go_simp
          (skip)
          refine hKK.out _ _ (by assumption) (fun hHeld => ?_)
          clear hKK KK
          try simp only [Act.put, List.setIfInBounds_toArray, List.set_cons_zero, List.set_cons_succ]
          refine anyH_run (i := 11) (L' := #[true, true, true, true, true, true, true, true, true, true, true, true]) rfl (by kernel_rfl) (by rfl) (fun KK hKK => ?_)
          go_simp
          (skip)
          refine hKK.out _ _ (by assumption) (fun hHeld => ?_)
          clear hKK KK
          try simp only [Act.put, List.setIfInBounds_toArray, List.set_cons_zero, List.set_cons_succ]
          refine wpAnyH_done (by kernel_rfl) ?_ _
          skip
    all_goals
      have hbool : ((la == lb) == r) = true := by rw [beq_iff_eq, Bool.eq_iff_iff, beq_iff_eq, hr]; exact HE.out
      have HF := hd (HC.out.k hHeld)
      have HBO := hd hbool
      clear hbool hHeld hm hB1 hB2 t2 t5 hr hm1 hm2 hm3 ho1 ho2 HWA HWB HSM
      go_wp2_with (fail)
      rw [HP.out, HBO.out]
      exact ⟨rfl, HF.out⟩
end Go.Proofs.YtpadflhffiiglaaGreat
