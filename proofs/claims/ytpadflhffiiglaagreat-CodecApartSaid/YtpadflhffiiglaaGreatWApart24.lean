/- Words and walks that Apart rests on: WorldS, PackR, PackS, CodecR, CodecRS, CodecRP, CodecRA, CodecRO. -/
import Derived.Test.YtpadflhffiiglaaGreatWApart15
import Derived.Test.YtpadflhffiiglaaGreatWApart22
import Derived.Test.YtpadflhffiiglaaGreatWApart1
import Derived.Test.YtpadflhffiiglaaGreatWApart7
import Derived.Laws.Rows
import Derived.Laws.Tables
import Derived.Test.YtpadflhffiiglaaGreatWApart23
/- world.sameBody. -/
namespace Go.Proofs.YtpadflhffiiglaaGreat
open Go.RowKit

def sameB (x y : Bdy) : Bool := decide (x.id = y.id) && (decide (x.pos.1 = y.pos.1) && decide (x.pos.2 = y.pos.2)) && (decide (x.vel.1 = y.vel.1) && decide (x.vel.2 = y.vel.2)) && decide (x.angle = y.angle) && decide (x.spin = y.spin) && decide (x.density = y.density) && sameS x.shape y.shape
set_option maxRecDepth 100000 in
set_option maxHeartbeats 8000000 in
theorem BSame_any (w : World) (x y : Bdy) (pv qv : Value) (hx : VsS w pv x.shape.p) (hy : VsS w qv y.shape.p) : Calls Tryz.prog 32 #[vB x pv, vB y qv] w fun e w' => e = .returned (.bool (sameB x y)) ∧ Chg [] w w' := by
  obtain ⟨i, ⟨px, py⟩, ⟨vx, vy⟩, an, sp, de, ⟨sk, sr, p⟩⟩ := x
  obtain ⟨i2, ⟨px2, py2⟩, ⟨vx2, vy2⟩, an2, sp2, de2, ⟨sk2, sr2, p2⟩⟩ := y
  simp only at hx hy
  have hc1 := fun W (hW : Chg [] w W) => SSame_any W ⟨sk, sr, p⟩ ⟨sk2, sr2, p2⟩ pv qv (hx.k hW) (hy.k hW)
  unfold sameB vB
  unfold vS at hc1
  simp only at hc1 ⊢
  generalize sameS ⟨sk, sr, p⟩ ⟨sk2, sr2, p2⟩ = s at *
  obtain ⟨ao, c, rfl, -⟩ := hx.form
  obtain ⟨ao2, c2, rfl, -⟩ := hy.form
  clear hx hy
  generalize p.length = x1 at *
  generalize p2.length = x2 at *
  have hcb := ((Chg.refl [] w).alloc (.cells #[.int .i64 i, .int .i64 px, .int .i64 py, .int .i64 vx, .int .i64 vy, .int .i64 an, .int .i64 sp, .int .i64 de, .int .i64 sk, .int .i64 sr, .slice ao x1 c] 34)).alloc (.cells #[.int .i64 i2, .int .i64 px2, .int .i64 py2, .int .i64 vx2, .int .i64 vy2, .int .i64 an2, .int .i64 sp2, .int .i64 de2, .int .i64 sk2, .int .i64 sr2, .slice ao2 x2 c2] 34)
  have hk1 := (Blk.new w #[.int .i64 i, .int .i64 px, .int .i64 py, .int .i64 vx, .int .i64 vy, .int .i64 an, .int .i64 sp, .int .i64 de, .int .i64 sk, .int .i64 sr, .slice ao x1 c] 34).alloc (.cells #[.int .i64 i2, .int .i64 px2, .int .i64 py2, .int .i64 vx2, .int .i64 vy2, .int .i64 an2, .int .i64 sp2, .int .i64 de2, .int .i64 sk2, .int .i64 sr2, .slice ao2 x2 c2] 34)
  have hk2 := Blk.new (w.alloc (.cells #[.int .i64 i, .int .i64 px, .int .i64 py, .int .i64 vx, .int .i64 vy, .int .i64 an, .int .i64 sp, .int .i64 de, .int .i64 sk, .int .i64 sr, .slice ao x1 c] 34)) #[.int .i64 i2, .int .i64 px2, .int .i64 py2, .int .i64 vx2, .int .i64 vy2, .int .i64 an2, .int .i64 sp2, .int .i64 de2, .int .i64 sk2, .int .i64 sr2, .slice ao2 x2 c2] 34
  rw [World.size_alloc] at hk2
  have hc1 := hc1 _ hcb
  go_enter Tryz.func32, Tryz.ntmps32
  go_upto_region 1 with (fail)
  generalize (w.alloc (.cells #[.int .i64 i, .int .i64 px, .int .i64 py, .int .i64 vx, .int .i64 vy, .int .i64 an, .int .i64 sp, .int .i64 de, .int .i64 sk, .int .i64 sr, .slice ao x1 c] 34)).alloc (.cells #[.int .i64 i2, .int .i64 px2, .int .i64 py2, .int .i64 vx2, .int .i64 vy2, .int .i64 an2, .int .i64 sp2, .int .i64 de2, .int .i64 sk2, .int .i64 sr2, .slice ao2 x2 c2] 34) = w0 at *
  generalize w.heap.size + 1 = bk2 at *
  generalize w.heap.size = bk1 at *
  have HQ : Hd (∀ wx, Chg [] w0 wx → (wx.cell? ⟨bk1, 0, none⟩ = some (.int .i64 i) ∧ wx.cell? ⟨bk1, 1, none⟩ = some (.int .i64 px) ∧ wx.cell? ⟨bk1, 2, none⟩ = some (.int .i64 py) ∧ wx.cell? ⟨bk1, 3, none⟩ = some (.int .i64 vx) ∧ wx.cell? ⟨bk1, 4, none⟩ = some (.int .i64 vy) ∧ wx.cell? ⟨bk1, 5, none⟩ = some (.int .i64 an) ∧ wx.cell? ⟨bk1, 6, none⟩ = some (.int .i64 sp) ∧ wx.cell? ⟨bk1, 7, none⟩ = some (.int .i64 de) ∧ wx.cell? ⟨bk1, 8, none⟩ = some (.int .i64 sk) ∧ wx.cell? ⟨bk1, 9, none⟩ = some (.int .i64 sr) ∧ wx.cell? ⟨bk1, 10, none⟩ = some (.slice ao x1 c) ∧ wx.cell? ⟨bk2, 0, none⟩ = some (.int .i64 i2) ∧ wx.cell? ⟨bk2, 1, none⟩ = some (.int .i64 px2) ∧ wx.cell? ⟨bk2, 2, none⟩ = some (.int .i64 py2) ∧ wx.cell? ⟨bk2, 3, none⟩ = some (.int .i64 vx2) ∧ wx.cell? ⟨bk2, 4, none⟩ = some (.int .i64 vy2) ∧ wx.cell? ⟨bk2, 5, none⟩ = some (.int .i64 an2) ∧ wx.cell? ⟨bk2, 6, none⟩ = some (.int .i64 sp2) ∧ wx.cell? ⟨bk2, 7, none⟩ = some (.int .i64 de2) ∧ wx.cell? ⟨bk2, 8, none⟩ = some (.int .i64 sk2) ∧ wx.cell? ⟨bk2, 9, none⟩ = some (.int .i64 sr2) ∧ wx.cell? ⟨bk2, 10, none⟩ = some (.slice ao2 x2 c2))) := hd fun wx hx => ⟨(hk1.k hx).cell 0, (hk1.k hx).cell 1, (hk1.k hx).cell 2, (hk1.k hx).cell 3, (hk1.k hx).cell 4, (hk1.k hx).cell 5, (hk1.k hx).cell 6, (hk1.k hx).cell 7, (hk1.k hx).cell 8, (hk1.k hx).cell 9, (hk1.k hx).cell 10, (hk2.k hx).cell 0, (hk2.k hx).cell 1, (hk2.k hx).cell 2, (hk2.k hx).cell 3, (hk2.k hx).cell 4, (hk2.k hx).cell 5, (hk2.k hx).cell 6, (hk2.k hx).cell 7, (hk2.k hx).cell 8, (hk2.k hx).cell 9, (hk2.k hx).cell 10⟩
  have HCB := hd hcb
  clear hcb hk1 hk2
  obtain ⟨q0, q1, q2, q3, q4, q5, q6, q7, q8, q9, q10, u0, u1, u2, u3, u4, u5, u6, u7, u8, u9, u10⟩ := HQ.out w0 (Chg.refl _ _)
  go_wp2_with (first
      | (go_at_call 67; refine hc1.mono ?_; rintro e w1 ⟨rfl, hk1⟩))
  all_goals (first | go_ret | skip)
  all_goals (try refine ⟨ret_of (congrArg Value.bool ?_), (by first | exact HCB.out.k hk1 | exact HCB.out)⟩)
  all_goals clear HQ hc1 HCB q0 q1 q2 q3 q4 q5 q6 q7 q8 q9 q10 u0 u1 u2 u3 u4 u5 u6 u7 u8 u9 u10
  all_goals (first | (simp_all; done) | (simp_all; rfl))
end Go.Proofs.YtpadflhffiiglaaGreat

/- The methods of pack.Reader. -/
namespace Go.Proofs.YtpadflhffiiglaaGreat
open Go.RowKit

/-- The reader at block b has l before it; has it failed? -/
def Rdr (w : World) (b : Nat) (l : List UInt8) (bad : Bool) : Prop := ∃ v, Blk w b #[v, .bool bad] 144 ∧ Bs w v l ∧ (0 < l.length → v.ownBlock ≠ some b)

theorem Done_any (b : Nat) (l : List UInt8) (bad : Bool) (w : World) (hr : Rdr w b l bad) :
    Calls Tryz.prog 48 #[.pointer (some ⟨b, 0, none⟩)] w fun e w' => e = .returned (.bool (!bad && l.isEmpty)) ∧ w = w' := by
  obtain ⟨v, hb, hv, hne⟩ := hr
  obtain ⟨ao, cap, b', off, rfl, -⟩ := hv.open
  have c0 := hb.cell 0
  have c1 := hb.cell 1
  simp at c0 c1
  cases bad
  · go_enter Tryz.func48, Tryz.ntmps48
    go_wp2
    go_ret
    exact ⟨ret_of (by cases l <;> simp; omega), rfl⟩
  · go_enter Tryz.func48, Tryz.ntmps48
    go_wp2
    go_ret
    exact ⟨rfl, rfl⟩

end Go.Proofs.YtpadflhffiiglaaGreat

/- pack.Reader as a function on what stands before it and whether it has failed. -/
namespace Go.Proofs.YtpadflhffiiglaaGreat
open Go.RowKit

abbrev St := List UInt8 × Bool
def failS : St := ([], true)
def numR (n : Nat) (s : St) : Int × St := if s.1.length < n then (0, failS) else (rdNum (s.1.take n), (s.1.drop n, s.2))
def countR (m : Int) (s : St) : Int × St := if (numR 2 s).1 > m then (0, failS) else numR 2 s
/-- The reader at block b; it and its bytes lie below base. -/
def RdB (base : Nat) (w : World) (b : Nat) (s : St) : Prop := ∃ v, Blk w b #[v, .bool s.2] 144 ∧ Bs w v s.1 ∧ b < base ∧ (0 < s.1.length → ∀ k, v.ownBlock = some k → k < base ∧ k ≠ b)
theorem RdB.keep {base : Nat} {S : List Nat} {w w' : World} {b : Nat} {s : St} (h : RdB base w b s) (hc : Chg S w w') (hS : ∀ x ∈ S, base ≤ x) : RdB base w' b s := by
  obtain ⟨v, h1, h2, h3, h4⟩ := h
  refine ⟨v, h1.chg hc (fun hx => ?_), h2.keep hc (fun hp k hk hx => ?_), h3, h4⟩
  · have := hS _ hx; omega
  · have := hS _ hx; have := (h4 hp k hk).1; omega
theorem RdB.k {base : Nat} {w w' : World} {b : Nat} {s : St} (h : RdB base w b s) (hc : Chg [] w w') : RdB base w' b s := h.keep hc (by simp)
theorem RdB.up {base base' : Nat} {w : World} {b : Nat} {s : St} (h : RdB base w b s) (hb : base ≤ base') : RdB base' w b s := by
  obtain ⟨v, h1, h2, h3, h4⟩ := h
  exact ⟨v, h1, h2, by omega, fun hp k hk => ⟨by have := (h4 hp k hk).1; omega, (h4 hp k hk).2⟩⟩
theorem RdB.down {base : Nat} {w : World} {b : Nat} {s : St} (h : RdB base w b s) : RdB w.heap.size w b s := by
  obtain ⟨v, h1, h2, h3, h4⟩ := h
  exact ⟨v, h1, h2, h1.lt, fun hp k hk => ⟨h2.lt hp k hk, (h4 hp k hk).2⟩⟩
theorem RdB.lt {base : Nat} {w : World} {b : Nat} {s : St} (h : RdB base w b s) : b < base := let ⟨_, _, _, h, _⟩ := h; h
theorem RdB.rdr {base : Nat} {w : World} {b : Nat} {s : St} (h : RdB base w b s) : Rdr w b s.1 s.2 := by
  obtain ⟨v, h1, h2, h3, h4⟩ := h
  exact ⟨v, h1, h2, fun hp he => (h4 hp b he).2 rfl⟩

theorem NewB_any (v : Value) (l : List UInt8) (w : World) (hl : Bs w v l) :
    Calls Tryz.prog 38 #[v] w fun e w' => e = .returned (.pointer (some ⟨w.heap.size, 0, none⟩)) ∧ RdB (w.heap.size + 1) w' w.heap.size (l, false) ∧ Chg [] w w' := by
  obtain ⟨ao, cap, b, off, rfl, -⟩ := hl.open
  go_enter Tryz.func38, Tryz.ntmps38
  go_wp2
  go_ret
  refine ⟨rfl, ⟨_, Blk.new _ _ _, hl.alloc _, by omega, fun hp k hk => ?_⟩, (Chg.refl _ _).alloc _⟩
  have := hl.lt hp _ hk
  omega
theorem FailB_any (base b : Nat) (s : St) (w : World) (hr : RdB base w b s) :
    Calls Tryz.prog 76 #[.pointer (some ⟨b, 0, none⟩)] w fun e w' => e = .returned (.tuple #[]) ∧ RdB base w' b failS ∧ Chg [b] w w' := by
  obtain ⟨v, hb, hv, hlt, hne⟩ := hr
  have c0 := hb.cell 0
  have c1 := hb.cell 1
  have f0 := hb.free 0
  have f1 := hb.free 1
  simp at c0 c1
  go_enter Tryz.func76, Tryz.ntmps76
  go_wp2
  go_end0
  refine ⟨rfl, ⟨.slice none 0 0, ?_, OwB.bs (OwB.nil _ 0), hlt, by simp [failS]⟩, ?_⟩
  · exact (hb.set 0 _).set 1 _
  · exact ((Chg.refl _ _).setCell _ _ (by simp)).setCell _ _ (by simp)
theorem DoneB_any (base b : Nat) (s : St) (w : World) (hr : RdB base w b s) :
    Calls Tryz.prog 48 #[.pointer (some ⟨b, 0, none⟩)] w fun e w' => e = .returned (.bool (!s.2 && s.1.isEmpty)) ∧ w = w' := Done_any b s.1 s.2 w hr.rdr

set_option maxHeartbeats 800000 in
theorem NumB_long (n : Nat) (base b : Nat) (s : St) (w : World) (hr : RdB base w b s) (h8 : n ≤ 8) (hn : n ≤ s.1.length) :
    Calls Tryz.prog 39 #[.pointer (some ⟨b, 0, none⟩), .int .i64 n] w fun e w' => e = .returned (.int .i64 (rdNum (s.1.take n))) ∧ RdB base w' b (s.1.drop n, s.2) ∧ Chg [b] w w' := by
  obtain ⟨l, bad⟩ := s
  simp only at hn ⊢
  obtain ⟨v, hb, hv, hlt0, hne⟩ := hr
  simp only at hb hv hne
  obtain ⟨ao, cap, b', off, rfl, hcap, hbig, -, hao, hc⟩ := hv.open
  have c0 := hb.cell 0
  have f0 := hb.free 0
  simp at c0
  go_enter Tryz.func39, Tryz.ntmps39
  go_wp2_with fail
  go_loop [5, 6, 17] (fun t _ i => ∃ k : Nat, k ≤ n ∧ i = .int .i64 k ∧ t = .int .i64 (wrap64 (rdB (l.take k)))) (fun _ _ i => n - (intOf i).toNat)
  case atStart => exact ⟨0, by omega, rfl, by simp [rdB, wrap64]⟩
  case round =>
    obtain ⟨k, hk, rfl, rfl⟩ := hrel
    by_cases hlt : k < n
    · obtain rfl := hao (by omega)
      have hcell := hc k (by omega)
      have hS := hd (rdStep l k (by omega) (by omega))
      generalize rdB (l.take k) = s1 at *
      generalize l[k] = x at *
      clear hc
      go_wp2
      go_round
      case rel => exact ⟨k + 1, by omega, by go_num, by rw [hS.out]⟩
      case measure => simp [intOf]; omega
    · have hkn : k = n := by omega
      subst hkn
      go_wp2_with (refine wpCutB rfl _ _ _ rfl _ _ rfl hv k l.length (.inr ⟨.i64, rfl⟩) (.inl ⟨rfl, rfl⟩) (by omega) (by omega) ?_; intro ao1 c1 hcut hblk1)
      go_ret
      rw [List.take_of_length_le (by simp)] at hcut
      refine ⟨rfl, ⟨_, hb.set 0 _, ?_, hlt0, ?_⟩, (Chg.refl _ _).setCell _ _ (by simp)⟩
      · exact hcut.setCell _ _ (fun hp he => (hne (by simp at hp; omega) _ (hblk1 _ he)).2 rfl)
      · exact fun hp k' he => hne (by simp at hp; omega) _ (hblk1 _ he)
theorem NumB_any (n : Nat) (base b : Nat) (s : St) (w : World) (hr : RdB base w b s) (h8 : n ≤ 8) :
    Calls Tryz.prog 39 #[.pointer (some ⟨b, 0, none⟩), .int .i64 n] w fun e w' => e = .returned (.int .i64 (numR n s).1) ∧ RdB base w' b (numR n s).2 ∧ Chg [b] w w' := by
  by_cases h : s.1.length < n
  · have e1 : numR n s = (0, failS) := if_pos h
    rw [e1]
    have hr' := hr
    obtain ⟨v, hb, hv, hlt, hne⟩ := hr
    obtain ⟨ao, cap, b', off, rfl, -⟩ := hv.open
    have c0 := hb.cell 0
    simp at c0
    clear e1
    go_enter Tryz.func39, Tryz.ntmps39
    go_wp2_with fail
    refine (FailB_any base b s _ hr').mono ?_
    rintro e w1 ⟨rfl, h1, h2⟩
    go_wp2_with fail
    go_ret
    exact ⟨rfl, h1, h2⟩
  · have e1 : numR n s = (rdNum (s.1.take n), (s.1.drop n, s.2)) := if_neg h
    rw [e1]
    exact NumB_long n base b s w hr h8 (by omega)
theorem FB_any (base b : Nat) (s : St) (w : World) (hr : RdB base w b s) :
    Calls Tryz.prog 77 #[.pointer (some ⟨b, 0, none⟩)] w fun e w' => e = .returned (.int .i64 (numR 8 s).1) ∧ RdB base w' b (numR 8 s).2 ∧ Chg [b] w w' := by
  go_enter Tryz.func77, Tryz.ntmps77
  go_wp2_with fail
  refine (NumB_any 8 base b s _ hr (by omega)).mono ?_
  rintro e w1 ⟨rfl, h1, h2⟩
  go_wp2_with fail
  go_ret
  exact ⟨rfl, h1, h2⟩
theorem CountB_any (m : Int) (base b : Nat) (s : St) (w : World) (hr : RdB base w b s) :
    Calls Tryz.prog 42 #[.pointer (some ⟨b, 0, none⟩), .int .i64 m] w fun e w' => e = .returned (.int .i64 (countR m s).1) ∧ RdB base w' b (countR m s).2 ∧ Chg [b] w w' := by
  have hc := NumB_any 2 base b s w hr (by omega)
  by_cases h : (numR 2 s).1 > m
  · rw [show countR m s = (0, failS) from if_pos h]
    generalize numR 2 s = z at *
    go_enter Tryz.func42, Tryz.ntmps42
    go_wp2_with fail
    refine hc.mono ?_
    rintro e w1 ⟨rfl, h1, h2⟩
    go_wp2_with (go_at_call 76; refine (FailB_any base b _ _ h1).mono ?_; rintro e w2 ⟨rfl, h3, h4⟩)
    go_ret
    exact ⟨rfl, h3, h2.trans h4 (fun x hx _ => hx)⟩
  · rw [show countR m s = numR 2 s from if_neg h]
    generalize numR 2 s = z at *
    go_enter Tryz.func42, Tryz.ntmps42
    go_wp2_with fail
    refine hc.mono ?_
    rintro e w1 ⟨rfl, h1, h2⟩
    go_wp2_with fail
    go_ret
    exact ⟨rfl, h1, h2⟩
end Go.Proofs.YtpadflhffiiglaaGreat

/- Reader.V; codec.reader: shapes. -/
namespace Go.Proofs.YtpadflhffiiglaaGreat
open Go.RowKit

def plR (s : St) : V2 × St := (((numR 8 s).1, (numR 8 (numR 8 s).2).1), (numR 8 (numR 8 s).2).2)
set_option maxHeartbeats 800000 in
theorem VB_any (base b : Nat) (s : St) (w : World) (hr : RdB base w b s) (hbase : base ≤ w.heap.size) :
    Calls Tryz.prog 40 #[.pointer (some ⟨b, 0, none⟩)] w fun e w' => e = .returned (vV (plR s).1) ∧ RdB base w' b (plR s).2 ∧ Chg [b] w w' := by
  unfold vV plR
  simp only
  have hc1 := fun W (h : RdB base W b s) => FB_any base b s W h
  have hc2 := fun W (h : RdB base W b (numR 8 s).2) => FB_any base b (numR 8 s).2 W h
  generalize numR 8 (numR 8 s).2 = z at *
  generalize numR 8 s = y at *
  have hlt := hr.lt
  have hk := Blk.new w #[.int .i64 0, .int .i64 0] 27
  have hr0 := hr.k ((Chg.refl [] w).alloc (.cells #[.int .i64 0, .int .i64 0] 27))
  have hc0 : Chg [b] w (w.alloc (.cells #[.int .i64 0, .int .i64 0] 27)) := (Chg.refl [b] w).alloc _
  go_enter Tryz.func40, Tryz.ntmps40
  go_wp2_with fail
  refine (hc1 _ hr0).mono ?_
  rintro e w1 ⟨rfl, hr1, hm1⟩
  have hk1 := hk.chg hm1 (by simp; omega)
  have hm1' := hc0.trans hm1 (fun x hx _ => hx)
  go_wp2_with fail
  refine (hc2 _ hr1).mono ?_
  rintro e w2 ⟨rfl, hr2, hm2⟩
  have hk2 := hk1.chg hm2 (by simp; omega)
  have hm2' := hm1'.trans hm2 (fun x hx _ => hx)
  have q0 := hk2.cell 0
  have q1 := hk2.cell 1
  have f0 := hk2.free 0
  have f1 := hk2.free 1
  simp at q0 q1
  clear hk hr0 hc0 hk1 hm1' hr1 hm1 hm2 hc1 hc2
  go_wp2_with fail
  have hk3 := (hk2.set 0 (.int .i64 y.1)).set 1 (.int .i64 z.1)
  have p0 := hk3.cell 0
  have p1 := hk3.cell 1
  simp at p0 p1
  refine bodyPost_ret (v := .agg #[.int .i64 y.1, .int .i64 z.1]) ?_ rfl ?_
  · simp only [results]
    go_simp
  · have hX : Chg [w.heap.size] w2 ((w2.setCell ⟨w.heap.size, 0, none⟩ (.int .i64 y.1)).setCell ⟨w.heap.size, 1, none⟩ (.int .i64 z.1)) := ((Chg.refl _ _).setCell _ _ (by simp)).setCell _ _ (by simp)
    exact ⟨rfl, hr2.keep hX (by simp; omega), (hm2'.setCell _ _ (by simp)).setCell _ _ (by simp)⟩
end Go.Proofs.YtpadflhffiiglaaGreat

/- codec.reader: shapes. -/
namespace Go.Proofs.YtpadflhffiiglaaGreat
open Go.RowKit

def psR : Nat → St → List V2 × St
  | 0, s => ([], s)
  | n + 1, s => if s.2 = true then ([], s) else ((plR s).1 :: (psR n (plR s).2).1, (psR n (plR s).2).2)
def shapeR (s : St) : Shp × St :=
  if (numR 1 s).1 = 1 then (⟨1, (numR 8 (numR 1 s).2).1, []⟩, (numR 8 (numR 1 s).2).2)
  else (⟨(numR 1 s).1, 0, (psR (numR 1 (numR 1 s).2).1.toNat (numR 1 (numR 1 s).2).2).1⟩, (psR (numR 1 (numR 1 s).2).1.toNat (numR 1 (numR 1 s).2).2).2)
theorem rowV : RowT Tryz.prog 30 27 2 16 := RowT.mk (z := .agg #[.int .i64 0, .int .i64 0]) (by kernel_rfl) (by kernel_rfl) rfl (by decide)

end Go.Proofs.YtpadflhffiiglaaGreat

/- codec.reader: shapes with corners. -/
namespace Go.Proofs.YtpadflhffiiglaaGreat
open Go.RowKit

/-- What stands while the corners are read: the shape's record, the row of corners, the reader, the call's own records. -/
structure Cor (w0 : World) (base b xb rb tb : Nat) (kd : Int) (v : Value) (A : List V2) (cur : World) (st : St) : Prop where
  t : Blk cur tb #[.int .i64 kd, .int .i64 0, v] 32
  o : cur.ownsRow xb 27 2 v A.length (A.flatMap cV)
  r : RdB base cur b st
  x : Blk cur xb #[.pointer (some ⟨b, 0, none⟩)] 106
  q : Blk cur rb #[.int .i64 0, .int .i64 0, .slice none 0 0] 32
  c : Chg [b] w0 cur
theorem Cor.step {w0 : World} {base b xb rb tb : Nat} {kd : Int} {v : Value} {A : List V2} {cur cur' : World} {st st' : St} (h : Cor w0 base b xb rb tb kd v A cur st) (hm : Chg [b] cur cur') (hr : RdB base cur' b st') (hlo : b < xb ∧ xb < rb ∧ rb < tb) : Cor w0 base b xb rb tb kd v A cur' st' :=
  ⟨h.t.chg hm (by simp; omega), ownsRow_chg h.o hm (fun k hk => by have := (World.ownsRow.lt h.o k hk).1; simp; omega), hr, h.x.chg hm (by simp; omega), h.q.chg hm (by simp; omega), h.c.trans hm (fun x hx _ => hx)⟩
theorem Cor.k {w0 : World} {base b xb rb tb : Nat} {kd : Int} {v : Value} {A : List V2} {cur cur' : World} {st : St} (h : Cor w0 base b xb rb tb kd v A cur st) (hm : Chg [] cur cur') : Cor w0 base b xb rb tb kd v A cur' st :=
  ⟨h.t.k hm, ownsRow_k h.o hm, h.r.k hm, h.x.k hm, h.q.k hm, h.c.k' hm⟩
theorem Cor.lit {w0 : World} {base b xb rb tb : Nat} {kd : Int} {v : Value} {A : List V2} {cur : World} {st : St} (h : Cor w0 base b xb rb tb kd v A cur st) (px py : Int) :
    Cor w0 base b xb rb tb kd v A (cur.alloc (.cells #[.int .i64 px, .int .i64 py] 27)) st ∧ Rd (cur.alloc (.cells #[.int .i64 px, .int .i64 py] 27)) 2 (.slice (some ⟨cur.heap.size, 0, none⟩) 1 1) 1 [.int .i64 px, .int .i64 py] :=
  ⟨h.k ((Chg.refl [] _).alloc _), Rd.lit cur 2 1 _ _ _ rfl rfl (by decide)⟩
theorem Cor.app {w0 : World} {base b xb rb tb : Nat} {kd : Int} {v u : Value} {A : List V2} {cur w6 : World} {st : St} {px py : Int} (h : Cor w0 base b xb rb tb kd v A cur st) (hg : cur.grownBy w6 v.ownBlock) (hr : w6.ownsRow xb 27 2 u (A.length + 1) (A.flatMap cV ++ [.int .i64 px, .int .i64 py])) (hlo : rb < tb ∧ xb < rb ∧ base ≤ xb ∧ b < xb ∧ xb = w0.heap.size) :
    Cor w0 base b xb rb tb kd u (A ++ [(px, py)]) (w6.setCell ⟨tb, 2, none⟩ u) st := by
  have e1 := ownsRow_apart h.o h.t (by decide)
  have e2 := ownsRow_apart h.o h.x (by decide)
  have e3 := ownsRow_apart h.o h.q (by decide)
  have t6 := h.t.grown hg e1
  have x6 := h.x.grown hg e2
  have q6 := h.q.grown hg e3
  have r6 := h.r.keep ((Chg.refl v.ownBlock.toList cur).grown hg (fun k hk _ => by simp [hk])) (fun k hk => by have := (World.ownsRow.lt h.o k (by simpa using hk)).1; omega)
  refine ⟨?_, ?_, ?_, ?_, ?_, ?_⟩
  · have := t6.set 2 u; simpa using this
  · have := ownsRow_set hr t6 (by decide) 2 u
    rw [List.length_append, List.flatMap_append]
    exact this
  · exact r6.keep ((Chg.refl [tb] w6).setCell ⟨tb, 2, none⟩ u (by simp)) (by simp; omega)
  · exact x6.other (by simp; omega) _
  · exact q6.other (by simp; omega) _
  · exact (h.c.grown hg (fun k hk hl => by have := (World.ownsRow.lt h.o k hk).1; omega)).setCell _ _ (fun hx => by simp at hx; omega)
theorem psR_go (m : Nat) (st : St) (h : st.2 = false) : psR (m + 1) st = ((plR st).1 :: (psR m (plR st).2).1, (psR m (plR st).2).2) := by
  simp only [psR, h, Bool.false_eq_true, if_false]
end Go.Proofs.YtpadflhffiiglaaGreat

/- codec.reader.shape; what stands while an order is read. -/
namespace Go.Proofs.YtpadflhffiiglaaGreat
open Go.RowKit

/-- What stands while an order is read: its record, the reader, the call's own records. -/
structure Ost (w0 : World) (base b xb rb tb : Nat) (cs : Array Value) (cur : World) (st : St) : Prop where
  t : Blk cur tb cs 120
  r : RdB base cur b st
  x : Blk cur xb #[.pointer (some ⟨b, 0, none⟩)] 106
  q : ∃ zs : Array Value, zs.size = 15 ∧ Blk cur rb zs 120
  c : Chg [b] w0 cur
  lo : rb < tb ∧ xb < rb ∧ base ≤ xb ∧ b < xb ∧ xb = w0.heap.size
theorem Ost.step {w0 : World} {base b xb rb tb : Nat} {cs : Array Value} {cur cur' : World} {st st' : St} (h : Ost w0 base b xb rb tb cs cur st) (hm : Chg [b] cur cur') (hr : RdB base cur' b st') : Ost w0 base b xb rb tb cs cur' st' := by
  have hl := h.lo
  obtain ⟨zs, hz, hq⟩ := h.q
  exact ⟨h.t.chg hm (by simp; omega), hr, h.x.chg hm (by simp; omega), ⟨zs, hz, hq.chg hm (by simp; omega)⟩, h.c.trans hm (fun x hx _ => hx), hl⟩
theorem Ost.k {w0 : World} {base b xb rb tb : Nat} {cs : Array Value} {cur cur' : World} {st : St} (h : Ost w0 base b xb rb tb cs cur st) (hm : Chg [] cur cur') : Ost w0 base b xb rb tb cs cur' st := by
  obtain ⟨zs, hz, hq⟩ := h.q
  exact ⟨h.t.k hm, h.r.k hm, h.x.k hm, ⟨zs, hz, hq.k hm⟩, h.c.k' hm, h.lo⟩
theorem Ost.set {w0 : World} {base b xb rb tb : Nat} {cs : Array Value} {cur : World} {st : St} (h : Ost w0 base b xb rb tb cs cur st) (j : Nat) (u : Value) {cs' : Array Value} (e : cs.setIfInBounds j u = cs') : Ost w0 base b xb rb tb cs' (cur.setCell ⟨tb, j, none⟩ u) st := by
  have hl := h.lo
  subst e
  obtain ⟨zs, hz, hq⟩ := h.q
  have hs := (Chg.refl [tb] cur).setCell ⟨tb, j, none⟩ u (by simp)
  exact ⟨h.t.set j u, h.r.keep hs (by simp; omega), h.x.other (by simp; omega) _, ⟨zs, hz, hq.other (by simp; omega) _⟩, h.c.setCell _ _ (fun hx => by simp at hx; omega), hl⟩
end Go.Proofs.YtpadflhffiiglaaGreat

/- codec.reader.order as a function; the kinds of one number. -/
namespace Go.Proofs.YtpadflhffiiglaaGreat
open Go.RowKit

end Go.Proofs.YtpadflhffiiglaaGreat
