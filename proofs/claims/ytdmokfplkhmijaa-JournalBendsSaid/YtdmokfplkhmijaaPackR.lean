/- The methods of pack.Reader. -/
import Derived.Test.YtdmokfplkhmijaaSlice
import Derived.Test.YtdmokfplkhmijaaPackMath
namespace Go.Proofs.Ytdmokfplkhmijaa
open Go.RowKit

/-- The reader at block b has l before it; has it failed? -/
def Rdr (w : World) (b : Nat) (l : List UInt8) (bad : Bool) : Prop := ∃ v, Blk w b #[v, .bool bad] 169 ∧ Bs w v l ∧ (0 < l.length → v.ownBlock ≠ some b)

theorem New_any (v : Value) (l : List UInt8) (w : World) (hl : Bs w v l) :
    Calls Try.prog 94 #[v] w fun e w' => ∃ b, e = .returned (.pointer (some ⟨b, 0, none⟩)) ∧ w.heap.size ≤ b ∧ Rdr w' b l false ∧ Chg [] w w' := by
  obtain ⟨ao, cap, b, off, rfl, -⟩ := hl.open
  go_enter Try.func94, Try.ntmps94
  go_wp2
  go_ret
  refine ⟨_, rfl, Nat.le_refl _, ⟨_, Blk.new _ _ _, hl.alloc _, fun hp he => ?_⟩, (Chg.refl _ _).alloc _⟩
  have := hl.lt hp _ he
  omega

theorem Fail_any (b : Nat) (l : List UInt8) (bad : Bool) (w : World) (hr : Rdr w b l bad) :
    Calls Try.prog 107 #[.pointer (some ⟨b, 0, none⟩)] w fun e w' => e = .returned (.tuple #[]) ∧ Rdr w' b [] true ∧ Chg [b] w w' := by
  obtain ⟨v, hb, hv, hne⟩ := hr
  have c0 := hb.cell 0
  have c1 := hb.cell 1
  have f0 := hb.free 0
  have f1 := hb.free 1
  simp at c0 c1
  go_enter Try.func107, Try.ntmps107
  go_wp2
  go_end0
  refine ⟨rfl, ⟨.slice none 0 0, ?_, OwB.bs (OwB.nil _ 0), by simp⟩, ?_⟩
  · exact (hb.set 0 _).set 1 _
  · exact ((Chg.refl _ _).setCell _ _ (by simp)).setCell _ _ (by simp)

set_option maxHeartbeats 400000 in
theorem RNum_short (n : Int) (b : Nat) (l : List UInt8) (bad : Bool) (w : World) (hr : Rdr w b l bad) (hn : (l.length : Int) < n) :
    Calls Try.prog 95 #[.pointer (some ⟨b, 0, none⟩), .int .i64 n] w fun e w' => e = .returned (.int .i64 0) ∧ Rdr w' b [] true ∧ Chg [b] w w' := by
  have hr' := hr
  obtain ⟨v, hb, hv, hne⟩ := hr
  obtain ⟨ao, cap, b', off, rfl, -⟩ := hv.open
  have c0 := hb.cell 0
  simp at c0
  go_enter Try.func95, Try.ntmps95
  go_wp2_with fail
  refine (Fail_any b l bad _ hr').mono ?_
  rintro e w1 ⟨rfl, h1, h2⟩
  go_wp2_with fail
  go_ret
  exact ⟨rfl, h1, h2⟩

set_option maxHeartbeats 800000 in
theorem RNum_long (n : Int) (b : Nat) (l : List UInt8) (bad : Bool) (w : World) (hr : Rdr w b l bad) (h0 : 0 ≤ n) (h8 : n ≤ 8) (hn : n ≤ (l.length : Int)) :
    Calls Try.prog 95 #[.pointer (some ⟨b, 0, none⟩), .int .i64 n] w fun e w' => e = .returned (.int .i64 (rdNum (l.take n.toNat))) ∧ Rdr w' b (l.drop n.toNat) bad ∧ Chg [b] w w' := by
  obtain ⟨n, rfl⟩ := Int.eq_ofNat_of_zero_le h0
  simp only [Int.toNat_natCast]
  obtain ⟨v, hb, hv, hne⟩ := hr
  obtain ⟨ao, cap, b', off, rfl, hcap, hbig, -, hao, hc⟩ := hv.open
  have c0 := hb.cell 0
  have f0 := hb.free 0
  simp at c0
  go_enter Try.func95, Try.ntmps95
  go_wp2_with fail
  go_loop [5, 6, 17] (fun t _ i => ∃ k : Nat, k ≤ n ∧ i = .int .i64 k ∧ t = .int .i64 (wrap64 (rdB (l.take k)))) (fun _ _ i => n - (intOf i).toNat)
  case atStart => exact ⟨0, by omega, rfl, by simp [rdB, wrap64]⟩
  case round =>
    obtain ⟨k, hk, rfl, rfl⟩ := hrel
    by_cases hlt : k < n
    · obtain rfl := hao (by omega)
      have hcell := hc k (by omega)
      have hS := hd (rdStep l k (by omega) (by omega))
      generalize rdB (l.take k) = s1 at *
      generalize l[k] = x at *
      clear hc
      go_wp2
      go_round
      case rel => exact ⟨k + 1, by omega, by go_num, by rw [hS.out]⟩
      case measure => simp [intOf]; omega
    · have hkn : k = n := by omega
      subst hkn
      go_wp2_with (refine wpCutB rfl _ _ _ rfl _ _ rfl hv k l.length (.inr ⟨.i64, rfl⟩) (.inl ⟨rfl, rfl⟩) (by omega) (by omega) ?_; intro ao1 c1 hcut hblk1)
      go_ret
      rw [List.take_of_length_le (by simp)] at hcut
      refine ⟨rfl, ⟨_, hb.set 0 _, ?_, ?_⟩, (Chg.refl _ _).setCell _ _ (by simp)⟩
      · exact hcut.setCell _ _ (fun hp he => hne (by simp at hp; omega) (hblk1 _ he))
      · exact fun hp he => hne (by simp at hp; omega) (hblk1 _ he)

end Go.Proofs.Ytdmokfplkhmijaa
