/- The methods of pack.Writer: what they lay behind the writer's bytes. -/
import Derived.Test.YtdmokfplkhmijaaApp
import Derived.Test.YtdmokfplkhmijaaPackMath
namespace Go.Proofs.Ytdmokfplkhmijaa
open Go.RowKit

/-- The writer at block b has written l; its row is the call's own, from base on. -/
def Wr (w : World) (base b : Nat) (l : List UInt8) : Prop := ∃ v, Blk w b #[v] 128 ∧ OwB w base v l

theorem OwB.apart {w : World} {base : Nat} {v : Value} {l : List UInt8} (h : OwB w base v l) {b : Nat} {cs : Array Value} {t : TypeId} (hb : Blk w b cs t) (ht : t ≠ 5) : v.ownBlock ≠ some b := by
  intro he
  rcases h.2 with ⟨rfl, _⟩ | ⟨g, cap, cur, rfl, _, hg, _⟩
  · simp [Value.ownBlock] at he
  · simp only [Value.ownBlock, Option.some.injEq] at he
    subst he
    unfold Blk at hb
    rw [hb] at hg
    simp at hg
    exact ht hg.2

set_option maxHeartbeats 400000 in
theorem WNum_any (n x : Int) (base b : Nat) (l : List UInt8) (w : World) (hw : Wr w base b l) (hb : base ≤ b) (h0 : 0 ≤ n) (hn : n ≤ 8) (hl : l.length ≤ 140737488355000) :
    Calls Try.prog 70 #[.pointer (some ⟨b, 0, none⟩), .int .i64 n, .int .i64 x] w fun e w' =>
      e = .returned (.pointer (some ⟨b, 0, none⟩)) ∧ Wr w' base b (l ++ leB n.toNat x) ∧ Below base w w' := by
  go_enter Try.func70, Try.ntmps70
  go_wp2
  go_loopw [2, 8] (fun t i wr => ∃ k : Nat, ∃ y : Int, k ≤ n.toNat ∧ i = .int .i64 k ∧ t = .int .i64 y ∧ y = x / 256 ^ k ∧ Wr wr base b (l ++ leB k x) ∧ Below base w wr)
    (fun _ i _ => n.toNat - (intOf i).toNat)
  case atStart => exact ⟨0, x, by omega, rfl, rfl, by simp, by simpa [leB] using hw, Below.refl _ _⟩
  case round =>
    obtain ⟨k, y, hk, rfl, rfl, hy, ⟨v, hblk, hown⟩, hbel⟩ := hrel
    have Hy := hd hy; clear hy
    have hc := hblk.cell 0
    have hf := hblk.free 0
    simp at hc
    have hsz := hblk.lt
    by_cases hlt : k < n.toNat
    · have hT := hd (leB_snoc k x)
      rw [← Hy.out] at hT
      have hone := OwB.one wr base (UInt8.ofInt y) (y % 256) (n8_ofInt y).symm (by omega)
      have hlen : (l ++ leB k x).length = l.length + k := by simp
      have Hlen := hd hlen; clear hlen
      go_wp2_with (at_builtin; refine wpAppB rfl _ _ rfl base _ _ rfl (hown.alloc _) _ _ rfl hone.bs (by rw [Hlen.out]; simp; omega) (by simp; omega) ?_; intro ao1 c1 w1 hown1 hg1 hm1; have hb1 := (hblk.alloc (.cells #[.int .u8 (y % 256)] 5)).grown hg1 (hown.apart hblk (by decide)); have hc1 := hb1.cell 0; have hf1 := hb1.free 0; simp at hc1)
      go_roundw
      case rel =>
        have hne1 := hown1.apart hb1 (by decide)
        refine ⟨k + 1, y / 256, by omega, by go_num, by go_num, ?_, ⟨_, hb1.set 0 _, ?_⟩, ?_⟩
        · rw [Hy.out, Int.ediv_ediv_of_nonneg (Int.pow_nonneg (by omega)), show (256 : Int) ^ k * 256 = 256 ^ (k + 1) by rw [Int.pow_succ]]
        · have := ownsRow_setCell_other hown1 (a := ⟨b, 0, none⟩) hne1
          rw [hT.out, ← List.append_assoc]
          unfold OwB
          simpa [Nat.add_assoc] using this _
        · exact ((hbel.alloc (by omega) _).grown hg1 (by simp; omega) (fun k hk => (hown.lo k hk).1)).setCell (by simpa using hb) _
      case measure => simp [intOf]; omega
    · have hkn : k = n.toNat := by omega
      subst hkn
      go_wp2
      go_ret
      exact ⟨rfl, ⟨v, hblk, hown⟩, hbel⟩

theorem WBytes_any (base b : Nat) (l : List UInt8) (w : World) (hw : Wr w base b l) (hl : l.length ≤ 140737488355328) :
    Calls Try.prog 71 #[.pointer (some ⟨b, 0, none⟩)] w fun e w' => ∃ ao c, e = .returned (.slice ao l.length c) ∧ OwB w' w.heap.size (.slice ao l.length c) l ∧ Chg [] w w' := by
  obtain ⟨v, hb, hown⟩ := hw
  have c0 := hb.cell 0
  simp at c0
  go_enter Try.func71, Try.ntmps71
  go_wp2_with (refine wpAppB rfl _ _ rfl w.heap.size (.slice none 0 0) _ rfl (OwB.nil _ _) _ _ rfl hown.bs (by simpa using hl) (Nat.le_refl _) ?_; intro ao c w1 h1 h2 h3)
  go_ret
  simp only [List.length_nil, Nat.zero_add, List.nil_append] at h1 ⊢
  exact ⟨ao, c, rfl, h1, (Chg.refl _ _).grown h2 (by simp [Value.ownBlock])⟩

def leF (l : List Int) : List UInt8 := l.flatMap (leB 8)
theorem leF_length (l : List Int) : (leF l).length = 8 * l.length := by
  induction l with
  | nil => rfl
  | cons x l ih => unfold leF at *; rw [List.flatMap_cons, List.length_append, ih]; simp; omega
theorem leF_snoc (l : List Int) (k : Nat) (h : k < l.length) : leF (l.take (k + 1)) = leF (l.take k) ++ leB 8 l[k] := by
  unfold leF; rw [List.take_succ_eq_append_getElem h, List.flatMap_append]; simp

end Go.Proofs.Ytdmokfplkhmijaa
