/- bagatellelaw13.sum: the division of polynomials, bit by bit: what it computes. -/
import Derived.Test.YteeanpbdnpmpaaaSlice
import Derived.Test.YteeanpbdnpmpaaaAppZ
namespace Go.Proofs.Yteeanpbdnpmpaaa
open Go.RowKit

def bitAt (l : List UInt8) (i : Nat) : UInt8 := (l.getD (i / 8) 0 >>> UInt8.ofNat (i % 8)) &&& 1
def flip1 (b : List UInt8) (j : Nat) : List UInt8 := b.set j (b.getD j 0 ^^^ 1)
def powers : List Nat := [32, 26, 23, 22, 16, 12, 11, 10, 8, 7, 5, 4, 2, 1, 0]
def powZ : List Int := [32, 26, 23, 22, 16, 12, 11, 10, 8, 7, 5, 4, 2, 1, 0]
theorem powZ_eq (q : Nat) (h : q < 15) : powZ[q]'h = (powers[q]'h : Nat) := by
  have : ∀ q : Fin 15, powZ[q.1]'q.2 = (powers[q.1]'q.2 : Nat) := by decide
  exact this ⟨q, h⟩
theorem powers_le (q : Nat) (h : q < 15) : powers[q]'h ≤ 32 := by
  have : ∀ q : Fin 15, powers[q.1]'q.2 ≤ 32 := by decide
  exact this ⟨q, h⟩
def polyStep (b : List UInt8) (i : Nat) : List UInt8 := if b.getD i 0 = 1 then powers.foldl (fun b p => flip1 b (i + 32 - p)) b else b
def sumBits (l : List UInt8) : List UInt8 := (List.range (8 * l.length)).foldl polyStep ((List.range 32).foldl flip1 ((List.range (8 * l.length)).map (bitAt l) ++ List.replicate 32 0))
def gather (b : List UInt8) : Nat → UInt32
  | 0 => 0
  | n + 1 => gather b n ||| (((b.getD n 0).toUInt32 ^^^ 1) <<< UInt32.ofNat n)
def polySum (l : List UInt8) : UInt32 := gather ((sumBits l).drop (8 * l.length)) 32

@[simp] theorem flip1_length (b : List UInt8) (j : Nat) : (flip1 b j).length = b.length := by simp [flip1]
theorem flips_length (b : List UInt8) (js : List Nat) : (js.foldl flip1 b).length = b.length := by
  induction js generalizing b with
  | nil => rfl
  | cons j js ih => rw [List.foldl_cons, ih, flip1_length]
theorem flipsp_length (b : List UInt8) (i : Nat) (ps : List Nat) : (ps.foldl (fun b p => flip1 b (i + 32 - p)) b).length = b.length := by
  induction ps generalizing b with
  | nil => rfl
  | cons j js ih => rw [List.foldl_cons, ih, flip1_length]
theorem polyStep_length (b : List UInt8) (i : Nat) : (polyStep b i).length = b.length := by
  unfold polyStep; split
  · exact flipsp_length _ _ _
  · rfl
theorem polySteps_length (b : List UInt8) (js : List Nat) : (js.foldl polyStep b).length = b.length := by
  induction js generalizing b with
  | nil => rfl
  | cons j js ih => rw [List.foldl_cons, ih, polyStep_length]
theorem fold_range_succ {α : Type} (f : α → Nat → α) (a : α) (n : Nat) : (List.range (n + 1)).foldl f a = f ((List.range n).foldl f a) n := by rw [List.range_succ, List.foldl_append]; rfl
theorem fold_take_succ {α β : Type} (f : α → β → α) (a : α) (l : List β) (k : Nat) (h : k < l.length) : (l.take (k + 1)).foldl f a = f ((l.take k).foldl f a) l[k] := by rw [List.take_succ_eq_append_getElem h, List.foldl_append]; rfl

attribute [local go_sem] and7 u8_xor_1 u32_or' u8_u32

set_option maxRecDepth 100000 in
set_option maxHeartbeats 2000000 in
theorem sum13_any (v : Value) (l : List UInt8) (w : World) (hl : Bs w v l) (hlen : l.length ≤ 1000000) :
    Calls Try.prog 17 #[v] w fun e w' => e = .returned (.int .u32 (n32 (polySum l))) ∧ Chg [] w w' := by
  obtain ⟨ao, cap, b, off, rfl, hcap, hbig, -, hao, hc⟩ := hl.open
  have hv := hl.lt
  go_enter Try.func17, Try.ntmps17
  go_wp2_with fail
  go_loopw [3, 4, 16] (fun v _ i wr => ∃ k : Nat, ∃ bo bc, k ≤ 8 * l.length ∧ i = .int .i64 k ∧ v = .slice bo k bc ∧ OwB wr w.heap.size v ((List.range k).map (bitAt l)) ∧ Chg [] w wr)
    (fun _ _ i _ => 8 * l.length - (intOf i).toNat)
  case atStart => exact ⟨0, none, 0, by omega, rfl, rfl, OwB.nil _ _, Chg.refl _ _⟩
  case round =>
    obtain ⟨k, bo, bc, hk, rfl, rfl, hown, hch⟩ := hrel
    by_cases hlt : k < 8 * l.length
    · obtain rfl := hao (by omega)
      have hb : b < w.heap.size := hv (by omega) b rfl
      have hcell : wr.cell? ⟨b, off + k / 8, none⟩ = some (.int .u8 (n8 (l[k / 8]'(by omega)))) := (hch.cell (p := ⟨b, off + k / 8, none⟩) hb (by simp)).trans (hc (k / 8) (by omega))
      have hbit : bitAt l k = (l[k / 8]'(by omega) >>> UInt8.ofNat (k % 8)) &&& 1 := by unfold bitAt; rw [List.getD, List.getElem?_eq_getElem (by omega)]; rfl
      have Hbit := hd hbit
      clear hbit
      generalize l[k / 8]'(by omega) = x at *
      have hand := u8_bit_and x (k % 8) (by omega)
      have hlen0 : ((List.range k).map (bitAt l)).length = k := by simp
      have Hlen := hd hlen0
      clear hlen0 hc
      have hsz := hch.size
      have hi8 : (k : Int) / 8 < (l.length : Int) := by omega
      have hone := OwB.one wr w.heap.size (x >>> UInt8.ofNat (k % 8) &&& 1) _ rfl hsz
      go_wp2_with (refine wpAppB rfl _ _ rfl w.heap.size _ _ rfl (hown.alloc _) _ _ rfl hone.bs (by rw [Hlen.out]; simp; omega) (by simp; omega) ?_; intro ao1 c1 w1 hown1 hg1 hm1)
      go_roundw
      case rel =>
        rw [← Hbit.out] at hown1
        refine ⟨k + 1, ao1, c1, by omega, by go_num, by simp, ?_, ?_⟩
        · simpa [List.range_succ, OwB] using hown1
        · exact (hch.alloc _).grown hg1 (fun j hj hlt => by have := (hown.lo j hj).1; omega)
      case measure => simp [intOf]; omega
    · have hkn : k = 8 * l.length := by omega
      subst hkn
      have hlen0 : ((List.range (8 * l.length)).map (bitAt l)).length = 8 * l.length := by simp
      have Hlen := hd hlen0
      clear hlen0
      have hsz := hch.size
      generalize hB0 : (List.range (8 * l.length)).map (bitAt l) = B0 at *
      have HB0 := hd hB0
      clear hB0
      go_wp2_with (refine wpAppZ rfl _ _ rfl w.heap.size _ _ rfl hown 32 rfl (by decide) (by rw [Hlen.out]; omega) hsz ?_; intro ao1 c1 w1 hown1 hg1 hm1; have hch1 := hch.grown hg1 (fun j hj hlt => by have := (hown.lo j hj).1; omega))
      have hN0 : B0.length + 32 = 8 * l.length + 32 := by rw [Hlen.out]
      have hB1 : (B0 ++ List.replicate 32 0).length = 8 * l.length + 32 := by simp [Hlen.out]
      generalize hB : B0 ++ List.replicate 32 0 = B1 at *
      have HB := hd hB
      generalize B0.length + 32 = N at *
      have hN1 : 8 * l.length + 32 ≤ N := by omega
      have hN2 : N ≤ 8 * l.length + 32 := by omega
      have HB1 := hd hB1
      clear hB hB1 hN0 hown hch hg1 hm1 hsz
      obtain ⟨g, rfl, -, hg1, hg2⟩ := hown1.addr (by rw [HB1.out]; omega)
      go_loopw [5, 34] (fun _ i wr => ∃ k : Nat, k ≤ 32 ∧ i = .int .i64 k ∧ OwB wr w.heap.size (.slice (some ⟨g, 0, none⟩) N c1) ((List.range k).foldl flip1 B1) ∧ Chg [] w wr)
        (fun _ i _ => 32 - (intOf i).toNat)
      case atStart => exact ⟨0, by omega, rfl, hown1, hch1⟩
      case round =>
        obtain ⟨k, hk, rfl, hown, hch⟩ := hrel
        by_cases hlt : k < 32
        · have hS := hd (fold_range_succ flip1 B1 k)
          have hL : ((List.range k).foldl flip1 B1).length = 8 * l.length + 32 := by rw [flips_length, HB1.out]
          generalize (List.range k).foldl flip1 B1 = cur at *
          have hkl : k < cur.length := by omega
          have hcell := hown.cell k hkl
          have hfree := hown.free k
          have hset := hown.set k (cur[k] ^^^ 1)
          have hfl : flip1 cur k = cur.set k (cur[k] ^^^ 1) := by unfold flip1; rw [List.getD, List.getElem?_eq_getElem hkl]; rfl
          have Hfl := hd hfl
          have HL := hd hL
          clear hfl hL
          generalize cur[k] = x at *
          go_wp2
          go_roundw
          case rel => exact ⟨k + 1, by omega, by go_num, by rw [hS.out, Hfl.out]; exact hset, hch.setCell _ _ (by simp; omega)⟩
          case measure => simp [intOf]; omega
        · have hkn : k = 32 := by omega
          subst hkn
          generalize hB2 : (List.range 32).foldl flip1 B1 = B2 at *
          have hL2 : B2.length = 8 * l.length + 32 := by rw [← hB2, flips_length, HB1.out]
          have HB2 := hd hB2
          have HL2 := hd hL2
          clear hB2 hL2 hown1 hch1
          have hpow := Fs.lit wr powZ #[.int .i64 32, .int .i64 26, .int .i64 23, .int .i64 22, .int .i64 16, .int .i64 12, .int .i64 11, .int .i64 10, .int .i64 8, .int .i64 7, .int .i64 5, .int .i64 4, .int .i64 2, .int .i64 1, .int .i64 0] 3 15 rfl rfl (by decide)
          have hownA := hown.alloc (.cells #[.int .i64 32, .int .i64 26, .int .i64 23, .int .i64 22, .int .i64 16, .int .i64 12, .int .i64 11, .int .i64 10, .int .i64 8, .int .i64 7, .int .i64 5, .int .i64 4, .int .i64 2, .int .i64 1, .int .i64 0] 3)
          have hchA := hch.alloc (.cells #[.int .i64 32, .int .i64 26, .int .i64 23, .int .i64 22, .int .i64 16, .int .i64 12, .int .i64 11, .int .i64 10, .int .i64 8, .int .i64 7, .int .i64 5, .int .i64 4, .int .i64 2, .int .i64 1, .int .i64 0] 3)
          have hgl := (hown.lo g rfl).2
          go_wp2_with fail
          generalize wr.alloc (.cells #[.int .i64 32, .int .i64 26, .int .i64 23, .int .i64 22, .int .i64 16, .int .i64 12, .int .i64 11, .int .i64 10, .int .i64 8, .int .i64 7, .int .i64 5, .int .i64 4, .int .i64 2, .int .i64 1, .int .i64 0] 3) = wA at *
          clear hown hch
          generalize wr.heap.size = pb at *
          go_loopw [7, 9, 48, 58] (fun _ _ i _ wr => ∃ k : Nat, k ≤ 8 * l.length ∧ i = .int .i64 k ∧ OwB wr w.heap.size (.slice (some ⟨g, 0, none⟩) N c1) ((List.range k).foldl polyStep B2) ∧ Chg [] w wr ∧ Fs wr (.slice (some ⟨pb, 0, none⟩) 15 15) powZ)
            (fun _ _ i _ _ => 8 * l.length - (intOf i).toNat)
          case atStart => exact ⟨0, by omega, rfl, hownA, hchA, hpow⟩
          case round =>
            obtain ⟨k, hk, rfl, hown, hch, hpw⟩ := hrel
            by_cases hlt : k < 8 * l.length
            · have hS := hd (fold_range_succ polyStep B2 k)
              have hL : ((List.range k).foldl polyStep B2).length = 8 * l.length + 32 := by rw [polySteps_length, HL2.out]
              generalize (List.range k).foldl polyStep B2 = cur at *
              have hkl : k < cur.length := by omega
              have hcell := hown.cell k hkl
              have hgd : cur.getD k 0 = cur[k] := by rw [List.getD, List.getElem?_eq_getElem hkl]; rfl
              have HL := hd hL
              have HG := hd hgd
              clear hL hgd
              by_cases h1 : cur[k] = 1
              · have hPS : polyStep cur k = powers.foldl (fun b p => flip1 b (k + 32 - p)) cur := by unfold polyStep; rw [if_pos (by rw [HG.out]; exact h1)]
                have HPS := hd hPS
                have heq : (n8 cur[k] == 1) = true := by rw [show (1 : Int) = n8 1 from rfl, n8_beq]; simpa using h1
                clear hPS h1
                generalize cur[k] = x at *
                go_wp2_with fail
                go_loopw [9, 58] (fun _ i wr => ∃ q : Nat, q ≤ 15 ∧ i = .int .i64 q ∧ OwB wr w.heap.size (.slice (some ⟨g, 0, none⟩) N c1) ((powers.take q).foldl (fun b p => flip1 b (k + 32 - p)) cur) ∧ Chg [] w wr ∧ Fs wr (.slice (some ⟨pb, 0, none⟩) 15 15) powZ)
                  (fun _ i _ => 15 - (intOf i).toNat)
                case atStart => 
                  exact ⟨0, by omega, rfl, by simpa using hown, hch, hpw⟩
                case round =>
                  obtain ⟨q, hq, rfl, hown, hch, hpw⟩ := hrel
                  by_cases hql : q < 15
                  · have hQ := hd (fold_take_succ (fun b p => flip1 b (k + 32 - p)) cur powers q hql)
                    have hL : ((powers.take q).foldl (fun b p => flip1 b (k + 32 - p)) cur).length = 8 * l.length + 32 := by rw [flipsp_length, HL.out]
                    generalize (powers.take q).foldl (fun b p => flip1 b (k + 32 - p)) cur = cu at *
                    have hp32 := powers_le q hql
                    have hpz := hpw.cell q hql
                    rw [powZ_eq q hql, Nat.zero_add] at hpz
                    generalize powers[q] = p at *
                    have hjl : k + 32 - p < cu.length := by omega
                    have hcell := hown.cell (k + 32 - p) hjl
                    have hfree := hown.free (k + 32 - p)
                    have hset := hown.set (k + 32 - p) (cu[k + 32 - p] ^^^ 1)
                    have hfl : flip1 cu (k + 32 - p) = cu.set (k + 32 - p) (cu[k + 32 - p] ^^^ 1) := by unfold flip1; rw [List.getD, List.getElem?_eq_getElem hjl]; rfl
                    have Hfl := hd hfl
                    clear hfl
                    generalize cu[k + 32 - p] = x at *
                    have HL2 := hd hL
                    clear hL
                    go_wp2
                    go_roundw
                    case rel => exact ⟨q + 1, by omega, by go_num, by rw [hQ.out, Hfl.out]; exact hset, hch.setCell _ _ (by simp; omega), hpw.chg ((Chg.refl [g] _).setCell _ _ (by simp)) (by simp [Value.ownBlock]; omega)⟩
                    case measure => simp [intOf]; omega
                  · have hq15 : q = 15 := by omega
                    subst hq15
                    go_wp2
                    go_roundw
                    case rel => exact ⟨k + 1, by omega, by go_num, by rw [hS.out, HPS.out]; exact hown, hch, hpw⟩
                    case measure => simp [intOf]; omega
              · have hPS : polyStep cur k = cur := by unfold polyStep; rw [if_neg (by rw [HG.out]; exact h1)]
                have HPS := hd hPS
                have hne : (n8 cur[k] == 1) = false := by rw [show (1 : Int) = n8 1 from rfl, n8_beq]; simpa using h1
                clear hPS h1
                generalize cur[k] = x at *
                go_wp2
                go_roundw
                case rel => exact ⟨k + 1, by omega, by go_num, by rw [hS.out, HPS.out]; exact hown, hch, hpw⟩
                case measure => simp [intOf]; omega
            · have hkn : k = 8 * l.length := by omega
              subst hkn
              have hcast := hd (show (8 * (l.length : Int)) = ((8 * l.length : Nat) : Int) by omega)
              have hL3 : ((List.range (8 * l.length)).foldl polyStep B2).length = N := by rw [polySteps_length, HL2.out]; omega
              have HL3 := hd hL3
              clear hL3
              have HB3 : Hd ((List.range (8 * l.length)).foldl polyStep B2 = sumBits l) := hd (by unfold sumBits; rw [← HB2.out, ← HB.out, ← HB0.out])
              generalize (List.range (8 * l.length)).foldl polyStep B2 = B3 at *
              go_wp2_with (refine wpCutB rfl _ _ none rfl _ _ rfl hown.bs (8 * l.length) N (.inr ⟨.i64, congrArg (fun z => some (Value.int .i64 z)) hcast.out⟩) (.inl ⟨rfl, HL3.out.symm⟩) (by omega) (by rw [HL3.out]; omega) ?_; intro ao2 c2 hcut gcut)
              have hLc : ((B3.drop (8 * l.length)).take (N - 8 * l.length)) = B3.drop (8 * l.length) := List.take_of_length_le (by rw [List.length_drop, HL3.out]; omega)
              rw [hLc] at hcut
              have HLc := hd (show (B3.drop (8 * l.length)).length = N - 8 * l.length by rw [List.length_drop, HL3.out])
              clear hLc
              generalize hB4 : B3.drop (8 * l.length) = B4 at *
              have HB4 := hd hB4
              clear hB4
              obtain ⟨dao, dcap, db, doff, hde, -, -, -, dao', dc⟩ := hcut.open
              simp only [Value.slice.injEq] at hde
              obtain ⟨rfl, -, rfl⟩ := hde
              clear gcut hown hpw hcut hownA hchA hpow
              go_wp2_with fail
              go_loopw [10, 11, 12, 79] (fun t _ _ i wr' => ∃ k : Nat, k ≤ 32 ∧ i = .int .i64 k ∧ t = .int .u32 (n32 (gather B4 k)) ∧ wr' = wr)
                (fun _ _ _ i _ => 32 - (intOf i).toNat)
              case atStart => exact ⟨0, by omega, rfl, rfl, rfl⟩
              case round =>
                obtain ⟨k, hk, rfl, rfl, rfl⟩ := hrel
                by_cases hk32 : k < 32
                · have hkl : k < B4.length := by rw [HLc.out]; omega
                  obtain rfl := dao' (by omega)
                  have hcell := dc k hkl
                  have hG : gather B4 (k + 1) = gather B4 k ||| ((B4[k].toUInt32 ^^^ 1) <<< UInt32.ofNat k) := by rw [gather, List.getD, List.getElem?_eq_getElem hkl]; rfl
                  have HG := hd hG
                  clear hG dc dao'
                  generalize gather B4 k = gk at *
                  generalize B4[k] = x at *
                  have hmul := u32_mul_k (x.toUInt32 ^^^ 1) k hk32
                  go_wp2
                  go_roundw
                  case rel => exact ⟨k + 1, by omega, by go_num, by rw [HG.out], by first | rfl | trivial⟩
                  case measure => simp [intOf]; omega
                · have hk3 : k = 32 := by omega
                  subst hk3
                  go_wp2
                  go_ret
                  exact ⟨ret_of (by unfold polySum; rw [← HB3.out, HB4.out]; rfl), hch⟩
end Go.Proofs.Yteeanpbdnpmpaaa
