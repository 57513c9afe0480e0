/- Words and walks that Apart rests on: Fix. -/
import Derived.Test.YtpadflhffiiglaaGreatWApart1
import Derived.Lib.Mul64
import Derived.Laws.Bits64b
/- Package fix: what its functions reckon. -/
namespace Go.Proofs.YtpadflhffiiglaaGreat
open Go.RowKit Go.Lib

theorem Whole_any (a : Int) (w : World) : Calls Tryz.prog 95 #[.int .i64 a] w fun e w' => e = .returned (.int .i64 (whF a)) ∧ w' = w := by
  go_enter Tryz.func95, Tryz.ntmps95
  go_wp2
  all_goals
    go_ret
    exact ⟨ret_of (congrArg (Value.int .i64) (by unfold whF; omega)), rfl⟩
theorem FNeg_any (a : Int) (ha : I64 a) (w : World) : Calls Tryz.prog 128 #[.int .i64 a] w fun e w' => e = .returned (.int .i64 (negF a)) ∧ w' = w := by
  have hs := whF_s ha
  have hcon := fun W => Whole_any a W
  unfold negF
  generalize whF a = x at *
  obtain ⟨h1, h2⟩ := hs
  go_enter Tryz.func128, Tryz.ntmps128
  go_wp2_with (go_at_call 95; refine (hcon _).mono ?_; rintro e w' ⟨rfl, rfl⟩)
  go_ret
  exact ⟨rfl, rfl⟩
theorem Abs_any (a : Int) (ha : I64 a) (w : World) : Calls Tryz.prog 93 #[.int .i64 a] w fun e w' => e = .returned (.int .i64 (absF a)) ∧ w' = w := by
  have hcon := fun W => FNeg_any a ha W
  unfold absF
  generalize negF a = x at *
  by_cases h : a < 0
  · rw [if_pos h]
    go_enter Tryz.func93, Tryz.ntmps93
    go_wp2_with (go_at_call 128; refine (hcon _).mono ?_; rintro e w' ⟨rfl, rfl⟩)
    go_ret
    exact ⟨rfl, rfl⟩
  · rw [if_neg h]
    go_enter Tryz.func93, Tryz.ntmps93
    go_wp2_with fail
    go_ret
    exact ⟨rfl, rfl⟩
set_option maxHeartbeats 1000000 in
theorem FAdd_any (a b : Int) (ha : I64 a) (hb : I64 b) (w : World) : Calls Tryz.prog 116 #[.int .i64 a, .int .i64 b] w fun e w' => e = .returned (.int .i64 (addF a b)) ∧ w' = w := by
  have hsa := whF_s ha
  have hsb := whF_s hb
  have hcon := fun W => Whole_any a W
  have hcon2 := fun W => Whole_any b W
  have hcon3 := fun x W => Whole_any x W
  unfold addF
  generalize hA : whF a = x at *
  generalize hB : whF b = y at *
  have HA := hd hA
  have HB := hd hB
  clear hA hB
  obtain ⟨s, hs⟩ : ∃ s, wrap64 (x + y) = s := ⟨_, rfl⟩
  have hs2 : s = (x + y + 9223372036854775808) % 18446744073709551616 - 9223372036854775808 := by rw [← hs]; unfold wrap64; rfl
  have hg : whF s = max s (-9223372036854775807) := rfl
  obtain ⟨h1, h2⟩ := hsa
  obtain ⟨h3, h4⟩ := hsb
  have key : (0 < x ∧ 0 < y ∧ s < 0 ∧ max (-9223372036854775807) (min 9223372036854775807 (x + y)) = 9223372036854775807) ∨ (x < 0 ∧ y < 0 ∧ 0 ≤ s ∧ max (-9223372036854775807) (min 9223372036854775807 (x + y)) = -9223372036854775807) ∨
      (¬ (0 < x ∧ 0 < y ∧ s < 0) ∧ ¬ (x < 0 ∧ y < 0 ∧ 0 ≤ s) ∧ max (-9223372036854775807) (min 9223372036854775807 (x + y)) = whF s) := by rw [hg]; omega
  have HS2 := hd hs2
  clear hs2 hg
  rcases key with ⟨k1, k2, k3, k4⟩ | ⟨k1, k2, k3, k4⟩ | ⟨k1, k2, k4⟩
  · rw [k4]
    clear k4
    go_enter Tryz.func116, Tryz.ntmps116
    go_wp2_with (go_at_call 95; (first | ((with_reducible refine (hcon _).mono ?_); rintro e w' ⟨rfl, rfl⟩) | ((with_reducible refine (hcon2 _).mono ?_); rintro e w' ⟨rfl, rfl⟩)))
    go_ret
    exact ⟨rfl, rfl⟩
  · rw [k4]
    clear k4
    go_enter Tryz.func116, Tryz.ntmps116
    go_wp2_with (go_at_call 95; (first | ((with_reducible refine (hcon _).mono ?_); rintro e w' ⟨rfl, rfl⟩) | ((with_reducible refine (hcon2 _).mono ?_); rintro e w' ⟨rfl, rfl⟩)))
    go_ret
    exact ⟨rfl, rfl⟩
  · rw [k4]
    clear k4
    generalize hS : whF s = z at *
    have hcon4 := fun W => Whole_any s W
    rw [hS] at hcon4
    clear hS hcon3
    have K1 := hd k1
    have K2 := hd k2
    clear k1 k2
    by_cases p1 : 0 < x <;> by_cases p2 : 0 < y <;> by_cases p3 : s < 0 <;> by_cases p4 : x < 0 <;> by_cases p5 : y < 0 <;> first
      | (exfalso; have := K1.out; have := K2.out; omega)
      | (have hs' : x + y = s := by have := HS2.out; have := K1.out; have := K2.out; omega
         have hlt : decide (s < 0) = false := by rw [decide_eq_false_iff_not]; omega
         have hb1 : -9223372036854775808 ≤ s := by have := HS2.out; omega
         have hb2 : s ≤ 9223372036854775807 := by have := HS2.out; omega
         clear hs
         go_enter Tryz.func116, Tryz.ntmps116
         go_wp2_with (go_at_call 95; (first | ((with_reducible refine (hcon _).mono ?_); rintro e w' ⟨rfl, rfl⟩) | ((with_reducible refine (hcon2 _).mono ?_); rintro e w' ⟨rfl, rfl⟩) | ((with_reducible refine (hcon4 _).mono ?_); rintro e w' ⟨rfl, rfl⟩)))
         all_goals (go_ret; exact ⟨rfl, rfl⟩))
      | (have hs' : x + y = s := by have := HS2.out; have := K1.out; have := K2.out; omega
         have hlt : decide (s < 0) = true := by rw [decide_eq_true_iff]; omega
         have hb1 : -9223372036854775808 ≤ s := by have := HS2.out; omega
         have hb2 : s ≤ 9223372036854775807 := by have := HS2.out; omega
         clear hs
         go_enter Tryz.func116, Tryz.ntmps116
         go_wp2_with (go_at_call 95; (first | ((with_reducible refine (hcon _).mono ?_); rintro e w' ⟨rfl, rfl⟩) | ((with_reducible refine (hcon2 _).mono ?_); rintro e w' ⟨rfl, rfl⟩) | ((with_reducible refine (hcon4 _).mono ?_); rintro e w' ⟨rfl, rfl⟩)))
         all_goals (go_ret; exact ⟨rfl, rfl⟩))
theorem FSub_any (a b : Int) (ha : I64 a) (hb : I64 b) (w : World) : Calls Tryz.prog 118 #[.int .i64 a, .int .i64 b] w fun e w' => e = .returned (.int .i64 (subF a b)) ∧ w' = w := by
  have hcon := fun W => FNeg_any b hb W
  have hcon2 := fun W => FAdd_any a (negF b) ha (negF_s hb).i W
  unfold subF
  generalize addF a (negF b) = z at *
  generalize negF b = y at *
  go_enter Tryz.func118, Tryz.ntmps118
  go_wp2_with (first
    | (go_at_call 128; refine (hcon _).mono ?_; rintro e w' ⟨rfl, rfl⟩)
    | (go_at_call 116; refine (hcon2 _).mono ?_; rintro e w' ⟨rfl, rfl⟩))
  go_ret
  exact ⟨rfl, rfl⟩

theorem maskN (a : Nat) (ha : a < 18446744073709551616) : bits .and .u64 (a : Int) 4294967295 = ((a % 4294967296 : Nat) : Int) := by
  have h := bits_and_u64_nat a 4294967295 ha (by omega)
  have e : a &&& 4294967295 = a % 4294967296 := Nat.and_two_pow_sub_one_eq_mod a 32
  rw [e] at h
  exact h
theorem divN (a : Nat) : (a : Int) / 4294967296 = ((a / 4294967296 : Nat) : Int) := by omega
theorem mulN (a b : Nat) : (a : Int) * (b : Int) = ((a * b : Nat) : Int) := (Int.natCast_mul a b).symm
theorem addN (a b : Nat) : (a : Int) + (b : Int) = ((a + b : Nat) : Int) := (Int.natCast_add a b).symm
theorem wrapN (a : Nat) (ha : a < 18446744073709551616) : IntKind.u64.wrap (a : Int) = (a : Int) := by rw [IntKind.wrap_u64]; omega
theorem wrapM (a : Nat) : IntKind.u64.wrap (a : Int) = ((a % 18446744073709551616 : Nat) : Int) := by rw [IntKind.wrap_u64]; omega
set_option maxHeartbeats 1000000 in
theorem Mul64_any (x y : Nat) (hx : x < 18446744073709551616) (hy : y < 18446744073709551616) (w : World) :
    Calls Tryz.prog 171 #[.int .u64 x, .int .u64 y] w fun e w' => e = .returned (.tuple #[.int .u64 ((x * y / 18446744073709551616 : Nat) : Int), .int .u64 ((x * y % 18446744073709551616 : Nat) : Int)]) ∧ w' = w := by
  obtain ⟨bd, bt, bw, hhi⟩ := Lib.mul64_hi x y hx hy
  have ba := Lib.half_mul_le (a := x / 4294967296) (b := y / 4294967296) (by omega) (by omega)
  have bb := Lib.half_mul_le (a := x / 4294967296) (b := y % 4294967296) (by omega) (by omega)
  have bc := Lib.half_mul_le (a := x % 4294967296) (b := y / 4294967296) (by omega) (by omega)
  have ba' : x / 4294967296 * (y / 4294967296) < 18446744073709551616 := by omega
  have bb' : x / 4294967296 * (y % 4294967296) < 18446744073709551616 := by omega
  have bc' : x % 4294967296 * (y / 4294967296) < 18446744073709551616 := by omega
  have bh1 : x / 4294967296 * (y / 4294967296) + (x / 4294967296 * (y % 4294967296) + x % 4294967296 * (y % 4294967296) / 4294967296) / 4294967296 < 18446744073709551616 := by omega
  have bh : x / 4294967296 * (y / 4294967296) + (x / 4294967296 * (y % 4294967296) + x % 4294967296 * (y % 4294967296) / 4294967296) / 4294967296 + ((x / 4294967296 * (y % 4294967296) + x % 4294967296 * (y % 4294967296) / 4294967296) % 4294967296 + x % 4294967296 * (y / 4294967296)) / 4294967296 < 18446744073709551616 := by omega
  go_enter Tryz.func171, Tryz.ntmps171
  go_wp2
  simp only [maskN x hx, maskN y hy, divN, mulN, addN, wrapN _ bd, wrapN _ bb', wrapN _ bt, maskN _ bt, wrapN _ bc', wrapN _ bw, wrapN _ ba', wrapN _ bh1, wrapN _ bh, wrapM (x * y)]
  rw [hhi]
  go_ret2
  exact ⟨rfl, rfl⟩
theorem signed_small (lo : Int) (h0 : 0 ≤ lo) (h1 : lo ≤ 9223372036854775807) (h : decide (lo < 9223372036854775808) = true) (m : Bool) (w : World) : Calls Tryz.prog 149 #[.int .u64 0, .int .u64 lo, .bool m] w fun e w' => e = .returned (.int .i64 (if m then -lo else lo)) ∧ w' = w := by
  cases m
  · go_enter Tryz.func149, Tryz.ntmps149
    go_wp2
    go_ret
    exact ⟨rfl, rfl⟩
  · go_enter Tryz.func149, Tryz.ntmps149
    go_wp2
    go_ret
    exact ⟨rfl, rfl⟩
theorem signed_big (lo : Int) (h : decide (lo < 9223372036854775808) = false) (m : Bool) (w : World) : Calls Tryz.prog 149 #[.int .u64 0, .int .u64 lo, .bool m] w fun e w' => e = .returned (.int .i64 (if m then -9223372036854775807 else 9223372036854775807)) ∧ w' = w := by
  cases m
  · go_enter Tryz.func149, Tryz.ntmps149
    go_wp2
    go_ret
    exact ⟨rfl, rfl⟩
  · go_enter Tryz.func149, Tryz.ntmps149
    go_wp2
    go_ret
    exact ⟨rfl, rfl⟩
theorem signed_hi (hi lo : Int) (h : (hi == 0) = false) (m : Bool) (w : World) : Calls Tryz.prog 149 #[.int .u64 hi, .int .u64 lo, .bool m] w fun e w' => e = .returned (.int .i64 (if m then -9223372036854775807 else 9223372036854775807)) ∧ w' = w := by
  cases m
  · go_enter Tryz.func149, Tryz.ntmps149
    go_wp2
    go_ret
    exact ⟨rfl, rfl⟩
  · go_enter Tryz.func149, Tryz.ntmps149
    go_wp2
    go_ret
    exact ⟨rfl, rfl⟩
theorem Signed_any (q : Nat) (m : Bool) (w : World) : Calls Tryz.prog 149 #[.int .u64 ((q / 18446744073709551616 : Nat) : Int), .int .u64 ((q % 18446744073709551616 : Nat) : Int), .bool m] w fun e w' => e = .returned (.int .i64 (sgnF q m)) ∧ w' = w := by
  by_cases h : q < 9223372036854775808
  · have e1 : q / 18446744073709551616 = 0 := by omega
    have e2 : q % 18446744073709551616 = q := by omega
    have e3 : min (q : Int) 9223372036854775807 = q := by omega
    rw [e1, e2]
    unfold sgnF
    rw [e3]
    exact signed_small (q : Int) (by omega) (by omega) (decide_eq_true (by omega)) m w
  · have e3 : min (q : Int) 9223372036854775807 = 9223372036854775807 := by omega
    unfold sgnF
    rw [e3]
    by_cases hh : q / 18446744073709551616 = 0
    · rw [hh]
      exact signed_big _ (decide_eq_false (by omega)) m w
    · exact signed_hi _ _ (by rw [beq_eq_false_iff_ne]; omega) m w
set_option maxRecDepth 100000 in
theorem mul_low (p : Nat) : bits .or .u64 (IntKind.u64.wrap (((p / 18446744073709551616 : Nat) : Int) * 4294967296)) (((p % 18446744073709551616 : Nat) : Int) / 4294967296) = ((p / 4294967296 % 18446744073709551616 : Nat) : Int) := by
  obtain ⟨hi, hhi⟩ : ∃ hi, p / 18446744073709551616 = hi := ⟨_, rfl⟩
  obtain ⟨lo, hlo⟩ : ∃ lo, p % 18446744073709551616 = lo := ⟨_, rfl⟩
  have e0 : p / 4294967296 % 18446744073709551616 = hi % 4294967296 * 4294967296 + lo / 4294967296 := by omega
  rw [hhi, hlo, e0]
  have e1 : IntKind.u64.wrap ((hi : Int) * 4294967296) = ((hi % 4294967296 * 4294967296 : Nat) : Int) := by rw [IntKind.wrap_u64]; omega
  have e2 : (lo : Int) / 4294967296 = ((lo / 4294967296 : Nat) : Int) := by omega
  have hl : lo < 18446744073709551616 := by omega
  rw [e1, e2, bits_or_u64_nat _ _ (by omega) (by omega)]
  have := Nat.two_pow_add_eq_or_of_lt (i := 32) (b := lo / 4294967296) (by omega) (hi % 4294967296)
  rw [show 2 ^ 32 * (hi % 4294967296) = hi % 4294967296 * 4294967296 by omega] at this
  rw [← this]
set_option maxHeartbeats 1000000 in
theorem Mul_any (a b : Int) (ha : I64 a) (hb : I64 b) (w : World) : Calls Tryz.prog 148 #[.int .i64 a, .int .i64 b] w fun e w' => e = .returned (.int .i64 (mulF a b)) ∧ w' = w := by
  have h1 := absF_s ha
  have h2 := absF_s hb
  have hc1 := fun W => Abs_any a ha W
  have hc2 := fun W => Abs_any b hb W
  unfold mulF
  obtain ⟨x, hx⟩ := Int.eq_ofNat_of_zero_le h1.1
  obtain ⟨y, hy⟩ := Int.eq_ofNat_of_zero_le h2.1
  rw [hx] at h1 hc1 ⊢
  rw [hy] at h2 hc2 ⊢
  simp only [Int.toNat_natCast]
  clear hx hy
  have hc3 := fun W => Mul64_any x y (by omega) (by omega) W
  have hxy : x * y ≤ 9223372036854775807 * 9223372036854775807 := Nat.mul_le_mul (by omega) (by omega)
  generalize x * y = p at *
  have hc4 := fun m W => Signed_any (p / 4294967296) m W
  have e1 : ((p / 18446744073709551616 : Nat) : Int) / 4294967296 = ((p / 4294967296 / 18446744073709551616 : Nat) : Int) := by omega
  have e2 := mul_low p
  obtain ⟨hi, hhi⟩ : ∃ hi, p / 18446744073709551616 = hi := ⟨_, rfl⟩
  obtain ⟨lo, hlo⟩ : ∃ lo, p % 18446744073709551616 = lo := ⟨_, rfl⟩
  rw [hhi] at e1 e2
  rw [hlo] at e2
  rw [hhi, hlo] at hc3
  have hh : hi < 9223372036854775808 := by omega
  have hl : lo < 18446744073709551616 := by omega
  generalize p / 4294967296 = q at *
  have E1 := hd e1
  have E2 := hd e2
  clear hhi hlo e1 e2 hxy
  go_enter Tryz.func148, Tryz.ntmps148
  go_wp2_with (first
    | (go_at_call 93; ((with_reducible refine (hc1 _).mono ?_); rintro e w' ⟨rfl, rfl⟩))
    | (go_at_call 93; ((with_reducible refine (hc2 _).mono ?_); rintro e w' ⟨rfl, rfl⟩))
    | (go_at_call 171; refine (hc3 _).mono ?_; rintro e w' ⟨rfl, rfl⟩)
    | (go_at_call 149; rw [E1.out, E2.out]; refine (hc4 _ _).mono ?_; rintro e w' ⟨rfl, rfl⟩))
  go_ret
  exact ⟨rfl, rfl⟩
end Go.Proofs.YtpadflhffiiglaaGreat
