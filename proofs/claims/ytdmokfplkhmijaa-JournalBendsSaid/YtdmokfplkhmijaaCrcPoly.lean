/- The rest of the division of polynomials, bit by bit, is the checksum. -/
import Derived.Test.YtdmokfplkhmijaaCrcAlg
namespace Go.Proofs.Ytdmokfplkhmijaa

def b2 (β : Bool) : UInt8 := if β then 1 else 0
theorem b2_flip (β : Bool) : b2 β ^^^ 1 = b2 (!β) := by cases β <;> rfl
theorem b2_one (β : Bool) : b2 β = 1 ↔ β = true := by cases β <;> decide
def IsBits (b : List UInt8) (N : Nat) (F : Nat → Bool) : Prop := b.length = N ∧ ∀ i, i < N → b.getD i 0 = b2 (F i)
theorem IsBits.congr {b : List UInt8} {N : Nat} {F G : Nat → Bool} (h : IsBits b N F) (e : ∀ i, i < N → F i = G i) : IsBits b N G := ⟨h.1, fun i hi => by rw [h.2 i hi, e i hi]⟩
theorem IsBits.flip {b : List UInt8} {N : Nat} {F : Nat → Bool} (h : IsBits b N F) {j : Nat} (hj : j < N) : IsBits (flip1 b j) N (fun i => F i ^^ decide (i = j)) := by
  refine ⟨by rw [flip1_length, h.1], fun i hi => ?_⟩
  unfold flip1
  rw [List.getD_eq_getElem?_getD, List.getElem?_set]
  by_cases e : j = i
  · subst e
    rw [if_pos rfl, if_pos (by rw [h.1]; exact hj), Option.getD_some, h.2 j hj, b2_flip]
    simp
  · rw [if_neg e, ← List.getD_eq_getElem?_getD, h.2 i hi]
    have : decide (i = j) = false := by simpa using fun h => e h.symm
    show _ = b2 (F i ^^ decide (i = j))
    rw [this, Bool.xor_false]
theorem IsBits.flips {N k : Nat} (hk : k + 32 < N) (ps : List Nat) : ∀ {b : List UInt8} {F : Nat → Bool}, IsBits b N F → IsBits (ps.foldl (fun b p => flip1 b (k + 32 - p)) b) N (fun i => ps.foldl (fun acc p => acc ^^ decide (i = k + 32 - p)) (F i)) := by
  induction ps with
  | nil => intro b F h; exact h
  | cons p ps ih => intro b F h; exact ih (h.flip (by omega))
theorem IsBits.firsts {N : Nat} (n : Nat) (hn : n ≤ N) : ∀ {b : List UInt8} {F : Nat → Bool}, IsBits b N F → IsBits ((List.range n).foldl flip1 b) N (fun i => F i ^^ decide (i < n)) := by
  induction n with
  | zero => intro b F h; exact h.congr (by simp)
  | succ n ih =>
    intro b F h
    rw [fold_range_succ]
    refine ((ih (by omega) h).flip (by omega)).congr ?_
    intro i hi
    by_cases h1 : i < n
    · have : i ≠ n := by omega
      simp [h1, this, show i < n + 1 by omega]
    · by_cases h2 : i = n
      · subst h2; simp
      · simp [h1, h2, show ¬ i < n + 1 by omega]

def msg (l : List UInt8) (i : Nat) : Bool := (l.getD (i / 8) 0).toNat.testBit (i % 8)
theorem bitAt_msg (l : List UInt8) (i : Nat) : bitAt l i = b2 (msg l i) := by
  unfold bitAt msg
  generalize l.getD (i / 8) 0 = x
  apply UInt8.toNat_inj.1
  rw [UInt8.toNat_and, UInt8.toNat_shiftRight]
  have e : (UInt8.ofNat (i % 8)).toNat % 8 = i % 8 := by rw [UInt8.toNat_ofNat', Nat.mod_eq_of_lt (show i % 8 < 2 ^ 8 by omega)]; omega
  rw [e]
  show x.toNat >>> (i % 8) &&& 1 = _
  rw [Nat.and_one_is_mod]
  unfold b2
  have ht : x.toNat.testBit (i % 8) = decide (x.toNat >>> (i % 8) % 2 = 1) := by
    rw [Nat.testBit, Nat.and_comm, Nat.and_one_is_mod]
    have := Nat.mod_two_eq_zero_or_one (x.toNat >>> (i % 8))
    rcases this with h | h <;> simp [h]
  rw [ht]
  have := Nat.mod_two_eq_zero_or_one (x.toNat >>> (i % 8))
  rcases this with h | h <;> simp [h]
theorem msg_out (l : List UInt8) (i : Nat) (h : 8 * l.length ≤ i) : msg l i = false := by
  unfold msg
  rw [List.getD_eq_getElem?_getD, List.getElem?_eq_none (by omega)]
  simp
theorem bits_start (l : List UInt8) : IsBits ((List.range (8 * l.length)).map (bitAt l) ++ List.replicate 32 0) (8 * l.length + 32) (msg l) := by
  refine ⟨by simp, fun i hi => ?_⟩
  rw [List.getD_eq_getElem?_getD, List.getElem?_append]
  simp only [List.length_map, List.length_range]
  split
  · rename_i h
    rw [List.getElem?_map, List.getElem?_range h]
    simp [bitAt_msg]
  · rename_i h
    rw [msg_out l i (by omega), List.getElem?_replicate, if_pos (by omega)]
    rfl

def reg (l : List UInt8) (k : Nat) : UInt32 := feeds (~~~ 0) ((List.range k).map (msg l))
theorem reg_succ (l : List UInt8) (k : Nat) : reg l (k + 1) = feed (reg l k) (msg l k) := by
  unfold reg; rw [List.range_succ, List.map_append, feeds_append]; rfl
theorem ones_bits (i : Nat) : (~~~ (0 : UInt32)).toNat.testBit i = decide (i < 32) := by
  show (2 ^ 32 - 1).testBit i = _
  exact Nat.testBit_two_pow_sub_one 32 i
theorem poly_bits (q : Nat) : powers.foldl (fun acc p => acc ^^ decide (q + 1 = 32 - p)) false = (3988292384 : Nat).testBit q := by
  by_cases hq : q < 32
  · have : ∀ q : Fin 32, powers.foldl (fun acc p => acc ^^ decide (q.1 + 1 = 32 - p)) false = (3988292384 : Nat).testBit q.1 := by decide +kernel
    exact this ⟨q, hq⟩
  · rw [Nat.testBit_lt_two_pow (show 3988292384 < 2 ^ q from Nat.lt_of_lt_of_le (by decide) (Nat.pow_le_pow_right (by decide) (show 32 ≤ q by omega)))]
    have hne : ∀ p, decide (q + 1 = 32 - p) = false := fun p => by simp; omega
    simp only [hne, Bool.xor_false]
    rfl
theorem fold_xor (ps : List Nat) (f : Nat → Bool) (a : Bool) : ps.foldl (fun acc p => acc ^^ f p) a = (a ^^ ps.foldl (fun acc p => acc ^^ f p) false) := by
  induction ps generalizing a with
  | nil => simp
  | cons p ps ih => rw [List.foldl_cons, List.foldl_cons, ih, ih (false ^^ f p)]; simp
theorem feed_bit (s : UInt32) (β : Bool) (q : Nat) : (feed s β).toNat.testBit q = (s.toNat.testBit (q + 1) ^^ ((s.toNat.testBit 0 ^^ β) && (3988292384 : Nat).testBit q)) := by
  unfold feed
  rw [crcBit_toNat]
  have hm : (if β = true then (1 : UInt32) else 0).toNat = if β then 1 else 0 := by cases β <;> rfl
  have h0 : (s ^^^ if β then 1 else 0).toNat.testBit 0 = (s.toNat.testBit 0 ^^ β) := by
    rw [UInt32.toNat_xor, Nat.testBit_xor, hm]; cases β <;> simp
  have h1 : ∀ q, (s ^^^ if β then 1 else 0).toNat.testBit (q + 1) = s.toNat.testBit (q + 1) := by
    intro q
    rw [UInt32.toNat_xor, Nat.testBit_xor, hm]; cases β <;> simp [Nat.testBit_succ]
  generalize (s ^^^ if β then 1 else 0) = t at *
  rw [← h0, ← h1]
  have hodd : t.toNat.testBit 0 = decide (t.toNat % 2 = 1) := Nat.testBit_zero _
  split
  · rename_i h
    rw [hodd, Nat.testBit_xor, ← Nat.testBit_succ]; simp [h]
  · rename_i h
    rw [hodd, ← Nat.testBit_succ]; simp [h]

theorem poly_inv (l : List UInt8) (b : List UInt8) (hb : IsBits b (8 * l.length + 32) (fun i => msg l i ^^ decide (i < 32))) (k : Nat) (hk : k ≤ 8 * l.length) :
    ∃ F, IsBits ((List.range k).foldl polyStep b) (8 * l.length + 32) F ∧ ∀ i, k ≤ i → F i = (msg l i ^^ (reg l k).toNat.testBit (i - k)) := by
  induction k with
  | zero => exact ⟨_, hb, fun i _ => by show _ = (_ ^^ (~~~ (0 : UInt32)).toNat.testBit i); rw [ones_bits]⟩
  | succ k ih =>
    obtain ⟨F, hF, hR⟩ := ih (by omega)
    rw [fold_range_succ, reg_succ]
    generalize (List.range k).foldl polyStep b = c at *
    have hFk := hR k (Nat.le_refl _)
    rw [Nat.sub_self] at hFk
    unfold polyStep
    rw [hF.2 k (by omega)]
    have key : ∀ i, k + 1 ≤ i → (msg l i ^^ (feed (reg l k) (msg l k)).toNat.testBit (i - (k + 1))) = (F i ^^ (F k && (3988292384 : Nat).testBit (i - (k + 1)))) := by
      intro i hi
      rw [feed_bit, hR i (by omega), hFk, show i - (k + 1) + 1 = i - k by omega, Bool.xor_assoc, Bool.xor_comm (msg l k)]
    by_cases hβ : F k = true
    · rw [if_pos ((b2_one _).2 hβ)]
      refine ⟨_, hF.flips (by omega) powers, fun i hi => ?_⟩
      rw [key i hi, fold_xor, hβ, Bool.true_and, ← poly_bits]
      congr 1
      have : ∀ (ps : List Nat), (∀ p ∈ ps, p ≤ 32) → ∀ a, ps.foldl (fun acc p => acc ^^ decide (i = k + 32 - p)) a = ps.foldl (fun acc p => acc ^^ decide (i - (k + 1) + 1 = 32 - p)) a := by
        intro ps
        induction ps with
        | nil => intros; rfl
        | cons p ps ih =>
          intro hp a
          rw [List.foldl_cons, List.foldl_cons]
          have h1 := hp p (by simp)
          have e : decide (i = k + 32 - p) = decide (i - (k + 1) + 1 = 32 - p) := decide_eq_decide.2 (by omega)
          rw [e]
          exact ih (fun p h => hp p (by simp [h])) _
      exact this powers (by decide) false
    · rw [if_neg (fun h => hβ ((b2_one _).1 h))]
      have hβ' : F k = false := by simpa using hβ
      exact ⟨F, hF, fun i hi => by rw [key i hi, hβ']; simp⟩

theorem gather_bits (B : List UInt8) (G : Nat → Bool) (n : Nat) (hn : n ≤ 32) (hB : ∀ j, j < n → B.getD j 0 = b2 (G j)) (q : Nat) : (gather B n).toNat.testBit q = (decide (q < n) && !G q) := by
  induction n with
  | zero => simp [gather]
  | succ n ih =>
    rw [gather, UInt32.toNat_or, Nat.testBit_or, ih (by omega) (fun j hj => hB j (by omega)), hB n (by omega)]
    have e : ((b2 (G n)).toUInt32 ^^^ 1) = if G n then 0 else 1 := by cases G n <;> rfl
    rw [e]
    have hs : ((if G n = true then (0 : UInt32) else 1) <<< UInt32.ofNat n).toNat = if G n then 0 else 2 ^ n := by
      cases G n
      · rw [UInt32.toNat_shiftLeft]
        have h1 : (UInt32.ofNat n).toNat % 32 = n := by rw [UInt32.toNat_ofNat', Nat.mod_eq_of_lt (show n < 2 ^ 32 by omega)]; omega
        rw [h1]
        show 1 <<< n % 2 ^ 32 = _
        rw [Nat.shiftLeft_eq, Nat.one_mul]
        exact Nat.mod_eq_of_lt (Nat.pow_lt_pow_right (by decide) (by omega))
      · simp
    rw [hs]
    by_cases hq : q = n
    · subst hq
      cases G q <;> simp
    · have h1 : (if G n = true then 0 else 2 ^ n).testBit q = false := by
        cases G n
        · simp only [Bool.false_eq_true, if_false]
          rw [Nat.testBit_two_pow]; simp; omega
        · simp
      rw [h1, Bool.or_false]
      congr 1
      exact decide_eq_decide.2 (by omega)

theorem bitsB_msg (l : List UInt8) : bitsB l = (List.range (8 * l.length)).map (msg l) := by
  apply List.ext_getElem?
  intro i
  have hlen : ∀ l : List UInt8, (bitsB l).length = 8 * l.length := by
    intro l; induction l with
    | nil => rfl
    | cons c l ih => unfold bitsB at *; rw [List.flatMap_cons, List.length_append, ih]; simp; omega
  have hget : ∀ (l : List UInt8) (i : Nat), i < 8 * l.length → (bitsB l)[i]? = some (msg l i) := by
    intro l
    induction l with
    | nil => intro i hi; simp at hi
    | cons c l ih =>
      intro i hi
      have e : bitsB (c :: l) = ((List.range 8).map fun j => c.toNat.testBit j) ++ bitsB l := rfl
      rw [e, List.getElem?_append]
      simp only [List.length_map, List.length_range]
      split
      · rename_i h
        rw [List.getElem?_map, List.getElem?_range h]
        unfold msg
        rw [show i / 8 = 0 by omega, show i % 8 = i by omega]
        rfl
      · rename_i h
        rw [ih (i - 8) (by simp at hi; omega)]
        unfold msg
        obtain ⟨k, hk⟩ : ∃ k, i / 8 = k + 1 := ⟨i / 8 - 1, by omega⟩
        rw [hk, show (i - 8) / 8 = k by omega, show (i - 8) % 8 = i % 8 by omega]
        rfl
  by_cases hi : i < 8 * l.length
  · rw [hget l i hi, List.getElem?_map, List.getElem?_range hi]; rfl
  · rw [List.getElem?_eq_none (by rw [hlen]; omega), List.getElem?_eq_none (by simp; omega)]

theorem polySum_eq (l : List UInt8) : polySum l = crcSum l := by
  obtain ⟨F, hF, hR⟩ := poly_inv l _ ((bits_start l).firsts 32 (by omega)) (8 * l.length) (Nat.le_refl _)
  have hreg : reg l (8 * l.length) = crcRun (~~~ 0) l := by rw [crcRun_feeds, bitsB_msg]; rfl
  apply UInt32.toNat_inj.1
  apply Nat.eq_of_testBit_eq
  intro q
  unfold polySum sumBits
  rw [gather_bits _ (fun j => (reg l (8 * l.length)).toNat.testBit j) 32 (by decide) (fun j hj => ?_)]
  · unfold crcSum crcAdd
    rw [hreg]
    generalize crcRun (~~~ 0) l = r
    have hr := r.toNat_lt
    have e : (~~~ r).toNat = 2 ^ 32 - (r.toNat + 1) := by rw [UInt32.toNat_not]; show 4294967296 - 1 - r.toNat = 4294967296 - (r.toNat + 1); omega
    rw [e, Nat.testBit_two_pow_sub_succ hr]
  · rw [List.getD_eq_getElem?_getD, List.getElem?_drop, ← List.getD_eq_getElem?_getD, hF.2 _ (by omega), hR _ (by omega), msg_out l _ (by omega), Bool.false_xor]
    congr 2
    omega
end Go.Proofs.Ytdmokfplkhmijaa
