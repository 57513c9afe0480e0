/- Words and walks that SF rests on: NewI, NewB, NewM. -/
import Derived.Test.YtbiadpkglcdihaaGreatWSF33
import Derived.Test.YtbiadpkglcdihaaGreatWSF34
import Derived.Test.YtbiadpkglcdihaaGreatWSF27
import Derived.Test.YtbiadpkglcdihaaGreatWSF24
import Derived.Test.YtbiadpkglcdihaaGreatWSF12
/- SaveNewest: what its loops keep. -/
namespace Go.Proofs.YtbiadpkglcdihaaGreat
open Go.RowKit

def FBn (XF : Nat → Wld) (n : Nat) : List UInt8 := frameB (XF n).tick (leW (XF n))
structure NInv (XF : Nat → Wld) (R : Int) (T : List Nat) (es : Zm) (L : List (Nat × List UInt8 × Nat)) (d : Dsk) (k : Nat) : Prop where
  c : Cks R L d
  ids : ∀ n, n ∈ L.map (·.1) ↔ n ∈ T
  st : ∀ x ∈ L, ((zget es x.1).getD 0 = 1 ∧ x.2.1 = FBn XF x.1) ∨ ((zget es x.1).getD 0 = 2 ∧ Bent (FBn XF x.1) x.2.1)
  ix : (L.map (·.2.2)).Nodup
  len : L.length ≤ k
  es0 : ∀ n, n ∉ T → zget es n = none
  es1 : ∀ n, n ∈ T → (zget es n).getD 0 = 1 ∨ (zget es n).getD 0 = 2
  t16 : ∀ n ∈ T, n < 16
variable {XF : Nat → Wld} {R : Int} {T : List Nat} {es : Zm} {L : List (Nat × List UInt8 × Nat)} {d : Dsk} {k n : Nat}
theorem NInv.blen (h : NInv XF R T es L d k) (hF : ∀ n, n < 16 → (FBn XF n).length ≤ 270020) : ∀ x ∈ L, x.2.1.length ≤ 270020 := by
  intro x hx
  have hn := h.t16 x.1 ((h.ids x.1).1 (List.mem_map.2 ⟨x, hx, rfl⟩))
  rcases h.st x hx with ⟨-, e⟩ | ⟨-, e⟩
  · rw [e]; exact hF _ hn
  · rw [e.len]; exact hF _ hn
theorem sum_le (m : Nat) : ∀ (L : List (Nat × List UInt8 × Nat)), (∀ x ∈ L, x.2.1.length ≤ m) → (L.map fun x => x.2.1.length).sum ≤ L.length * m
  | [], _ => by simp
  | x :: L, h => by
    have h1 := h x (by simp)
    have h2 := sum_le m L (fun y hy => h y (by simp [hy]))
    rw [List.map_cons, List.sum_cons, List.length_cons, Nat.succ_mul]
    omega
theorem NInv.op (h : NInv XF R T es L d k) : NInv XF R T es L (opD d) k := ⟨h.c.op, h.ids, h.st, h.ix, h.len, h.es0, h.es1, h.t16⟩
theorem NInv.put (h : NInv XF R T es L d k) (hall : ∀ m ∈ T, (zget es m).getD 0 = 1) (hF : ∀ n, n < 16 → (FBn XF n).length ≤ 270020) (hR : R = 4194304) (hk : k ≤ 8) (hn : n < 16) :
    (putD d n (FBn XF n)).1 = 0 ∧ (∃ L', NInv XF R (addC T n) (zput es n 1) L' (putD d n (FBn XF n)).2 (k + 1)) ∧ (∀ m ∈ addC T n, (zget (zput es n 1) m).getD 0 = 1) ∧ (putD d n (FBn XF n)).2.ops ≤ d.ops + 7 := by
  have hs := sum_le 270020 L (h.blen hF)
  have hl := h.len
  have hf := hF n hn
  obtain ⟨h1, h2, h3⟩ := h.c.putI n (FBn XF n) (by omega) (by rw [hR]; omega) (by omega)
  have hadd : ∀ m, m ∈ addC T n ↔ m ∈ T ∨ m = n := by
    intro m
    unfold addC
    split
    · rename_i hT
      exact ⟨fun h => .inl h, fun h => h.elim id (fun e => e ▸ hT)⟩
    · simp
  have hall2 : ∀ m ∈ addC T n, (zget (zput es n 1) m).getD 0 = 1 := by
    intro m hm
    by_cases e : m = n
    · subst e; rw [zget_put_same]; rfl
    · rw [zget_put_other e]
      exact hall m (((hadd m).1 hm).resolve_right e)
  refine ⟨h1, ⟨_, h2, ?_, ?_, ?_, ?_, ?_, fun m hm => .inl (hall2 m hm), ?_⟩, hall2, h3⟩
  · intro m
    rw [hadd, List.map_append, List.mem_append]
    simp only [List.map_cons, List.map_nil, List.mem_singleton]
    constructor
    · rintro (hm | hm)
      · obtain ⟨x, hx, rfl⟩ := List.mem_map.1 hm
        exact .inl ((h.ids _).1 (List.mem_map.2 ⟨x, (List.mem_filter.1 hx).1, rfl⟩))
      · exact .inr hm
    · rintro (hm | hm)
      · by_cases e : m = n
        · exact .inr e
        · obtain ⟨x, hx, rfl⟩ := List.mem_map.1 ((h.ids m).2 hm)
          exact .inl (List.mem_map.2 ⟨x, List.mem_filter.2 ⟨hx, by simpa using e⟩, rfl⟩)
      · exact .inr hm
  · intro x hx
    rcases List.mem_append.1 hx with hx | hx
    · obtain ⟨hx1, hx2⟩ := List.mem_filter.1 hx
      have e : x.1 ≠ n := by simpa using hx2
      have hxT := (h.ids x.1).1 (List.mem_map.2 ⟨x, hx1, rfl⟩)
      rw [zget_put_other e]
      rcases h.st x hx1 with hh | ⟨h2, -⟩
      · exact .inl hh
      · have := hall x.1 hxT; omega
    · obtain rfl := List.mem_singleton.1 hx
      left
      exact ⟨by rw [zget_put_same]; rfl, rfl⟩
  · rw [List.map_append, List.nodup_append]
    refine ⟨?_, by simp, ?_⟩
    · have h0 := h.ix
      unfold List.Nodup at h0 ⊢
      rw [List.pairwise_map] at h0 ⊢
      exact h0.filter _
    · intro a ha c hc e
      obtain ⟨x, hx, rfl⟩ := List.mem_map.1 ha
      simp at hc
      subst hc
      have := (h.c.n.file x (List.mem_filter.1 hx).1).1
      omega
  · rw [List.length_append]
    have := List.length_filter_le (fun x : Nat × List UInt8 × Nat => !(x.1 == n)) L
    simp only [List.length_cons, List.length_nil]
    omega
  · intro m hm
    rw [hadd] at hm
    rw [zget_put_other (fun e => hm (.inr e))]
    exact h.es0 m (fun h => hm (.inl h))
  · intro m hm
    rcases (hadd m).1 hm with hm | rfl
    · exact h.t16 m hm
    · exact hn
theorem Cks.bendC {room : Int} (h : Cks room L d) (hi : (L.map (·.2.2)).Nodup) (hn : n ∈ L.map (·.1)) (r : Int) (M : UInt32) : Cks room (L.map fun x => if x.1 = n then (x.1, bendB x.2.1 r M, x.2.2) else x) (bendDsk d (chkB n) r M) ∧ (bendDsk d (chkB n) r M).ops = d.ops := by
  obtain ⟨h1, h2⟩ := h.n.bend hi hn r M
  obtain ⟨y, hy, rfl⟩ := List.mem_map.1 hn
  refine ⟨⟨h1, ?_, ?_⟩, h2⟩ <;> unfold bendDsk <;> rw [h.n.get hy] <;> simp only
  · unfold setF; simp only; exact h.sure
  · unfold setF; simp only; exact h.ch
theorem NInv.bend (h : NInv XF R T es L d k) (hn : n ∈ T) (h1 : (zget es n).getD 0 = 1) (r : Nat) (M : UInt32) (hM : M ≠ 0) (hr : r + 32 ≤ 8 * (FBn XF n).length) :
    (∃ L', NInv XF R T (zput es n 2) L' (bendDsk d (chkB n) r M) k) ∧ (bendDsk d (chkB n) r M).ops = d.ops := by
  obtain ⟨c1, c2⟩ := h.c.bendC h.ix ((h.ids n).2 hn) r M
  refine ⟨⟨_, c1, ?_, ?_, ?_, by rw [List.length_map]; exact h.len, ?_, ?_, h.t16⟩, c2⟩
  · intro m
    rw [← h.ids m, List.map_map]
    have : (fun x : Nat × List UInt8 × Nat => x.1) ∘ (fun x => if x.1 = n then (x.1, bendB x.2.1 r M, x.2.2) else x) = fun x => x.1 := by
      funext x; simp only [Function.comp]; split <;> rfl
    rw [this]
  · intro z hz
    obtain ⟨x, hx, rfl⟩ := List.mem_map.1 hz
    by_cases e : x.1 = n
    · rw [if_pos e]
      right
      simp only
      refine ⟨by rw [e, zget_put_same]; rfl, ?_⟩
      rcases h.st x hx with ⟨-, hb⟩ | ⟨h2, -⟩
      · rw [hb, e]; exact Bent.of _ r M hM hr
      · rw [e] at h2; omega
    · rw [if_neg e, zget_put_other e]
      exact h.st x hx
  · rw [List.map_map]
    have : (fun x : Nat × List UInt8 × Nat => x.2.2) ∘ (fun x => if x.1 = n then (x.1, bendB x.2.1 r M, x.2.2) else x) = fun x => x.2.2 := by
      funext x; simp only [Function.comp]; split <;> rfl
    rw [this]
    exact h.ix
  · intro m hm
    rw [zget_put_other (fun e => hm (by rw [e]; exact hn))]
    exact h.es0 m hm
  · intro m hm
    by_cases e : m = n
    · subst e; rw [zget_put_same]; right; rfl
    · rw [zget_put_other e]; exact h.es1 m hm
structure XOk (XF : Nat → Wld) : Prop where
  g : ∀ n, n < 16 → GW (XF n)
  c : ∀ n, n < 16 → (XF n).contacts = []
  t : ∀ n, n < 16 → (XF n).tick = (n : Int)
  l : ∀ n, n < 16 → (leW (XF n)).length ≤ 270000
theorem XOk.f (h : XOk XF) : ∀ n, n < 16 → (FBn XF n).length ≤ 270020 := fun n hn => by have := h.l n hn; unfold FBn; rw [frameB_length]; omega
/-- What a number's checkpoint reads as. -/
theorem NInv.load (h : NInv XF R T es L d k) (hX : XOk XF) (hn : n ∈ T) : ((zget es n).getD 0 = 1 → LoadIs d n 0 (XF n)) ∧ ((zget es n).getD 0 ≠ 1 → LoadIs d n 9 WZ) ∧ (bytesD d (chkB n)).length ≤ 270020 := by
  have h16 := h.t16 n hn
  obtain ⟨⟨m, b, i⟩, hx, e⟩ := List.mem_map.1 ((h.ids n).2 hn)
  simp only at e
  subst e
  have hb := (h.c.n.bytes hx).1
  simp only at hb
  rcases h.st _ hx with ⟨h1, h2⟩ | ⟨h1, h2⟩
  · simp only at h1 h2
    refine ⟨fun _ => chk1_GW (hX.g _ h16) (hX.c _ h16) (hX.t _ h16) (by omega) (hX.l _ h16) (i := i) h.c.n (by have h3 := h2; unfold FBn at h3; rw [← h3]; exact hx), fun hne => absurd h1 hne, ?_⟩
    rw [hb, h2]
    exact hX.f _ h16
  · simp only at h1 h2
    refine ⟨fun h1' => by omega, fun _ => bent_load (hX.t _ h16) (by omega) (hX.l _ h16) (i := i) h.c.n hx h2, ?_⟩
    rw [hb, h2.len]
    exact hX.f _ h16
theorem NInv.read (h : NInv XF R T es L d k) (h1 : (zget es n).getD 0 = 1) : n ∈ T ∧ bytesD d (chkB n) = FBn XF n ∧ syncE d (chkB n) = 0 := by
  have hn : n ∈ T := Classical.byContradiction fun hn => by rw [h.es0 n hn] at h1; cases h1
  obtain ⟨⟨m, b, i⟩, hx, e⟩ := List.mem_map.1 ((h.ids n).2 hn)
  simp only at e
  subst e
  obtain ⟨hb, hs⟩ := h.c.n.bytes hx
  refine ⟨hn, ?_, hs⟩
  rcases h.st _ hx with ⟨-, h2⟩ | ⟨h2, -⟩
  · rw [hb, h2]
  · simp only at h2; omega
theorem zput_len (es : Zm) (n i : Nat) : (zput es n i).length ≤ es.length + 1 := by
  unfold zput zdel
  rw [List.length_append]
  have := List.length_filter_le (fun p : Nat × Nat => !(p.1 == n)) es
  simp only [List.length_cons, List.length_nil]
  omega
end Go.Proofs.YtbiadpkglcdihaaGreat

/- SaveNewest: the newest that is whole. -/
namespace Go.Proofs.YtbiadpkglcdihaaGreat
open Go.RowKit

variable {XF : Nat → Wld} {R : Int} {T : List Nat} {es rest : Zm} {L : List (Nat × List UInt8 × Nat)} {d : Dsk} {k n : Nat} {v : Int}
structure Best (es rest : Zm) (v : Int) : Prop where
  lo : -1 ≤ v
  is : v = -1 ∨ ∃ n : Nat, (n, 1) ∈ es ∧ v = n
  up : ∀ p ∈ es, p.2 = 1 → p ∉ rest → (p.1 : Int) ≤ v
theorem Best.start (es : Zm) : Best es es (-1) := ⟨by omega, .inl rfl, fun p h1 _ h2 => absurd h1 h2⟩
theorem Best.step (h : Best es rest v) (hnd : (es.map (·.1)).Nodup) (hsub : ∀ p ∈ rest, p ∈ es) {n i : Nat} (hm : (n, i) ∈ rest) : Best es (zdel rest n) (if i = 1 then max v n else v) := by
  have hup : ∀ p ∈ es, p ∉ zdel rest n → p ∉ rest ∨ p = (n, i) := by
    intro p hp hz
    by_cases hr : p ∈ rest
    · right
      have hk : p.1 = n := Classical.byContradiction fun e => hz (List.mem_filter.2 ⟨hr, by simpa using e⟩)
      have h1 := mem_zget hnd (s := p.1) (i := p.2) hp
      have h2 := mem_zget hnd (hsub _ hm)
      rw [hk, h2] at h1
      have h3 := Option.some.inj h1
      exact Prod.ext hk h3.symm
    · exact .inl hr
  by_cases hi : i = 1
  · rw [if_pos hi]
    refine ⟨by have := h.lo; omega, ?_, fun p hp h1 hz => ?_⟩
    · by_cases hle : v ≤ (n : Int)
      · right; exact ⟨n, hi ▸ hsub _ hm, by omega⟩
      · rw [show max v (n : Int) = v by omega]; exact h.is
    · rcases hup p hp hz with hr | rfl
      · have := h.up p hp h1 hr; omega
      · simp only; omega
  · rw [if_neg hi]
    refine ⟨h.lo, h.is, fun p hp h1 hz => ?_⟩
    rcases hup p hp hz with hr | rfl
    · exact h.up p hp h1 hr
    · exact absurd h1 hi
theorem getD1 {o : Option Nat} : o.getD 0 = 1 ↔ o = some 1 := by
  cases o <;> simp
theorem NInv.mem (h : NInv XF R T es L d k) (h1 : (zget es n).getD 0 = 1) : n ∈ T := Classical.byContradiction fun hn => by rw [h.es0 n hn] at h1; cases h1
/-- What save.Newest tells. -/
theorem NInv.newest (h : NInv XF R T es L d k) (hX : XOk XF) (hnd : (es.map (·.1)).Nodup) (hB : Best es [] v) (hops : d.ops + T.length < 1073741824) :
    ∃ d' ok X, NewIs d (T.mergeSort (fun x y => decide (x ≤ y))).reverse 0 ok X d' ∧ NInv XF R T es L d' k ∧ d'.ops ≤ d.ops + T.length ∧ ((v = -1 ∧ ok = false ∧ X = WZ) ∨ ∃ m : Nat, m < 16 ∧ v = m ∧ ok = true ∧ X = XF m) := by
  obtain ⟨s1, s2, s3⟩ := desc_sorted T
  generalize (T.mergeSort (fun x y => decide (x ≤ y))).reverse = S at *
  obtain ⟨d', g1, g2, g3⟩ := new_list (T := T) (fun d => NInv XF R T es L d k) (fun d h => h.op) (fun n => (zget es n).getD 0) XF (fun n hn => by have := h.t16 n hn; omega) (fun d n h hn hs => (h.load hX hn).1 hs) (fun d n h hn hs => (h.load hX hn).2.1 hs) (fun d n h hn => by have := (h.load hX hn).2.2; omega) S d (fun n hn => (s2 n).1 hn) h (by omega)
  refine ⟨d', _, _, g1, g2, by omega, ?_⟩
  obtain ⟨f1, f2⟩ := desc_find (fun n => (zget es n).getD 0) S s1
  rcases hf : S.find? (fun n => (zget es n).getD 0 == 1) with _ | m
  · left
    refine ⟨?_, rfl, rfl⟩
    rcases hB.is with h1 | ⟨n, hn, -⟩
    · exact h1
    · have hz := mem_zget hnd hn
      have h1 : (zget es n).getD 0 = 1 := getD1.2 hz
      exact absurd h1 (f2 hf n ((s2 n).2 (h.mem h1)))
  · right
    obtain ⟨m1, m2, m3⟩ := f1 m hf
    refine ⟨m, h.t16 m ((s2 m).1 m1), ?_, rfl, rfl⟩
    have hup := hB.up (m, 1) (zget_some_mem (getD1.1 m2)) rfl (by simp)
    simp only at hup
    rcases hB.is with h1 | ⟨n, hn, hv⟩
    · omega
    · have h1 : (zget es n).getD 0 = 1 := getD1.2 (mem_zget hnd hn)
      have := m3 n ((s2 n).2 (h.mem h1)) h1
      omega
theorem NInv.newest77 (h : NInv XF R T es L d k) (hops : d.ops < 1073741824) : NewIs d ((77 :: T).mergeSort (fun x y => decide (x ≤ y))).reverse 4 false WZ (opD d) := by
  obtain ⟨s1, s2, s3⟩ := desc_sorted (77 :: T)
  generalize ((77 :: T).mergeSort (fun x y => decide (x ≤ y))).reverse = S at *
  have h77 : 77 ∈ S := (s2 77).2 (by simp)
  rcases S with _ | ⟨x, S⟩
  · cases h77
  · have hx : x = 77 := by
      have h1 := (s2 x).1 (by simp)
      rw [List.pairwise_cons] at s1
      rcases List.mem_cons.1 h77 with e | e
      · exact e.symm
      · have h2 := s1.1 77 e
        rcases List.mem_cons.1 h1 with e | e
        · exact e
        · have := h.t16 x e; omega
    subst hx
    have hno : 77 ∉ L.map (·.1) := fun hm => by have := h.t16 77 ((h.ids 77).1 hm); omega
    have hs := (h.c.n.none (n := 77) (by decide) hno).1
    refine .err d 77 S 4 ⟨by decide, hops, ?_⟩ (by decide) (by decide) (.inl ⟨by rw [hs]; decide, hs.symm, rfl⟩)
    unfold bytesD
    rw [h.c.n.no (n := 77) (by decide) hno]
    simp
end Go.Proofs.YtbiadpkglcdihaaGreat

/- A disk beside a map and a list: reading, bending, checkpoints. -/
namespace Go.Proofs.YtbiadpkglcdihaaGreat
open Go.RowKit

variable {w wr wx : World} {b mb : Nat} {d : Dsk} {M : World → Prop} {v : Value} {xs : List Int}
theorem DML.both (h : DML w wr b d mb M v xs) {f : FuncId} {args : Array Value} {R : Ending → World → Prop} {d' : Dsk}
    (ho : ∀ fp, Dk wr fp b d → (∀ k, v.ownBlock = some k → k ∉ fp) → b ∈ fp → Calls Tryz.prog f args wr fun e w' => R e w' ∧ DkOut wr fp b d' w') : Calls Tryz.prog f args wr fun e w' => R e w' ∧ DML w w' b d' mb M v xs := by
  have hlt : ∀ k, v.ownBlock = some k → k < wr.heap.size := fun k hk => (World.ownsRow.lt h.l k hk).2
  obtain ⟨h0, fp, h1, h2, h3, h4, h5, h6, h7, h8, h9⟩ := h
  have hb : b ∈ fp := by obtain ⟨_, _, _, _, _, hh⟩ := h1; exact hh.fpb
  refine (ho fp h1 (fun k hk => (h9 k hk).1) hb).mono fun e w' ⟨he, fp', g1, g2, g3⟩ => ⟨he, ?_⟩
  refine ⟨h0, fp', g1, h2.trans g2 (fun x hx hl => by have := h3 x hx; omega), fun k hk => ?_, fun hk => ?_, h5, by have := g2.size; omega, h0 _ _ _ g2 h4 h7, ownsRow_chg h8 g2 (fun k hk => (h9 k hk).1), fun k hk => ⟨fun hf => ?_, (h9 k hk).2⟩⟩
  · rcases g3 k hk with h | h
    · exact h3 k h
    · have := h2.size; omega
  · rcases g3 mb hk with h | h
    · exact h4 h
    · omega
  · rcases g3 k hf with h | h
    · exact (h9 k hk).1 h
    · have := hlt k hk; omega
theorem DML.blt (h : DML w wr b d mb M v xs) : b < wr.heap.size ∧ w.heap.size ≤ b ∧ b ≠ mb := by
  obtain ⟨h0, fp, h1, h2, h3, h4, h5, h6, h7, h8, h9⟩ := h
  have hb : b ∈ fp := by obtain ⟨_, _, _, _, _, hh⟩ := h1; exact hh.fpb
  exact ⟨h1.fpl b hb, h3 b hb, fun e => h4 (e ▸ hb)⟩
theorem DML.load (h : DML w wr b d mb M v xs) (n : Nat) (hn : n ≤ 4611686018427387904) (hops : d.ops < 1073741824) (hlen : (bytesD d (chkB n)).length ≤ 140737488354000) (r : Int) (X : Wld) (hi : LoadIs d n r X) :
    Calls Tryz.prog 17 #[.pointer (some ⟨b, 0, none⟩), .int .i64 (n : Int)] wr fun e w' => ((∃ bv jv kv L, e = .returned (.tuple #[vW X bv jv kv, .int .i64 r]) ∧ WlP w' bv jv kv L X) ∧ Chg [b] wr w') ∧ DML w w' b (opD d) mb M v xs :=
  h.both fun _ hk _ hb => (Load_any hk n hn hops hlen r X hi).mono fun _ _ ⟨bv, jv, kv, L, he, hp, _, hd, hc⟩ => ⟨⟨⟨bv, jv, kv, L, he, hp⟩, hc⟩, .same hd (hc.mono (fun x hx _ => by simp at hx; subst hx; exact hb))⟩
theorem DML.newest (h : DML w wr b d mb M v xs) (ao : Option Addr) (cap : Nat) (ks : List Nat) (hlen : ks.length ≤ 1000) (hv : Fs wr (.slice ao ks.length cap) (ks.map Int.ofNat)) (r : Int) (ok : Bool) (X : Wld) (d' : Dsk) (hN : NewIs d (ks.mergeSort (fun x y => decide (x ≤ y))).reverse r ok X d') :
    Calls Tryz.prog 27 #[.pointer (some ⟨b, 0, none⟩), .slice ao ks.length cap] wr fun e w' => ((∃ bv jv kv L, e = .returned (.tuple #[vW X bv jv kv, .bool ok, .int .i64 r]) ∧ WlP w' bv jv kv L X ∧ Apart [b] bv jv kv L X) ∧ Chg [b] wr w') ∧ DML w w' b d' mb M v xs :=
  h.both fun _ hk _ hb => (Newest_any hk ao cap ks hlen hv r ok X d' hN).mono fun _ _ ⟨bv, jv, kv, L, he, hp, ha, hd, hc⟩ => ⟨⟨⟨bv, jv, kv, L, he, hp, ha⟩, hc⟩, .same hd (hc.mono (fun x hx _ => by simp at hx; subst hx; exact hb))⟩
theorem DML.read (h : DML w wr b d mb M v xs) (s : List UInt8) (hsl : s.length ≤ 140737488355328) (hops : d.ops < 1073741824) (he : syncE d s = 0) :
    Calls Tryz.prog 14 #[.pointer (some ⟨b, 0, none⟩), .string (strB s)] wr fun e w' => (∃ ao c, e = .returned (.tuple #[.slice ao (bytesD d s).length c, .int .i64 0])) ∧ DML w w' b (opD d) mb M v xs :=
  h.both (R := fun e _ => ∃ ao c, e = .returned (.tuple #[.slice ao (bytesD d s).length c, .int .i64 0])) fun _ hk _ hb => (Read_any hk s hsl hops).mono fun _ _ ⟨ao, n, c, e1, ho, hd, hc⟩ => by
    rw [he] at e1
    rw [if_pos he] at ho
    obtain ⟨ao2, cap2, b2, off2, hf, -⟩ := ho.bs.open
    injection hf with hf1 hf2 hf3
    subst hf1 hf2 hf3
    exact ⟨⟨ao, c, e1⟩, .same hd (hc.mono (fun x hx _ => by simp at hx; subst hx; exact hb))⟩
theorem DML.bend (h : DML w wr b d mb M v xs) (s : List UInt8) (hsl : s.length ≤ 140737488355328) (at_ : Int) (mask : UInt32) (ha1 : -4611686018427387904 ≤ at_) (ha2 : at_ ≤ 4611686018427387904) :
    Calls Tryz.prog 15 #[.pointer (some ⟨b, 0, none⟩), .string (strB s), .int .i64 at_, .int .u32 (n32 mask)] wr fun e w' => e = .returned (.bool (nget d.names s).isSome) ∧ DML w w' b (bendDsk d s at_ mask) mb M v xs :=
  h.both (R := fun e _ => e = .returned (.bool (nget d.names s).isSome)) fun _ hk _ _ => DBend_any hk s hsl at_ mask ha1 ha2
theorem Chg.walks {w w' : World} {b : Nat} {cs : Array Value} {t : TypeId} (h : Chg [b] w w') (hb : Blk w b cs t) : KeepsWalks w w' :=
  ⟨h.size, fun k o hk ho => by
    by_cases e : k = b
    · subst e; unfold Blk at hb; rw [hb] at hk; cases hk; cases ho
    · rw [h.block k (Array.getElem?_eq_some_iff.1 hk).1 (by simpa using e)]; exact hk⟩
theorem Chg.walks0 {w w' : World} (h : Chg [] w w') : KeepsWalks w w' :=
  ⟨h.size, fun k o hk _ => by rw [h.block k (Array.getElem?_eq_some_iff.1 hk).1 (by simp)]; exact hk⟩
theorem MapZRange.walks {w w' : World} {b r : Nat} {es rest : Zm} (h : MapZRange w b r es rest) (hk : KeepsWalks w w') : MapZRange w' b r es rest ∧ w'.rangeLeft b r = w.rangeLeft b r := by
  obtain ⟨D, left, cnt, h1, h2⟩ := h
  have h3 := h1.of_walks hk
  exact ⟨⟨D, left, cnt, h3, h2⟩, by rw [h3.left_eq, h1.left_eq]⟩
theorem Dk.box0 {w : World} {fp : List Nat} {b : Nat} {d : Dsk} (h : Dk w fp b d) : ∃ cs t, Blk w b cs t := by obtain ⟨_, _, _, _, _, hh⟩ := h; exact ⟨_, _, hh.box⟩
end Go.Proofs.YtbiadpkglcdihaaGreat
