/- Words and walks that Apart rests on: WorldX, WorldAB, WorldAJ, WorldRm, DeedI. -/
import Derived.Test.YtpadflhffiiglaaGreatWApart39
import Derived.Test.YtpadflhffiiglaaGreatWApart37
/- Worlds that a pointer names; what comes and goes, as plain functions; shape.Copy; append onto a clipped list. -/
namespace Go.Proofs.YtpadflhffiiglaaGreat
open Go.RowKit

def wC (X : Wld) (bv jv kv : Value) : Array Value := #[.int .i64 X.tick, .int .i64 X.nb, .int .i64 X.nj, .int .i64 X.grav.1, .int .i64 X.grav.2, bv, jv, kv]
/-- Blocks in S stand apart from a world's. -/
structure Apart (S : List Nat) (bv jv kv : Value) (L : List BV) (X : Wld) : Prop where
  b : 0 < L.length → ∀ k, bv.ownBlock = some k → k ∉ S
  j : 0 < X.joints.length → ∀ k, jv.ownBlock = some k → k ∉ S
  k : 0 < X.contacts.length → ∀ k, kv.ownBlock = some k → k ∉ S
  s : ∀ x ∈ L, 0 < x.1.shape.p.length → ∀ k, x.2.ownBlock = some k → k ∉ S
/-- Block wb holds a world; its lists stand apart from the blocks S. -/
structure WB (w : World) (wb : Nat) (S : List Nat) (bv jv kv : Value) (L : List BV) (X : Wld) : Prop where
  blk : Blk w wb (wC X bv jv kv) 42
  p : WlP w bv jv kv L X
  a : Apart S bv jv kv L X
  ws : wb ∈ S
  lt : ∀ x ∈ S, x < w.heap.size
theorem Apart.one {S : List Nat} {bv jv kv : Value} {L : List BV} {X : Wld} (h : Apart S bv jv kv L X) {wb : Nat} (hw : wb ∈ S) : Apart [wb] bv jv kv L X :=
  ⟨fun hn k hk hm => h.b hn k hk (by simp at hm; rw [hm]; exact hw), fun hn k hk hm => h.j hn k hk (by simp at hm; rw [hm]; exact hw), fun hn k hk hm => h.k hn k hk (by simp at hm; rw [hm]; exact hw), fun x hx hn k hk hm => h.s x hx hn k hk (by simp at hm; rw [hm]; exact hw)⟩
theorem WB.a1 {w : World} {wb : Nat} {S : List Nat} {bv jv kv : Value} {L : List BV} {X : Wld} (h : WB w wb S bv jv kv L X) : Apart [wb] bv jv kv L X := h.a.one h.ws
theorem VsS.chg {S : List Nat} {w w' : World} {v : Value} {l : List V2} (h : VsS w v l) (hc : Chg S w w') (hn : 0 < l.length → ∀ k, v.ownBlock = some k → k ∉ S) : VsS w' v l := Rd.keep h hc hn
theorem BsS.chg {S : List Nat} {w w' : World} {v : Value} {l : List BV} (h : BsS w v l) (hc : Chg S w w') (hn : 0 < l.length → ∀ k, v.ownBlock = some k → k ∉ S) (hs : ∀ x ∈ l, 0 < x.1.shape.p.length → ∀ k, x.2.ownBlock = some k → k ∉ S) : BsS w' v l :=
  ⟨Rd.keep h.rd hc hn, fun x hx => (h.ps x hx).chg hc (hs x hx)⟩
theorem JsS.chg {S : List Nat} {w w' : World} {v : Value} {l : List Jnt} (h : JsS w v l) (hc : Chg S w w') (hn : 0 < l.length → ∀ k, v.ownBlock = some k → k ∉ S) : JsS w' v l := Rd.keep h hc hn
theorem CsS.chg {S : List Nat} {w w' : World} {v : Value} {l : List Cnt} (h : CsS w v l) (hc : Chg S w w') (hn : 0 < l.length → ∀ k, v.ownBlock = some k → k ∉ S) : CsS w' v l := Rd.keep h hc hn
theorem WB.k {w w' : World} {wb : Nat} {S : List Nat} {bv jv kv : Value} {L : List BV} {X : Wld} (h : WB w wb S bv jv kv L X) (hc : Chg [] w w') : WB w' wb S bv jv kv L X := ⟨h.blk.k hc, h.p.k hc, h.a, h.ws, fun x hx => Nat.lt_of_lt_of_le (h.lt x hx) hc.size⟩
theorem WlP.chg {S : List Nat} {w w' : World} {bv jv kv : Value} {L : List BV} {X : Wld} (h : WlP w bv jv kv L X) (hc : Chg S w w') (a : Apart S bv jv kv L X) : WlP w' bv jv kv L X :=
  ⟨h.b.chg hc a.b a.s, h.l, h.j.chg hc a.j, h.c.chg hc a.k⟩
/-- What a world has lies below the heap's end. -/
theorem WlP.apart {S : List Nat} {w : World} {bv jv kv : Value} {L : List BV} {X : Wld} (h : WlP w bv jv kv L X) (hS : ∀ x ∈ S, w.heap.size ≤ x) : Apart S bv jv kv L X :=
  ⟨fun hn k hk hm => by have := Rd.lt h.b.rd hn (by decide) k hk; have := hS k hm; omega, fun hn k hk hm => by have := Rd.lt h.j hn (by decide) k hk; have := hS k hm; omega,
   fun hn k hk hm => by have := Rd.lt h.c hn (by decide) k hk; have := hS k hm; omega, fun x hx hn k hk hm => by have := Rd.lt (h.b.ps x hx) hn (by decide) k hk; have := hS k hm; omega⟩
theorem rightB_s {b : Bdy} (h : rightB b = true) : rightS b.shape = true := by
  unfold rightB at h
  simp only [Bool.and_eq_true] at h
  exact h.1.1.1.1.1.1.1.1
theorem rightS_len {s : Shp} (h : rightS s = true) : s.p.length ≤ 8 := by
  unfold rightS at h
  split at h
  · simp only [Bool.and_eq_true, decide_eq_true_eq] at h; omega
  · split at h
    · cases h
    · omega
/-- What comes and goes. -/
def addB (X : Wld) (b : Bdy) : Wld × Int × Int :=
  if rightB b = false then (X, 0, 2) else if 1024 ≤ X.bodies.length ∨ 4611686018427387904 ≤ X.nb then (X, 0, 3)
  else ({ X with nb := X.nb + 1, bodies := X.bodies ++ [{ b with id := X.nb }] }, X.nb, 0)
def addJ (X : Wld) (j : Jnt) : Wld × Int × Int :=
  if rightJ j = false then (X, 0, 2)
  else if (fndI (X.bodies.map (·.id)) j.a).2 = false ∨ (fndI (X.bodies.map (·.id)) j.b).2 = false then (X, 0, 4)
  else if 1024 ≤ X.joints.length ∨ 4611686018427387904 ≤ X.nj then (X, 0, 3)
  else ({ X with nj := X.nj + 1, joints := X.joints ++ [{ j with id := X.nj }] }, X.nj, 0)
def remB (X : Wld) (id : Int) : Wld × Bool :=
  if (fndI (X.bodies.map (·.id)) id).2 = false then (X, false)
  else ({ X with bodies := stay (fun b => b.id == id) X.bodies, joints := stay (fun j => j.a == id || j.b == id) X.joints, contacts := stay (fun c => c.a == id || c.b == id) X.contacts }, true)
def remJ (X : Wld) (id : Int) : Wld × Bool :=
  if (fndI (X.joints.map (·.id)) id).2 = false then (X, false) else ({ X with joints := stay (fun j => j.id == id) X.joints }, true)

set_option maxHeartbeats 1000000 in
theorem ShCopy_any (w : World) (s : Shp) (pv : Value) (hp : VsS w pv s.p) (hn : s.p.length ≤ 100000000000) :
    Calls Tryz.prog 17 #[vS s pv] w fun e w' => ∃ qv, e = .returned (vS s qv) ∧ VsS w' qv s.p ∧ Chg [] w w' ∧ ∀ k, qv.ownBlock = some k → w.heap.size ≤ k := by
  obtain ⟨k, r, p⟩ := s
  simp only at hp hn
  obtain ⟨ap, cp, rfl, -⟩ := hp.form
  unfold vS
  simp only
  have rowV : RowT Tryz.prog 30 27 2 16 := RowT.mk (z := .agg #[.int .i64 0, .int .i64 0]) (by kernel_rfl) (by kernel_rfl) rfl (by decide)
  have hc1 := ((Chg.refl [] w).alloc (.cells #[.int .i64 k, .int .i64 r, .slice ap p.length cp] 32)).alloc (.cells #[.int .i64 0, .int .i64 0, .slice none 0 0] 32)
  have hk1 := (Blk.new w #[.int .i64 k, .int .i64 r, .slice ap p.length cp] 32).alloc (.cells #[.int .i64 0, .int .i64 0, .slice none 0 0] 32)
  have hk2 := Blk.new (w.alloc (.cells #[.int .i64 k, .int .i64 r, .slice ap p.length cp] 32)) #[.int .i64 0, .int .i64 0, .slice none 0 0] 32
  rw [World.size_alloc] at hk2
  have hp1 := hp.k hc1
  go_enter Tryz.func17, Tryz.ntmps17
  go_upto_region 1 with (fail)
  generalize (w.alloc (.cells #[.int .i64 k, .int .i64 r, .slice ap p.length cp] 32)).alloc (.cells #[.int .i64 0, .int .i64 0, .slice none 0 0] 32) = w1 at *
  obtain ⟨ta, hta⟩ : ∃ ta, ta = w.heap.size := ⟨_, rfl⟩
  rw [← hta] at hk1 hk2 ⊢
  have HTA : Hd (ta = w.heap.size ∧ ta + 1 < w1.heap.size) := hd ⟨hta, hk2.lt⟩
  clear hta
  have HC := hd hc1
  have HP := hd hp1
  have HK1 := hd hk1
  have HK2 := hd hk2
  have c2 := hk1.cell 2
  simp at c2
  clear hp hc1 hp1 hk1 hk2
  go_upto_region 2 with (at_builtin; refine wpApp rowV rfl _ _ rfl w1.heap.size (.slice none 0 0) 0 [] rfl (World.ownsRow_nil _ _ _ _) _ p.length (p.flatMap cV) rfl HP.out (flat_one cV cV_one p) (by omega) (by omega) (Nat.le_refl _) ?_; intro ao1 c1 w2 k1 k2 k3 _; have hg := (Chg.refl [] w1).grown k2 (by simp [Value.ownBlock]); have hf2 := (HK1.out.k hg).free 2; have hd2 := (HK1.out.k hg).cell 2; simp at hd2)
  have ho := World.ownsRow.lt k1
  have hV : VsS w2 (.slice ao1 (0 + p.length) c1) p := by have := Rd.ofOwn k1; rw [Nat.zero_add, List.nil_append] at this; rw [Nat.zero_add]; exact this
  have hS := Chg.setCell (Chg.refl [ta] w2) ⟨ta, 2, none⟩ (.slice ao1 (0 + p.length) c1) (by simp)
  have kA := (HK1.out.k hg).set 2 (.slice ao1 (0 + p.length) c1)
  have kB := (HK2.out.k hg).chg hS (by simp)
  simp only [Nat.zero_add] at *
  have HV := hd (hV.chg hS (fun _ b hb hm => by have := (ho b hb).1; have := HTA.out; simp at hm; omega))
  have HG := hd hg
  have HS := hd hS
  have HO := hd ho
  clear hV hS ho k1 k2 k3 hg hf2 hd2
  generalize w2.setCell ⟨ta, 2, none⟩ (.slice ao1 p.length c1) = w3 at *
  simp at kA
  go_wp2_with (first
    | (refine wpList_load_row rfl _ _ rfl ta rfl 32 _ (0, 0) _ kA Tryz.underlying32 rfl (by kernel_rfl) ?_)
    | (refine wpList_store_row rfl _ _ _ rfl (ta + 1) #[.int .i64 k, .int .i64 r, .slice ao1 p.length c1] rfl rfl 32 _ kB (by kernel_rfl) (by simp) (by simp [Value.oneCell']) ?_))
  have k5 : Blk (w3.setRow (ta + 1) #[.int .i64 k, .int .i64 r, .slice ao1 p.length c1]) (ta + 1) #[.int .i64 k, .int .i64 r, .slice ao1 p.length c1] 32 := kB.row
  have hs5 := Chg.row (Chg.refl [ta + 1] w3) (ta + 1) #[.int .i64 k, .int .i64 r, .slice ao1 p.length c1] (by simp)
  refine bodyPost_ret (results_cell_row rfl _ _ (ta + 1) 32 _ (0, 0) _ rfl k5 Tryz.underlying32 rfl (by kernel_rfl)) rfl ⟨_, rfl, ?_, ?_, ?_⟩
  · exact HV.out.chg hs5 (fun _ b hb hm => by have := (HO.out b hb).1; have := HTA.out; simp at hm; omega)
  · exact ((HC.out.k HG.out).trans HS.out (fun x hx hl => by have := HTA.out; simp at hx; omega)).trans hs5 (fun x hx hl => by have := HTA.out; simp at hx; omega)
  · intro b hb
    have := (HO.out b hb).1
    have := HTA.out
    omega
/-- append onto a list without room: a new one. -/
theorem run_appClip {P : Program} (w : World) {t ty e : TypeId} {size bytes : Nat} (hT : RowT P t e size bytes) {ao : Option Addr} {n : Nat} {xs : List Value} (hv : Rd w size (.slice ao n n) n xs)
    {u : Value} {m : Nat} {news : List Value} (hu : Rd w size u m news) (hm : 0 < m) (hbytes : (n + m) * bytes ≤ 140737488355328) (hcount : n + m ≤ 140737488355328) :
    ∃ g c w', (Builtin.append_ #[t, t] ty #[.slice ao n n, u]).run P w = .ok (.slice (some ⟨g, 0, none⟩) (n + m) c) w' ∧ w'.ownsRow w.heap.size e size (.slice (some ⟨g, 0, none⟩) (n + m) c) (n + m) (xs ++ news) ∧ Chg [] w w' := by
  obtain ⟨i, z, ht, hi, hz, rfl, rfl, hzs, hsz⟩ := hT
  have h63 : n + m ≤ maxLen := by unfold maxLen; omega
  obtain ⟨b, off, cap, rfl, hl, hnews⟩ := hu.cells hm
  have hxl := hv.length
  have hlen : (xs ++ news).length = (n + m) * i.size := by rw [List.length_append, hxl, hl, Nat.add_mul]
  have grown : ∀ (old : Nat), old < n + m →
      (w.drew.alloc (.cells (xs.toArray ++ news.toArray ++ Builtin.zeroCells z.cells (grownCap w (n + m) old e - (n + m))) e)).ownsRow w.heap.size e i.size
        (.slice (some ⟨w.heap.size, 0, none⟩) (n + m) (grownCap w (n + m) old e)) (n + m) (xs ++ news) := by
    intro old ho
    have hge := grownCap_ge w (n + m) old e
    have hcm : grownCap w (n + m) old e ≤ maxLen := grownCap_le_maxLen w (n + m) old e h63
    refine ⟨hlen, .inr ⟨w.heap.size, _, _, rfl, Nat.le_refl _, heap_alloc_new w.drew _, hge, hcm, ?_, ?_⟩⟩
    · simp only [Array.size_append, List.size_toArray, size_zeroCells, hzs, hxl, hl, ← Nat.add_mul]
      congr 1
      omega
    · simp only [Array.toList_append, List.append_assoc]
      rw [← List.append_assoc, ← hlen]
      exact List.take_left
  rcases ao with _ | a
  · obtain ⟨_, ao', cap', b', off', he, h2, h3, h4, h5, h6⟩ := hv
    simp only [Value.slice.injEq] at he
    obtain ⟨rfl, -, rfl⟩ := he
    obtain ⟨rfl, -⟩ := h4 rfl
    obtain rfl : xs = [] := List.eq_nil_of_length_eq_zero (by simpa using hxl)
    have hr := run_append_nil (P := P) w t ty e i z ht hi hz ⟨b, off, none⟩ m cap news hl hnews (by omega) (by unfold maxLen at h63; omega) (by have hb := hbytes; simp only [Nat.zero_add] at hb; omega)
    have hgr := grown 0 (by omega)
    simp only [Nat.zero_add, List.nil_append, Array.empty_append] at hgr ⊢
    exact ⟨_, _, _, hr, hgr, (Chg.refl [] w).drew.alloc _⟩
  · have holds : ∀ j u, xs[j]? = some u → w.cell? (a.add j) = some u := by
      intro j u hu
      have hn : 0 < n := by
        rcases Nat.eq_zero_or_pos n with rfl | h
        · simp at hxl; subst hxl; simp at hu
        · exact h
      obtain ⟨b', off', cap', he, -, hc⟩ := hv.cells hn
      simp only [Value.slice.injEq, Option.some.injEq] at he
      obtain ⟨rfl, -⟩ := he
      exact hc j u hu
    have hr := run_append_grow (P := P) w t ty e i z ht hi hz a n n xs hxl holds ⟨b, off, none⟩ m cap news hl hnews (by omega) (by unfold maxLen at h63; omega) (growslice_fits (by omega) hbytes)
    exact ⟨_, _, _, hr, grown n (by omega), (Chg.refl [] w).drew.alloc _⟩
theorem wp_appClip {P : Program} {w : World} {o : Oper} {a : Act} {K : Act → World → Prop} {Q : Exit → Act → World → Prop} {t e : TypeId} {size bytes : Nat} (hT : RowT P t e size bytes) (s x : Operand)
    (ho : o.op = .call { callee := .builtin .append, args := #[s, x], argTypes := #[t, t] }) (ao : Option Addr) (n : Nat) (xs : List Value) (hs : a.eval s = .slice ao n n) (hv : Rd w size (.slice ao n n) n xs)
    (u : Value) (m : Nat) (news : List Value) (hx : a.eval x = u) (hu : Rd w size u m news) (hm : 0 < m) (hbytes : (n + m) * bytes ≤ 140737488355328) (hcount : n + m ≤ 140737488355328)
    (h : ∀ g c w', w'.ownsRow w.heap.size e size (.slice (some ⟨g, 0, none⟩) (n + m) c) (n + m) (xs ++ news) → Chg [] w w' → K (a.put o.dst (.slice (some ⟨g, 0, none⟩) (n + m) c)) w') : o.wp P a w K Q := by
  obtain ⟨g, c, w', hr, h2, h3⟩ := run_appClip (P := P) w (ty := o.type) hT hv hu hm hbytes hcount
  unfold Oper.wp execOp
  simp only [ho, resolve, invoke, builtin, Sem.run_bind, Sem.run_pure, Result.andThen_ok, List.map_toArray, List.map_cons, List.map_nil, hs, hx, hr]
  exact h g c w' h2 h3
/-- Some cells of a record of a row are written anew. -/
theorem OwR.setSub {α : Type} {enc : α → List Value} {sz : Nat} {et : TypeId} {w : World} {base : Nat} {l : List α} (henc : ∀ x, (enc x).length = sz) {g n c : Nat} (h : OwR enc sz et w base (.slice (some ⟨g, 0, none⟩) n c) l) (i : Nat) (hi : i < l.length) (x : α) (o : Nat) (vs : List Value)
    (ho : o + vs.length ≤ sz) (he : ∀ j, j < sz → (enc x)[j]? = if o ≤ j ∧ j < o + vs.length then vs[j - o]? else (enc l[i])[j]?) :
    OwR enc sz et (w.setCells g (i * sz + o) vs) base (.slice (some ⟨g, 0, none⟩) n c) (l.set i x) := by
  refine ⟨by rw [List.length_set]; exact flat_len enc sz henc _ |>.trans (by rw [List.length_set]), ?_⟩
  rcases h.2 with ⟨he', _⟩ | ⟨g', cap, cur, he', hb, hg, hnc, hcm, hcs, ht⟩
  · simp at he'
  · simp only [Value.slice.injEq, Option.some.injEq, Addr.mk.injEq, and_true] at he'
    obtain ⟨rfl, rfl, rfl⟩ := he'
    have hB : Blk w g cur et := hg
    have hle : l.length * sz ≤ c * sz := Nat.mul_le_mul_right sz hnc
    have hik : i * sz + sz ≤ l.length * sz := by rw [← Nat.succ_mul]; exact Nat.mul_le_mul_right sz hi
    refine .inr ⟨g, c, _, by simp, hb, hB.setCells' vs (i * sz + o), by simpa using hnc, hcm, by rw [setArr_size]; exact hcs, ?_⟩
    rw [List.length_set]
    apply List.ext_getElem?
    intro j
    have e1 : (setArr cur (i * sz + o) vs).toList[j]? = (setArr cur (i * sz + o) vs)[j]? := Array.getElem?_toList
    have e2 : cur.toList[j]? = cur[j]? := Array.getElem?_toList
    have ht' := congrArg (fun L => L[j]?) ht
    simp only [List.getElem?_take] at ht'
    rw [flat_set enc sz henc l i hi x j, List.getElem?_take, e1, setArr_get _ _ _ _ (by omega)]
    by_cases hj : j < l.length * sz
    · rw [if_pos hj]
      rw [if_pos hj, e2] at ht'
      by_cases hr : i * sz ≤ j ∧ j < i * sz + sz
      · rw [if_pos hr, he (j - i * sz) (by omega)]
        by_cases hs : i * sz + o ≤ j ∧ j < i * sz + o + vs.length
        · rw [if_pos hs, if_pos (by omega)]
          congr 1
          omega
        · rw [if_neg hs, if_neg (by omega), ht', ← flat_get enc sz henc l i (j - i * sz) hi (by omega)]
          congr 1
          omega
      · rw [if_neg hr, if_neg (by omega), ht']
    · rw [if_neg hj, if_neg (by omega), ← ht', if_neg hj]
theorem Rd.caps {w : World} {size : Nat} {ao : Option Addr} {n m c : Nat} {xs : List Value} (h : Rd w size (.slice ao n c) m xs) : m ≤ c ∧ c ≤ 9223372036854775807 := by
  obtain ⟨_, ao', cap, b, off, he, h2, h3, _⟩ := h
  simp only [Value.slice.injEq] at he
  unfold maxLen at h3
  omega
/-- A literal row, just laid inside a region. -/
theorem Chg.litRd {S : List Nat} {a W : World} (h : Chg S a W) (xs : List Value) (size n : Nat) (t : TypeId) (hn : xs.length = n * size) (hl : n ≤ 140737488355328) :
    Chg S a (W.alloc (.cells xs.toArray t)) ∧ Rd (W.alloc (.cells xs.toArray t)) size (.slice (some ⟨W.heap.size, 0, none⟩) n n) n xs ∧ Chg [] W (W.alloc (.cells xs.toArray t)) :=
  ⟨h.alloc _, Rd.lit W size n xs _ t rfl hn hl, (Chg.refl [] W).alloc _⟩
end Go.Proofs.YtpadflhffiiglaaGreat

/- world.AddBody. -/
namespace Go.Proofs.YtpadflhffiiglaaGreat
open Go.RowKit

theorem Rd.clip {w : World} {size : Nat} {ao : Option Addr} {n c : Nat} {xs : List Value} (h : Rd w size (.slice ao n c) n xs) : Rd w size (.slice ao n n) n xs := by
  obtain ⟨h0, ao', cap, b, off, he, h2, h3, h4, h5, h6⟩ := h
  simp only [Value.slice.injEq] at he
  obtain ⟨rfl, -, rfl⟩ := he
  exact ⟨h0, ao, n, b, off, rfl, Nat.le_refl _, by omega, fun e => ⟨(h4 e).1, (h4 e).1⟩, h5, h6⟩
theorem bsS_snoc {w : World} {v : Value} {l : List BV} {x : BV} (h : Rd w 11 v (l.length + 1) (l.flatMap cBV ++ cBV x)) (hp : ∀ y ∈ l, VsS w y.2 y.1.shape.p) (hx : VsS w x.2 x.1.shape.p) : BsS w v (l ++ [x]) := by
  refine ⟨?_, fun y hy => ?_⟩
  · rw [List.length_append, List.flatMap_append]
    simpa using h
  · rcases List.mem_append.1 hy with h | h
    · exact hp y h
    · obtain rfl := List.mem_singleton.1 h
      exact hx
theorem wb_snocB {w7 w9 wf : World} {wb : Nat} {S : List Nat} {bv jv kv : Value} {L : List BV} {X : Wld} {g c : Nat} {x : BV} {n' : Int} (h : WB w7 wb S bv jv kv L X) (h1 : Chg [wb] w7 w9) (h2 : Chg [wb] w9 wf)
    (hR : Rd w9 11 (.slice (some ⟨g, 0, none⟩) (L.length + 1) c) (L.length + 1) (L.flatMap cBV ++ cBV x)) (hg : ∀ x ∈ S, x < g) (hq : VsS w9 x.2 x.1.shape.p) (ho : ∀ k, x.2.ownBlock = some k → ∀ y ∈ S, y < k)
    (hb : Blk wf wb (wC { X with nb := n', bodies := X.bodies ++ [x.1] } (.slice (some ⟨g, 0, none⟩) (L.length + 1) c) jv kv) 42) :
    WB wf wb S (.slice (some ⟨g, 0, none⟩) (L.length + 1) c) jv kv (L ++ [x]) { X with nb := n', bodies := X.bodies ++ [x.1] } := by
  have p9 := h.p.chg h1 h.a1
  have a : Apart S (.slice (some ⟨g, 0, none⟩) (L.length + 1) c) jv kv (L ++ [x]) { X with nb := n', bodies := X.bodies ++ [x.1] } :=
    ⟨fun _ k hk hm => by simp [Value.ownBlock] at hk; have := hg k hm; omega, h.a.j, h.a.k, fun y hy hn k hk hm => by
      rcases List.mem_append.1 hy with h' | h'
      · exact h.a.s y h' hn k hk hm
      · obtain rfl := List.mem_singleton.1 h'
        have := ho k hk k hm
        omega⟩
  have hP : WlP w9 (.slice (some ⟨g, 0, none⟩) (L.length + 1) c) jv kv (L ++ [x]) { X with nb := n', bodies := X.bodies ++ [x.1] } :=
    ⟨bsS_snoc hR (fun y hy => p9.b.ps y hy) hq, by rw [List.map_append, p9.l]; rfl, p9.j, p9.c⟩
  exact ⟨hb, hP.chg h2 (a.one h.ws), a, h.ws, fun x hx => Nat.lt_of_lt_of_le (h.lt x hx) (Nat.le_trans h1.size h2.size)⟩
set_option maxRecDepth 100000 in
set_option maxHeartbeats 8000000 in
theorem AddBody_any (w : World) (wb : Nat) (S : List Nat) (bv jv kv : Value) (L : List BV) (X : Wld) (x : Bdy) (pv : Value) (h : WB w wb S bv jv kv L X) (hp : VsS w pv x.shape.p) (hi : ∀ a ∈ x.shape.p, IV a) (h1 : IV x.pos) (h2 : IV x.vel) (h3 : I64 x.spin)
    (hl : X.bodies.length ≤ 100000000000) (hnb : I64 X.nb) :
    Calls Tryz.prog 24 #[.pointer (some ⟨wb, 0, none⟩), vB x pv] w fun e w' => e = .returned (.tuple #[.int .i64 (addB X x).2.1, .int .i64 (addB X x).2.2]) ∧ Chg [wb] w w' ∧ ∃ bv' L', WB w' wb S bv' jv kv L' (addB X x).1 := by
  obtain ⟨i, ⟨px, py⟩, ⟨vx, vy⟩, an, sp, de, ⟨k, r, p⟩⟩ := x
  obtain ⟨tk, nb, nj, ⟨gx, gy⟩, bs, js, ks⟩ := X
  have hlb := h.p.l
  simp only at hlb hp hi h1 h2 h3 hl hnb
  subst hlb
  rw [List.length_map] at hl
  obtain ⟨ab, cb, rfl, hmb, -⟩ := Rd.form (by decide) h.p.b.rd
  obtain ⟨ap, cp, rfl, -⟩ := hp.form
  have hcb := h.p.b.rd
  have hncb : L.length ≤ cb := by
    obtain ⟨_, ao', cap, b, off, he, h2', h3', _⟩ := hcb
    simp only [Value.slice.injEq] at he
    omega
  have hccb : cb ≤ 9223372036854775807 := by
    obtain ⟨_, ao', cap, b, off, he, h2', h3', _⟩ := hcb
    simp only [Value.slice.injEq] at he
    unfold maxLen at h3'
    omega
  clear hcb
  have hr := fun W (hW : Chg [] w W) => RightB_any W ⟨i, (px, py), (vx, vy), an, sp, de, ⟨k, r, p⟩⟩ _ (hp.k hW) hi h1 h2 h3
  obtain ⟨P, hP⟩ : ∃ P : Ending → World → Prop, P = fun e w' => e = .returned (.tuple #[.int .i64 (addB ⟨tk, nb, nj, (gx, gy), L.map (·.1), js, ks⟩ ⟨i, (px, py), (vx, vy), an, sp, de, ⟨k, r, p⟩⟩).2.1, .int .i64 (addB ⟨tk, nb, nj, (gx, gy), L.map (·.1), js, ks⟩ ⟨i, (px, py), (vx, vy), an, sp, de, ⟨k, r, p⟩⟩).2.2]) ∧ Chg [wb] w w' ∧
      ∃ bv' L', WB w' wb S bv' jv kv L' (addB ⟨tk, nb, nj, (gx, gy), L.map (·.1), js, ks⟩ ⟨i, (px, py), (vx, vy), an, sp, de, ⟨k, r, p⟩⟩).1 := ⟨_, rfl⟩
  rw [← hP]
  have HP := hd hP
  unfold addB at HP
  simp only [List.length_map] at HP
  clear hP h1 h2 h3 hi
  unfold vB at *
  simp only at *
  have hc0 := (Chg.refl [] w).alloc (.cells #[.int .i64 i, .int .i64 px, .int .i64 py, .int .i64 vx, .int .i64 vy, .int .i64 an, .int .i64 sp, .int .i64 de, .int .i64 k, .int .i64 r, .slice ap p.length cp] 34)
  have hk0 := Blk.new w #[.int .i64 i, .int .i64 px, .int .i64 py, .int .i64 vx, .int .i64 vy, .int .i64 an, .int .i64 sp, .int .i64 de, .int .i64 k, .int .i64 r, .slice ap p.length cp] 34
  have hwl := h.blk.lt
  go_enter Tryz.func24, Tryz.ntmps24
  go_upto_region 1 with (fail)
  generalize w.alloc (.cells #[.int .i64 i, .int .i64 px, .int .i64 py, .int .i64 vx, .int .i64 vy, .int .i64 an, .int .i64 sp, .int .i64 de, .int .i64 k, .int .i64 r, .slice ap p.length cp] 34) = w0 at *
  obtain ⟨xb, hxb⟩ : ∃ xb, xb = w.heap.size := ⟨_, rfl⟩
  rw [← hxb] at hk0 ⊢
  have HXB : Hd (wb < xb ∧ xb = w.heap.size) := hd ⟨by omega, hxb⟩
  clear hxb hwl
  have HC0 := hd hc0
  have HW0 := hd (h.k hc0)
  have HPV := hd (hp.k hc0)
  have hr0 := hr _ hc0
  have HH := hd h
  clear hr hc0 hp h
  cases hrb : rightB ⟨i, (px, py), (vx, vy), an, sp, de, ⟨k, r, p⟩⟩ with
  | false =>
    rw [hrb] at hr0
    have HRB := hd hrb
    clear hrb
    go_wp2_with (first | (refine wpList_load_row rfl _ _ rfl xb rfl 34 _ (0, 0) _ hk0 Tryz.underlying34 rfl (by kernel_rfl) ?_) | (go_at_call 63; refine hr0.mono ?_; rintro e w1 ⟨rfl, hc1⟩))
    rw [HP.out, if_pos HRB.out]
    exact ⟨rfl, (HC0.out.k hc1).mono (by simp), _, _, HW0.out.k hc1⟩
  | true =>
    rw [hrb] at hr0
    rw [if_neg (by rw [hrb]; simp)] at HP
    have hn : p.length ≤ 100000000000 := by have := rightS_len (rightB_s hrb); simp only at this; omega
    clear hrb
    go_upto_region 3 with (first | (refine wpList_load_row rfl _ _ rfl xb rfl 34 _ (0, 0) _ hk0 Tryz.underlying34 rfl (by kernel_rfl) ?_) | (go_at_call 63; refine hr0.mono ?_; rintro e w1 ⟨rfl, hc1⟩))
    have HC1 := hd (HC0.out.k hc1)
    have HX1 := hd (hk0.k hc1)
    have hw1 := HW0.out.k hc1
    have HPV1 := hd (HPV.out.k hc1)
    have b1 := hw1.blk.cell 1
    have b5 := hw1.blk.cell 5
    simp [wC] at b1 b5
    have HW1 := hd hw1
    clear hr0 hk0 hc1 hw1 HW0 HPV HC0
    by_cases hf1 : 1024 ≤ L.length
    · have HF := hd (show 1024 ≤ L.length ∨ 4611686018427387904 ≤ nb from .inl hf1)
      go_wp2_with fail
      rw [HP.out, if_pos HF.out]
      exact ⟨rfl, HC1.out.mono (by simp), _, _, HW1.out⟩
    by_cases hf2 : 4611686018427387904 ≤ nb
    · have HF := hd (show 1024 ≤ L.length ∨ 4611686018427387904 ≤ nb from .inr hf2)
      go_wp2_with fail
      rw [HP.out, if_pos HF.out]
      exact ⟨rfl, HC1.out.mono (by simp), _, _, HW1.out⟩
    rw [if_neg (by omega)] at HP
    go_upto_region 5 with (fail)
    have HB1 := hd b1
    clear b1 b5
    have hT := HX1.out.k (Chg.refl [] w1).drew
    have HPd := hd (HPV1.out.k (Chg.refl [] w1).drew)
    have NX : Hd (wb ∉ [xb]) := hd (by have := HXB.out; simp; omega)
    have hcop := fun W (hW : VsS W (.slice ap p.length cp) p) => ShCopy_any W ⟨k, r, p⟩ _ hW hn
    unfold vS at hcop
    simp only at hcop
    refine anyH_start (n := 11) (L := #[false, false, false, false, false, false, false, false, false, false, false]) (by kernel_rfl) (by kernel_rfl) (S := (fun wx => Chg [xb] w1 wx)) ((Chg.refl _ _).drew) (fun hHeld => ?_)
    have HSZ : Hd (w1.heap.size ≤ w1.drew.heap.size) := hd (Nat.le_refl _); generalize w1.drew = w1d at *
    refine anyH_take (i := 0) (d := 24) (L' := #[true, false, false, false, false, false, false, false, false, false, false]) (v := ?v2) rfl rfl (by kernel_rfl) (fun _ _ _ h => h) (by rfl) ?hy2 (by assumption) ?rest2
    case hy2 => (intro wx hSw; (try dsimp only at hSw); (have t1 := hSw.cellT HB1.out NX.out); go_simp; (try with_reducible rfl))
    simp only [Act.put, List.setIfInBounds_toArray, List.set_cons_zero, List.set_cons_succ]
    refine anyH_take (i := 1) (d := 25) (L' := #[true, true, false, false, false, false, false, false, false, false, false]) (v := ?v3) rfl rfl (by kernel_rfl) (fun _ _ _ h => h) (by rfl) ?hy3 (by assumption) ?rest3
    case hy3 => (intro wx hSw; (try dsimp only at hSw); (have t1 := hSw.cellT HB1.out NX.out); go_simp; (try with_reducible rfl))
    simp only [Act.put, List.setIfInBounds_toArray, List.set_cons_zero, List.set_cons_succ]
    refine anyH_take (i := 2) (d := 26) (L' := #[true, true, true, false, false, false, false, false, false, false, false]) (v := ?v4) rfl rfl (by kernel_rfl) (fun _ _ _ h => h) (by rfl) ?hy4 (by assumption) ?rest4
    case hy4 => (intro wx hSw; (try dsimp only at hSw); (have t1 := hSw.cellT HB1.out NX.out); go_simp; (try with_reducible rfl))
    simp only [Act.put, List.setIfInBounds_toArray, List.set_cons_zero, List.set_cons_succ]
    refine anyH_take (i := 3) (d := 27) (L' := #[true, true, true, true, false, false, false, false, false, false, false]) (v := ?v5) rfl rfl (by kernel_rfl) (fun _ _ _ h => h) (by rfl) ?hy5 (by assumption) ?rest5
    case hy5 => (intro wx hSw; (try dsimp only at hSw); (have t1 := hSw.cellT HB1.out NX.out); go_simp; (try with_reducible rfl))
    simp only [Act.put, List.setIfInBounds_toArray, List.set_cons_zero, List.set_cons_succ]
    refine anyH_take (i := 4) (d := 28) (L' := #[true, true, true, true, true, false, false, false, false, false, false]) (v := ?v6) rfl rfl (by kernel_rfl) (fun _ _ _ h => h) (by rfl) ?hy6 (by assumption) ?rest6
    case hy6 => (intro wx hSw; (try dsimp only at hSw); (have t1 := hSw.cellT HB1.out NX.out); go_simp; (try with_reducible rfl))
    simp only [Act.put, List.setIfInBounds_toArray, List.set_cons_zero, List.set_cons_succ]
    refine anyH_run (i := 5) (L' := #[true, true, true, true, true, true, false, false, false, false, false]) rfl (by kernel_rfl) (by rfl) (fun KK hKK => ?_)
    (have t8 := hT.cell 8; have t9 := hT.cell 9; have t10 := hT.cell 10; simp at t8 t9 t10; go_simp)
    refine hKK.out _ _ (by assumption) (fun hHeld => ?_)
    clear hKK KK
    try simp only [Act.put, List.setIfInBounds_toArray, List.set_cons_zero, List.set_cons_succ]
    refine anyH_take (i := 7) (d := 31) (L' := #[true, true, true, true, true, true, false, true, false, false, false]) (v := ?v8) rfl rfl (by kernel_rfl) (fun _ _ _ h => h) (by rfl) ?hy8 (by assumption) ?rest8
    case hy8 => (intro wx hSw; (try dsimp only at hSw); (have t1 := hSw.cellT HB1.out NX.out); go_simp; (try with_reducible rfl))
    simp only [Act.put, List.setIfInBounds_toArray, List.set_cons_zero, List.set_cons_succ]
    refine anyH_run (i := 6) (L' := #[true, true, true, true, true, true, true, true, false, false, false]) rfl (by kernel_rfl) (by rfl) (fun KK hKK => ?_)
    go_simp
    (refine (hcop _ HPd.out).mono ?_; rintro e w5 ⟨qv, rfl, hq, hm0, hqo⟩; have hm := Chg.k' hHeld hm0; replace hT := hT.k hm0; have f0 := hT.free 0; have q0 := hT.cell 0; simp at q0; clear hm0; (try go_simp))
    refine hKK.out _ _ (by assumption) (fun hHeld => ?_)
    clear hKK KK
    try simp only [Act.put, List.setIfInBounds_toArray, List.set_cons_zero, List.set_cons_succ]
    refine anyH_run (i := 8) (L' := #[true, true, true, true, true, true, true, true, true, false, false]) rfl (by kernel_rfl) (by rfl) (fun KK hKK => ?_)
    go_simp
    (have hs8 := Chg.setCell hHeld ⟨xb, 0, none⟩ (.int .i64 nb) (by simp); have hT8 := hT.set 0 (.int .i64 nb); simp at hT8)
    refine hKK.out _ _ (by assumption) (fun hHeld => ?_)
    clear hKK KK
    try simp only [Act.put, List.setIfInBounds_toArray, List.set_cons_zero, List.set_cons_succ]
    refine anyH_take (i := 9) (d := 32) (L' := #[true, true, true, true, true, true, true, true, true, true, false]) (v := ?v11) rfl rfl (by kernel_rfl) (fun _ _ _ h => h) (by rfl) ?hy11 (by assumption) ?rest11
    case hy11 => (intro wx hSw; (try dsimp only at hSw); (have t1 := hSw.cellT HB1.out NX.out); go_simp; (try with_reducible rfl))
    simp only [Act.put, List.setIfInBounds_toArray, List.set_cons_zero, List.set_cons_succ]
    refine anyH_run (i := 10) (L' := #[true, true, true, true, true, true, true, true, true, true, true]) rfl (by kernel_rfl) (by rfl) (fun KK hKK => ?_)
    (refine wp_store_mid 32 _ _ rfl xb 8 #[.int .i64 k, .int .i64 r, qv] rfl rfl (fun j hj => ⟨by rw [hT8.cell]; (have : 8 + j < 11 := by simp at hj; omega); simp [this], hT8.free _⟩) (by kernel_rfl) (by obtain ⟨aq, cq, rfl, -⟩ := hq.form; simp [Value.oneCell']) ?_; have hs10 := Chg.setCells' (g := xb) [.int .i64 k, .int .i64 r, qv] 8 hHeld (by simp); have hT10 := hT8.setCells' [.int .i64 k, .int .i64 r, qv] 8; simp [setArr] at hT10)
    refine hKK.out _ _ (by assumption) (fun hHeld => ?_)
    clear hKK KK
    try simp only [Act.put]
    refine wpAnyH_done (by kernel_rfl) ?_ _
    skip
    have hc7 := HC1.out.trans hs10 (fun x hx hl => by have := HXB.out; simp at hx; omega)
    have hq7 := hq.chg (Chg.setCells' (g := xb) [.int .i64 k, .int .i64 r, qv] 8 (Chg.setCell (Chg.refl [xb] w5) ⟨xb, 0, none⟩ (.int .i64 nb) (by simp)) (by simp)) (fun _ b hb hm => by have := hqo b hb; have := HSZ.out; have := HX1.out.lt; simp at hm; omega)
    obtain ⟨aq, cq, rfl, -⟩ := hq.form
    have HQO : Hd (∀ b, (Value.slice aq p.length cq).ownBlock = some b → w.heap.size ≤ b) := hd (fun b hb => by have := hqo b hb; have := HSZ.out; have := HC1.out.size; omega)
    clear hs8 hT8 hs10 hm f0 q0 hq hqo t8 t9 t10 hT HPd hHeld HSZ HX1 HPV1 HB1 HW1 hcop NX
    (try simp only at hT10); (try simp only at hc7); (try simp only at hq7); (try simp only)
    generalize (w5.setCell ⟨xb, 0, none⟩ (.int .i64 nb)).setCells xb 8 [.int .i64 k, .int .i64 r, .slice aq p.length cq] = w7 at *
    have HC7 := hd hc7
    have HX7 := hd hT10
    have HQ7 := hd hq7
    have HW7 := HH.out.k hc7
    have HV := Rd.clip (HW7.p.b.rd.keep (Chg.refl [] w7).drew (by simp))
    have HW := HW7.blk.k (Chg.refl [] w7).drew
    have HW7 := hd HW7
    have NX : Hd (xb ∉ [wb]) := hd (by have := HXB.out; simp; omega)
    have hclip := fun W => ClipRB_any W ab L.length cb hncb hccb
    clear hc7 hT10 hq7 HC1
    go_upto_region 6 with (fail)
    refine anyH_start (n := 12) (L := #[false, false, false, false, false, false, false, false, false, false, false, false]) (by kernel_rfl) (by kernel_rfl) (S := (fun wx => Chg [wb] w7 wx)) ((Chg.refl _ _).drew) (fun hHeld => ?_)
    generalize w7.drew = w7d at *
    refine anyH_take (i := 0) (d := 33) (L' := #[true, false, false, false, false, false, false, false, false, false, false, false]) (v := ?v17) rfl rfl (by kernel_rfl) (fun _ _ _ h => h) (by rfl) ?hy17 (by assumption) ?rest17
    case hy17 => (intro wx hSw; (try dsimp only at hSw); (skip); go_simp; (try with_reducible rfl))
    simp only [Act.put, List.setIfInBounds_toArray, List.set_cons_zero, List.set_cons_succ]
    refine anyH_take (i := 1) (d := 34) (L' := #[true, true, false, false, false, false, false, false, false, false, false, false]) (v := ?v18) rfl rfl (by kernel_rfl) (fun _ _ _ h => h) (by rfl) ?hy18 (by assumption) ?rest18
    case hy18 => (intro wx hSw; (try dsimp only at hSw); (skip); go_simp; (try with_reducible rfl))
    simp only [Act.put, List.setIfInBounds_toArray, List.set_cons_zero, List.set_cons_succ]
    refine anyH_take (i := 2) (d := 35) (L' := #[true, true, true, false, false, false, false, false, false, false, false, false]) (v := ?v19) rfl rfl (by kernel_rfl) (fun _ _ _ h => h) (by rfl) ?hy19 (by assumption) ?rest19
    case hy19 => (intro wx hSw; (try dsimp only at hSw); (skip); go_simp; (try with_reducible rfl))
    simp only [Act.put, List.setIfInBounds_toArray, List.set_cons_zero, List.set_cons_succ]
    refine anyH_take (i := 3) (d := 36) (L' := #[true, true, true, true, false, false, false, false, false, false, false, false]) (v := ?v20) rfl rfl (by kernel_rfl) (fun _ _ _ h => h) (by rfl) ?hy20 (by assumption) ?rest20
    case hy20 => (intro wx hSw; (try dsimp only at hSw); (skip); go_simp; (try with_reducible rfl))
    simp only [Act.put, List.setIfInBounds_toArray, List.set_cons_zero, List.set_cons_succ]
    refine anyH_take (i := 6) (d := 39) (L' := #[true, true, true, true, false, false, true, false, false, false, false, false]) (v := ?v21) rfl rfl (by kernel_rfl) (fun _ _ _ h => h) (by rfl) ?hy21 (by assumption) ?rest21
    case hy21 => (intro wx hSw; (try dsimp only at hSw); (refine exec_load_row (x := .tmp 3) (t := 34) ?_ ?_ (HX7.out.chg hSw NX.out) Tryz.underlying34 rfl (by kernel_rfl) <;> rfl))
    simp only [Act.put, List.setIfInBounds_toArray, List.set_cons_zero, List.set_cons_succ]
    refine anyH_run2 (i := 4) (j := 7) (L1 := #[true, true, true, true, true, false, true, false, false, false, false, false]) (L2 := #[true, true, true, true, false, false, true, true, false, false, false, false]) rfl rfl (by kernel_rfl) (by rfl) (by rfl) (fun KK hKK => ?ra13) (fun KK hKK => ?rb13)
    case' ra13 =>
      (have t4 := HW.cell 5; simp [wC] at t4; go_simp)
      refine hKK.out _ _ (by assumption) (fun hHeld => ?_)
      clear hKK KK
      try simp only [Act.put, List.setIfInBounds_toArray, List.set_cons_zero, List.set_cons_succ]
      refine anyH_run2 (i := 5) (j := 7) (L1 := #[true, true, true, true, true, true, true, false, false, false, false, false]) (L2 := #[true, true, true, true, true, false, true, true, false, false, false, false]) rfl rfl (by kernel_rfl) (by rfl) (by rfl) (fun KK hKK => ?ra14) (fun KK hKK => ?rb14)
      case' ra14 =>
        go_simp
        (refine (hclip _).mono ?_; rintro e w8 ⟨rfl, rfl⟩; (try go_simp))
        refine hKK.out _ _ (by assumption) (fun hHeld => ?_)
        clear hKK KK
        try simp only [Act.put, List.setIfInBounds_toArray, List.set_cons_zero, List.set_cons_succ]
        refine anyH_run (i := 7) (L' := #[true, true, true, true, true, true, true, true, false, false, false, false]) rfl (by kernel_rfl) (by rfl) (fun KK hKK => ?_)
        go_simp
        (obtain ⟨hm, hU, hA⟩ := Chg.litRd hHeld [.int .i64 nb, .int .i64 px, .int .i64 py, .int .i64 vx, .int .i64 vy, .int .i64 an, .int .i64 sp, .int .i64 de, .int .i64 k, .int .i64 r, .slice aq p.length cq] 11 1 34 rfl (by decide); replace HV := Rd.keep HV hA (by simp); replace HW := HW.k hA)
        refine hKK.out _ _ (by assumption) (fun hHeld => ?_)
        clear hKK KK
        try simp only [Act.put, List.setIfInBounds_toArray, List.set_cons_zero, List.set_cons_succ]
        refine anyH_run (i := 8) (L' := #[true, true, true, true, true, true, true, true, true, false, false, false]) rfl (by kernel_rfl) (by rfl) (fun KK hKK => ?_)
        (refine wp_appClip rowRB _ _ rfl ab L.length (L.flatMap cBV) rfl HV _ 1 [.int .i64 nb, .int .i64 px, .int .i64 py, .int .i64 vx, .int .i64 vy, .int .i64 an, .int .i64 sp, .int .i64 de, .int .i64 k, .int .i64 r, .slice aq p.length cq] rfl hU (by decide) (by omega) (by omega) ?_; intro g c w9 k1 k2; have hm2 := Chg.k' hHeld k2; have HW9 := HW.k k2; have c5 := HW9.cell 5; have f5 := HW9.free 5; simp [wC] at c5)
        refine hKK.out _ _ (by assumption) (fun hHeld => ?_)
        clear hKK KK
        try simp only [Act.put, List.setIfInBounds_toArray, List.set_cons_zero, List.set_cons_succ]
        refine anyH_take (i := 9) (d := 42) (L' := #[true, true, true, true, true, true, true, true, true, true, false, false]) (v := ?v24) rfl rfl (by kernel_rfl) (fun _ _ _ h => h) (by rfl) ?hy24 (by assumption) ?rest24
        case hy24 => (intro wx hSw; (try dsimp only at hSw); (skip); go_simp; (try with_reducible rfl))
        simp only [Act.put, List.setIfInBounds_toArray, List.set_cons_zero, List.set_cons_succ]
        refine anyH_take (i := 10) (d := 43) (L' := #[true, true, true, true, true, true, true, true, true, true, true, false]) (v := ?v25) rfl rfl (by kernel_rfl) (fun _ _ _ h => h) (by rfl) ?hy25 (by assumption) ?rest25
        case hy25 => (intro wx hSw; (try dsimp only at hSw); (skip); go_simp; (try with_reducible rfl))
        simp only [Act.put, List.setIfInBounds_toArray, List.set_cons_zero, List.set_cons_succ]
        refine anyH_run (i := 11) (L' := #[true, true, true, true, true, true, true, true, true, true, true, true]) rfl (by kernel_rfl) (by rfl) (fun KK hKK => ?_)
        go_simp
        (have hS11 := Chg.setCell hHeld ⟨wb, 5, none⟩ (.slice (some ⟨g, 0, none⟩) (L.length + 1) c) (by simp); have hW11 := HW9.set 5 (.slice (some ⟨g, 0, none⟩) (L.length + 1) c); simp [wC] at hW11)
        refine hKK.out _ _ (by assumption) (fun hHeld => ?_)
        clear hKK KK
        try simp only [Act.put, List.setIfInBounds_toArray, List.set_cons_zero, List.set_cons_succ]
        refine wpAnyH_done (by kernel_rfl) ?_ _
        skip
      case' rb14 =>
        go_simp
        (obtain ⟨hm, hU, hA⟩ := Chg.litRd hHeld [.int .i64 nb, .int .i64 px, .int .i64 py, .int .i64 vx, .int .i64 vy, .int .i64 an, .int .i64 sp, .int .i64 de, .int .i64 k, .int .i64 r, .slice aq p.length cq] 11 1 34 rfl (by decide); replace HV := Rd.keep HV hA (by simp); replace HW := HW.k hA)
        refine hKK.out _ _ (by assumption) (fun hHeld => ?_)
        clear hKK KK
        try simp only [Act.put, List.setIfInBounds_toArray, List.set_cons_zero, List.set_cons_succ]
        refine anyH_run (i := 5) (L' := #[true, true, true, true, true, true, true, true, false, false, false, false]) rfl (by kernel_rfl) (by rfl) (fun KK hKK => ?_)
        go_simp
        (refine (hclip _).mono ?_; rintro e w8 ⟨rfl, rfl⟩; (try go_simp))
        refine hKK.out _ _ (by assumption) (fun hHeld => ?_)
        clear hKK KK
        try simp only [Act.put, List.setIfInBounds_toArray, List.set_cons_zero, List.set_cons_succ]
        refine anyH_run (i := 8) (L' := #[true, true, true, true, true, true, true, true, true, false, false, false]) rfl (by kernel_rfl) (by rfl) (fun KK hKK => ?_)
        (refine wp_appClip rowRB _ _ rfl ab L.length (L.flatMap cBV) rfl HV _ 1 [.int .i64 nb, .int .i64 px, .int .i64 py, .int .i64 vx, .int .i64 vy, .int .i64 an, .int .i64 sp, .int .i64 de, .int .i64 k, .int .i64 r, .slice aq p.length cq] rfl hU (by decide) (by omega) (by omega) ?_; intro g c w9 k1 k2; have hm2 := Chg.k' hHeld k2; have HW9 := HW.k k2; have c5 := HW9.cell 5; have f5 := HW9.free 5; simp [wC] at c5)
        refine hKK.out _ _ (by assumption) (fun hHeld => ?_)
        clear hKK KK
        try simp only [Act.put, List.setIfInBounds_toArray, List.set_cons_zero, List.set_cons_succ]
        refine anyH_take (i := 9) (d := 42) (L' := #[true, true, true, true, true, true, true, true, true, true, false, false]) (v := ?v30) rfl rfl (by kernel_rfl) (fun _ _ _ h => h) (by rfl) ?hy30 (by assumption) ?rest30
        case hy30 => (intro wx hSw; (try dsimp only at hSw); (skip); go_simp; (try with_reducible rfl))
        simp only [Act.put, List.setIfInBounds_toArray, List.set_cons_zero, List.set_cons_succ]
        refine anyH_take (i := 10) (d := 43) (L' := #[true, true, true, true, true, true, true, true, true, true, true, false]) (v := ?v31) rfl rfl (by kernel_rfl) (fun _ _ _ h => h) (by rfl) ?hy31 (by assumption) ?rest31
        case hy31 => (intro wx hSw; (try dsimp only at hSw); (skip); go_simp; (try with_reducible rfl))
        simp only [Act.put, List.setIfInBounds_toArray, List.set_cons_zero, List.set_cons_succ]
        refine anyH_run (i := 11) (L' := #[true, true, true, true, true, true, true, true, true, true, true, true]) rfl (by kernel_rfl) (by rfl) (fun KK hKK => ?_)
        go_simp
        (have hS11 := Chg.setCell hHeld ⟨wb, 5, none⟩ (.slice (some ⟨g, 0, none⟩) (L.length + 1) c) (by simp); have hW11 := HW9.set 5 (.slice (some ⟨g, 0, none⟩) (L.length + 1) c); simp [wC] at hW11)
        refine hKK.out _ _ (by assumption) (fun hHeld => ?_)
        clear hKK KK
        try simp only [Act.put, List.setIfInBounds_toArray, List.set_cons_zero, List.set_cons_succ]
        refine wpAnyH_done (by kernel_rfl) ?_ _
        skip
    case' rb13 =>
      go_simp
      (obtain ⟨hm, hU, hA⟩ := Chg.litRd hHeld [.int .i64 nb, .int .i64 px, .int .i64 py, .int .i64 vx, .int .i64 vy, .int .i64 an, .int .i64 sp, .int .i64 de, .int .i64 k, .int .i64 r, .slice aq p.length cq] 11 1 34 rfl (by decide); replace HV := Rd.keep HV hA (by simp); replace HW := HW.k hA)
      refine hKK.out _ _ (by assumption) (fun hHeld => ?_)
      clear hKK KK
      try simp only [Act.put, List.setIfInBounds_toArray, List.set_cons_zero, List.set_cons_succ]
      refine anyH_run (i := 4) (L' := #[true, true, true, true, true, false, true, true, false, false, false, false]) rfl (by kernel_rfl) (by rfl) (fun KK hKK => ?_)
      (have t4 := HW.cell 5; simp [wC] at t4; go_simp)
      refine hKK.out _ _ (by assumption) (fun hHeld => ?_)
      clear hKK KK
      try simp only [Act.put, List.setIfInBounds_toArray, List.set_cons_zero, List.set_cons_succ]
      refine anyH_run (i := 5) (L' := #[true, true, true, true, true, true, true, true, false, false, false, false]) rfl (by kernel_rfl) (by rfl) (fun KK hKK => ?_)
      go_simp
      (refine (hclip _).mono ?_; rintro e w8 ⟨rfl, rfl⟩; (try go_simp))
      refine hKK.out _ _ (by assumption) (fun hHeld => ?_)
      clear hKK KK
      try simp only [Act.put, List.setIfInBounds_toArray, List.set_cons_zero, List.set_cons_succ]
      refine anyH_run (i := 8) (L' := #[true, true, true, true, true, true, true, true, true, false, false, false]) rfl (by kernel_rfl) (by rfl) (fun KK hKK => ?_)
      (refine wp_appClip rowRB _ _ rfl ab L.length (L.flatMap cBV) rfl HV _ 1 [.int .i64 nb, .int .i64 px, .int .i64 py, .int .i64 vx, .int .i64 vy, .int .i64 an, .int .i64 sp, .int .i64 de, .int .i64 k, .int .i64 r, .slice aq p.length cq] rfl hU (by decide) (by omega) (by omega) ?_; intro g c w9 k1 k2; have hm2 := Chg.k' hHeld k2; have HW9 := HW.k k2; have c5 := HW9.cell 5; have f5 := HW9.free 5; simp [wC] at c5)
      refine hKK.out _ _ (by assumption) (fun hHeld => ?_)
      clear hKK KK
      try simp only [Act.put, List.setIfInBounds_toArray, List.set_cons_zero, List.set_cons_succ]
      refine anyH_take (i := 9) (d := 42) (L' := #[true, true, true, true, true, true, true, true, true, true, false, false]) (v := ?v37) rfl rfl (by kernel_rfl) (fun _ _ _ h => h) (by rfl) ?hy37 (by assumption) ?rest37
      case hy37 => (intro wx hSw; (try dsimp only at hSw); (skip); go_simp; (try with_reducible rfl))
      simp only [Act.put, List.setIfInBounds_toArray, List.set_cons_zero, List.set_cons_succ]
      refine anyH_take (i := 10) (d := 43) (L' := #[true, true, true, true, true, true, true, true, true, true, true, false]) (v := ?v38) rfl rfl (by kernel_rfl) (fun _ _ _ h => h) (by rfl) ?hy38 (by assumption) ?rest38
      case hy38 => (intro wx hSw; (try dsimp only at hSw); (skip); go_simp; (try with_reducible rfl))
      simp only [Act.put, List.setIfInBounds_toArray, List.set_cons_zero, List.set_cons_succ]
      refine anyH_run (i := 11) (L' := #[true, true, true, true, true, true, true, true, true, true, true, true]) rfl (by kernel_rfl) (by rfl) (fun KK hKK => ?_)
      go_simp
      (have hS11 := Chg.setCell hHeld ⟨wb, 5, none⟩ (.slice (some ⟨g, 0, none⟩) (L.length + 1) c) (by simp); have hW11 := HW9.set 5 (.slice (some ⟨g, 0, none⟩) (L.length + 1) c); simp [wC] at hW11)
      refine hKK.out _ _ (by assumption) (fun hHeld => ?_)
      clear hKK KK
      try simp only [Act.put, List.setIfInBounds_toArray, List.set_cons_zero, List.set_cons_succ]
      refine wpAnyH_done (by kernel_rfl) ?_ _
      skip
    all_goals
      have hgw : ∀ x ∈ S, x < g := fun x hx => by have := HH.out.lt x hx; have := HC7.out.size; have := hm.size; have := (World.ownsRow.lt k1 g rfl).1; omega
      have c1 := hW11.cell 1
      have f1 := hW11.free 1
      have x0 := (HX7.out.chg hS11 NX.out).cell 0
      simp at c1 x0
      have hne : xb ≠ wb := by have := HXB.out; omega
      have HR9 := hd (Rd.ofOwn k1)
      have HM2 := hd hm2
      have HW11 := hd hW11
      have HQ9 := hd (HQ7.out.chg hm2 (fun _ b hb hm => by have := HQO.out b hb; have := HXB.out; simp at hm; omega))
      have hS12 := Chg.setCell (Chg.setCell (Chg.refl [wb] w9) ⟨wb, 5, none⟩ (.slice (some ⟨g, 0, none⟩) (L.length + 1) c) (by simp)) ⟨wb, 1, none⟩ (.int .i64 (nb + 1)) (by simp)
      have HS12 := hd hS12
      have HG := hd hgw
      clear k1 k2 hm2 HW9 hS11 hW11 hHeld c5 f5 hU hA hm HV HW hS12 hgw
      generalize w9.setCell ⟨wb, 5, none⟩ (.slice (some ⟨g, 0, none⟩) (L.length + 1) c) = w11 at *
      have hwr : wrap64 (nb + 1) = nb + 1 := IntWalk.wrap64_in _ (by unfold I64 at hnb; omega)
      go_wp2_with fail
      rw [HP.out]
      refine ⟨rfl, (HC7.out.mono (by simp)).trans (HM2.out.trans HS12.out (fun x hx _ => hx)) (fun x hx _ => hx), _, _, wb_snocB (x := (⟨nb, (px, py), (vx, vy), an, sp, de, ⟨k, r, p⟩⟩, .slice aq p.length cq)) HW7.out HM2.out HS12.out HR9.out HG.out HQ9.out (fun b hb y hy => by have := HQO.out b hb; have := HH.out.lt y hy; omega) ?_⟩
      have := HW11.out.set 1 (.int .i64 (nb + 1))
      simpa [wC] using this
end Go.Proofs.YtpadflhffiiglaaGreat

/- world.AddJoint. -/
namespace Go.Proofs.YtpadflhffiiglaaGreat
open Go.RowKit

theorem wb_snocJ {w7 w9 wf : World} {wb : Nat} {S : List Nat} {bv jv kv : Value} {L : List BV} {X : Wld} {g c : Nat} {x : Jnt} {n' : Int} (h : WB w7 wb S bv jv kv L X) (h1 : Chg [wb] w7 w9) (h2 : Chg [wb] w9 wf)
    (hR : Rd w9 8 (.slice (some ⟨g, 0, none⟩) (X.joints.length + 1) c) (X.joints.length + 1) (X.joints.flatMap cJt ++ cJt x)) (hg : ∀ x ∈ S, x < g)
    (hb : Blk wf wb (wC { X with nj := n', joints := X.joints ++ [x] } bv (.slice (some ⟨g, 0, none⟩) (X.joints.length + 1) c) kv) 42) :
    WB wf wb S bv (.slice (some ⟨g, 0, none⟩) (X.joints.length + 1) c) kv L { X with nj := n', joints := X.joints ++ [x] } := by
  have p9 := h.p.chg h1 h.a1
  have a : Apart S bv (.slice (some ⟨g, 0, none⟩) (X.joints.length + 1) c) kv L { X with nj := n', joints := X.joints ++ [x] } :=
    ⟨h.a.b, fun _ k hk hm => by simp [Value.ownBlock] at hk; have := hg k hm; omega, h.a.k, h.a.s⟩
  have hP : WlP w9 bv (.slice (some ⟨g, 0, none⟩) (X.joints.length + 1) c) kv L { X with nj := n', joints := X.joints ++ [x] } :=
    ⟨p9.b, p9.l, by unfold JsS; rw [List.length_append, List.flatMap_append]; simpa using hR, p9.c⟩
  exact ⟨hb, hP.chg h2 (a.one h.ws), a, h.ws, fun x hx => Nat.lt_of_lt_of_le (h.lt x hx) (Nat.le_trans h1.size h2.size)⟩
set_option maxRecDepth 100000 in
set_option maxHeartbeats 8000000 in
theorem AddJoint_any (w : World) (wb : Nat) (S : List Nat) (bv jv kv : Value) (L : List BV) (X : Wld) (x : Jnt) (h : WB w wb S bv jv kv L X) (h1 : IV x.at_) (h2 : IV x.to_)
    (hlb : X.bodies.length ≤ 100000000000) (hr : risI (X.bodies.map (·.id))) (hlj : X.joints.length ≤ 100000000000) (hnj : I64 X.nj) :
    Calls Tryz.prog 20 #[.pointer (some ⟨wb, 0, none⟩), vJ x] w fun e w' => e = .returned (.tuple #[.int .i64 (addJ X x).2.1, .int .i64 (addJ X x).2.2]) ∧ Chg [wb] w w' ∧ ∃ jv', WB w' wb S bv jv' kv L (addJ X x).1 := by
  have hrj := fun W => RightJ_any W x h1 h2
  have hfa := fun W bv' (hW : WlP W bv' jv kv L X) => BodyAt_any W bv' jv kv L X x.a hW hlb hr
  have hfb := fun W bv' (hW : WlP W bv' jv kv L X) => BodyAt_any W bv' jv kv L X x.b hW hlb hr
  obtain ⟨i, a, b, ⟨px, py⟩, ⟨qx, qy⟩, ln⟩ := x
  obtain ⟨tk, nb, nj, ⟨gx, gy⟩, bs, js, ks⟩ := X
  simp only at hrj hfa hfb h1 h2 hlb hr hlj hnj
  obtain ⟨aj, cj, rfl, hmj, -⟩ := Rd.form (by decide) h.p.j
  obtain ⟨hncb, hccb⟩ : js.length ≤ cj ∧ cj ≤ 9223372036854775807 := Rd.caps h.p.j
  obtain ⟨P, hP⟩ : ∃ P : Ending → World → Prop, P = fun e w' => e = .returned (.tuple #[.int .i64 (addJ ⟨tk, nb, nj, (gx, gy), bs, js, ks⟩ ⟨i, a, b, (px, py), (qx, qy), ln⟩).2.1, .int .i64 (addJ ⟨tk, nb, nj, (gx, gy), bs, js, ks⟩ ⟨i, a, b, (px, py), (qx, qy), ln⟩).2.2]) ∧ Chg [wb] w w' ∧
      ∃ jv', WB w' wb S bv jv' kv L (addJ ⟨tk, nb, nj, (gx, gy), bs, js, ks⟩ ⟨i, a, b, (px, py), (qx, qy), ln⟩).1 := ⟨_, rfl⟩
  rw [← hP]
  have HP := hd hP
  unfold addJ at HP
  simp only at HP
  clear hP h1 h2 hr
  unfold vJ vW at *
  simp only at *
  generalize fndI (bs.map (·.id)) a = fa at *
  generalize fndI (bs.map (·.id)) b = fb at *
  obtain ⟨na, oa⟩ := fa
  obtain ⟨nb', ob⟩ := fb
  simp only at hfa hfb HP
  have hc0 := (Chg.refl [] w).alloc (.cells #[.int .i64 i, .int .i64 a, .int .i64 b, .int .i64 px, .int .i64 py, .int .i64 qx, .int .i64 qy, .int .i64 ln] 67)
  have hk0 := Blk.new w #[.int .i64 i, .int .i64 a, .int .i64 b, .int .i64 px, .int .i64 py, .int .i64 qx, .int .i64 qy, .int .i64 ln] 67
  have hwl := h.blk.lt
  go_enter Tryz.func20, Tryz.ntmps20
  go_upto_region 1 with (fail)
  generalize w.alloc (.cells #[.int .i64 i, .int .i64 a, .int .i64 b, .int .i64 px, .int .i64 py, .int .i64 qx, .int .i64 qy, .int .i64 ln] 67) = w0 at *
  obtain ⟨xb, hxb⟩ : ∃ xb, xb = w.heap.size := ⟨_, rfl⟩
  rw [← hxb] at hk0 ⊢
  have HXB : Hd (wb < xb ∧ xb = w.heap.size) := hd ⟨by omega, hxb⟩
  clear hxb hwl
  have HC0 := hd hc0
  have HH := hd h
  clear hc0 h
  cases hrb : rightJ ⟨i, a, b, (px, py), (qx, qy), ln⟩ with
  | false =>
    simp only [hrb] at hrj
    have HRB := hd hrb
    clear hrb
    go_wp2_with (first | (refine wpList_load_row rfl _ _ rfl xb rfl 67 _ (0, 0) _ hk0 Tryz.underlying67 rfl (by kernel_rfl) ?_) | (go_at_call 52; refine (hrj _).mono ?_; rintro e w1 ⟨rfl, hc1⟩))
    rw [HP.out, if_pos HRB.out]
    exact ⟨rfl, (HC0.out.k hc1).mono (by simp), _, HH.out.k (HC0.out.k hc1)⟩
  | true =>
    simp only [hrb] at hrj
    rw [if_neg (by rw [hrb]; simp)] at HP
    clear hrb
    go_upto_region 3 with (first | (refine wpList_load_row rfl _ _ rfl xb rfl 67 _ (0, 0) _ hk0 Tryz.underlying67 rfl (by kernel_rfl) ?_) | (go_at_call 52; refine (hrj _).mono ?_; rintro e w1 ⟨rfl, hc1⟩))
    have HC1 := hd (HC0.out.k hc1)
    have HX1 := hd (hk0.k hc1)
    have HW1 := hd (HH.out.k HC1.out)
    clear hrj hk0 hc1 HC0
    unfold wC at *
    refine anyH_start (n := 11) (L := #[false, false, false, false, false, false, false, false, false, false, false]) (by kernel_rfl) (by kernel_rfl) (S := (fun wx => Chg [] w1 wx)) ((Chg.refl _ _).drew) (fun hHeld => ?_)
    generalize w1.drew = w1d at *
    refine anyH_take (i := 0) (d := 14) (L' := #[true, false, false, false, false, false, false, false, false, false, false]) (v := ?v2) rfl rfl (by kernel_rfl) (fun _ _ _ h => h) (by rfl) ?hy2 (by assumption) ?rest2
    case hy2 => (intro wx hSw; (try dsimp only at hSw); (have t1 := (HX1.out.k hSw).cell 1; simp at t1); go_simp; (try with_reducible rfl))
    simp only [Act.put, List.setIfInBounds_toArray, List.set_cons_zero, List.set_cons_succ]
    refine anyH_take (i := 1) (d := 15) (L' := #[true, true, false, false, false, false, false, false, false, false, false]) (v := ?v3) rfl rfl (by kernel_rfl) (fun _ _ _ h => h) (by rfl) ?hy3 (by assumption) ?rest3
    case hy3 => (intro wx hSw; (try dsimp only at hSw); (have t1 := (HX1.out.k hSw).cell 1; simp at t1); go_simp; (try with_reducible rfl))
    simp only [Act.put, List.setIfInBounds_toArray, List.set_cons_zero, List.set_cons_succ]
    refine anyH_take (i := 2) (d := 16) (L' := #[true, true, true, false, false, false, false, false, false, false, false]) (v := ?v4) rfl rfl (by kernel_rfl) (fun _ _ _ h => h) (by rfl) ?hy4 (by assumption) ?rest4
    case hy4 => (intro wx hSw; (try dsimp only at hSw); (refine exec_load_row (x := .tmp 15) (t := 42) ?_ ?_ (HW1.out.k hSw).blk Tryz.underlying42 rfl (by kernel_rfl) <;> rfl))
    simp only [Act.put, List.setIfInBounds_toArray, List.set_cons_zero, List.set_cons_succ]
    refine anyH_take (i := 3) (d := 17) (L' := #[true, true, true, true, false, false, false, false, false, false, false]) (v := ?v5) rfl rfl (by kernel_rfl) (fun _ _ _ h => h) (by rfl) ?hy5 (by assumption) ?rest5
    case hy5 => (intro wx hSw; (try dsimp only at hSw); (have t1 := (HX1.out.k hSw).cell 1; simp at t1); go_simp; (try with_reducible rfl))
    simp only [Act.put, List.setIfInBounds_toArray, List.set_cons_zero, List.set_cons_succ]
    refine anyH_take (i := 4) (d := 18) (L' := #[true, true, true, true, true, false, false, false, false, false, false]) (v := ?v6) rfl rfl (by kernel_rfl) (fun _ _ _ h => h) (by rfl) ?hy6 (by assumption) ?rest6
    case hy6 => (intro wx hSw; (try dsimp only at hSw); (have t1 := (HX1.out.k hSw).cell 1; simp at t1); go_simp; (try with_reducible rfl))
    simp only [Act.put, List.setIfInBounds_toArray, List.set_cons_zero, List.set_cons_succ]
    refine anyH_run (i := 5) (L' := #[true, true, true, true, true, true, false, false, false, false, false]) rfl (by kernel_rfl) (by rfl) (fun KK hKK => ?_)
    go_simp
    (refine (hfa _ _ (HW1.out.k hHeld).p).mono ?_; rintro e w2 ⟨rfl, hm0⟩; have hm := Chg.k' hHeld hm0; (try go_simp))
    refine hKK.out _ _ (by assumption) (fun hHeld => ?_)
    clear hKK KK
    try simp only [Act.put, List.setIfInBounds_toArray, List.set_cons_zero, List.set_cons_succ]
    refine anyH_run (i := 6) (L' := #[true, true, true, true, true, true, true, false, false, false, false]) rfl (by kernel_rfl) (by rfl) (fun KK hKK => ?_)
    go_simp
    (skip)
    refine hKK.out _ _ (by assumption) (fun hHeld => ?_)
    clear hKK KK
    try simp only [Act.put, List.setIfInBounds_toArray, List.set_cons_zero, List.set_cons_succ]
    refine anyH_take (i := 7) (d := 20) (L' := #[true, true, true, true, true, true, true, true, false, false, false]) (v := ?v9) rfl rfl (by kernel_rfl) (fun _ _ _ h => h) (by rfl) ?hy9 (by assumption) ?rest9
    case hy9 => (intro wx hSw; (try dsimp only at hSw); (have t1 := (HX1.out.k hSw).cell 1; simp at t1); go_simp; (try with_reducible rfl))
    simp only [Act.put, List.setIfInBounds_toArray, List.set_cons_zero, List.set_cons_succ]
    refine anyH_take (i := 8) (d := 21) (L' := #[true, true, true, true, true, true, true, true, true, false, false]) (v := ?v10) rfl rfl (by kernel_rfl) (fun _ _ _ h => h) (by rfl) ?hy10 (by assumption) ?rest10
    case hy10 => (intro wx hSw; (try dsimp only at hSw); (have t1 := (HX1.out.k hSw).cell 1; simp at t1); go_simp; (try with_reducible rfl))
    simp only [Act.put, List.setIfInBounds_toArray, List.set_cons_zero, List.set_cons_succ]
    refine anyH_run (i := 9) (L' := #[true, true, true, true, true, true, true, true, true, true, false]) rfl (by kernel_rfl) (by rfl) (fun KK hKK => ?_)
    go_simp
    (skip)
    refine hKK.out _ _ (by assumption) (fun hHeld => ?_)
    clear hKK KK
    try simp only [Act.put, List.setIfInBounds_toArray, List.set_cons_zero, List.set_cons_succ]
    refine anyH_run (i := 10) (L' := #[true, true, true, true, true, true, true, true, true, true, true]) rfl (by kernel_rfl) (by rfl) (fun KK hKK => ?_)
    go_simp
    (skip)
    refine hKK.out _ _ (by assumption) (fun hHeld => ?_)
    clear hKK KK
    try simp only [Act.put, List.setIfInBounds_toArray, List.set_cons_zero, List.set_cons_succ]
    refine wpAnyH_done (by kernel_rfl) ?_ _
    skip
    have HM2 := hd hm
    clear hm0 hm hHeld
    go_upto_region 4 with (fail)
    refine anyH_start (n := 11) (L := #[false, false, false, false, false, false, false, false, false, false, false]) (by kernel_rfl) (by kernel_rfl) (S := (fun wx => Chg [] w2 wx)) ((Chg.refl _ _).drew) (fun hHeld => ?_)
    generalize w2.drew = w2d at *
    refine anyH_take (i := 0) (d := 23) (L' := #[true, false, false, false, false, false, false, false, false, false, false]) (v := ?v15) rfl rfl (by kernel_rfl) (fun _ _ _ h => h) (by rfl) ?hy15 (by assumption) ?rest15
    case hy15 => (intro wx hSw; (try dsimp only at hSw); (have t2 := (HX1.out.k (HM2.out.k hSw)).cell 2; simp at t2); go_simp; (try with_reducible rfl))
    simp only [Act.put, List.setIfInBounds_toArray, List.set_cons_zero, List.set_cons_succ]
    refine anyH_take (i := 1) (d := 24) (L' := #[true, true, false, false, false, false, false, false, false, false, false]) (v := ?v16) rfl rfl (by kernel_rfl) (fun _ _ _ h => h) (by rfl) ?hy16 (by assumption) ?rest16
    case hy16 => (intro wx hSw; (try dsimp only at hSw); (have t2 := (HX1.out.k (HM2.out.k hSw)).cell 2; simp at t2); go_simp; (try with_reducible rfl))
    simp only [Act.put, List.setIfInBounds_toArray, List.set_cons_zero, List.set_cons_succ]
    refine anyH_take (i := 2) (d := 25) (L' := #[true, true, true, false, false, false, false, false, false, false, false]) (v := ?v17) rfl rfl (by kernel_rfl) (fun _ _ _ h => h) (by rfl) ?hy17 (by assumption) ?rest17
    case hy17 => (intro wx hSw; (try dsimp only at hSw); (refine exec_load_row (x := .tmp 24) (t := 42) ?_ ?_ (HW1.out.k (HM2.out.k hSw)).blk Tryz.underlying42 rfl (by kernel_rfl) <;> rfl))
    simp only [Act.put, List.setIfInBounds_toArray, List.set_cons_zero, List.set_cons_succ]
    refine anyH_take (i := 3) (d := 26) (L' := #[true, true, true, true, false, false, false, false, false, false, false]) (v := ?v18) rfl rfl (by kernel_rfl) (fun _ _ _ h => h) (by rfl) ?hy18 (by assumption) ?rest18
    case hy18 => (intro wx hSw; (try dsimp only at hSw); (have t2 := (HX1.out.k (HM2.out.k hSw)).cell 2; simp at t2); go_simp; (try with_reducible rfl))
    simp only [Act.put, List.setIfInBounds_toArray, List.set_cons_zero, List.set_cons_succ]
    refine anyH_take (i := 4) (d := 27) (L' := #[true, true, true, true, true, false, false, false, false, false, false]) (v := ?v19) rfl rfl (by kernel_rfl) (fun _ _ _ h => h) (by rfl) ?hy19 (by assumption) ?rest19
    case hy19 => (intro wx hSw; (try dsimp only at hSw); (have t2 := (HX1.out.k (HM2.out.k hSw)).cell 2; simp at t2); go_simp; (try with_reducible rfl))
    simp only [Act.put, List.setIfInBounds_toArray, List.set_cons_zero, List.set_cons_succ]
    refine anyH_run (i := 5) (L' := #[true, true, true, true, true, true, false, false, false, false, false]) rfl (by kernel_rfl) (by rfl) (fun KK hKK => ?_)
    go_simp
    (refine (hfb _ _ (HW1.out.k (HM2.out.k hHeld)).p).mono ?_; rintro e w3 ⟨rfl, hm0⟩; have hm := Chg.k' hHeld hm0; (try go_simp))
    refine hKK.out _ _ (by assumption) (fun hHeld => ?_)
    clear hKK KK
    try simp only [Act.put, List.setIfInBounds_toArray, List.set_cons_zero, List.set_cons_succ]
    refine anyH_run (i := 6) (L' := #[true, true, true, true, true, true, true, false, false, false, false]) rfl (by kernel_rfl) (by rfl) (fun KK hKK => ?_)
    go_simp
    (skip)
    refine hKK.out _ _ (by assumption) (fun hHeld => ?_)
    clear hKK KK
    try simp only [Act.put, List.setIfInBounds_toArray, List.set_cons_zero, List.set_cons_succ]
    refine anyH_take (i := 7) (d := 29) (L' := #[true, true, true, true, true, true, true, true, false, false, false]) (v := ?v22) rfl rfl (by kernel_rfl) (fun _ _ _ h => h) (by rfl) ?hy22 (by assumption) ?rest22
    case hy22 => (intro wx hSw; (try dsimp only at hSw); (have t2 := (HX1.out.k (HM2.out.k hSw)).cell 2; simp at t2); go_simp; (try with_reducible rfl))
    simp only [Act.put, List.setIfInBounds_toArray, List.set_cons_zero, List.set_cons_succ]
    refine anyH_take (i := 8) (d := 30) (L' := #[true, true, true, true, true, true, true, true, true, false, false]) (v := ?v23) rfl rfl (by kernel_rfl) (fun _ _ _ h => h) (by rfl) ?hy23 (by assumption) ?rest23
    case hy23 => (intro wx hSw; (try dsimp only at hSw); (have t2 := (HX1.out.k (HM2.out.k hSw)).cell 2; simp at t2); go_simp; (try with_reducible rfl))
    simp only [Act.put, List.setIfInBounds_toArray, List.set_cons_zero, List.set_cons_succ]
    refine anyH_run (i := 9) (L' := #[true, true, true, true, true, true, true, true, true, true, false]) rfl (by kernel_rfl) (by rfl) (fun KK hKK => ?_)
    go_simp
    (skip)
    refine hKK.out _ _ (by assumption) (fun hHeld => ?_)
    clear hKK KK
    try simp only [Act.put, List.setIfInBounds_toArray, List.set_cons_zero, List.set_cons_succ]
    refine anyH_run (i := 10) (L' := #[true, true, true, true, true, true, true, true, true, true, true]) rfl (by kernel_rfl) (by rfl) (fun KK hKK => ?_)
    go_simp
    (skip)
    refine hKK.out _ _ (by assumption) (fun hHeld => ?_)
    clear hKK KK
    try simp only [Act.put, List.setIfInBounds_toArray, List.set_cons_zero, List.set_cons_succ]
    refine wpAnyH_done (by kernel_rfl) ?_ _
    skip
    have HC3 := hd ((HC1.out.k HM2.out).k hm)
    have HX3 := hd ((HX1.out.k HM2.out).k hm)
    have hw3 := HH.out.k HC3.out
    have d2 := hw3.blk.cell 2
    have d6 := hw3.blk.cell 6
    simp [wC] at d2 d6
    have x0 := HX3.out.cell 0
    have xf0 := HX3.out.free 0
    simp at x0
    have HW3 := hd hw3
    clear hw3 hm0 hm hHeld hfa hfb HX1 HW1 HC1 HM2
    by_cases hoa : oa = false ∨ ob = false
    · rw [if_pos hoa] at HP
      rcases hoa with rfl | rfl
      · go_wp2_with fail
        rw [HP.out]
        exact ⟨rfl, HC3.out.mono (by simp), _, HW3.out⟩
      · cases oa
        · go_wp2_with fail
          rw [HP.out]
          exact ⟨rfl, HC3.out.mono (by simp), _, HW3.out⟩
        · go_wp2_with fail
          rw [HP.out]
          exact ⟨rfl, HC3.out.mono (by simp), _, HW3.out⟩
    rw [if_neg hoa] at HP
    obtain ⟨rfl, rfl⟩ : oa = true ∧ ob = true := by cases oa <;> cases ob <;> simp_all
    clear hoa
    by_cases hf1 : 1024 ≤ js.length
    · have HF := hd (show 1024 ≤ js.length ∨ 4611686018427387904 ≤ nj from .inl hf1)
      go_wp2_with fail
      rw [HP.out, if_pos HF.out]
      exact ⟨rfl, HC3.out.mono (by simp), _, HW3.out⟩
    by_cases hf2 : 4611686018427387904 ≤ nj
    · have HF := hd (show 1024 ≤ js.length ∨ 4611686018427387904 ≤ nj from .inr hf2)
      go_wp2_with fail
      rw [HP.out, if_pos HF.out]
      exact ⟨rfl, HC3.out.mono (by simp), _, HW3.out⟩
    rw [if_neg (by omega)] at HP
    go_upto_region 10 with (fail)
    have hX7 := HX3.out.set 0 (.int .i64 nj)
    simp at hX7
    have hc7 := HC3.out.setCell ⟨xb, 0, none⟩ (.int .i64 nj) (fun hl => by have := HXB.out; simp at hl; omega)
    clear x0 xf0 d2 d6 HX3 HW3 HC3
    generalize w3.setCell ⟨xb, 0, none⟩ (.int .i64 nj) = w7 at *
    have HC7 := hd hc7
    have HX7 := hd hX7
    have HW7 := HH.out.k hc7
    have HV := Rd.clip (HW7.p.j.keep (Chg.refl [] w7).drew (by simp))
    have HW := HW7.blk.k (Chg.refl [] w7).drew
    have HW7 := hd HW7
    have NX : Hd (xb ∉ [wb]) := hd (by have := HXB.out; simp; omega)
    have hclip := fun W => ClipRJ_any W aj js.length cj hncb hccb
    clear hc7 hX7
    refine anyH_start (n := 12) (L := #[false, false, false, false, false, false, false, false, false, false, false, false]) (by kernel_rfl) (by kernel_rfl) (S := (fun wx => Chg [wb] w7 wx)) ((Chg.refl _ _).drew) (fun hHeld => ?_)
    generalize w7.drew = w7d at *
    refine anyH_take (i := 0) (d := 57) (L' := #[true, false, false, false, false, false, false, false, false, false, false, false]) (v := ?v30) rfl rfl (by kernel_rfl) (fun _ _ _ h => h) (by rfl) ?hy30 (by assumption) ?rest30
    case hy30 => (intro wx hSw; (try dsimp only at hSw); (skip); go_simp; (try with_reducible rfl))
    simp only [Act.put, List.setIfInBounds_toArray, List.set_cons_zero, List.set_cons_succ]
    refine anyH_take (i := 1) (d := 58) (L' := #[true, true, false, false, false, false, false, false, false, false, false, false]) (v := ?v31) rfl rfl (by kernel_rfl) (fun _ _ _ h => h) (by rfl) ?hy31 (by assumption) ?rest31
    case hy31 => (intro wx hSw; (try dsimp only at hSw); (skip); go_simp; (try with_reducible rfl))
    simp only [Act.put, List.setIfInBounds_toArray, List.set_cons_zero, List.set_cons_succ]
    refine anyH_take (i := 2) (d := 59) (L' := #[true, true, true, false, false, false, false, false, false, false, false, false]) (v := ?v32) rfl rfl (by kernel_rfl) (fun _ _ _ h => h) (by rfl) ?hy32 (by assumption) ?rest32
    case hy32 => (intro wx hSw; (try dsimp only at hSw); (skip); go_simp; (try with_reducible rfl))
    simp only [Act.put, List.setIfInBounds_toArray, List.set_cons_zero, List.set_cons_succ]
    refine anyH_take (i := 3) (d := 60) (L' := #[true, true, true, true, false, false, false, false, false, false, false, false]) (v := ?v33) rfl rfl (by kernel_rfl) (fun _ _ _ h => h) (by rfl) ?hy33 (by assumption) ?rest33
    case hy33 => (intro wx hSw; (try dsimp only at hSw); (skip); go_simp; (try with_reducible rfl))
    simp only [Act.put, List.setIfInBounds_toArray, List.set_cons_zero, List.set_cons_succ]
    refine anyH_take (i := 6) (d := 63) (L' := #[true, true, true, true, false, false, true, false, false, false, false, false]) (v := ?v34) rfl rfl (by kernel_rfl) (fun _ _ _ h => h) (by rfl) ?hy34 (by assumption) ?rest34
    case hy34 => (intro wx hSw; (try dsimp only at hSw); (refine exec_load_row (x := .tmp 3) (t := 67) ?_ ?_ (HX7.out.chg hSw NX.out) Tryz.underlying67 rfl (by kernel_rfl) <;> rfl))
    simp only [Act.put, List.setIfInBounds_toArray, List.set_cons_zero, List.set_cons_succ]
    refine anyH_run2 (i := 4) (j := 7) (L1 := #[true, true, true, true, true, false, true, false, false, false, false, false]) (L2 := #[true, true, true, true, false, false, true, true, false, false, false, false]) rfl rfl (by kernel_rfl) (by rfl) (by rfl) (fun KK hKK => ?ra26) (fun KK hKK => ?rb26)
    case' ra26 =>
      (have t4 := HW.cell 6; simp [wC] at t4; go_simp)
      refine hKK.out _ _ (by assumption) (fun hHeld => ?_)
      clear hKK KK
      try simp only [Act.put, List.setIfInBounds_toArray, List.set_cons_zero, List.set_cons_succ]
      refine anyH_run2 (i := 5) (j := 7) (L1 := #[true, true, true, true, true, true, true, false, false, false, false, false]) (L2 := #[true, true, true, true, true, false, true, true, false, false, false, false]) rfl rfl (by kernel_rfl) (by rfl) (by rfl) (fun KK hKK => ?ra27) (fun KK hKK => ?rb27)
      case' ra27 =>
        go_simp
        (refine (hclip _).mono ?_; rintro e w8 ⟨rfl, rfl⟩; (try go_simp))
        refine hKK.out _ _ (by assumption) (fun hHeld => ?_)
        clear hKK KK
        try simp only [Act.put, List.setIfInBounds_toArray, List.set_cons_zero, List.set_cons_succ]
        refine anyH_run (i := 7) (L' := #[true, true, true, true, true, true, true, true, false, false, false, false]) rfl (by kernel_rfl) (by rfl) (fun KK hKK => ?_)
        go_simp
        (obtain ⟨hm, hU, hA⟩ := Chg.litRd hHeld [.int .i64 nj, .int .i64 a, .int .i64 b, .int .i64 px, .int .i64 py, .int .i64 qx, .int .i64 qy, .int .i64 ln] 8 1 67 rfl (by decide); replace HV := Rd.keep HV hA (by simp); replace HW := HW.k hA)
        refine hKK.out _ _ (by assumption) (fun hHeld => ?_)
        clear hKK KK
        try simp only [Act.put, List.setIfInBounds_toArray, List.set_cons_zero, List.set_cons_succ]
        refine anyH_run (i := 8) (L' := #[true, true, true, true, true, true, true, true, true, false, false, false]) rfl (by kernel_rfl) (by rfl) (fun KK hKK => ?_)
        (refine wp_appClip rowRJ _ _ rfl aj js.length (js.flatMap cJt) rfl HV _ 1 [.int .i64 nj, .int .i64 a, .int .i64 b, .int .i64 px, .int .i64 py, .int .i64 qx, .int .i64 qy, .int .i64 ln] rfl hU (by decide) (by omega) (by omega) ?_; intro g c w9 k1 k2; have hm2 := Chg.k' hHeld k2; have HW9 := HW.k k2; have c6 := HW9.cell 6; have f6 := HW9.free 6; simp [wC] at c6)
        refine hKK.out _ _ (by assumption) (fun hHeld => ?_)
        clear hKK KK
        try simp only [Act.put, List.setIfInBounds_toArray, List.set_cons_zero, List.set_cons_succ]
        refine anyH_take (i := 9) (d := 66) (L' := #[true, true, true, true, true, true, true, true, true, true, false, false]) (v := ?v37) rfl rfl (by kernel_rfl) (fun _ _ _ h => h) (by rfl) ?hy37 (by assumption) ?rest37
        case hy37 => (intro wx hSw; (try dsimp only at hSw); (skip); go_simp; (try with_reducible rfl))
        simp only [Act.put, List.setIfInBounds_toArray, List.set_cons_zero, List.set_cons_succ]
        refine anyH_take (i := 10) (d := 67) (L' := #[true, true, true, true, true, true, true, true, true, true, true, false]) (v := ?v38) rfl rfl (by kernel_rfl) (fun _ _ _ h => h) (by rfl) ?hy38 (by assumption) ?rest38
        case hy38 => (intro wx hSw; (try dsimp only at hSw); (skip); go_simp; (try with_reducible rfl))
        simp only [Act.put, List.setIfInBounds_toArray, List.set_cons_zero, List.set_cons_succ]
        refine anyH_run (i := 11) (L' := #[true, true, true, true, true, true, true, true, true, true, true, true]) rfl (by kernel_rfl) (by rfl) (fun KK hKK => ?_)
        go_simp
        (have hS11 := Chg.setCell hHeld ⟨wb, 6, none⟩ (.slice (some ⟨g, 0, none⟩) (js.length + 1) c) (by simp); have hW11 := HW9.set 6 (.slice (some ⟨g, 0, none⟩) (js.length + 1) c); simp [wC] at hW11)
        refine hKK.out _ _ (by assumption) (fun hHeld => ?_)
        clear hKK KK
        try simp only [Act.put, List.setIfInBounds_toArray, List.set_cons_zero, List.set_cons_succ]
        refine wpAnyH_done (by kernel_rfl) ?_ _
        skip
      case' rb27 =>
        go_simp
        (obtain ⟨hm, hU, hA⟩ := Chg.litRd hHeld [.int .i64 nj, .int .i64 a, .int .i64 b, .int .i64 px, .int .i64 py, .int .i64 qx, .int .i64 qy, .int .i64 ln] 8 1 67 rfl (by decide); replace HV := Rd.keep HV hA (by simp); replace HW := HW.k hA)
        refine hKK.out _ _ (by assumption) (fun hHeld => ?_)
        clear hKK KK
        try simp only [Act.put, List.setIfInBounds_toArray, List.set_cons_zero, List.set_cons_succ]
        refine anyH_run (i := 5) (L' := #[true, true, true, true, true, true, true, true, false, false, false, false]) rfl (by kernel_rfl) (by rfl) (fun KK hKK => ?_)
        go_simp
        (refine (hclip _).mono ?_; rintro e w8 ⟨rfl, rfl⟩; (try go_simp))
        refine hKK.out _ _ (by assumption) (fun hHeld => ?_)
        clear hKK KK
        try simp only [Act.put, List.setIfInBounds_toArray, List.set_cons_zero, List.set_cons_succ]
        refine anyH_run (i := 8) (L' := #[true, true, true, true, true, true, true, true, true, false, false, false]) rfl (by kernel_rfl) (by rfl) (fun KK hKK => ?_)
        (refine wp_appClip rowRJ _ _ rfl aj js.length (js.flatMap cJt) rfl HV _ 1 [.int .i64 nj, .int .i64 a, .int .i64 b, .int .i64 px, .int .i64 py, .int .i64 qx, .int .i64 qy, .int .i64 ln] rfl hU (by decide) (by omega) (by omega) ?_; intro g c w9 k1 k2; have hm2 := Chg.k' hHeld k2; have HW9 := HW.k k2; have c6 := HW9.cell 6; have f6 := HW9.free 6; simp [wC] at c6)
        refine hKK.out _ _ (by assumption) (fun hHeld => ?_)
        clear hKK KK
        try simp only [Act.put, List.setIfInBounds_toArray, List.set_cons_zero, List.set_cons_succ]
        refine anyH_take (i := 9) (d := 66) (L' := #[true, true, true, true, true, true, true, true, true, true, false, false]) (v := ?v43) rfl rfl (by kernel_rfl) (fun _ _ _ h => h) (by rfl) ?hy43 (by assumption) ?rest43
        case hy43 => (intro wx hSw; (try dsimp only at hSw); (skip); go_simp; (try with_reducible rfl))
        simp only [Act.put, List.setIfInBounds_toArray, List.set_cons_zero, List.set_cons_succ]
        refine anyH_take (i := 10) (d := 67) (L' := #[true, true, true, true, true, true, true, true, true, true, true, false]) (v := ?v44) rfl rfl (by kernel_rfl) (fun _ _ _ h => h) (by rfl) ?hy44 (by assumption) ?rest44
        case hy44 => (intro wx hSw; (try dsimp only at hSw); (skip); go_simp; (try with_reducible rfl))
        simp only [Act.put, List.setIfInBounds_toArray, List.set_cons_zero, List.set_cons_succ]
        refine anyH_run (i := 11) (L' := #[true, true, true, true, true, true, true, true, true, true, true, true]) rfl (by kernel_rfl) (by rfl) (fun KK hKK => ?_)
        go_simp
        (have hS11 := Chg.setCell hHeld ⟨wb, 6, none⟩ (.slice (some ⟨g, 0, none⟩) (js.length + 1) c) (by simp); have hW11 := HW9.set 6 (.slice (some ⟨g, 0, none⟩) (js.length + 1) c); simp [wC] at hW11)
        refine hKK.out _ _ (by assumption) (fun hHeld => ?_)
        clear hKK KK
        try simp only [Act.put, List.setIfInBounds_toArray, List.set_cons_zero, List.set_cons_succ]
        refine wpAnyH_done (by kernel_rfl) ?_ _
        skip
    case' rb26 =>
      go_simp
      (obtain ⟨hm, hU, hA⟩ := Chg.litRd hHeld [.int .i64 nj, .int .i64 a, .int .i64 b, .int .i64 px, .int .i64 py, .int .i64 qx, .int .i64 qy, .int .i64 ln] 8 1 67 rfl (by decide); replace HV := Rd.keep HV hA (by simp); replace HW := HW.k hA)
      refine hKK.out _ _ (by assumption) (fun hHeld => ?_)
      clear hKK KK
      try simp only [Act.put, List.setIfInBounds_toArray, List.set_cons_zero, List.set_cons_succ]
      refine anyH_run (i := 4) (L' := #[true, true, true, true, true, false, true, true, false, false, false, false]) rfl (by kernel_rfl) (by rfl) (fun KK hKK => ?_)
      (have t4 := HW.cell 6; simp [wC] at t4; go_simp)
      refine hKK.out _ _ (by assumption) (fun hHeld => ?_)
      clear hKK KK
      try simp only [Act.put, List.setIfInBounds_toArray, List.set_cons_zero, List.set_cons_succ]
      refine anyH_run (i := 5) (L' := #[true, true, true, true, true, true, true, true, false, false, false, false]) rfl (by kernel_rfl) (by rfl) (fun KK hKK => ?_)
      go_simp
      (refine (hclip _).mono ?_; rintro e w8 ⟨rfl, rfl⟩; (try go_simp))
      refine hKK.out _ _ (by assumption) (fun hHeld => ?_)
      clear hKK KK
      try simp only [Act.put, List.setIfInBounds_toArray, List.set_cons_zero, List.set_cons_succ]
      refine anyH_run (i := 8) (L' := #[true, true, true, true, true, true, true, true, true, false, false, false]) rfl (by kernel_rfl) (by rfl) (fun KK hKK => ?_)
      (refine wp_appClip rowRJ _ _ rfl aj js.length (js.flatMap cJt) rfl HV _ 1 [.int .i64 nj, .int .i64 a, .int .i64 b, .int .i64 px, .int .i64 py, .int .i64 qx, .int .i64 qy, .int .i64 ln] rfl hU (by decide) (by omega) (by omega) ?_; intro g c w9 k1 k2; have hm2 := Chg.k' hHeld k2; have HW9 := HW.k k2; have c6 := HW9.cell 6; have f6 := HW9.free 6; simp [wC] at c6)
      refine hKK.out _ _ (by assumption) (fun hHeld => ?_)
      clear hKK KK
      try simp only [Act.put, List.setIfInBounds_toArray, List.set_cons_zero, List.set_cons_succ]
      refine anyH_take (i := 9) (d := 66) (L' := #[true, true, true, true, true, true, true, true, true, true, false, false]) (v := ?v50) rfl rfl (by kernel_rfl) (fun _ _ _ h => h) (by rfl) ?hy50 (by assumption) ?rest50
      case hy50 => (intro wx hSw; (try dsimp only at hSw); (skip); go_simp; (try with_reducible rfl))
      simp only [Act.put, List.setIfInBounds_toArray, List.set_cons_zero, List.set_cons_succ]
      refine anyH_take (i := 10) (d := 67) (L' := #[true, true, true, true, true, true, true, true, true, true, true, false]) (v := ?v51) rfl rfl (by kernel_rfl) (fun _ _ _ h => h) (by rfl) ?hy51 (by assumption) ?rest51
      case hy51 => (intro wx hSw; (try dsimp only at hSw); (skip); go_simp; (try with_reducible rfl))
      simp only [Act.put, List.setIfInBounds_toArray, List.set_cons_zero, List.set_cons_succ]
      refine anyH_run (i := 11) (L' := #[true, true, true, true, true, true, true, true, true, true, true, true]) rfl (by kernel_rfl) (by rfl) (fun KK hKK => ?_)
      go_simp
      (have hS11 := Chg.setCell hHeld ⟨wb, 6, none⟩ (.slice (some ⟨g, 0, none⟩) (js.length + 1) c) (by simp); have hW11 := HW9.set 6 (.slice (some ⟨g, 0, none⟩) (js.length + 1) c); simp [wC] at hW11)
      refine hKK.out _ _ (by assumption) (fun hHeld => ?_)
      clear hKK KK
      try simp only [Act.put, List.setIfInBounds_toArray, List.set_cons_zero, List.set_cons_succ]
      refine wpAnyH_done (by kernel_rfl) ?_ _
      skip
    all_goals
      have hgw : ∀ x ∈ S, x < g := fun x hx => by have := HH.out.lt x hx; have := HC7.out.size; have := hm.size; have := (World.ownsRow.lt k1 g rfl).1; omega
      have c2 := hW11.cell 2
      have f2 := hW11.free 2
      have x0 := (HX7.out.chg hS11 NX.out).cell 0
      simp at c2 x0
      have hne : xb ≠ wb := by have := HXB.out; omega
      have HR9 := hd (Rd.ofOwn k1)
      have HM2 := hd hm2
      have HW11 := hd hW11
      have hS12 := Chg.setCell (Chg.setCell (Chg.refl [wb] w9) ⟨wb, 6, none⟩ (.slice (some ⟨g, 0, none⟩) (js.length + 1) c) (by simp)) ⟨wb, 2, none⟩ (.int .i64 (nj + 1)) (by simp)
      have HS12 := hd hS12
      have HG := hd hgw
      clear k1 k2 hm2 HW9 hS11 hW11 hHeld c6 f6 hU hA hm HV HW hS12 hgw
      generalize w9.setCell ⟨wb, 6, none⟩ (.slice (some ⟨g, 0, none⟩) (js.length + 1) c) = w11 at *
      have hwr : wrap64 (nj + 1) = nj + 1 := IntWalk.wrap64_in _ (by unfold I64 at hnj; omega)
      go_wp2_with fail
      rw [HP.out]
      refine ⟨rfl, (HC7.out.mono (by simp)).trans (HM2.out.trans HS12.out (fun x hx _ => hx)) (fun x hx _ => hx), _, wb_snocJ (x := ⟨nj, a, b, (px, py), (qx, qy), ln⟩) HW7.out HM2.out HS12.out HR9.out HG.out ?_⟩
      have := HW11.out.set 2 (.int .i64 (nj + 1))
      simpa [wC] using this
end Go.Proofs.YtpadflhffiiglaaGreat

/- world.RemoveBody, world.RemoveJoint. -/
namespace Go.Proofs.YtpadflhffiiglaaGreat
open Go.RowKit

theorem says_mk {α : Type} {enc : α → List Value} {p : α → Bool} {g : Nat} {l : List α} {w : World} {ib : Nat} {id : Int} (hc : w.cell? ⟨ib, 0, none⟩ = some (.int .i64 id))
    (hcl : ∀ W x, x ∈ l → W.cell? ⟨ib, 0, none⟩ = some (.int .i64 id) → Calls Tryz.prog g #[.agg (enc x).toArray, .pointer (some ⟨ib, 0, none⟩)] W fun e w' => e = .returned (.bool (p x)) ∧ Chg [] W w') :
    ∀ W W', Chg [] w W → (∀ S, (∀ x ∈ S, w.heap.size ≤ x) → Chg S W W' → Says S W' enc p g #[.pointer (some ⟨ib, 0, none⟩)] l) := fun W W' h1 S hS h2 W2 x h3 hx => by
  have hib := World.block_lt_of_cell? w _ hc
  have hn : ib ∉ S := fun hm => by have := hS _ hm; simp at hib; omega
  exact hcl W2 x hx (h3.cellT (p := ⟨ib, 0, none⟩) (h2.cellT (p := ⟨ib, 0, none⟩) (h1.cellS hc) hn) hn)
set_option maxHeartbeats 1000000 in
theorem GoneB_any (W : World) (x : BV) (ib : Nat) (id : Int) (ho : x.2.oneCell' = true) (hc : W.cell? ⟨ib, 0, none⟩ = some (.int .i64 id)) :
    Calls Tryz.prog 56 #[.agg (cBV x).toArray, .pointer (some ⟨ib, 0, none⟩)] W fun e w' => e = .returned (.bool (x.1.id == id)) ∧ Chg [] W w' := by
  obtain ⟨⟨i, ⟨px, py⟩, ⟨vx, vy⟩, an, sp, de, ⟨k, r, p⟩⟩, pv⟩ := x
  unfold cBV
  simp only at ho ⊢
  have h1 := (Chg.refl [] W).alloc (.cells #[.int .i64 i, .int .i64 px, .int .i64 py, .int .i64 vx, .int .i64 vy, .int .i64 an, .int .i64 sp, .int .i64 de, .int .i64 k, .int .i64 r, pv] 34)
  have c1 := h1.cellS hc
  go_enter Tryz.func56, Tryz.ntmps56
  go_wp2_with fail
  go_ret
  exact ⟨rfl, h1⟩
set_option maxHeartbeats 1000000 in
theorem GoneJ_any (W : World) (x : Jnt) (ib : Nat) (id : Int) (hc : W.cell? ⟨ib, 0, none⟩ = some (.int .i64 id)) :
    Calls Tryz.prog 58 #[.agg (cJt x).toArray, .pointer (some ⟨ib, 0, none⟩)] W fun e w' => e = .returned (.bool (x.a == id || x.b == id)) ∧ Chg [] W w' := by
  obtain ⟨i, a, b, ⟨px, py⟩, ⟨qx, qy⟩, ln⟩ := x
  unfold cJt
  simp only
  have h1 := (Chg.refl [] W).alloc (.cells #[.int .i64 i, .int .i64 a, .int .i64 b, .int .i64 px, .int .i64 py, .int .i64 qx, .int .i64 qy, .int .i64 ln] 67)
  have c1 := h1.cellS hc
  by_cases e : a = id
  · subst e
    go_enter Tryz.func58, Tryz.ntmps58
    go_wp2_with fail
    go_ret
    exact ⟨by simp, h1⟩
  · have e2 : (a == id) = false := by rw [beq_eq_false_iff_ne]; exact e
    go_enter Tryz.func58, Tryz.ntmps58
    go_wp2_with fail
    go_ret
    exact ⟨by simp [e2], h1⟩
set_option maxHeartbeats 1000000 in
theorem GoneC_any (W : World) (x : Cnt) (ib : Nat) (id : Int) (hc : W.cell? ⟨ib, 0, none⟩ = some (.int .i64 id)) :
    Calls Tryz.prog 60 #[.agg (cCt x).toArray, .pointer (some ⟨ib, 0, none⟩)] W fun e w' => e = .returned (.bool (x.a == id || x.b == id)) ∧ Chg [] W w' := by
  obtain ⟨a, b, k, n, t⟩ := x
  unfold cCt
  simp only
  have h1 := (Chg.refl [] W).alloc (.cells #[.int .i64 a, .int .i64 b, .int .i64 k, .int .i64 n, .int .i64 t] 70)
  have c1 := h1.cellS hc
  by_cases e : a = id
  · subst e
    go_enter Tryz.func60, Tryz.ntmps60
    go_wp2_with fail
    go_ret
    exact ⟨by simp, h1⟩
  · have e2 : (a == id) = false := by rw [beq_eq_false_iff_ne]; exact e
    go_enter Tryz.func60, Tryz.ntmps60
    go_wp2_with fail
    go_ret
    exact ⟨by simp [e2], h1⟩
set_option maxHeartbeats 1000000 in
theorem GoneJ1_any (W : World) (x : Jnt) (ib : Nat) (id : Int) (hc : W.cell? ⟨ib, 0, none⟩ = some (.int .i64 id)) :
    Calls Tryz.prog 62 #[.agg (cJt x).toArray, .pointer (some ⟨ib, 0, none⟩)] W fun e w' => e = .returned (.bool (x.id == id)) ∧ Chg [] W w' := by
  obtain ⟨i, a, b, ⟨px, py⟩, ⟨qx, qy⟩, ln⟩ := x
  unfold cJt
  simp only
  have h1 := (Chg.refl [] W).alloc (.cells #[.int .i64 i, .int .i64 a, .int .i64 b, .int .i64 px, .int .i64 py, .int .i64 qx, .int .i64 qy, .int .i64 ln] 67)
  have c1 := h1.cellS hc
  go_enter Tryz.func62, Tryz.ntmps62
  go_wp2_with fail
  go_ret
  exact ⟨rfl, h1⟩
theorem bsS_stay {w : World} {v : Value} {l : List BV} {p : BV → Bool} {base : Nat} (h : OwR cBV 11 34 w base v (stay p l)) (hp : ∀ y ∈ l, VsS w y.2 y.1.shape.p) : BsS w v (stay p l) :=
  ⟨h.rd, fun x hx => hp x ((List.mem_filter.1 hx).1)⟩
theorem stay_map (l : List BV) (id : Int) : (stay (fun x => x.1.id == id) l).map (·.1) = stay (fun b => b.id == id) (l.map (·.1)) := by
  unfold stay
  rw [List.filter_map]
  rfl
set_option maxRecDepth 100000 in
set_option maxHeartbeats 8000000 in
theorem RemBody_any (w : World) (wb : Nat) (S : List Nat) (bv jv kv : Value) (L : List BV) (X : Wld) (id : Int) (h : WB w wb S bv jv kv L X)
    (hlb : X.bodies.length ≤ 100000000000) (hr : risI (X.bodies.map (·.id))) (hlj : X.joints.length ≤ 100000000000) (hlc : X.contacts.length ≤ 100000000000) :
    Calls Tryz.prog 22 #[.pointer (some ⟨wb, 0, none⟩), .int .i64 id] w fun e w' => e = .returned (.bool (remB X id).2) ∧ Chg [wb] w w' ∧ ∃ bv' jv' kv' L', WB w' wb S bv' jv' kv' L' (remB X id).1 := by
  have hfa := fun W (hW : WlP W bv jv kv L X) => BodyAt_any W bv jv kv L X id hW hlb hr
  have hwB := fun W (hW : WlP W bv jv kv L X) ib (hc : W.cell? ⟨ib, 0, none⟩ = some (.int .i64 id)) => WithoutRB_any W bv L hW.b.rd (fun x hx => cBV_one x (one_cBV x (BsS.one hW.b x hx))) (by rw [← List.length_map (f := (·.1)), hW.l]; exact hlb) (fun x => x.1.id == id) 56 _ (enters_of Tryz.func56 (by kernel_rfl) rfl) (says_mk hc (fun V x hx hV => GoneB_any V x ib id (one_cBV x (BsS.one hW.b x hx)) hV))
  have hwJ := fun W (hW : JsS W jv X.joints) ib (hc : W.cell? ⟨ib, 0, none⟩ = some (.int .i64 id)) => WithoutRJ_any W jv X.joints hW (fun x _ => cJt_one x) hlj (fun j => j.a == id || j.b == id) 58 _ (enters_of Tryz.func58 (by kernel_rfl) rfl) (says_mk hc (fun V x _ hV => GoneJ_any V x ib id hV))
  have hwC := fun W (hW : CsS W kv X.contacts) ib (hc : W.cell? ⟨ib, 0, none⟩ = some (.int .i64 id)) => WithoutRC_any W kv X.contacts hW (fun x _ => cCt_one x) hlc (fun j => j.a == id || j.b == id) 60 _ (enters_of Tryz.func60 (by kernel_rfl) rfl) (says_mk hc (fun V x _ hV => GoneC_any V x ib id hV))
  obtain ⟨tk, nb, nj, ⟨gx, gy⟩, bs, js, ks⟩ := X
  have hl := h.p.l
  simp only at hfa hwB hwJ hwC hl
  subst hl
  obtain ⟨P, hP⟩ : ∃ P : Ending → World → Prop, P = fun e w' => e = .returned (.bool (remB ⟨tk, nb, nj, (gx, gy), L.map (·.1), js, ks⟩ id).2) ∧ Chg [wb] w w' ∧ ∃ bv' jv' kv' L', WB w' wb S bv' jv' kv' L' (remB ⟨tk, nb, nj, (gx, gy), L.map (·.1), js, ks⟩ id).1 := ⟨_, rfl⟩
  rw [← hP]
  have HP := hd hP
  unfold remB at HP
  simp only at HP
  clear hP hr hlb hlj hlc
  unfold vW at *
  generalize fndI ((L.map (·.1)).map (·.id)) id = fa at *
  obtain ⟨na, oa⟩ := fa
  simp only at hfa HP
  have hc0 := (Chg.refl [] w).alloc (.cells #[.int .i64 id] 3)
  have hk0 := Blk.new w #[.int .i64 id] 3
  have hwl := h.blk.lt
  go_enter Tryz.func22, Tryz.ntmps22
  go_upto_region 1 with (fail)
  generalize w.alloc (.cells #[.int .i64 id] 3) = w0 at *
  obtain ⟨xb, hxb⟩ : ∃ xb, xb = w.heap.size := ⟨_, rfl⟩
  rw [← hxb] at hk0 ⊢
  have HXB : Hd (wb < xb ∧ xb = w.heap.size) := hd ⟨by omega, hxb⟩
  have HX0 := hd hk0
  have HW0 := hd (h.k hc0)
  have HC0 := hd hc0
  have HH := hd h
  clear hxb hwl hk0 hc0 h
  unfold wC at *
  refine anyH_start (n := 10) (L := #[false, false, false, false, false, false, false, false, false, false]) (by kernel_rfl) (by kernel_rfl) (S := (fun wx => Chg [] w0 wx)) ((Chg.refl _ _).drew) (fun hHeld => ?_)
  generalize w0.drew = w0d at *
  refine anyH_take (i := 0) (d := 8) (L' := #[true, false, false, false, false, false, false, false, false, false]) (v := ?v2) rfl rfl (by kernel_rfl) (fun _ _ _ h => h) (by rfl) ?hy2 (by assumption) ?rest2
  case hy2 => (intro wx hSw; (try dsimp only at hSw); (have t0 := (HX0.out.k hSw).cell 0; simp at t0); go_simp; (try with_reducible rfl))
  simp only [Act.put, List.setIfInBounds_toArray, List.set_cons_zero, List.set_cons_succ]
  refine anyH_take (i := 1) (d := 9) (L' := #[true, true, false, false, false, false, false, false, false, false]) (v := ?v3) rfl rfl (by kernel_rfl) (fun _ _ _ h => h) (by rfl) ?hy3 (by assumption) ?rest3
  case hy3 => (intro wx hSw; (try dsimp only at hSw); (have t0 := (HX0.out.k hSw).cell 0; simp at t0); go_simp; (try with_reducible rfl))
  simp only [Act.put, List.setIfInBounds_toArray, List.set_cons_zero, List.set_cons_succ]
  refine anyH_take (i := 2) (d := 10) (L' := #[true, true, true, false, false, false, false, false, false, false]) (v := ?v4) rfl rfl (by kernel_rfl) (fun _ _ _ h => h) (by rfl) ?hy4 (by assumption) ?rest4
  case hy4 => (intro wx hSw; (try dsimp only at hSw); (refine exec_load_row (x := .tmp 9) (t := 42) ?_ ?_ (HW0.out.k hSw).blk Tryz.underlying42 rfl (by kernel_rfl) <;> rfl))
  simp only [Act.put, List.setIfInBounds_toArray, List.set_cons_zero, List.set_cons_succ]
  refine anyH_take (i := 3) (d := 11) (L' := #[true, true, true, true, false, false, false, false, false, false]) (v := ?v5) rfl rfl (by kernel_rfl) (fun _ _ _ h => h) (by rfl) ?hy5 (by assumption) ?rest5
  case hy5 => (intro wx hSw; (try dsimp only at hSw); (have t0 := (HX0.out.k hSw).cell 0; simp at t0); go_simp; (try with_reducible rfl))
  simp only [Act.put, List.setIfInBounds_toArray, List.set_cons_zero, List.set_cons_succ]
  refine anyH_run (i := 4) (L' := #[true, true, true, true, true, false, false, false, false, false]) rfl (by kernel_rfl) (by rfl) (fun KK hKK => ?_)
  go_simp
  (refine (hfa _ (HW0.out.k hHeld).p).mono ?_; rintro e w1 ⟨rfl, hm0⟩; have hm := Chg.k' hHeld hm0; (try go_simp))
  refine hKK.out _ _ (by assumption) (fun hHeld => ?_)
  clear hKK KK
  try simp only [Act.put, List.setIfInBounds_toArray, List.set_cons_zero, List.set_cons_succ]
  refine anyH_run (i := 5) (L' := #[true, true, true, true, true, true, false, false, false, false]) rfl (by kernel_rfl) (by rfl) (fun KK hKK => ?_)
  go_simp
  (skip)
  refine hKK.out _ _ (by assumption) (fun hHeld => ?_)
  clear hKK KK
  try simp only [Act.put, List.setIfInBounds_toArray, List.set_cons_zero, List.set_cons_succ]
  refine anyH_take (i := 6) (d := 13) (L' := #[true, true, true, true, true, true, true, false, false, false]) (v := ?v8) rfl rfl (by kernel_rfl) (fun _ _ _ h => h) (by rfl) ?hy8 (by assumption) ?rest8
  case hy8 => (intro wx hSw; (try dsimp only at hSw); (have t0 := (HX0.out.k hSw).cell 0; simp at t0); go_simp; (try with_reducible rfl))
  simp only [Act.put, List.setIfInBounds_toArray, List.set_cons_zero, List.set_cons_succ]
  refine anyH_take (i := 7) (d := 14) (L' := #[true, true, true, true, true, true, true, true, false, false]) (v := ?v9) rfl rfl (by kernel_rfl) (fun _ _ _ h => h) (by rfl) ?hy9 (by assumption) ?rest9
  case hy9 => (intro wx hSw; (try dsimp only at hSw); (have t0 := (HX0.out.k hSw).cell 0; simp at t0); go_simp; (try with_reducible rfl))
  simp only [Act.put, List.setIfInBounds_toArray, List.set_cons_zero, List.set_cons_succ]
  refine anyH_run (i := 8) (L' := #[true, true, true, true, true, true, true, true, true, false]) rfl (by kernel_rfl) (by rfl) (fun KK hKK => ?_)
  go_simp
  (skip)
  refine hKK.out _ _ (by assumption) (fun hHeld => ?_)
  clear hKK KK
  try simp only [Act.put, List.setIfInBounds_toArray, List.set_cons_zero, List.set_cons_succ]
  refine anyH_run (i := 9) (L' := #[true, true, true, true, true, true, true, true, true, true]) rfl (by kernel_rfl) (by rfl) (fun KK hKK => ?_)
  go_simp
  (skip)
  refine hKK.out _ _ (by assumption) (fun hHeld => ?_)
  clear hKK KK
  try simp only [Act.put, List.setIfInBounds_toArray, List.set_cons_zero, List.set_cons_succ]
  refine wpAnyH_done (by kernel_rfl) ?_ _
  skip
  have HC1 := hd (HC0.out.k hm)
  have HX1 := hd (HX0.out.k hm)
  have hW1 := HH.out.k HC1.out
  clear hm hm0 hHeld hfa HX0 HW0 HC0
  cases oa
  · have HW1 := hd hW1
    go_wp2_with fail
    rw [HP.out]
    exact ⟨rfl, HC1.out.mono (by simp), _, _, _, _, HW1.out⟩
  · rw [if_neg (by simp)] at HP
    have hb := hwB w1 hW1.p xb (by have := HX1.out.cell 0; simpa using this)
    have c5 := hW1.blk.cell 5
    have f5 := hW1.blk.free 5
    simp [wC] at c5
    have HW1 := hd hW1
    have hwlt : Hd (∀ x ∈ S, x < w1.heap.size) := hd hW1.lt
    obtain ⟨ab, cb, rfl, -, -⟩ := Rd.form (by decide) hW1.p.b.rd
    obtain ⟨aj, cj, rfl, -, -⟩ := Rd.form (by decide) hW1.p.j
    obtain ⟨ak, ck, rfl, -, -⟩ := Rd.form (by decide) hW1.p.c
    clear hW1 hwB
    go_upto_region 5 with (go_at_call 55; refine hb.mono ?_; rintro e w2 ⟨ao, c, rfl, ho, hc2⟩; replace f5 := (hc2.frozenS c5).trans f5; replace c5 := hc2.cellS c5)
    have hB2 := bsS_stay ho (fun y hy => (HW1.out.p.b.ps y hy).k hc2)
    have hBo : ∀ k, (Value.slice ao (stay (fun x : BV => x.1.id == id) L).length c).ownBlock = some k → k ∉ S := fun k hk hm => by have := (ho.lo k hk).1; have := hwlt.out k hm; omega
    have HB2 := hd hB2
    have HBo := hd hBo
    have hw2 := (HW1.out.k hc2)
    have hs3 := Chg.setCell (Chg.refl [wb] w2) ⟨wb, 5, none⟩ (.slice ao (stay (fun x : BV => x.1.id == id) L).length c) (by simp)
    have hk3 := hw2.blk.set 5 (.slice ao (stay (fun x : BV => x.1.id == id) L).length c)
    have hj3 := hw2.p.j.chg hs3 hw2.a1.j
    have hc3 := hw2.p.c.chg hs3 hw2.a1.k
    have hx3 := (HX1.out.k hc2).chg hs3 (by have := HXB.out; simp; omega)
    have HS3 := hd ((HC1.out.k hc2).mono (S' := [wb]) (by simp) |>.trans hs3 (fun x hx _ => hx))
    have HS23 := hd hs3
    clear hB2 hBo hw2 hs3 hb c5 f5 ho hc2 HW1 HC1
    generalize w2.setCell ⟨wb, 5, none⟩ (.slice ao (stay (fun x : BV => x.1.id == id) L).length c) = w3 at *
    simp [wC] at hk3
    have hjw := hwJ w3 hj3 xb (by have := hx3.cell 0; simpa using this)
    have c6 := hk3.cell 6
    have f6 := hk3.free 6
    simp at c6
    have HK3 := hd hk3
    have HC3 := hd hc3
    have HX3 := hd hx3
    clear hk3 hc3 hx3 hj3 hwJ HX1
    have hwlt3 : Hd (∀ x ∈ S, x < w3.heap.size) := hd (fun x hx => Nat.lt_of_lt_of_le (HH.out.lt x hx) HS3.out.size)
    go_upto_region 6 with (go_at_call 57; refine hjw.mono ?_; rintro e w4 ⟨ao4, c4, rfl, ho4, hc4⟩; replace f6 := (hc4.frozenS c6).trans f6; replace c6 := hc4.cellS c6)
    have hJo : ∀ k, (Value.slice ao4 (stay (fun j : Jnt => j.a == id || j.b == id) js).length c4).ownBlock = some k → k ∉ S := fun k hk hm => by have := (ho4.lo k hk).1; have := hwlt3.out k hm; omega
    have HJ4 := hd (show JsS w4 _ _ from ho4.rd)
    have HJo := hd hJo
    have hs5 := Chg.setCell (Chg.refl [wb] w4) ⟨wb, 6, none⟩ (.slice ao4 (stay (fun j : Jnt => j.a == id || j.b == id) js).length c4) (by simp)
    have hk5 := (HK3.out.k hc4).set 6 (.slice ao4 (stay (fun j : Jnt => j.a == id || j.b == id) js).length c4)
    have hc5 := (HC3.out.k hc4).chg hs5 (fun hn => HH.out.a1.k hn)
    have hx5 := (HX3.out.k hc4).chg hs5 (by have := HXB.out; simp; omega)
    have HS5 := hd ((HS3.out.k' hc4).trans hs5 (fun x hx _ => hx))
    have HS25 := hd ((HS23.out.k' hc4).trans hs5 (fun x hx _ => hx))
    have HS45 := hd hs5
    clear hJo hs5 hjw c6 f6 ho4 hc4 HC3 HX3 HS3 HS23 HK3
    generalize w4.setCell ⟨wb, 6, none⟩ (.slice ao4 (stay (fun j : Jnt => j.a == id || j.b == id) js).length c4) = w5 at *
    simp at hk5
    have hcw := hwC w5 hc5 xb (by have := hx5.cell 0; simpa using this)
    have c7 := hk5.cell 7
    have f7 := hk5.free 7
    simp at c7
    have HK5 := hd hk5
    clear hk5 hx5 hc5 hwC
    have hwlt5 : Hd (∀ x ∈ S, x < w5.heap.size) := hd (fun x hx => Nat.lt_of_lt_of_le (HH.out.lt x hx) HS5.out.size)
    go_upto_region 7 with (go_at_call 59; refine hcw.mono ?_; rintro e w6 ⟨ao6, c6, rfl, ho6, hc6⟩; replace f7 := (hc6.frozenS c7).trans f7; replace c7 := hc6.cellS c7)
    have hCo : ∀ k, (Value.slice ao6 (stay (fun j : Cnt => j.a == id || j.b == id) ks).length c6).ownBlock = some k → k ∉ S := fun k hk hm => by have := (ho6.lo k hk).1; have := hwlt5.out k hm; omega
    have HC6 := hd (show CsS w6 _ _ from ho6.rd)
    have hs7 := Chg.setCell (Chg.refl [wb] w6) ⟨wb, 7, none⟩ (.slice ao6 (stay (fun j : Cnt => j.a == id || j.b == id) ks).length c6) (by simp)
    have HK7 := hd ((HK5.out.k hc6).set 7 (.slice ao6 (stay (fun j : Cnt => j.a == id || j.b == id) ks).length c6))
    have HS7 := hd ((HS5.out.k' hc6).trans hs7 (fun x hx _ => hx))
    have HS27 := hd ((HS25.out.k' hc6).trans hs7 (fun x hx _ => hx))
    have HS47 := hd ((HS45.out.k' hc6).trans hs7 (fun x hx _ => hx))
    have HS67 := hd hs7
    have HCo := hd hCo
    clear hCo hs7 hcw c7 f7 ho6 hc6 HS5 HS25 HS45 HK5
    generalize w6.setCell ⟨wb, 7, none⟩ (.slice ao6 (stay (fun j : Cnt => j.a == id || j.b == id) ks).length c6) = w7 at *
    go_wp2_with fail
    rw [HP.out]
    have HA := hd (show Apart S (.slice ao (stay (fun x : BV => x.1.id == id) L).length c) (.slice ao4 (stay (fun j : Jnt => j.a == id || j.b == id) js).length c4) (.slice ao6 (stay (fun j : Cnt => j.a == id || j.b == id) ks).length c6) (stay (fun x : BV => x.1.id == id) L) ⟨tk, nb, nj, (gx, gy), stay (fun b => b.id == id) (L.map (·.1)), stay (fun j => j.a == id || j.b == id) js, stay (fun j => j.a == id || j.b == id) ks⟩ from ⟨fun _ => HBo.out, fun _ => HJo.out, fun _ => HCo.out, fun x hx hn => HH.out.a.s x (List.mem_filter.1 hx).1 hn⟩)
    refine ⟨rfl, HS7.out, _, _, _, _, ?_, ⟨HB2.out.chg HS27.out (HA.out.one HH.out.ws).b (HA.out.one HH.out.ws).s, stay_map L id, HJ4.out.chg HS47.out (HA.out.one HH.out.ws).j, HC6.out.chg HS67.out (HA.out.one HH.out.ws).k⟩, HA.out, HH.out.ws, fun x hx => Nat.lt_of_lt_of_le (HH.out.lt x hx) HS7.out.size⟩
    have := HK7.out
    simpa [wC] using this
set_option maxRecDepth 100000 in
set_option maxHeartbeats 8000000 in
theorem RemJoint_any (w : World) (wb : Nat) (S : List Nat) (bv jv kv : Value) (L : List BV) (X : Wld) (id : Int) (h : WB w wb S bv jv kv L X)
    (hlj : X.joints.length ≤ 100000000000) (hr : risI (X.joints.map (·.id))) :
    Calls Tryz.prog 23 #[.pointer (some ⟨wb, 0, none⟩), .int .i64 id] w fun e w' => e = .returned (.bool (remJ X id).2) ∧ Chg [wb] w w' ∧ ∃ jv', WB w' wb S bv jv' kv L (remJ X id).1 := by
  have hfa := fun W (hW : WlP W bv jv kv L X) => JointAt_any W bv jv kv L X id hW hlj hr
  have hwJ := fun W (hW : JsS W jv X.joints) ib (hc : W.cell? ⟨ib, 0, none⟩ = some (.int .i64 id)) => WithoutRJ_any W jv X.joints hW (fun x _ => cJt_one x) hlj (fun j => j.id == id) 62 _ (enters_of Tryz.func62 (by kernel_rfl) rfl) (says_mk hc (fun V x _ hV => GoneJ1_any V x ib id hV))
  obtain ⟨tk, nb, nj, ⟨gx, gy⟩, bs, js, ks⟩ := X
  simp only at hfa hwJ
  obtain ⟨P, hP⟩ : ∃ P : Ending → World → Prop, P = fun e w' => e = .returned (.bool (remJ ⟨tk, nb, nj, (gx, gy), bs, js, ks⟩ id).2) ∧ Chg [wb] w w' ∧ ∃ jv', WB w' wb S bv jv' kv L (remJ ⟨tk, nb, nj, (gx, gy), bs, js, ks⟩ id).1 := ⟨_, rfl⟩
  rw [← hP]
  have HP := hd hP
  unfold remJ at HP
  simp only at HP
  clear hP hr hlj
  unfold vW at *
  generalize fndI (js.map (·.id)) id = fa at *
  obtain ⟨na, oa⟩ := fa
  simp only at hfa HP
  have hc0 := (Chg.refl [] w).alloc (.cells #[.int .i64 id] 3)
  have hk0 := Blk.new w #[.int .i64 id] 3
  have hwl := h.blk.lt
  go_enter Tryz.func23, Tryz.ntmps23
  go_upto_region 1 with (fail)
  generalize w.alloc (.cells #[.int .i64 id] 3) = w0 at *
  obtain ⟨xb, hxb⟩ : ∃ xb, xb = w.heap.size := ⟨_, rfl⟩
  rw [← hxb] at hk0 ⊢
  have HXB : Hd (wb < xb ∧ xb = w.heap.size) := hd ⟨by omega, hxb⟩
  have HX0 := hd hk0
  have HW0 := hd (h.k hc0)
  have HC0 := hd hc0
  have HH := hd h
  clear hxb hwl hk0 hc0 h
  unfold wC at *
  refine anyH_start (n := 10) (L := #[false, false, false, false, false, false, false, false, false, false]) (by kernel_rfl) (by kernel_rfl) (S := (fun wx => Chg [] w0 wx)) ((Chg.refl _ _).drew) (fun hHeld => ?_)
  generalize w0.drew = w0d at *
  refine anyH_take (i := 0) (d := 8) (L' := #[true, false, false, false, false, false, false, false, false, false]) (v := ?v14) rfl rfl (by kernel_rfl) (fun _ _ _ h => h) (by rfl) ?hy14 (by assumption) ?rest14
  case hy14 => (intro wx hSw; (try dsimp only at hSw); (have t0 := (HX0.out.k hSw).cell 0; simp at t0); go_simp; (try with_reducible rfl))
  simp only [Act.put, List.setIfInBounds_toArray, List.set_cons_zero, List.set_cons_succ]
  refine anyH_take (i := 1) (d := 9) (L' := #[true, true, false, false, false, false, false, false, false, false]) (v := ?v15) rfl rfl (by kernel_rfl) (fun _ _ _ h => h) (by rfl) ?hy15 (by assumption) ?rest15
  case hy15 => (intro wx hSw; (try dsimp only at hSw); (have t0 := (HX0.out.k hSw).cell 0; simp at t0); go_simp; (try with_reducible rfl))
  simp only [Act.put, List.setIfInBounds_toArray, List.set_cons_zero, List.set_cons_succ]
  refine anyH_take (i := 2) (d := 10) (L' := #[true, true, true, false, false, false, false, false, false, false]) (v := ?v16) rfl rfl (by kernel_rfl) (fun _ _ _ h => h) (by rfl) ?hy16 (by assumption) ?rest16
  case hy16 => (intro wx hSw; (try dsimp only at hSw); (refine exec_load_row (x := .tmp 9) (t := 42) ?_ ?_ (HW0.out.k hSw).blk Tryz.underlying42 rfl (by kernel_rfl) <;> rfl))
  simp only [Act.put, List.setIfInBounds_toArray, List.set_cons_zero, List.set_cons_succ]
  refine anyH_take (i := 3) (d := 11) (L' := #[true, true, true, true, false, false, false, false, false, false]) (v := ?v17) rfl rfl (by kernel_rfl) (fun _ _ _ h => h) (by rfl) ?hy17 (by assumption) ?rest17
  case hy17 => (intro wx hSw; (try dsimp only at hSw); (have t0 := (HX0.out.k hSw).cell 0; simp at t0); go_simp; (try with_reducible rfl))
  simp only [Act.put, List.setIfInBounds_toArray, List.set_cons_zero, List.set_cons_succ]
  refine anyH_run (i := 4) (L' := #[true, true, true, true, true, false, false, false, false, false]) rfl (by kernel_rfl) (by rfl) (fun KK hKK => ?_)
  go_simp
  (refine (hfa _ (HW0.out.k hHeld).p).mono ?_; rintro e w1 ⟨rfl, hm0⟩; have hm := Chg.k' hHeld hm0; (try go_simp))
  refine hKK.out _ _ (by assumption) (fun hHeld => ?_)
  clear hKK KK
  try simp only [Act.put, List.setIfInBounds_toArray, List.set_cons_zero, List.set_cons_succ]
  refine anyH_run (i := 5) (L' := #[true, true, true, true, true, true, false, false, false, false]) rfl (by kernel_rfl) (by rfl) (fun KK hKK => ?_)
  go_simp
  (skip)
  refine hKK.out _ _ (by assumption) (fun hHeld => ?_)
  clear hKK KK
  try simp only [Act.put, List.setIfInBounds_toArray, List.set_cons_zero, List.set_cons_succ]
  refine anyH_take (i := 6) (d := 13) (L' := #[true, true, true, true, true, true, true, false, false, false]) (v := ?v20) rfl rfl (by kernel_rfl) (fun _ _ _ h => h) (by rfl) ?hy20 (by assumption) ?rest20
  case hy20 => (intro wx hSw; (try dsimp only at hSw); (have t0 := (HX0.out.k hSw).cell 0; simp at t0); go_simp; (try with_reducible rfl))
  simp only [Act.put, List.setIfInBounds_toArray, List.set_cons_zero, List.set_cons_succ]
  refine anyH_take (i := 7) (d := 14) (L' := #[true, true, true, true, true, true, true, true, false, false]) (v := ?v21) rfl rfl (by kernel_rfl) (fun _ _ _ h => h) (by rfl) ?hy21 (by assumption) ?rest21
  case hy21 => (intro wx hSw; (try dsimp only at hSw); (have t0 := (HX0.out.k hSw).cell 0; simp at t0); go_simp; (try with_reducible rfl))
  simp only [Act.put, List.setIfInBounds_toArray, List.set_cons_zero, List.set_cons_succ]
  refine anyH_run (i := 8) (L' := #[true, true, true, true, true, true, true, true, true, false]) rfl (by kernel_rfl) (by rfl) (fun KK hKK => ?_)
  go_simp
  (skip)
  refine hKK.out _ _ (by assumption) (fun hHeld => ?_)
  clear hKK KK
  try simp only [Act.put, List.setIfInBounds_toArray, List.set_cons_zero, List.set_cons_succ]
  refine anyH_run (i := 9) (L' := #[true, true, true, true, true, true, true, true, true, true]) rfl (by kernel_rfl) (by rfl) (fun KK hKK => ?_)
  go_simp
  (skip)
  refine hKK.out _ _ (by assumption) (fun hHeld => ?_)
  clear hKK KK
  try simp only [Act.put, List.setIfInBounds_toArray, List.set_cons_zero, List.set_cons_succ]
  refine wpAnyH_done (by kernel_rfl) ?_ _
  skip
  have HC1 := hd (HC0.out.k hm)
  have HX1 := hd (HX0.out.k hm)
  have hW1 := HH.out.k HC1.out
  clear hm hm0 hHeld hfa HX0 HW0 HC0
  cases oa
  · have HW1 := hd hW1
    go_wp2_with fail
    rw [HP.out]
    exact ⟨rfl, HC1.out.mono (by simp), _, HW1.out⟩
  · rw [if_neg (by simp)] at HP
    have hb := hwJ w1 hW1.p.j xb (by have := HX1.out.cell 0; simpa using this)
    have c6 := hW1.blk.cell 6
    have f6 := hW1.blk.free 6
    simp [wC] at c6
    have HW1 := hd hW1
    have hwlt : Hd (∀ x ∈ S, x < w1.heap.size) := hd hW1.lt
    obtain ⟨aj, cj, rfl, -, -⟩ := Rd.form (by decide) hW1.p.j
    clear hW1 hwJ
    go_upto_region 5 with (go_at_call 57; refine hb.mono ?_; rintro e w2 ⟨ao, c, rfl, ho, hc2⟩; replace f6 := (hc2.frozenS c6).trans f6; replace c6 := hc2.cellS c6)
    have hJo : ∀ k, (Value.slice ao (stay (fun j : Jnt => j.id == id) js).length c).ownBlock = some k → k ∉ S := fun k hk hm => by have := (ho.lo k hk).1; have := hwlt.out k hm; omega
    have hs3 := Chg.setCell (Chg.refl [wb] w2) ⟨wb, 6, none⟩ (.slice ao (stay (fun j : Jnt => j.id == id) js).length c) (by simp)
    have HJ2 := hd (show JsS w2 _ _ from ho.rd)
    have HK3 := hd ((HW1.out.k hc2).blk.set 6 (.slice ao (stay (fun j : Jnt => j.id == id) js).length c))
    have HS3 := hd ((HC1.out.k hc2).mono (S' := [wb]) (by simp) |>.trans hs3 (fun x hx _ => hx))
    have HS23 := hd hs3
    have HJo := hd hJo
    clear hs3 hJo ho hc2 c6 f6 hb HW1
    generalize w2.setCell ⟨wb, 6, none⟩ (.slice ao (stay (fun j : Jnt => j.id == id) js).length c) = w3 at *
    go_wp2_with fail
    rw [HP.out]
    have hw3 := HH.out.p.chg HS3.out HH.out.a1
    have HA := hd (show Apart S bv (.slice ao (stay (fun j : Jnt => j.id == id) js).length c) kv L ⟨tk, nb, nj, (gx, gy), bs, stay (fun j => j.id == id) js, ks⟩ from ⟨HH.out.a.b, fun _ => HJo.out, HH.out.a.k, HH.out.a.s⟩)
    refine ⟨rfl, HS3.out, _, ?_, ⟨hw3.b, hw3.l, HJ2.out.chg HS23.out (HA.out.one HH.out.ws).j, hw3.c⟩, HA.out, HH.out.ws, fun x hx => Nat.lt_of_lt_of_le (HH.out.lt x hx) HS3.out.size⟩
    have := HK3.out
    simpa [wC] using this
end Go.Proofs.YtpadflhffiiglaaGreat

/- Orders of deeds: all numbers fit. -/
namespace Go.Proofs.YtpadflhffiiglaaGreat
open Go.RowKit

structure ID (d : Deed) : Prop where
  len : I64 d.len
  pos : IV d.raw.pos
  vel : IV d.raw.vel
  angle : I64 d.raw.angle
  spin : I64 d.raw.spin
  density : I64 d.raw.density
  skind : I64 d.raw.shape.kind
  sr : I64 d.raw.shape.r
  sp : ∀ x ∈ d.raw.shape.p, IV x
theorem bringF_I (x m : Int) (h0 : 0 ≤ m) (h1 : m ≤ 9223372036854775807) : I64 (bringF x (-m) m) := by
  unfold I64 bringF; omega
theorem bringV_I (v : V2) (m : Int) (h0 : 0 ≤ m) (h1 : m ≤ 9223372036854775807) : IV (bringV v m) := ⟨bringF_I _ m h0 h1, bringF_I _ m h0 h1⟩
theorem sizeSd_lo (x : Int) (h0 : 0 ≤ x) (h1 : x < 64) : 268435456 ≤ sizeSd x ∧ sizeSd x ≤ 17179869184 := by unfold sizeSd; omega
theorem shapeSd_I (s : Sd) : I64 (shapeSd s).kind ∧ I64 (shapeSd s).r ∧ ∀ x ∈ (shapeSd s).p, IV x := by
  have e1 := sizeSd_lo (s.size % 64) (by omega) (by omega)
  have e2 := sizeSd_lo (s.turn % 32) (by omega) (by omega)
  unfold shapeSd
  simp only
  generalize sizeSd (s.size % 64) = a at *
  generalize sizeSd (s.turn % 32) = b at *
  split
  · exact ⟨by unfold I64; simp, by unfold I64; simp only; omega, by simp⟩
  · split
    · refine ⟨by unfold I64; simp, by unfold I64; simp, ?_⟩
      intro x hx
      simp only [List.mem_cons, List.not_mem_nil, or_false] at hx
      rcases hx with rfl | rfl | rfl | rfl <;> (constructor <;> (unfold I64; simp only; omega))
    · refine ⟨by unfold I64; simp, by unfold I64; simp, ?_⟩
      intro x hx
      obtain ⟨i, _, rfl⟩ := List.mem_map.mp hx
      have h := cornSd_lo a (3 + (s.n % 256).toNat % 6) (s.turn % 256).toNat i e1
      have h1 := tdiv64_lo _ ⟨h.1, h.2.1⟩
      have h2 := tdiv64_lo _ ⟨h.2.2.1, h.2.2.2⟩
      unfold cornSd
      generalize ((ringAt (3 + (s.n % 256).toNat % 6) (s.turn % 256).toNat i).1 * a).tdiv 64 = u at *
      generalize ((ringAt (3 + (s.n % 256).toNat % 6) (s.turn % 256).toNat i).2 * a).tdiv 64 = v at *
      exact ⟨by unfold I64; simp only; omega, by unfold I64; simp only; omega⟩
end Go.Proofs.YtpadflhffiiglaaGreat
