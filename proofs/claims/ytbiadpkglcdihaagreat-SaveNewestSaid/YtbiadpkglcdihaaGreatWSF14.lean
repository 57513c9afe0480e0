/- Words and walks that SF rests on: SaveFn, PutJ, Put. -/
import Derived.Test.YtbiadpkglcdihaaGreatWSF11
import Derived.Test.YtbiadpkglcdihaaGreatWSF8
import Derived.Test.YtbiadpkglcdihaaGreatWSF9
import Derived.Test.YtbiadpkglcdihaaGreatWSF12
import Derived.Test.YtbiadpkglcdihaaGreatWSF2
import Derived.Shelf.Abstract
/- save.Put: its steps. -/
namespace Go.Proofs.YtbiadpkglcdihaaGreat
open Go.RowKit

variable {w w' : World} {fp : List Nat} {b : Nat} {d : Dsk}
theorem Check_any (w : World) (n : Nat) (hn : n ≤ 4611686018427387904) : Calls Tryz.prog 13 #[.int .i64 (n : Int)] w fun e w' => e = .returned (.string (strB (chkB n))) ∧ Chg [] w w' := by
  go_enter Tryz.func13, Tryz.ntmps13
  go_wp2_with fail
  refine (nname_any w 99 n hn).mono ?_
  rintro e w1 ⟨rfl, h1⟩
  go_wp2_with fail
  go_ret
  exact ⟨rfl, h1⟩
set_option maxHeartbeats 1000000 in
theorem Put1_any (h : Dk w fp b d) (p : Addr) (hp : w.cell? p = some (.pointer (some ⟨b, 0, none⟩))) (hops : d.ops < 1073741824) :
    Calls Tryz.prog 32 #[.pointer (some p)] w fun e w' => e = .returned (.int .i64 (removeE d tmpB)) ∧ DkOut w fp b (removeD d tmpB) w' := by
  have hc := Remove_any h tmpB (by decide) hops
  clear h
  go_enter Tryz.func32, Tryz.ntmps32
  go_wp2_with (go_at_call 33; refine hc.mono ?_; rintro e w1 ⟨rfl, h1⟩)
  go_ret
  exact ⟨rfl, h1⟩
set_option maxHeartbeats 1000000 in
theorem Put2_any (h : Dk w fp b d) (p : Addr) (hp : w.cell? p = some (.pointer (some ⟨b, 0, none⟩))) (hops : d.ops < 1073741824) :
    Calls Tryz.prog 34 #[.pointer (some p)] w fun e w' => e = .returned (.int .i64 (createE d tmpB)) ∧ DkOut w fp b (createD d tmpB) w' := by
  have hc := Create_any h tmpB (by decide) hops
  clear h
  go_enter Tryz.func34, Tryz.ntmps34
  go_wp2_with (go_at_call 21; refine hc.mono ?_; rintro e w1 ⟨rfl, h1⟩)
  go_ret
  exact ⟨rfl, h1⟩
set_option maxHeartbeats 1000000 in
theorem Put4_any (h : Dk w fp b d) (p : Addr) (hp : w.cell? p = some (.pointer (some ⟨b, 0, none⟩))) (hops : d.ops < 1073741824) :
    Calls Tryz.prog 36 #[.pointer (some p)] w fun e w' => e = .returned (.int .i64 (syncE d tmpB)) ∧ DkOut w fp b (syncD d tmpB) w' := by
  have hc := Sync_any h tmpB (by decide) hops
  clear h
  go_enter Tryz.func36, Tryz.ntmps36
  go_wp2_with (go_at_call 37; refine hc.mono ?_; rintro e w1 ⟨rfl, h1⟩)
  go_ret
  exact ⟨rfl, h1⟩
set_option maxRecDepth 100000 in
set_option maxHeartbeats 4000000 in
theorem Put3_any (h : Dk w fp b d) (p : Addr) (xb : Nat) (bv jv kv : Value) (L : List BV) (X : Wld) (hp : w.cell? p = some (.pointer (some ⟨b, 0, none⟩))) (hpf : p.block ∉ fp) (hk : Blk w xb (wC X bv jv kv) 32) (hkf : xb ∉ fp) (hx : WlP w bv jv kv L X) (_ha : Apart fp bv jv kv L X)
    (hf : FitW X) (hc0 : X.contacts = []) (hops : d.ops < 1073741824) (hroom : d.room ≤ 4294967296) :
    Calls Tryz.prog 35 #[.pointer (some p), .pointer (some ⟨xb, 0, none⟩)] w fun e w' => e = .returned (.int .i64 (appendE d tmpB (frameB X.tick (leW X)))) ∧ DkOut w fp b (appendD d tmpB (frameB X.tick (leW X))) w' := by
  have hlen := leW_small X hf hc0
  have hWd := fun W (hW : Chg [] w W) => World_any W (vW X bv jv kv) X ⟨_, _, _, _, rfl, hx.k hW⟩ (fun b hb => by have := rightS_len (hf.b b hb).sh; omega) (by omega)
  rw [show vW X bv jv kv = .agg (wC X bv jv kv) from rfl] at hWd
  have hfl := frameB_length X.tick (leW X)
  have H := hd h
  have Q0 := hd hp
  have HK := hd hk
  have HWD := hd hWd
  have HLEN := hd hlen
  clear h hp hk hx _ha hf hc0 hWd hlen
  obtain ⟨tk, htk⟩ : ∃ tk, tk = X.tick := ⟨_, rfl⟩
  have q0 : Hd (w.cell? ⟨xb, 0, none⟩ = some (.int .i64 tk)) := hd (by rw [htk]; exact HK.out.cell 0)
  rw [← htk] at hfl ⊢
  clear htk
  generalize leW X = LW at *
  obtain ⟨FB, hFB⟩ : ∃ FB, FB = frameB tk LW := ⟨_, rfl⟩
  have hFy := fun W v (hv : Bs W v LW) => FBytes_any tk v LW W hv (by have := HLEN.out; omega)
  rw [← hFB] at hfl hFy ⊢
  have HFL := hd hfl
  clear hFB hfl
  go_enter Tryz.func35, Tryz.ntmps35
  go_upto_region 1 with (fail)
  refine rg (N := 8) (by kernel_rfl) (by kernel_rfl) (S := (fun wx => Chg fp w wx)) ((Chg.refl _ _).drew) (fun hHeld => ?_)
  (have HS0 := hd (show Chg [] w w.drew from (Chg.refl [] w).drew)); generalize w.drew = wd at *
  refine tks [0, 1, 2, 3] (by kernel_rfl) (fun _ _ _ _ _ h => h) (by assumption) ?_
  iterate 3 (refine tkc rfl rfl (by rfl) (fun wx hSw => by (try dsimp only at hSw); (have t0 := hSw.cellT Q0.out hpf; have t1 := hSw.cellT q0.out hkf); go_simp; (try with_reducible rfl)) ?_; simp only [List.set])
  refine tkc rfl rfl (by rfl) (fun wx hSw => by (try dsimp only at hSw); (refine exec_load_row (x := .tmp 1) (t := 32) ?_ ?_ (HK.out.chg hSw hkf) Tryz.underlying32 rfl (by kernel_rfl) <;> rfl)) ?_; simp only [List.set]
  refine tk0 ?_
  refine rn 4 rfl (by kernel_rfl) (by rfl) fun KK hKK => ?_
  go_simp; (refine (HWD.out _ HS0.out).mono ?_; rintro e w2 ⟨a2, c2, rfl, ho2, h2⟩; have hm := Chg.k' hHeld h2; (try go_simp)); refine hKK.out _ _ (by assumption) fun hHeld => ?_; clear hKK KK; try simp only [Act.put, List.setIfInBounds_toArray, List.set]
  refine rn 5 rfl (by kernel_rfl) (by rfl) fun KK hKK => ?_
  go_simp; (refine (hFy _ _ ho2.bs).mono ?_; rintro e w3 ⟨a3, c3, rfl, ho3, h3⟩; have hm2 := Chg.k' hHeld h3; (try go_simp); have hA := Append_any (H.out.k ((HS0.out.k h2).k h3)) tmpB (by decide) hops _ FB ho3.bs (by rw [HFL.out]; have := HLEN.out; omega) (fun _ k hk hm => by have h1 := (ho3.lo k hk).1; have h4 := (H.out.k (HS0.out.k h2)).fpl k hm; omega) (.inr hroom)); refine hKK.out _ _ (by assumption) fun hHeld => ?_; clear hKK KK; try simp only [Act.put, List.setIfInBounds_toArray, List.set]
  refine rn 6 rfl (by kernel_rfl) (by rfl) fun KK hKK => ?_
  go_simp; (refine hA.mono ?_; rintro e w4 ⟨rfl, h4⟩; have H4 := hd (h4.after (((HS0.out.k h2).k h3).mono (by simp))); have hm3 : Chg fp w w4 := H4.out.chg; (try go_simp)); refine hKK.out _ _ (by assumption) fun hHeld => ?_; clear hKK KK; try simp only [Act.put, List.setIfInBounds_toArray, List.set]
  refine rn 7 rfl (by kernel_rfl) (by rfl) fun KK hKK => ?_
  go_simp; refine hKK.out _ _ (by assumption) fun hHeld => ?_; clear hKK KK; try simp only [Act.put, List.setIfInBounds_toArray, List.set]
  refine wpAnyH_done (by kernel_rfl) ?_ _
  skip
  go_wp2_with fail
  go_ret
  exact ⟨rfl, H4.out⟩
set_option maxRecDepth 100000 in
set_option maxHeartbeats 4000000 in
theorem Put5_any (h : Dk w fp b d) (p : Addr) (xb : Nat) (n : Nat) (hp : w.cell? p = some (.pointer (some ⟨b, 0, none⟩))) (hpf : p.block ∉ fp) (hk : w.cell? ⟨xb, 0, none⟩ = some (.int .i64 (n : Int))) (hkf : xb ∉ fp) (hn : n ≤ 4611686018427387904) (hops : d.ops < 1073741824) :
    Calls Tryz.prog 38 #[.pointer (some p), .pointer (some ⟨xb, 0, none⟩)] w fun e w' => e = .returned (.int .i64 (renameE d tmpB (chkB n))) ∧ DkOut w fp b (renameD d tmpB (chkB n)) w' := by
  have H := hd h
  have Q0 := hd hp
  have HK := hd hk
  clear h hp hk
  go_enter Tryz.func38, Tryz.ntmps38
  go_upto_region 1 with (fail)
  refine rg (N := 6) (by kernel_rfl) (by kernel_rfl) (S := (fun wx => Chg fp w wx)) ((Chg.refl _ _).drew) (fun hHeld => ?_)
  (have HS0 := hd (show Chg [] w w.drew from (Chg.refl [] w).drew)); generalize w.drew = wd at *
  refine tks [0, 1, 2] (by kernel_rfl) (fun _ _ _ _ _ h => h) (by assumption) ?_
  iterate 3 (refine tkc rfl rfl (by rfl) (fun wx hSw => by (try dsimp only at hSw); (have t0 := hSw.cellT Q0.out hpf; have t1 := hSw.cellT HK.out hkf); go_simp; (try with_reducible rfl)) ?_; simp only [List.set])
  refine tk0 ?_
  refine rn 3 rfl (by kernel_rfl) (by rfl) fun KK hKK => ?_
  go_simp; (refine (Check_any _ n hn).mono ?_; rintro e w2 ⟨rfl, h2⟩; have hm := Chg.k' hHeld h2; (try go_simp)); refine hKK.out _ _ (by assumption) fun hHeld => ?_; clear hKK KK; try simp only [Act.put, List.setIfInBounds_toArray, List.set]
  refine rn 4 rfl (by kernel_rfl) (by rfl) fun KK hKK => ?_
  go_simp; (refine (Rename_any (H.out.k (HS0.out.k h2)) tmpB (chkB n) (by decide) (by rw [chk_length]; decide) hops).mono ?_; rintro e w4 ⟨rfl, h4⟩; have H4 := hd (h4.after ((HS0.out.k h2).mono (by simp))); have hm3 : Chg fp w w4 := H4.out.chg; (try go_simp)); refine hKK.out _ _ (by assumption) fun hHeld => ?_; clear hKK KK; try simp only [Act.put, List.setIfInBounds_toArray, List.set]
  refine rn 5 rfl (by kernel_rfl) (by rfl) fun KK hKK => ?_
  go_simp; refine hKK.out _ _ (by assumption) fun hHeld => ?_; clear hKK KK; try simp only [Act.put, List.setIfInBounds_toArray, List.set]
  refine wpAnyH_done (by kernel_rfl) ?_ _
  skip
  go_wp2_with fail
  go_ret
  exact ⟨rfl, H4.out⟩
set_option maxHeartbeats 2000000 in
theorem Contains_any (w : World) (base : Nat) (v : Value) (l : List (List UInt8)) (s : List UInt8) (hv : StrL w base v l) (hl : l.length ≤ 100000000000) :
    Calls Tryz.prog 31 #[v, .string (strB s)] w fun e w' => e = .returned (.bool (decide (s ∈ l))) ∧ Chg [] w w' := by
  have hI : Calls Tryz.prog 69 #[v, .string (strB s)] w fun e w' => (∃ i : Int, e = .returned (.int .i64 i) ∧ (0 ≤ i ↔ s ∈ l)) ∧ Chg [] w w' := by
    have hr : Rd w 1 v l.length (l.map fun s => Value.string (strB s)) := Rd.ofOwn hv
    obtain ⟨ao, c, rfl⟩ := hv.form
    have HR := hd hr
    clear hv hr
    obtain ⟨P, hP⟩ : ∃ P : Ending → World → Prop, P = fun e w' => (∃ i : Int, e = .returned (.int .i64 i) ∧ (0 ≤ i ↔ s ∈ l)) ∧ Chg [] w w' := ⟨_, rfl⟩
    rw [← hP]
    have HP := hd hP
    clear hP
    go_enter Tryz.func69, Tryz.ntmps69
    go_wp2_with fail
    go_loopw [5, 8] (fun _ i wr => ∃ k : Nat, i = .int .i64 (k : Int) ∧ k ≤ l.length ∧ Hd (∀ o ∈ l.take k, s ≠ o) ∧ Chg [] w wr) (fun _ i _ => (l.length - (intOf i).toNat))
    case atStart => exact ⟨0, rfl, Nat.zero_le _, hd (by simp), Chg.refl _ _⟩
    case round =>
      obtain ⟨k, rfl, hk, hno, hc⟩ := hrel
      have HC := hd hc
      clear hc
      by_cases hlt : k < l.length
      · obtain ⟨bb, off, cap, he, -, hcl⟩ := HR.out.cells (by omega)
        simp only [Value.slice.injEq] at he
        obtain ⟨rfl, -, rfl⟩ := he
        have q := HC.out.cellS (hcl k (.string (strB l[k])) (by simp [hlt]))
        rw [Addr.add_mid] at q
        have HS := hd (List.take_succ_eq_append_getElem hlt)
        have hmem := List.getElem_mem hlt
        have HM := hd hmem
        clear hcl hmem
        generalize l[k] = o at *
        by_cases hso : s = o
        · have e1 : (s == o) = true := by rw [hso]; simp
          have HSO := hd hso
          clear hso
          go_wp2_with fail
          rw [HP.out]
          exact ⟨⟨k, rfl, by simp only [Int.natCast_nonneg, true_iff]; rw [HSO.out]; exact HM.out⟩, HC.out⟩
        · have e1 : (s == o) = false := by rw [beq_eq_false_iff_ne]; exact hso
          have HSO := hd hso
          clear hso
          go_wp2_with fail
          go_roundw
          case rel => exact ⟨k + 1, by go_num, by omega, hd (by rw [HS.out]; intro o' ho; rcases List.mem_append.1 ho with h | h; exact hno.out o' h; obtain rfl := List.mem_singleton.1 h; exact HSO.out), HC.out⟩
          case measure => simp [intOf]; omega
      · have hno2 := hno.out
        rw [List.take_of_length_le (by omega)] at hno2
        have HNO := hd hno2
        clear hno2
        go_wp2_with fail
        rw [HP.out]
        exact ⟨⟨-1, rfl, by simp only [show ¬ (0 : Int) ≤ -1 by decide, false_iff]; exact fun h => HNO.out s h rfl⟩, HC.out⟩
  obtain ⟨ao, c, rfl⟩ := hv.form
  clear hv
  go_enter Tryz.func31, Tryz.ntmps31
  go_wp2_with (go_at_call 69; refine hI.mono ?_; rintro e w1 ⟨⟨i, rfl, hi⟩, h1⟩)
  go_ret
  exact ⟨rfl, h1⟩
end Go.Proofs.YtbiadpkglcdihaaGreat

/- save.Put: its steps. -/
namespace Go.Proofs.YtbiadpkglcdihaaGreat
open Go.RowKit

theorem rowFn : RowT Tryz.prog 76 78 1 8 := RowT.mk (z := .nilFunc) (by kernel_rfl) (by kernel_rfl) rfl (by decide)
abbrev FnS := FuncId × Array Value × Array Value
def fnV (f : FnS) : Value := .func (.func f.1) f.2.1 f.2.2
/-- The steps of save.Put, as function values. -/
def putF (b db xb : Nat) : List FnS :=
  [(32, #[], #[.pointer (some ⟨db, 0, none⟩)]), (34, #[], #[.pointer (some ⟨db, 0, none⟩)]), (35, #[], #[.pointer (some ⟨db, 0, none⟩), .pointer (some ⟨xb, 0, none⟩)]),
   (36, #[], #[.pointer (some ⟨db, 0, none⟩)]), (38, #[], #[.pointer (some ⟨db, 0, none⟩), .pointer (some ⟨xb, 0, none⟩)]), (39, #[.pointer (some ⟨b, 0, none⟩)], #[])]
def StepOK (w5 : World) (fp : List Nat) (b : Nat) (room : Int) (f : FnS) (o : (Dsk → Int) × (Dsk → Dsk)) : Prop :=
  (∀ args w, (callFunc f.1 args).run Tryz.prog w = .ok (.enter f.1 args) w) ∧
  ∀ W d', DkOut w5 fp b d' W → d'.ops < 1073741824 → d'.room = room → Calls Tryz.prog f.1 (f.2.1 ++ f.2.2) W (fun e w' => e = .returned (.int .i64 (o.1 d')) ∧ DkOut w5 fp b (o.2 d') w')
theorem ops_step {n : Nat} {B : List UInt8} : ∀ o ∈ remS :: putS n B, ∀ d : Dsk, (o.2 d).ops = d.ops + 1 ∧ (o.2 d).room = d.room := by
  intro o ho d
  simp only [putS, remS, List.mem_cons, List.not_mem_nil, or_false] at ho
  rcases ho with rfl | rfl | rfl | rfl | rfl | rfl
  · simp only; unfold removeD; split <;> exact ⟨rfl, rfl⟩
  · simp only; unfold createD; split <;> exact ⟨rfl, rfl⟩
  · simp only; unfold appendD; split
    · exact ⟨rfl, rfl⟩
    · split <;> exact ⟨rfl, rfl⟩
  · simp only; unfold syncD; split
    · exact ⟨rfl, rfl⟩
    · split <;> exact ⟨rfl, rfl⟩
  · simp only; unfold renameD; split
    · exact ⟨rfl, rfl⟩
    · split
      · exact ⟨rfl, rfl⟩
      · split <;> exact ⟨rfl, rfl⟩
  · simp only; unfold dirSyncD; split <;> exact ⟨rfl, rfl⟩
theorem steps_all {w5 : World} {fp : List Nat} {b db xb : Nat} {room : Int} {bv jv kv : Value} {L : List BV} {X : Wld} (hdb : Blk w5 db #[.pointer (some ⟨b, 0, none⟩)] 34) (hxb : Blk w5 xb (wC X bv jv kv) 32) (hdf : db ∉ fp) (hxf : xb ∉ fp)
    (hx : WlP w5 bv jv kv L X) (ha : Apart fp bv jv kv L X) (hf : FitW X) (hc0 : X.contacts = []) (n : Nat) (hn : X.tick = (n : Int)) (hn2 : n ≤ 4611686018427387904) (hroom : room ≤ 4294967296) :
    ∀ k (_h : k < (putF b db xb).length) (h' : k < (remS :: putS n (frameB X.tick (leW X))).length), StepOK w5 fp b room (putF b db xb)[k] (remS :: putS n (frameB X.tick (leW X)))[k] := by
  have out : ∀ {fp' : List Nat} {x : Nat}, Gr fp w5 fp' → x ∉ fp → x < w5.heap.size → x ∉ fp' := fun hg h1 h2 h3 => by
    rcases hg _ h3 with h | h
    · exact h1 h
    · omega
  have cd : ∀ {W : World}, Chg fp w5 W → W.cell? ⟨db, 0, none⟩ = some (.pointer (some ⟨b, 0, none⟩)) := fun h => (hdb.chg h hdf).cell 0
  have hdl := hdb.lt
  have hxl := hxb.lt
  have hap : ∀ {fp' : List Nat}, Gr fp w5 fp' → Apart fp' bv jv kv L X := fun hg =>
    ⟨fun h0 k hk => out hg (ha.b h0 k hk) (Rd.lt hx.b.rd h0 (by decide) k hk), fun h0 k hk => out hg (ha.j h0 k hk) (Rd.lt hx.j h0 (by decide) k hk), fun h0 k hk => out hg (ha.k h0 k hk) (Rd.lt hx.c h0 (by decide) k hk),
     fun x hxm h0 k hk => out hg (ha.s x hxm h0 k hk) (Rd.lt (hx.b.ps x hxm) h0 (by decide) k hk)⟩
  intro k h h'
  have hk : k = 0 ∨ k = 1 ∨ k = 2 ∨ k = 3 ∨ k = 4 ∨ k = 5 := by simp [putF] at h; omega
  rcases hk with rfl | rfl | rfl | rfl | rfl | rfl
  · refine ⟨enters_of Tryz.func32 (by kernel_rfl) rfl, fun W d' ⟨fp', h1, h2, h3⟩ ho hr => ?_⟩
    exact (Put1_any h1 ⟨db, 0, none⟩ (cd h2) ho).mono fun e w' ⟨he, hk⟩ => ⟨he, hk.chain h2 h3⟩
  · refine ⟨enters_of Tryz.func34 (by kernel_rfl) rfl, fun W d' ⟨fp', h1, h2, h3⟩ ho hr => ?_⟩
    exact (Put2_any h1 ⟨db, 0, none⟩ (cd h2) ho).mono fun e w' ⟨he, hk⟩ => ⟨he, hk.chain h2 h3⟩
  · refine ⟨enters_of Tryz.func35 (by kernel_rfl) rfl, fun W d' ⟨fp', h1, h2, h3⟩ ho hr => ?_⟩
    exact (Put3_any h1 ⟨db, 0, none⟩ xb bv jv kv L X (cd h2) (out h3 hdf hdl) (hxb.chg h2 hxf) (out h3 hxf hxl) (hx.chg h2 ha) (hap h3) hf hc0 ho (by rw [hr]; exact hroom)).mono fun e w' ⟨he, hk⟩ => ⟨he, hk.chain h2 h3⟩
  · refine ⟨enters_of Tryz.func36 (by kernel_rfl) rfl, fun W d' ⟨fp', h1, h2, h3⟩ ho hr => ?_⟩
    exact (Put4_any h1 ⟨db, 0, none⟩ (cd h2) ho).mono fun e w' ⟨he, hk⟩ => ⟨he, hk.chain h2 h3⟩
  · refine ⟨enters_of Tryz.func38 (by kernel_rfl) rfl, fun W d' ⟨fp', h1, h2, h3⟩ ho hr => ?_⟩
    exact (Put5_any h1 ⟨db, 0, none⟩ xb n (cd h2) (out h3 hdf hdl) (by have := (hxb.chg h2 hxf).cell 0; rw [this, ← hn]; rfl) (out h3 hxf hxl) hn2 ho).mono fun e w' ⟨he, hk⟩ => ⟨he, hk.chain h2 h3⟩
  · refine ⟨enters_of Tryz.func39 (by kernel_rfl) rfl, fun W d' ⟨fp', h1, h2, h3⟩ ho hr => ?_⟩
    exact (DirSync_any h1 ho).mono fun e w' ⟨he, hk⟩ => ⟨he, hk.chain h2 h3⟩
theorem mem_sortN (es : Nm) (s : List UInt8) : s ∈ sortN es ↔ (nget es s).isSome = true := by
  unfold sortN
  rw [List.mem_mergeSort]
  constructor
  · intro h
    obtain ⟨p, hp, rfl⟩ := List.mem_map.1 h
    exact nget_mem_isSome' hp
  · intro h
    obtain ⟨i, hi⟩ := Option.isSome_iff_exists.1 h
    exact List.mem_map.2 ⟨_, nget_some_mem hi, rfl⟩
structure LoopF (w5 : World) (fp : List Nat) (b : Nat) (room : Int) (FS : List FnS) (OPS : List ((Dsk → Int) × (Dsk → Dsk))) (sb : Nat) : Prop where
  len : FS.length = OPS.length
  cell : ∀ k (h : k < FS.length), w5.cell? ⟨sb, k, none⟩ = some (fnV FS[k])
  step : ∀ k (h : k < FS.length) (h' : k < OPS.length), StepOK w5 fp b room FS[k] OPS[k]
  ops : ∀ o ∈ OPS, ∀ d : Dsk, (o.2 d).ops = d.ops + 1 ∧ (o.2 d).room = d.room
  sbf : sb ∉ fp
theorem fns_cell {w : World} {base g m c : Nat} {FS : List FnS} (h : w.ownsRow base 78 1 (.slice (some ⟨g, 0, none⟩) m c) m (FS.map fnV)) : ∀ k (hk : k < FS.length), w.cell? ⟨g, k, none⟩ = some (fnV FS[k]) := fun k hk => by
  have := World.ownsRow.cells h (g := g) rfl k (fnV FS[k]) (by simp [hk])
  rwa [Addr.add_mid, Nat.zero_add] at this
theorem seq_step {l : List ((Dsk → Int) × (Dsk → Dsk))} {k : Nat} (h : k < l.length) (d : Dsk) : seqD (l.drop k) d = if l[k].1 d ≠ 0 then (l[k].1 d, l[k].2 d) else seqD (l.drop (k + 1)) (l[k].2 d) := by
  rw [List.drop_eq_getElem_cons h]; rfl
end Go.Proofs.YtbiadpkglcdihaaGreat

/- save.Put. -/
namespace Go.Proofs.YtbiadpkglcdihaaGreat
open Go.RowKit

set_option maxRecDepth 100000 in
set_option maxHeartbeats 8000000 in
theorem Put_any {w : World} {fp : List Nat} {b : Nat} {d : Dsk} (h : Dk w fp b d) (bv jv kv : Value) (L : List BV) (X : Wld) (hx : WlP w bv jv kv L X) (ha : Apart fp bv jv kv L X) (hf : FitW X) (hc0 : X.contacts = []) (n : Nat) (hn : X.tick = (n : Int)) (hn2 : n ≤ 4611686018427387904)
    (hops : d.ops < 1073741000) (hroom : d.room ≤ 4294967296) :
    Calls Tryz.prog 12 #[.pointer (some ⟨b, 0, none⟩), vW X bv jv kv] w fun e w' => e = .returned (.int .i64 (putD d n (frameB X.tick (leW X))).1) ∧ DkOut w fp b (putD d n (frameB X.tick (leW X))).2 w' := by
  obtain ⟨FB, hFB⟩ : ∃ FB, FB = frameB X.tick (leW X) := ⟨_, rfl⟩
  obtain ⟨P, hP⟩ : ∃ P : Ending → World → Prop, P = fun e w' => e = .returned (.int .i64 (putD d n (frameB X.tick (leW X))).1) ∧ DkOut w fp b (putD d n (frameB X.tick (leW X))).2 w' := ⟨_, rfl⟩
  rw [← hP]
  rw [← hFB] at hP
  have HP := hd hP
  clear hP
  unfold putD at HP
  have hsteps := fun w5 db xb (h1 : Blk w5 db #[.pointer (some ⟨b, 0, none⟩)] 34) (h2 : Blk w5 xb (wC X bv jv kv) 32) (h3 : db ∉ fp) (h4 : xb ∉ fp) (h5 : WlP w5 bv jv kv L X) => steps_all (room := d.room) h1 h2 h3 h4 h5 ha hf hc0 n hn hn2 hroom
  rw [← hFB] at hsteps
  have HST := hd hsteps
  have HAB0 := hd ha
  clear hFB hsteps hf hc0 hn ha
  rw [show vW X bv jv kv = .agg (wC X bv jv kv) from rfl]
  have hfl := h.fpl
  have hnl : d.names.length ≤ 1073741824 := by
    obtain ⟨_, _, _, _, _, hh⟩ := h
    have := hh.good.nnames
    have := hh.good.ops
    omega
  have hbf : b ∈ fp := by obtain ⟨_, _, _, _, _, hh⟩ := h; exact hh.fpb
  have hcA := ((Chg.refl [] w).alloc (.cells #[.pointer (some ⟨b, 0, none⟩)] 34)).alloc (.cells (wC X bv jv kv) 32)
  have hk1 := (Blk.new w #[.pointer (some ⟨b, 0, none⟩)] 34).alloc (.cells (wC X bv jv kv) 32)
  have hk2 := Blk.new (w.alloc (.cells #[.pointer (some ⟨b, 0, none⟩)] 34)) (wC X bv jv kv) 32
  rw [World.size_alloc] at hk2
  go_enter Tryz.func12, Tryz.ntmps12
  go_upto_region 1 with (fail)
  generalize (w.alloc (.cells #[.pointer (some ⟨b, 0, none⟩)] 34)).alloc (.cells (wC X bv jv kv) 32) = w0 at *
  obtain ⟨db, hdb⟩ : ∃ db, db = w.heap.size := ⟨_, rfl⟩
  obtain ⟨xb, hxb⟩ : ∃ xb, xb = w.heap.size + 1 := ⟨_, rfl⟩
  rw [← hxb] at hk2 ⊢
  rw [← hdb] at hk1 ⊢
  have HDX : Hd (db = w.heap.size ∧ xb = w.heap.size + 1) := hd ⟨hdb, hxb⟩
  have HFL := hd hfl
  have hdf : db ∉ fp := fun hm => by have := hfl _ hm; omega
  have hxf : xb ∉ fp := fun hm => by have := hfl _ hm; omega
  have HDF := hd hdf
  have HXF := hd hxf
  have HBF := hd hbf
  have HAB := hd (HAB0.out.one hbf)
  have hblt := hfl _ hbf
  have HNB : Hd (db ∉ [b] ∧ xb ∉ [b]) := hd ⟨by simp; omega, by simp; omega⟩
  have hlist := List_any (h.k hcA) (by omega)
  have HC0 := hd hcA
  have HK1 := hd hk1
  have HK2 := hd hk2
  have HX := hd hx
  have q0 := hk1.cell 0
  simp at q0
  clear hdb hxb hfl hdf hxf hbf hblt hcA hk1 hk2 hx h
  go_upto_region 2 with (go_at_call 23; refine hlist.mono ?_; rintro e w1 ⟨hD1, hc1, hout⟩; rcases hout with ⟨hne, rfl⟩ | ⟨hz, ao, c, rfl, hsl⟩)
  · have hne' : (opE d == 0) = false := by rw [beq_eq_false_iff_ne]; exact hne
    rw [if_pos hne] at HP
    have HD1 := hd hD1
    have HC1 := hd hc1
    clear hne hD1 hc1
    generalize opE d = oe at *
    go_wp2_with fail
    rw [HP.out]
    exact ⟨rfl, DkOut.same HD1.out ((HC0.out.mono (S' := fp) (by simp)).trans HC1.out (fun x hx _ => by simp at hx; subst hx; exact HBF.out))⟩
  · rw [if_neg (by simpa using hz)] at HP
    have HD1 := hd hD1
    have HC1 := hd hc1
    have HKd := hd (HK1.out.chg hc1 HNB.out.1)
    have HKx := hd (HK2.out.chg hc1 HNB.out.2)
    have hcon := Contains_any w1 _ _ (sortN d.names) tmpB hsl (by unfold sortN; rw [List.length_mergeSort, List.length_map]; omega)
    have HX1 := hd (show Chg fp w w1 from (HC0.out.mono (S' := fp) (by simp)).trans hc1 (fun x hx _ => by simp at hx; subst hx; exact HBF.out))
    by_cases ht : (nget d.names tmpB).isSome = true
    · rw [if_pos ht] at HP
      rw [decide_eq_true ((mem_sortN _ _).2 ht)] at hcon
      clear ht hD1 hc1 hsl hlist hz
      go_upto_region 6 with (go_at_call 31; refine hcon.mono ?_; rintro e w2 ⟨rfl, h2⟩)
      have hU1 := Rd.lit w2 1 1 [.func (.func 32) #[] #[.pointer (some ⟨db, 0, none⟩)]] _ 78 rfl rfl (by decide)
      have q2 := (HKd.out.k h2).cell 0
      simp at q2
      have Q2 := hd q2
      go_upto_region 7 with (at_builtin; refine wpApp rowFn rfl _ _ rfl w2.heap.size (.slice none 0 0) 0 [] rfl (World.ownsRow_nil _ _ _ _) _ 1 [.func (.func 32) #[] #[.pointer (some ⟨db, 0, none⟩)]] rfl hU1 (by intro u hu; simp at hu; subst hu; rfl) (by decide) (by decide) (by simp) ?_; intro ao1 c1 w3 k1 k2 k3 _)
      have hA3 := ((Chg.refl [] w2).alloc (.cells [.func (.func 32) #[] #[.pointer (some ⟨db, 0, none⟩)]].toArray 78)).grown k2 (by simp [Value.ownBlock])
      simp only [Nat.zero_add, List.nil_append] at k1 ⊢
      have q3 := hA3.cellS Q2.out
      have hU5 := Rd.lit w3 1 5 [.func (.func 34) #[] #[.pointer (some ⟨db, 0, none⟩)], .func (.func 35) #[] #[.pointer (some ⟨db, 0, none⟩), .pointer (some ⟨xb, 0, none⟩)], .func (.func 36) #[] #[.pointer (some ⟨db, 0, none⟩)], .func (.func 38) #[] #[.pointer (some ⟨db, 0, none⟩), .pointer (some ⟨xb, 0, none⟩)], .func (.func 39) #[.pointer (some ⟨b, 0, none⟩)] #[]] _ 78 rfl rfl (by decide)
      have K1 := hd (ownsRow_k k1 ((Chg.refl [] w3).alloc (.cells [.func (.func 34) #[] #[.pointer (some ⟨db, 0, none⟩)], .func (.func 35) #[] #[.pointer (some ⟨db, 0, none⟩), .pointer (some ⟨xb, 0, none⟩)], .func (.func 36) #[] #[.pointer (some ⟨db, 0, none⟩)], .func (.func 38) #[] #[.pointer (some ⟨db, 0, none⟩), .pointer (some ⟨xb, 0, none⟩)], .func (.func 39) #[.pointer (some ⟨b, 0, none⟩)] #[]].toArray 78)))
      clear k1 k2 k3 q2
      go_upto_region 8 with (at_builtin; refine wpApp rowFn rfl _ _ rfl w2.heap.size _ 1 [.func (.func 32) #[] #[.pointer (some ⟨db, 0, none⟩)]] rfl K1.out _ 5 [.func (.func 34) #[] #[.pointer (some ⟨db, 0, none⟩)], .func (.func 35) #[] #[.pointer (some ⟨db, 0, none⟩), .pointer (some ⟨xb, 0, none⟩)], .func (.func 36) #[] #[.pointer (some ⟨db, 0, none⟩)], .func (.func 38) #[] #[.pointer (some ⟨db, 0, none⟩), .pointer (some ⟨xb, 0, none⟩)], .func (.func 39) #[.pointer (some ⟨b, 0, none⟩)] #[]] rfl hU5 (by intro u hu; simp at hu; rcases hu with rfl | rfl | rfl | rfl | rfl <;> rfl) (by decide) (by decide) (by have := hA3.size; simp; omega) ?_; intro ao2 c2 w5 m1 m2 m3 _)
      have hrow := m1
      have HC5 := hd (show Chg [] w1 w5 from h2.k ((hA3.alloc (.cells [.func (.func 34) #[] #[.pointer (some ⟨db, 0, none⟩)], .func (.func 35) #[] #[.pointer (some ⟨db, 0, none⟩), .pointer (some ⟨xb, 0, none⟩)], .func (.func 36) #[] #[.pointer (some ⟨db, 0, none⟩)], .func (.func 38) #[] #[.pointer (some ⟨db, 0, none⟩), .pointer (some ⟨xb, 0, none⟩)], .func (.func 39) #[.pointer (some ⟨b, 0, none⟩)] #[]].toArray 78)).ownGrow K1.out m2 (Nat.le_refl _)))
      clear m1 m2 m3
      have hFSm : [.func (.func 32) #[] #[.pointer (some ⟨db, 0, none⟩)]] ++ [.func (.func 34) #[] #[.pointer (some ⟨db, 0, none⟩)], .func (.func 35) #[] #[.pointer (some ⟨db, 0, none⟩), .pointer (some ⟨xb, 0, none⟩)], .func (.func 36) #[] #[.pointer (some ⟨db, 0, none⟩)], .func (.func 38) #[] #[.pointer (some ⟨db, 0, none⟩), .pointer (some ⟨xb, 0, none⟩)], .func (.func 39) #[.pointer (some ⟨b, 0, none⟩)] #[]] = (putF b db xb).map fnV := rfl
      rw [hFSm] at hrow
      obtain ⟨g5, hg5, hg5b⟩ : ∃ g, ao2 = some ⟨g, 0, none⟩ ∧ w2.heap.size ≤ g := by
        rcases hrow.2 with ⟨he, h0⟩ | ⟨g, cap, cur, he, hb, _⟩
        · simp at h0
        · simp only [Value.slice.injEq] at he
          exact ⟨g, he.1, hb⟩
      subst hg5
      have HX5 := hd (HX1.out.k' HC5.out)
      have hD5 : DkOut w5 fp b (opD d) w5 := DkOut.same (HD1.out.k HC5.out) (Chg.refl _ _)
      have hlp : LoopF w5 fp b d.room (putF b db xb) (remS :: putS n FB) g5 := ⟨rfl, fns_cell hrow, fun k hk hk' => HST.out w5 db xb ((HKd.out.k HC5.out)) (HKx.out.k HC5.out) HDF.out HXF.out ((HX.out.k HC0.out).chg ((HC1.out.mono (S' := [b]) (fun x hx _ => hx)).k' HC5.out) HAB.out) k hk hk', fun o ho => ops_step o ho, fun hm => by have := HFL.out _ hm; have := HC0.out.size; have := HC1.out.size; have := h2.size; omega⟩
      have hFSl : (putF b db xb).length = 6 := rfl
      clear hrow hFSm
      clear HST
      generalize putF b db xb = FS at *
      generalize remS :: putS n FB = OPS at *
      have HLp := hd hlp
      have hops0 : Hd ((opD d).ops = d.ops + 1 ∧ (opD d).room = d.room) := hd ⟨rfl, rfl⟩
      have HD5' := hd hD5
      have hsz : FS.length ≤ 6 := by rw [hFSl]; decide
      clear hlp hD5
      go_wp2_with fail
      go_loopw [9, 10, 36] (fun _ _ i wr => ∃ (k : Nat) (d' : Dsk), k ≤ FS.length ∧ i = .int .i64 k ∧ Hd (DkOut w5 fp b d' wr ∧ seqD OPS (opD d) = seqD (OPS.drop k) d' ∧ d'.ops = d.ops + 1 + k ∧ d'.room = d.room)) (fun _ _ i _ => FS.length - (intOf i).toNat)
      case atStart => exact ⟨0, opD d, by omega, rfl, hd ⟨HD5'.out, rfl, by have := hops0.out.1; omega, hops0.out.2⟩⟩
      case round =>
        obtain ⟨k, d', hk, rfl, hinv⟩ := hrel
        by_cases hlt : k < FS.length
        · have hlo : k < OPS.length := by have := HLp.out.len; omega
          have hl6 : k < 6 := by omega
          obtain ⟨heg, hst⟩ := HLp.out.step k hlt hlo
          have hcon := hst wr d' hinv.out.1 (by have := hinv.out.2.2.1; omega) hinv.out.2.2.2
          have q := (hinv.out.1.chg).cellT (HLp.out.cell k hlt) HLp.out.sbf
          have hsq := seq_step hlo d'
          have hop := HLp.out.ops _ (List.getElem_mem hlo) d'
          unfold fnV at q
          generalize FS[k] = F at *
          obtain ⟨g, ba, lb⟩ := F
          simp only at q hcon heg
          generalize OPS[k] = O at *
          obtain ⟨E, hE⟩ : ∃ E, E = O.1 d' := ⟨_, rfl⟩
          rw [← hE] at hcon hsq
          have HSQ := hd hsq
          have HOP := hd hop
          clear hst hsq hop hE
          by_cases hz : E = 0
          · subst hz
            go_wp2_with (go_at_fn g; refine hcon.mono ?_; rintro e w6 ⟨rfl, h6⟩)
            go_roundw
            case rel => exact ⟨k + 1, O.2 d', by omega, by go_num, hd ⟨h6, by rw [hinv.out.2.1, HSQ.out, if_neg (by simp)], by have := hinv.out.2.2.1; have := HOP.out.1; omega, by rw [HOP.out.2]; exact hinv.out.2.2.2⟩⟩
            case measure => simp [intOf]; omega
          · have hz' : (E == 0) = false := by rw [beq_eq_false_iff_ne]; exact hz
            have HZ := hd hz
            clear hz
            go_wp2_with (go_at_fn g; refine hcon.mono ?_; rintro e w6 ⟨rfl, h6⟩)
            rw [HP.out, hinv.out.2.1, HSQ.out, if_pos HZ.out]
            exact ⟨rfl, h6.after HX5.out⟩
        · have hl6 : ¬ k < 6 := by omega
          have hdr : OPS.drop k = [] := List.drop_eq_nil_of_le (by have := HLp.out.len; omega)
          have HDR := hd hdr
          clear hdr
          go_wp2_with fail
          rw [HP.out, hinv.out.2.1, HDR.out]
          exact ⟨rfl, hinv.out.1.after HX5.out⟩
    · rw [if_neg ht] at HP
      rw [decide_eq_false (fun hm => ht ((mem_sortN _ _).1 hm))] at hcon
      clear ht hD1 hc1 hsl hlist hz
      go_upto_region 7 with (go_at_call 31; refine hcon.mono ?_; rintro e w2 ⟨rfl, h2⟩)
      have q2 := (HKd.out.k h2).cell 0
      simp at q2
      have hU5 := Rd.lit w2 1 5 [.func (.func 34) #[] #[.pointer (some ⟨db, 0, none⟩)], .func (.func 35) #[] #[.pointer (some ⟨db, 0, none⟩), .pointer (some ⟨xb, 0, none⟩)], .func (.func 36) #[] #[.pointer (some ⟨db, 0, none⟩)], .func (.func 38) #[] #[.pointer (some ⟨db, 0, none⟩), .pointer (some ⟨xb, 0, none⟩)], .func (.func 39) #[.pointer (some ⟨b, 0, none⟩)] #[]] _ 78 rfl rfl (by decide)
      go_upto_region 8 with (at_builtin; refine wpApp rowFn rfl _ _ rfl w2.heap.size (.slice none 0 0) 0 [] rfl (World.ownsRow_nil _ _ _ _) _ 5 [.func (.func 34) #[] #[.pointer (some ⟨db, 0, none⟩)], .func (.func 35) #[] #[.pointer (some ⟨db, 0, none⟩), .pointer (some ⟨xb, 0, none⟩)], .func (.func 36) #[] #[.pointer (some ⟨db, 0, none⟩)], .func (.func 38) #[] #[.pointer (some ⟨db, 0, none⟩), .pointer (some ⟨xb, 0, none⟩)], .func (.func 39) #[.pointer (some ⟨b, 0, none⟩)] #[]] rfl hU5 (by intro u hu; simp at hu; rcases hu with rfl | rfl | rfl | rfl | rfl <;> rfl) (by decide) (by decide) (by simp) ?_; intro ao2 c2 w5 m1 m2 m3 _)
      simp only [Nat.zero_add] at m1 ⊢
      have hrow := m1
      have HC5 := hd (show Chg [] w1 w5 from h2.k (((Chg.refl [] w2).alloc (.cells [.func (.func 34) #[] #[.pointer (some ⟨db, 0, none⟩)], .func (.func 35) #[] #[.pointer (some ⟨db, 0, none⟩), .pointer (some ⟨xb, 0, none⟩)], .func (.func 36) #[] #[.pointer (some ⟨db, 0, none⟩)], .func (.func 38) #[] #[.pointer (some ⟨db, 0, none⟩), .pointer (some ⟨xb, 0, none⟩)], .func (.func 39) #[.pointer (some ⟨b, 0, none⟩)] #[]].toArray 78)).grown m2 (by simp [Value.ownBlock])))
      clear m1 m2 m3
      have hFSm : [] ++ [.func (.func 34) #[] #[.pointer (some ⟨db, 0, none⟩)], .func (.func 35) #[] #[.pointer (some ⟨db, 0, none⟩), .pointer (some ⟨xb, 0, none⟩)], .func (.func 36) #[] #[.pointer (some ⟨db, 0, none⟩)], .func (.func 38) #[] #[.pointer (some ⟨db, 0, none⟩), .pointer (some ⟨xb, 0, none⟩)], .func (.func 39) #[.pointer (some ⟨b, 0, none⟩)] #[]] = ((putF b db xb).tail).map fnV := rfl
      rw [hFSm] at hrow
      obtain ⟨g5, hg5, hg5b⟩ : ∃ g, ao2 = some ⟨g, 0, none⟩ ∧ w2.heap.size ≤ g := by
        rcases hrow.2 with ⟨he, h0⟩ | ⟨g, cap, cur, he, hb, _⟩
        · simp at h0
        · simp only [Value.slice.injEq] at he
          exact ⟨g, he.1, hb⟩
      subst hg5
      have HX5 := hd (HX1.out.k' HC5.out)
      have hD5 : DkOut w5 fp b (opD d) w5 := DkOut.same (HD1.out.k HC5.out) (Chg.refl _ _)
      have hlp : LoopF w5 fp b d.room ((putF b db xb).tail) (putS n FB) g5 := ⟨rfl, fns_cell hrow, fun k hk hk' => by have h9 := HST.out w5 db xb ((HKd.out.k HC5.out)) (HKx.out.k HC5.out) HDF.out HXF.out ((HX.out.k HC0.out).chg ((HC1.out.mono (S' := [b]) (fun x hx _ => hx)).k' HC5.out) HAB.out) (k + 1) (by simp at hk ⊢; omega) (by simp at hk' ⊢; omega); exact h9, fun o ho => ops_step o (List.mem_cons_of_mem _ ho), fun hm => by have := HFL.out _ hm; have := HC0.out.size; have := HC1.out.size; have := h2.size; omega⟩
      have hFSl : ((putF b db xb).tail).length = 5 := rfl
      clear hrow hFSm
      clear HST
      generalize (putF b db xb).tail = FS at *
      generalize putS n FB = OPS at *
      have HLp := hd hlp
      have hops0 : Hd ((opD d).ops = d.ops + 1 ∧ (opD d).room = d.room) := hd ⟨rfl, rfl⟩
      have HD5' := hd hD5
      have hsz : FS.length ≤ 6 := by rw [hFSl]; decide
      clear hlp hD5
      go_wp2_with fail
      go_loopw [9, 10, 36] (fun _ _ i wr => ∃ (k : Nat) (d' : Dsk), k ≤ FS.length ∧ i = .int .i64 k ∧ Hd (DkOut w5 fp b d' wr ∧ seqD OPS (opD d) = seqD (OPS.drop k) d' ∧ d'.ops = d.ops + 1 + k ∧ d'.room = d.room)) (fun _ _ i _ => FS.length - (intOf i).toNat)
      case atStart => exact ⟨0, opD d, by omega, rfl, hd ⟨HD5'.out, rfl, by have := hops0.out.1; omega, hops0.out.2⟩⟩
      case round =>
        obtain ⟨k, d', hk, rfl, hinv⟩ := hrel
        by_cases hlt : k < FS.length
        · have hlo : k < OPS.length := by have := HLp.out.len; omega
          have hl6 : k < 5 := by omega
          obtain ⟨heg, hst⟩ := HLp.out.step k hlt hlo
          have hcon := hst wr d' hinv.out.1 (by have := hinv.out.2.2.1; omega) hinv.out.2.2.2
          have q := (hinv.out.1.chg).cellT (HLp.out.cell k hlt) HLp.out.sbf
          have hsq := seq_step hlo d'
          have hop := HLp.out.ops _ (List.getElem_mem hlo) d'
          unfold fnV at q
          generalize FS[k] = F at *
          obtain ⟨g, ba, lb⟩ := F
          simp only at q hcon heg
          generalize OPS[k] = O at *
          obtain ⟨E, hE⟩ : ∃ E, E = O.1 d' := ⟨_, rfl⟩
          rw [← hE] at hcon hsq
          have HSQ := hd hsq
          have HOP := hd hop
          clear hst hsq hop hE
          by_cases hz : E = 0
          · subst hz
            go_wp2_with (go_at_fn g; refine hcon.mono ?_; rintro e w6 ⟨rfl, h6⟩)
            go_roundw
            case rel => exact ⟨k + 1, O.2 d', by omega, by go_num, hd ⟨h6, by rw [hinv.out.2.1, HSQ.out, if_neg (by simp)], by have := hinv.out.2.2.1; have := HOP.out.1; omega, by rw [HOP.out.2]; exact hinv.out.2.2.2⟩⟩
            case measure => simp [intOf]; omega
          · have hz' : (E == 0) = false := by rw [beq_eq_false_iff_ne]; exact hz
            have HZ := hd hz
            clear hz
            go_wp2_with (go_at_fn g; refine hcon.mono ?_; rintro e w6 ⟨rfl, h6⟩)
            rw [HP.out, hinv.out.2.1, HSQ.out, if_pos HZ.out]
            exact ⟨rfl, h6.after HX5.out⟩
        · have hl6 : ¬ k < 5 := by omega
          have hdr : OPS.drop k = [] := List.drop_eq_nil_of_le (by have := HLp.out.len; omega)
          have HDR := hd hdr
          clear hdr
          go_wp2_with fail
          rw [HP.out, hinv.out.2.1, HDR.out]
          exact ⟨rfl, hinv.out.1.after HX5.out⟩
end Go.Proofs.YtbiadpkglcdihaaGreat
