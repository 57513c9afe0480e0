/- Words and walks that Codec rests on: Rights. -/
import Derived.Test.YtlicefbgcoddbaaWCodec43
/- law15.rights: those orders that may be. -/
namespace Go.Proofs.Ytlicefbgcoddbaa
open Go.RowKit

set_option maxRecDepth 100000 in
set_option maxHeartbeats 8000000 in
theorem Rights_any (w : World) (v : Value) (l : List DV) (hl : DsS w v l) (hI : ∀ x ∈ l, ID x.1) :
    Calls Try.prog 13 #[v] w fun e w' => ∃ u L, e = .returned u ∧ OsS w' u L ∧ Chg [] w w' ∧ L.map (·.1) = ((l.take 20).map (fun x => orderD x.1)).filter rightO := by
  obtain ⟨av, cv, rfl, -, -⟩ := Rd.form (by decide) hl.rd
  have hcon := Orders_any w _ l 20 hl (by decide)
  have HIO : Hd (∀ o ∈ (l.take 20).map (fun x => orderD x.1), IO o) := hd fun o ho => by
    obtain ⟨x, hx, rfl⟩ := List.mem_map.mp ho
    exact orderD_I _ (hI x (List.mem_of_mem_take hx))
  obtain ⟨R, hR⟩ : ∃ R, R = (l.take 20).map (fun x => orderD x.1) := ⟨_, rfl⟩
  rw [← hR] at hcon HIO ⊢
  have hRl : R.length ≤ 20 := by rw [hR, List.length_map, List.length_take]; omega
  clear hR
  obtain ⟨P, hP⟩ : ∃ P : Ending → World → Prop, P = fun e w' => ∃ u L, e = .returned u ∧ OsS w' u L ∧ Chg [] w w' ∧ L.map (·.1) = R.filter rightO := ⟨_, rfl⟩
  rw [← hP]
  have HP := hd hP
  clear hP hl hI
  go_enter Try.func13, Try.ntmps13
  go_wp2_with (go_at_call 35; refine hcon.mono ?_; rintro e w1 ⟨u, L, rfl, hO, hLR⟩; have hos := hO.s; have HC1 := hd hO.c; clear hO; obtain ⟨au, cu, rfl, hau⟩ := hos.form)
  have HOS := hd hos
  have HAU := hd hau
  subst hLR
  have hll : L.length ≤ 20 := by simpa using hRl
  clear hcon hos hau hRl
  go_wp2_with (fail)
  go_loopw [3, 5, 9] (fun u _ i wr => ∃ (j : Nat) (v : Value) (A : List OV), v = u ∧ j ≤ L.length ∧ A.length ≤ j ∧ i = .int .i64 j ∧ Ods w1 w1.heap.size v A wr ∧ A.map (·.1) = ((L.take j).map (·.1)).filter rightO)
    (fun _ _ i _ => L.length - (intOf i).toNat)
  case atStart => exact ⟨0, _, [], rfl, by omega, by simp, rfl, Ods.nil _ _, by simp⟩
  case round =>
    obtain ⟨j, v, A, rfl, hj, hAj, rfl, hO, hmap⟩ := hrel
    obtain ⟨ao, c, rfl⟩ : ∃ ao c, v = .slice ao A.length c := by
      rcases hO.o.2 with ⟨rfl, hz⟩ | ⟨g, cap, cur, rfl, _⟩
      · exact ⟨none, 0, by rw [hz]⟩
      · exact ⟨_, cap, rfl⟩
    by_cases hlt : j < L.length
    · obtain ⟨gb, off, hao, hgb⟩ := HAU.out (by omega)
      subst hao
      have C := fun m hm => (hO.c.cell (p := ⟨gb, off + j * 15 + m, none⟩) hgb (by simp)).trans (HOS.out.at j hlt m hm)
      have q0 := C 0 (by decide)
      have q1 := C 1 (by decide)
      have q2 := C 2 (by decide)
      have q3 := C 3 (by decide)
      have q4 := C 4 (by decide)
      have q5 := C 5 (by decide)
      have q6 := C 6 (by decide)
      have q7 := C 7 (by decide)
      have q8 := C 8 (by decide)
      have q9 := C 9 (by decide)
      have q10 := C 10 (by decide)
      have q11 := C 11 (by decide)
      have q12 := C 12 (by decide)
      have q13 := C 13 (by decide)
      have q14 := C 14 (by decide)
      have hps := HOS.out.ps _ (List.getElem_mem hlt)
      have hio := HIO.out _ (List.mem_map_of_mem (List.getElem_mem hlt))
      have hsn : ((L.take (j + 1)).map (·.1)).filter rightO = A.map (·.1) ++ (if rightO L[j].1 = true then [L[j].1] else []) := by
        rw [List.take_succ_eq_append_getElem hlt, List.map_append, List.filter_append, hmap]
        congr 1
        simp only [List.map_cons, List.map_nil, List.filter_cons, List.filter_nil]
      clear C hmap
      have HSN := hd hsn
      have HO := hd hO
      clear hO hsn
      generalize L[j] = x at *
      obtain ⟨⟨k, i, a, b1, ⟨px, py⟩, ⟨vx, vy⟩, an, sp, de, ln, ⟨sk, sr, p⟩⟩, pv⟩ := x
      rw [Nat.add_zero] at q0
      simp only [cOV, cO, List.getElem_cons_zero, List.getElem_cons_succ] at q0 q1 q2 q3 q4 q5 q6 q7 q8 q9 q10 q11 q12 q13 q14
      simp only at hps hio HSN
      obtain ⟨ap, cp, rfl, -⟩ := hps.form
      have hB := HO.out.k ((Chg.refl [] wr).alloc (.cells #[.int .i64 k, .int .i64 i, .int .i64 a, .int .i64 b1, .int .i64 px, .int .i64 py, .int .i64 vx, .int .i64 vy, .int .i64 an, .int .i64 sp, .int .i64 de, .int .i64 ln, .int .i64 sk, .int .i64 sr, .slice ap p.length cp] 35))
      have hcon := ORight_any _ ⟨k, i, a, b1, (px, py), (vx, vy), an, sp, de, ln, ⟨sk, sr, p⟩⟩ (.slice ap p.length cp) (hps.k hB.c) hio
      have hkb := Blk.new wr #[.int .i64 k, .int .i64 i, .int .i64 a, .int .i64 b1, .int .i64 px, .int .i64 py, .int .i64 vx, .int .i64 vy, .int .i64 an, .int .i64 sp, .int .i64 de, .int .i64 ln, .int .i64 sk, .int .i64 sr, .slice ap p.length cp] 35
      have HPS := hd hps
      have HB := hd hB
      clear hio hps hB
      generalize hrt : rightO ⟨k, i, a, b1, (px, py), (vx, vy), an, sp, de, ln, ⟨sk, sr, p⟩⟩ = rt at *
      have HRT := hd hrt
      clear hrt
      unfold vO at hcon
      simp only at hcon
      have HKB := hd hkb
      clear hkb
      cases rt with
      | false =>
        go_wp2_with (go_at_call 8; refine hcon.mono ?_; rintro e w9 ⟨rfl, h9⟩)
        go_roundw
        case rel => exact ⟨j + 1, _, A, rfl, by omega, by omega, by go_num, HB.out.k h9, by rw [HSN.out]; simp⟩
        case measure => simp [intOf]; omega
      | true =>
        go_wp2_with (first
          | (go_at_call 8; refine hcon.mono ?_; rintro e w9 ⟨rfl, h9⟩; have k4 := HKB.out.k h9; have hB9 := (HB.out.k h9).k ((Chg.refl [] w9).alloc (.cells #[.int .i64 k, .int .i64 i, .int .i64 a, .int .i64 b1, .int .i64 px, .int .i64 py, .int .i64 vx, .int .i64 vy, .int .i64 an, .int .i64 sp, .int .i64 de, .int .i64 ln, .int .i64 sk, .int .i64 sr, .slice ap p.length cp] 35)); have hLit := Rd.lit w9 15 1 (cOV (⟨k, i, a, b1, (px, py), (vx, vy), an, sp, de, ln, ⟨sk, sr, p⟩⟩, .slice ap p.length cp)) #[.int .i64 k, .int .i64 i, .int .i64 a, .int .i64 b1, .int .i64 px, .int .i64 py, .int .i64 vx, .int .i64 vy, .int .i64 an, .int .i64 sp, .int .i64 de, .int .i64 ln, .int .i64 sk, .int .i64 sr, .slice ap p.length cp] 35 rfl rfl (by decide))
          | (refine wpList_load_row rfl _ _ rfl wr.heap.size rfl 35 _ (0, 0) _ k4 Try.underlying35 rfl (by kernel_rfl) ?_)
          | (at_builtin; refine wpApp rowO rfl _ _ rfl w1.heap.size (.slice ao A.length c) A.length (A.flatMap cOV) rfl hB9.o _ 1 (cOV (⟨k, i, a, b1, (px, py), (vx, vy), an, sp, de, ln, ⟨sk, sr, p⟩⟩, .slice ap p.length cp)) rfl hLit (cOV_one _ rfl) (by omega) (by omega) (Nat.le_trans HB.out.c.size (Nat.le_trans h9.size (by simp))) ?_; intro ao6 c6 w6 hr6 hg6 hmv6 hno6))
        go_roundw
        case rel => exact ⟨j + 1, _, A ++ [(⟨k, i, a, b1, (px, py), (vx, vy), an, sp, de, ln, ⟨sk, sr, p⟩⟩, .slice ap p.length cp)], rfl, by omega, by simp; omega, by go_num, hB9.app (HPS.out.k hB9.c) (fun hn k' hk he => by have h1 := HPS.out.own hn k' hk; have h2 := (World.ownsRow.lt HO.out.o k' he).1; omega) hg6 hmv6 hr6 (Nat.le_refl _), by rw [HSN.out]; simp⟩
        case measure => simp [intOf]; omega
    · have hTj : L.take j = L := List.take_of_length_le (by omega)
      rw [hTj] at hmap
      have HM := hd hmap
      have HO := hd hO
      clear hmap hO hTj
      go_wp2_with (fail)
      rw [HP.out]
      exact ⟨_, A, rfl, HO.out.s, HC1.out.k' HO.out.c, HM.out⟩
end Go.Proofs.Ytlicefbgcoddbaa
