/- Words and walks that SV rests on: LawSavePuts. -/
import Derived.Test.YtbiadpkglcdihaaGreatWSV21
import Derived.Test.YtbiadpkglcdihaaGreatWSV22
import Derived.Test.YtbiadpkglcdihaaGreatWSV1
import Derived.Deep.CutBlock
/- SavePuts: for every input the law returns true. -/
namespace Go.Proofs.YtbiadpkglcdihaaGreat
open Go.RowKit

theorem u8_and1 (z : Nat) (hz : z < 256) : bits .and .u8 (z : Int) 1 = ((z % 2 : Nat) : Int) := by
  have h : ∀ z : Fin 256, bits .and .u8 (z.1 : Int) 1 = ((z.1 % 2 : Nat) : Int) := by decide +kernel
  exact h ⟨z, hz⟩
theorem u8_and2 (z : Nat) (hz : z < 256) : bits .and .u8 (z : Int) 2 = ((z / 2 % 2 * 2 : Nat) : Int) := by
  have h : ∀ z : Fin 256, bits .and .u8 (z.1 : Int) 2 = ((z.1 / 2 % 2 * 2 : Nat) : Int) := by decide +kernel
  exact h ⟨z, hz⟩
def PreC (room : Int) (n : Nat) (b : List UInt8) (d : Dsk) : Prop := (Quiet d ∧ d.room = room ∧ (d.names = [] ∨ ∃ i, d.names = [(tmpB, i)] ∧ i < d.files.length)) ∨ OneC room n b d
theorem put_pre {room : Int} {n : Nat} {b : List UInt8} {d : Dsk} (h : PreC room n b d) (hr : (b.length : Int) + b.length ≤ room) : (putD d n b).1 = 0 ∧ OneC room n b (putD d n b).2 ∧ (putD d n b).2.ops ≤ d.ops + 7 := by
  rcases h with ⟨h1, h2, h3⟩ | h
  · exact put_new h1 h2 h3 (by omega)
  · exact put_one h hr
theorem PreC.room {room : Int} {n : Nat} {b : List UInt8} {d : Dsk} (h : PreC room n b d) : d.room = room := by
  rcases h with ⟨-, h, -⟩ | h
  · exact h
  · exact h.room
def junkD : Dsk := appendD (createD (newD 1048576) tmpB) tmpB [106, 117, 110, 107]
theorem junk_pre (n : Nat) (b : List UInt8) : PreC 1048576 n b junkD ∧ junkD.ops = 2 :=
  ⟨.inl ⟨⟨by kernel_rfl, by kernel_rfl, by kernel_rfl⟩, by kernel_rfl, .inr ⟨0, by kernel_rfl, by rw [show junkD.files.length = 1 by kernel_rfl]; decide⟩⟩, by kernel_rfl⟩
theorem new_pre (n : Nat) (b : List UInt8) : PreC 1048576 n b (newD 1048576) ∧ (newD 1048576).ops = 0 :=
  ⟨.inl ⟨⟨rfl, rfl, rfl⟩, rfl, .inl rfl⟩, rfl⟩
theorem atW_GW (l : List Deed) (h : ∀ d ∈ l, ID d) (t : Int) : GW (atW l t) ∧ (atW l t).contacts = [] := by
  have hg := made_GW (l.take 6) (fun d hd => h d (List.mem_of_mem_take hd))
  have hf := hg.fit
  have e0 : 0 ≤ t % 65536 ∧ t % 65536 < 65536 := by omega
  exact ⟨⟨⟨⟨by show -9223372036854775808 ≤ t % 65536; omega, by show t % 65536 ≤ _; omega⟩, hf.nb, hf.nj, hf.grav, hf.b, hf.j, hf.c, hf.bl, hf.jl, hf.cl⟩, ⟨by show 0 ≤ t % 65536; omega, by show t % 65536 ≤ _; omega⟩, hg.nb, hg.nj, hg.grav, hg.rb, hg.rb0, hg.rj, hg.rj0, hg.b, hg.j, hg.c, hg.cs⟩, made_c _⟩
theorem DkN.create {w0 w : World} {b : Nat} {d : Dsk} (h : DkN w0 w b d) (s : List UInt8) (hsl : s.length ≤ 140737488355328) (hops : d.ops < 1073741824) :
    Calls Tryz.prog 21 #[.pointer (some ⟨b, 0, none⟩), .string (strB s)] w fun e w' => e = .returned (.int .i64 (createE d s)) ∧ DkN w0 w' b (createD d s) := by
  obtain ⟨fp, h1, h2, h3⟩ := h
  exact (Create_any h1 s hsl hops).mono fun e w' ⟨he, hk⟩ => ⟨he, .step h2 h3 hk⟩
theorem DkN.crash0 {w0 w : World} {b : Nat} {d : Dsk} (h : DkN w0 w b d) :
    Calls Tryz.prog 22 #[.pointer (some ⟨b, 0, none⟩), .int .i64 0, .slice none 0 0] w fun e w' => e = .returned (.tuple #[]) ∧ DkN w0 w' b (crashD d 0 []) := by
  obtain ⟨fp, h1, h2, h3⟩ := h
  exact (Crash_any h1 0 _ [] (Rd.ofOwn (e := 3) (base := 0) (World.ownsRow_nil _ _ _ _)) (by simp [Value.ownBlock])).mono fun e w' ⟨he, hk⟩ => ⟨he, .step h2 h3 hk⟩
theorem DkN.list {w0 w : World} {b : Nat} {d : Dsk} (h : DkN w0 w b d) (hops : d.ops < 1073741824) (he : opE d = 0) :
    Calls Tryz.prog 23 #[.pointer (some ⟨b, 0, none⟩)] w fun e w' => ∃ ao c, e = .returned (.tuple #[.slice ao d.names.length c, .int .i64 0]) ∧ StrL w' w.heap.size (.slice ao d.names.length c) (sortN d.names) ∧ DkN w0 w' b (opD d) ∧ Chg [b] w w' := by
  obtain ⟨fp, h1, h2, h3⟩ := h
  have hb : b ∈ fp := by obtain ⟨_, _, _, _, _, hh⟩ := h1; exact hh.fpb
  refine (List_any h1 hops).mono fun e w' ⟨hd, hc, ho⟩ => ?_
  rcases ho with ⟨hne, -⟩ | ⟨-, ao, c, rfl, hs⟩
  · exact absurd he hne
  · exact ⟨ao, c, rfl, hs, .step h2 h3 (.same hd (hc.mono (fun x hx _ => by simp at hx; subst hx; exact hb))), hc⟩
theorem DkN.read {w0 w : World} {b : Nat} {d : Dsk} (h : DkN w0 w b d) (s : List UInt8) (hsl : s.length ≤ 140737488355328) (hops : d.ops < 1073741824) (he : syncE d s = 0) :
    Calls Tryz.prog 14 #[.pointer (some ⟨b, 0, none⟩), .string (strB s)] w fun e w' => ∃ ao n c, e = .returned (.tuple #[.slice ao n c, .int .i64 0]) ∧ OwB w' w.heap.size (.slice ao n c) (bytesD d s) ∧ DkN w0 w' b (opD d) ∧ Chg [b] w w' := by
  obtain ⟨fp, h1, h2, h3⟩ := h
  have hb : b ∈ fp := by obtain ⟨_, _, _, _, _, hh⟩ := h1; exact hh.fpb
  refine (Read_any h1 s hsl hops).mono fun e w' ⟨ao, n, c, e1, ho, hd, hc⟩ => ?_
  rw [he] at e1
  rw [if_pos he] at ho
  exact ⟨ao, n, c, e1, ho, .step h2 h3 (.same hd (hc.mono (fun x hx _ => by simp at hx; subst hx; exact hb))), hc⟩
theorem DkN.append1 {w0 w : World} {b : Nat} {d : Dsk} (h : DkN w0 w b d) (s : List UInt8) (hsl : s.length ≤ 140737488355328) (hops : d.ops < 1073741824) (l : List UInt8) (cs : Array Value) (hcs : cs = (l.map vb).toArray) (hll : l.length ≤ 4294967296) (hroom : d.room ≤ 4294967296) :
    Calls Tryz.prog 20 #[.pointer (some ⟨b, 0, none⟩), .string (strB s), .slice (some ⟨w.heap.size, 0, none⟩) l.length l.length] (w.alloc (.cells cs 5 (cs.size, cs.size + 1))) fun e w' => e = .returned (.int .i64 (appendE d s l)) ∧ DkN w0 w' b (appendD d s l) := by
  obtain ⟨fp, h1, h2, h3⟩ := h
  obtain ⟨-, hbs, hc⟩ := run_const w l cs hcs (by omega)
  refine (Append_any (h1.k hc) s hsl hops _ l hbs hll (fun _ k hk hm => ?_) (.inr hroom)).mono fun e w' ⟨he, hk⟩ => ⟨he, .step (h2.k hc) h3 hk⟩
  have := h1.fpl k hm
  simp [Value.ownBlock] at hk
  omega
set_option maxRecDepth 100000 in
set_option maxHeartbeats 8000000 in
theorem SavePuts_law (v : Value) (l : List DV) (t : Int) (before : UInt8) (w : World) (hl : DsS w v l) (hI : ∀ x ∈ l, ID x.1) (lo : -9223372036854775808 ≤ t) (hi : t ≤ 9223372036854775807) :
    Calls Tryz.prog 4 #[v, .int .i64 t, .int .u8 (n8 before)] w fun e w' => e = .returned (.bool true) ∧ Chg [] w w' := by
  obtain ⟨P, hP⟩ : ∃ P : Ending → World → Prop, P = fun e w' => e = .returned (.bool true) ∧ Chg [] w w' := ⟨_, rfl⟩
  rw [← hP]
  have HP := hd hP
  clear hP
  obtain ⟨z, hz, hzz⟩ : ∃ z : Nat, n8 before = (z : Int) ∧ z < 256 := ⟨(n8 before).toNat, by have := n8_lo before; omega, by have := n8_lo before; have := n8_hi before; omega⟩
  rw [hz]
  have u1 := u8_and1 z hzz
  have u2 := u8_and2 z hzz
  obtain ⟨m1, hm1, hm1'⟩ : ∃ m : Nat, z % 2 = m ∧ m < 2 := ⟨_, rfl, Nat.mod_lt _ (by decide)⟩
  obtain ⟨m2, hm2, hm2'⟩ : ∃ m : Nat, z / 2 % 2 = m ∧ m < 2 := ⟨_, rfl, Nat.mod_lt _ (by decide)⟩
  rw [hm1] at u1
  rw [hm2] at u2
  clear hz hm1 hm2 hzz
  obtain ⟨av, cv, rfl, -, -⟩ := Rd.form (by decide) hl.rd
  have hAt := fun W (hW : Chg [] w W) => At_any W _ l t ⟨lo, hi⟩ (hl.k hW) hI
  obtain ⟨hG, hC⟩ := atW_GW (l.map (·.1)) (fun x hx => by obtain ⟨y, hy, rfl⟩ := List.mem_map.1 hx; exact hI y hy) t
  obtain ⟨n, hn, hn2⟩ : ∃ n : Nat, (atW (l.map (·.1)) t).tick = (n : Int) ∧ n < 65536 := ⟨(t % 65536).toNat, by show t % 65536 = _; omega, by omega⟩
  generalize atW (l.map (·.1)) t = X at *
  have HAT := hd hAt
  have HG := hd hG
  have HCN := hd hC
  have HTK := hd hn
  have HN2 := hd hn2
  clear hAt hG hC hn hn2 hl hI lo hi
  go_enter Tryz.func4, Tryz.ntmps4
  go_upto_region 3 with (go_at_call 9; refine (fit20_any _).mono ?_; rintro e w1 ⟨rfl, h1⟩)
  go_upto_region 4 with (first
    | (go_at_call 10; refine (HAT.out _ h1).mono ?_; rintro e w2 ⟨bv, jv, kv, L, rfl, hA2, -, h2⟩; rw [show vW X bv jv kv = .agg (wC X bv jv kv) from rfl]; have kA := Blk.new w2 #[.int .i64 0, .int .i64 0, .int .i64 0, .int .i64 0, .int .i64 0, .slice none 0 0, .slice none 0 0, .slice none 0 0] 32; have hall := wC_all hA2)
    | (refine wpList_store_row rfl _ _ _ rfl w2.heap.size (wC X bv jv kv) rfl rfl 32 _ kA (by kernel_rfl) rfl hall ?_))
  have hc3 : Chg [] w2 ((w2.alloc (.cells #[.int .i64 0, .int .i64 0, .int .i64 0, .int .i64 0, .int .i64 0, .slice none 0 0, .slice none 0 0, .slice none 0 0] 32)).setRow w2.heap.size (wC X bv jv kv)) := Chg.row ((Chg.refl [] w2).alloc _) w2.heap.size _ (fun h => absurd h (Nat.lt_irrefl _))
  have k3 := kA.row (cs' := wC X bv jv kv)
  generalize (w2.alloc (.cells #[.int .i64 0, .int .i64 0, .int .i64 0, .int .i64 0, .int .i64 0, .slice none 0 0, .slice none 0 0, .slice none 0 0] 32)).setRow w2.heap.size (wC X bv jv kv) = w3 at *
  obtain ⟨ta, hta⟩ : ∃ ta, ta = w2.heap.size := ⟨_, rfl⟩
  rw [← hta] at k3 ⊢
  have HK3 := hd k3
  have HA3 := hd (hA2.k hc3)
  have HC3 := hd ((h1.k h2).k hc3)
  clear hta kA k3 hc3 hA2 h2 h1 hall HAT
  have hnew := DNew_any w3 1048576 (by decide)
  go_upto_region 5 with (go_at_call 11; refine hnew.mono ?_; rintro e w4 ⟨b, fp, rfl, hD, hc, hb⟩)
  have hN := DkN.new hD hc hb
  have HN4 := hd hN
  clear hD hc hb hN hnew
  obtain ⟨FB, hFB⟩ : ∃ FB, FB = frameB X.tick (leW X) := ⟨_, rfl⟩
  have HFB := hd hFB
  have HFL := hd (show FB.length ≤ 270020 by have := leW_small X HG.out.fit HCN.out; rw [hFB, frameB_length]; omega)
  clear hFB
  go_cut [23] from 21 (fun t23 wx => t23 = .bool (decide (m1 = 1)) ∧ wx = w4)
  case first =>
    by_cases hb1 : m1 = 1
    · subst hb1
      go_wp2_with fail
      go_meet
      case rel => exact ⟨rfl, rfl⟩
    · have hz1 : ((m1 : Int) == 1) = false := by rw [beq_eq_false_iff_ne]; omega
      go_wp2_with fail
      go_meet
      case rel => exact ⟨by rw [decide_eq_false hb1], rfl⟩
  case rest =>
  obtain ⟨rfl, rfl⟩ := hcut
  apply_assumption -exfalso -symm
  go_cut [8] from 21 (fun t8 wx => t8 = .pointer (some ⟨b, 0, none⟩) ∧ ∃ d, DkN w3 wx b d ∧ PreC 1048576 n FB d ∧ d.ops ≤ 2)
  case first =>
    by_cases hb1 : m1 = 1
    · have hb1' : decide (m1 = 1) = true := decide_eq_true hb1
      rw [hb1']
      have hcr := HN4.out.create tmpB (by decide) (by decide)
      go_upto_region 7 with (go_at_call 21; refine hcr.mono ?_; rintro e w5 ⟨rfl, hN5⟩)
      have hap := hN5.append1 tmpB (by decide) (by rw [show (createD (newD 1048576) tmpB).ops = 1 by kernel_rfl]; decide) [106, 117, 110, 107] #[.int .u8 106, .int .u8 117, .int .u8 110, .int .u8 107] rfl (by decide) (by rw [show (createD (newD 1048576) tmpB).room = 1048576 by kernel_rfl]; decide)
      rw [show appendD (createD (newD 1048576) tmpB) tmpB [106, 117, 110, 107] = junkD from rfl] at hap
      clear hN5 hcr
      have tcv := bsConst w5 #[.int .u8 106, .int .u8 117, .int .u8 110, .int .u8 107] 4 4
      go_wp2_with (go_at_call 20; refine hap.mono ?_; rintro e w6 ⟨rfl, hN6⟩)
      go_meet
      case rel => exact ⟨rfl, _, hN6, (junk_pre n FB).1, by rw [(junk_pre n FB).2]; decide⟩
    · have hb1' : decide (m1 = 1) = false := decide_eq_false hb1
      rw [hb1']
      go_wp2_with fail
      go_meet
      case rel => exact ⟨rfl, _, HN4.out, (new_pre n FB).1, by rw [(new_pre n FB).2]; decide⟩
  case rest =>
  obtain ⟨rfl, d, hdn, hdp, hdo⟩ := hcut
  apply_assumption -exfalso -symm
  have hP := fun W d (h : DkN w3 W b d) (h1 : d.ops ≤ 100) (h2 : d.room ≤ 1048576) => Put_N h bv jv kv L X HA3.out HG.out.fit HCN.out n HTK.out (by have := HN2.out; omega) (by omega) (by omega)
  rw [← HFB.out, show vW X bv jv kv = .agg (wC X bv jv kv) from rfl] at hP
  have HPU := hd hP
  have HDN := hd hdn
  have HDP := hd hdp
  have HDO := hd hdo
  clear hP hdn hdp hdo HN4
  have HM2 := hd hm2'
  have hq2 : ((m2 * 2 : Nat) : Int) = (m2 : Int) * 2 := by omega
  go_upto_if 32 with (fail)
  go_cut [8] from 21 (fun t8 wx => t8 = .pointer (some ⟨b, 0, none⟩) ∧ ∃ d, DkN w3 wx b d ∧ PreC 1048576 n FB d ∧ d.ops ≤ 9)
  case first =>
    have hpre := put_pre HDP.out (by have := HFL.out; omega)
    have hp := HPU.out _ _ HDN.out (by have := HDO.out; omega) (by rw [HDP.out.room]; decide)
    rw [hpre.1] at hp
    have k9 := HK3.out.k HDN.out.c
    have HPRE := hd hpre
    clear hpre
    by_cases hb1 : m2 = 1
    · subst hb1
      go_wp2_with (first
        | (refine wpList_load_row rfl _ _ rfl ta rfl 32 _ (0, 0) _ k9 Tryz.underlying32 rfl (by kernel_rfl) ?_)
        | (go_at_call 12; refine hp.mono ?_; rintro e w6 ⟨rfl, hN6⟩))
      go_meet
      case rel => exact ⟨rfl, _, hN6, .inr HPRE.out.2.1, by have := HPRE.out.2.2; have := HDO.out; omega⟩
    · have hz1 : (((m2 * 2 : Nat) : Int) == 2) = false := by rw [beq_eq_false_iff_ne]; omega
      obtain rfl : m2 = 0 := by omega
      go_wp2_with fail
      go_meet
      case rel => exact ⟨rfl, _, HDN.out, HDP.out, by have := HDO.out; omega⟩
  case rest =>
  obtain ⟨rfl, d2, hdn, hdp, hdo⟩ := hcut
  have hpre := put_pre hdp (by have := HFL.out; omega)
  have hp := HPU.out _ _ hdn (by omega) (by rw [hdp.room]; decide)
  rw [hpre.1] at hp
  have k9 := HK3.out.k hdn.c
  have HPRE := hd hpre
  have HDO2 := hd hdo
  clear hpre hdn hdp hdo HDN HDP HDO HPU
  go_upto_region 12 with (first
    | (refine wpList_load_row rfl _ _ rfl ta rfl 32 _ (0, 0) _ k9 Tryz.underlying32 rfl (by kernel_rfl) ?_)
    | (go_at_call 12; refine hp.mono ?_; rintro e w6 ⟨rfl, hN6⟩))
  have HN6 := hd hN6
  have HO6 := hd HPRE.out.2.1
  have HOP6 : Hd ((putD d2 n FB).2.ops ≤ 16) := hd (by have := HPRE.out.2.2; have := HDO2.out; omega)
  clear hN6 hp k9 HPRE HDO2
  generalize (putD d2 n FB).2 = d6 at *
  have hcr := HN6.out.crash0
  have HO7 := hd (HO6.out.crash 0 [])
  have HOP7 : Hd ((crashD d6 0 []).ops ≤ 16) := hd (show d6.ops ≤ 16 from HOP6.out)
  clear HN6 HO6 HOP6
  go_upto_region 13 with (go_at_call 22; refine hcr.mono ?_; rintro e w7 ⟨rfl, hN7⟩)
  generalize crashD d6 0 [] = d7 at *
  have HB7 := hd hN7.lt
  have hls := hN7.list (by have := HOP7.out; omega) HO7.out.q.e
  have hlen7 : d7.names.length = 1 := by obtain ⟨k, hk, -⟩ := HO7.out.names; rw [hk]; rfl
  rw [HO7.out.list, hlen7] at hls
  have HO8 := hd HO7.out.op
  have HOP8 : Hd ((opD d7).ops ≤ 17) := hd (show d7.ops + 1 ≤ 17 by have := HOP7.out; omega)
  clear hlen7 hN7 hcr
  generalize opD d7 = d8 at *
  clear HO7 HOP7
  go_upto_region 14 with (go_at_call 23; refine hls.mono ?_; rintro e w8 ⟨ao8, c8, rfl, hs8, hN8, h8⟩)
  have HK8 := hd (HK3.out.k hN8.c)
  have HB8 := hd hN8.lt
  have q0 : w8.cell? ⟨ta, 0, none⟩ = some (.int .i64 (n : Int)) := by rw [HK8.out.cell 0, ← HTK.out]; rfl
  obtain ⟨g8, hg8, hg8b⟩ : ∃ g, ao8 = some ⟨g, 0, none⟩ ∧ w7.heap.size ≤ g := by
    rcases hs8.2 with ⟨he, h0⟩ | ⟨g, cap, cur, he, hb, _⟩
    · simp at h0
    · simp only [Value.slice.injEq] at he
      exact ⟨g, he.1, hb⟩
  subst hg8
  have hsc : w8.cell? ⟨g8, 0, none⟩ = some (.string (strB (chkB n))) := by
    have := World.ownsRow.cells hs8 (g := g8) rfl 0 (.string (strB (chkB n))) (by simp)
    rwa [Addr.add_mid, Nat.zero_add] at this
  have HSC := hd hsc
  have HG8 := hd hg8b
  have Q0 := hd q0
  have HN8 := hd hN8
  have HO9 := hd HO8.out.op
  have HOP9 : Hd ((opD d8).ops ≤ 18) := hd (show d8.ops + 1 ≤ 18 by have := HOP8.out; omega)
  have hby := HO8.out.bytes
  have HLT8 := hd (show ta < w8.heap.size from HK8.out.lt)
  clear hs8 hN8 h8 hls hsc hg8b
  go_upto_region 15 with (first
    | (go_at_call 13; refine (Check_any _ n (by have := HN2.out; omega)).mono ?_; rintro e w9 ⟨rfl, h9⟩; have hrd := (HN8.out.k h9).read (chkB n) (by rw [chk_length]; decide) (by have := HOP8.out; omega) hby.2; rw [hby.1] at hrd)
    | (go_at_call 14; refine hrd.mono ?_; rintro e w10 ⟨ao10, m10, c10, rfl, ho10, hN10, h10⟩))
  have HC10 := hd (show Chg [b] w8 w10 from (h9.mono (S' := [b]) (by simp)).trans h10 (fun x hx _ => hx))
  have hby9 := HO9.out.bytes
  have hli : LoadIs (opD d8) n 0 X := .inr (.inr ⟨hby9.2, by rw [hby9.1, HFB.out, HTK.out]; exact oneB_frame _ _ (by omega) (by have := HN2.out; omega) (by have := leW_small X HG.out.fit HCN.out; omega), rfl, HG.out, HCN.out, HTK.out⟩)
  have hld := Load_N hN10 n (by have := HN2.out; omega) (by have := HOP9.out; omega) (by rw [hby9.1]; have := HFL.out; omega) 0 X hli
  have q1 : w10.cell? ⟨ta, 0, none⟩ = some (.int .i64 (n : Int)) := by rw [(HK3.out.k hN10.c).cell 0, ← HTK.out]; rfl
  have hbs := ho10.bs
  have hlo : ∀ k, (Value.slice ao10 m10 c10).ownBlock = some k → w9.heap.size ≤ k := fun k hk => (World.ownsRow.lt ho10 k hk).1
  have HBS := hd hbs
  have HLO := hd hlo
  have HS9 := hd h9.size
  obtain ⟨ao11, cap11, b11, off11, he11, -⟩ := hbs.open
  injection he11 with he1 he2 he3
  subst he1 he3 he2
  clear hby hby9 hli hN10 ho10 hbs hlo h9 h10 hrd q0
  go_upto_region 16 with (first
    | (go_at_call 17; refine hld.mono ?_; rintro e w11 ⟨bv2, jv2, kv2, L2, rfl, hp2, -, hN11, h11⟩; rw [show vW X bv2 jv2 kv2 = .agg (wC X bv2 jv2 kv2) from rfl]; have kB := Blk.new w11 #[.int .i64 0, .int .i64 0, .int .i64 0, .int .i64 0, .int .i64 0, .slice none 0 0, .slice none 0 0, .slice none 0 0] 32; have hall2 := wC_all hp2)
    | (refine wpList_store_row rfl _ _ _ rfl w11.heap.size (wC X bv2 jv2 kv2) rfl rfl 32 _ kB (by kernel_rfl) rfl hall2 ?_))
  have hcx : Chg [] w11 ((w11.alloc (.cells #[.int .i64 0, .int .i64 0, .int .i64 0, .int .i64 0, .int .i64 0, .slice none 0 0, .slice none 0 0, .slice none 0 0] 32)).setRow w11.heap.size (wC X bv2 jv2 kv2)) := Chg.row ((Chg.refl [] w11).alloc _) w11.heap.size _ (fun h => absurd h (Nat.lt_irrefl _))
  have kB2 := kB.row (cs' := wC X bv2 jv2 kv2)
  generalize (w11.alloc (.cells #[.int .i64 0, .int .i64 0, .int .i64 0, .int .i64 0, .int .i64 0, .slice none 0 0, .slice none 0 0, .slice none 0 0] 32)).setRow w11.heap.size (wC X bv2 jv2 kv2) = w12 at *
  obtain ⟨tb, htb⟩ : ∃ tb, tb = w11.heap.size := ⟨_, rfl⟩
  rw [← htb] at kB2 ⊢
  have HKB := hd kB2
  have HP2 := hd (hp2.k hcx)
  have HN12 := hd (hN11.k hcx)
  have HC12 := hd ((HC10.out.trans h11 (fun x hx _ => hx)).k' hcx)
  have HG12 := hd (HC12.out.cellT HSC.out (by have := HG8.out; have := HB7.out; simp; omega))
  have HB12 := hd (show Bs w12 (.slice ao10 FB.length c10) FB from Rd.keep HBS.out (h11.k' hcx) (fun _ k hk hm => by have := HLO.out k hk; have := HS9.out; have := HB8.out; simp at hm; omega))
  have HK12 := hd (HK3.out.k HN12.out.c)
  have Q12 := hd (show w12.cell? ⟨ta, 0, none⟩ = some (.int .i64 (n : Int)) by rw [HK12.out.cell 0, ← HTK.out]; rfl)
  have HA12 := hd (HA3.out.k HN12.out.c)
  clear hcx kB kB2 htb hp2 hN11 h11 hall2 hld q1 HBS HLO HS9 HC10 HG8 HSC HB7 HB8 HN8 HK8 HO8 HO9 HOP8 HOP9
  have hleW := leW_small X HG.out.fit HCN.out
  have hWd := fun W (hW : Chg [] w12 W) => World_any W (vW X bv jv kv) X ⟨_, _, _, _, rfl, HA12.out.k hW⟩ (fun b hb => by have := rightS_len (HG.out.fit.b b hb).sh; omega) (by omega)
  have hSm := fun W (hW : Chg [] w12 W) => WSame_any W (vW X bv2 jv2 kv2) (vW X bv jv kv) X X ⟨_, _, _, _, rfl, HP2.out.k hW⟩ ⟨_, _, _, _, rfl, HA12.out.k hW⟩ (by have := HG.out.fit.bl; omega)
  rw [show vW X bv jv kv = .agg (wC X bv jv kv) from rfl] at hWd hSm
  rw [show vW X bv2 jv2 kv2 = .agg (wC X bv2 jv2 kv2) from rfl] at hSm
  have hF := HFB.out
  rw [HTK.out] at hF
  generalize leW X = LW at *
  have hFy := fun W v (hv : Bs W v LW) => FBytes_any (n : Int) v LW W hv (by omega)
  rw [← hF] at hFy
  have HWD := hd hWd
  have HSM := hd hSm
  have HFY := hd hFy
  clear hWd hSm hF hFy hleW
  refine rg (N := 37) (by kernel_rfl) (by kernel_rfl) (S := (fun wx => Chg [] w12 wx)) ((Chg.refl _ _).drew) (fun hHeld => ?_)
  generalize w12.drew = w12d at *
  refine tks [0, 1, 2, 3, 4, 5, 6, 7, 8] (by kernel_rfl) (fun _ _ _ _ _ h => h) (by assumption) ?_
  iterate 9 (refine tkc rfl rfl (by rfl) (fun wx hSw => by (try dsimp only at hSw); (have t6 := hSw.cellS HG12.out; have t8 := hSw.cellS Q12.out); go_simp; (try with_reducible rfl)) ?_; simp only [List.set])
  refine tk0 ?_
  refine rn 9 rfl (by kernel_rfl) (by rfl) fun KK hKK => ?_
  go_simp; (refine (Check_any _ n (by have := HN2.out; omega)).mono ?_; rintro e w13 ⟨rfl, h13⟩; have hm := Chg.k' hHeld h13; have t18 := run_str (HB12.out.stays hm); (try go_simp)); refine hKK.out _ _ (by assumption) fun hHeld => ?_; clear hKK KK; try simp only [Act.put, List.setIfInBounds_toArray, List.set]
  refine rn 10 rfl (by kernel_rfl) (by rfl) fun KK hKK => ?_
  go_simp; refine hKK.out _ _ (by assumption) fun hHeld => ?_; clear hKK KK; try simp only [Act.put, List.setIfInBounds_toArray, List.set]
  refine rn 11 rfl (by kernel_rfl) (by rfl) fun KK hKK => ?_
  go_simp; refine hKK.out _ _ (by assumption) fun hHeld => ?_; clear hKK KK; try simp only [Act.put, List.setIfInBounds_toArray, List.set]
  refine rn 12 rfl (by kernel_rfl) (by rfl) fun KK hKK => ?_
  go_simp; refine hKK.out _ _ (by assumption) fun hHeld => ?_; clear hKK KK; try simp only [Act.put, List.setIfInBounds_toArray, List.set]
  refine tks [13, 14] (by kernel_rfl) (fun _ _ _ _ _ h => h) (by assumption) ?_
  iterate 2 (refine tkc rfl rfl (by rfl) (fun wx hSw => by (try dsimp only at hSw); (have t6 := hSw.cellS HG12.out; have t8 := hSw.cellS Q12.out); go_simp; (try with_reducible rfl)) ?_; simp only [List.set])
  refine tk0 ?_
  refine rn 15 rfl (by kernel_rfl) (by rfl) fun KK hKK => ?_
  go_simp; refine hKK.out _ _ (by assumption) fun hHeld => ?_; clear hKK KK; try simp only [Act.put, List.setIfInBounds_toArray, List.set]
  refine rn 16 rfl (by kernel_rfl) (by rfl) fun KK hKK => ?_
  go_simp; refine hKK.out _ _ (by assumption) fun hHeld => ?_; clear hKK KK; try simp only [Act.put, List.setIfInBounds_toArray, List.set]
  refine tks [17, 19, 20, 21] (by kernel_rfl) (fun _ _ _ _ _ h => h) (by assumption) ?_
  iterate 3 (refine tkc rfl rfl (by rfl) (fun wx hSw => by (try dsimp only at hSw); (have t6 := hSw.cellS HG12.out; have t8 := hSw.cellS Q12.out); go_simp; (try with_reducible rfl)) ?_; simp only [List.set])
  refine tkc rfl rfl (by rfl) (fun wx hSw => by (try dsimp only at hSw); (refine exec_load_row (x := .tmp 7) (t := 32) ?_ ?_ (HK12.out.k hSw) Tryz.underlying32 rfl (by kernel_rfl) <;> rfl)) ?_; simp only [List.set]
  refine tk0 ?_
  refine rn2 18 22 rfl rfl (by kernel_rfl) (by rfl) (by rfl) (fun KK hKK => ?ra0) (fun KK hKK => ?rb0)
  case' ra0 =>
    go_simp; refine hKK.out _ _ (by assumption) fun hHeld => ?_; clear hKK KK; try simp only [Act.put, List.setIfInBounds_toArray, List.set]
    refine rn 22 rfl (by kernel_rfl) (by rfl) fun KK hKK => ?_
    go_simp; (refine (HWD.out _ hHeld).mono ?_; rintro e w14 ⟨a2, c2, rfl, ho2, hm2⟩; have hm := Chg.k' hHeld hm2; have t18 := run_str (HB12.out.stays hm); (try go_simp)); refine hKK.out _ _ (by assumption) fun hHeld => ?_; clear hKK KK; try simp only [Act.put, List.setIfInBounds_toArray, List.set]
    refine rn 23 rfl (by kernel_rfl) (by rfl) fun KK hKK => ?_
    go_simp; (refine (HFY.out _ _ ho2.bs).mono ?_; rintro e w15 ⟨a3, c3, rfl, ho3, hm3⟩; have hm := Chg.k' hHeld hm3; have hB3 := hd ho3.bs; have t18 := run_str (HB12.out.stays hm); have t24 := run_str hB3.out; (try go_simp)); refine hKK.out _ _ (by assumption) fun hHeld => ?_; clear hKK KK; try simp only [Act.put, List.setIfInBounds_toArray, List.set]
    refine rn 24 rfl (by kernel_rfl) (by rfl) fun KK hKK => ?_
    go_simp; refine hKK.out _ _ (by assumption) fun hHeld => ?_; clear hKK KK; try simp only [Act.put, List.setIfInBounds_toArray, List.set]
    refine rn 25 rfl (by kernel_rfl) (by rfl) fun KK hKK => ?_
    go_simp; refine hKK.out _ _ (by assumption) fun hHeld => ?_; clear hKK KK; try simp only [Act.put, List.setIfInBounds_toArray, List.set]
    refine rn 26 rfl (by kernel_rfl) (by rfl) fun KK hKK => ?_
    go_simp; refine hKK.out _ _ (by assumption) fun hHeld => ?_; clear hKK KK; try simp only [Act.put, List.setIfInBounds_toArray, List.set]
    refine rn 27 rfl (by kernel_rfl) (by rfl) fun KK hKK => ?_
    go_simp; refine hKK.out _ _ (by assumption) fun hHeld => ?_; clear hKK KK; try simp only [Act.put, List.setIfInBounds_toArray, List.set]
    refine tks [28, 29] (by kernel_rfl) (fun _ _ _ _ _ h => h) (by assumption) ?_
    iterate 2 (refine tkc rfl rfl (by rfl) (fun wx hSw => by (try dsimp only at hSw); (have t6 := hSw.cellS HG12.out; have t8 := hSw.cellS Q12.out); go_simp; (try with_reducible rfl)) ?_; simp only [List.set])
    refine tk0 ?_
    refine rn 30 rfl (by kernel_rfl) (by rfl) fun KK hKK => ?_
    go_simp; refine hKK.out _ _ (by assumption) fun hHeld => ?_; clear hKK KK; try simp only [Act.put, List.setIfInBounds_toArray, List.set]
    refine rn 31 rfl (by kernel_rfl) (by rfl) fun KK hKK => ?_
    go_simp; refine hKK.out _ _ (by assumption) fun hHeld => ?_; clear hKK KK; try simp only [Act.put, List.setIfInBounds_toArray, List.set]
    refine tks [32, 33] (by kernel_rfl) (fun _ _ _ _ _ h => h) (by assumption) ?_
    refine tkc rfl rfl (by rfl) (fun wx hSw => by (try dsimp only at hSw); (refine exec_load_row (x := .tmp 13) (t := 32) ?_ ?_ (HKB.out.k hSw) Tryz.underlying32 rfl (by kernel_rfl) <;> rfl)) ?_; simp only [List.set]
    refine tkc rfl rfl (by rfl) (fun wx hSw => by (try dsimp only at hSw); (refine exec_load_row (x := .tmp 7) (t := 32) ?_ ?_ (HK12.out.k hSw) Tryz.underlying32 rfl (by kernel_rfl) <;> rfl)) ?_; simp only [List.set]
    refine tk0 ?_
    refine rn 34 rfl (by kernel_rfl) (by rfl) fun KK hKK => ?_
    go_simp; (refine (HSM.out _ hHeld).mono ?_; rintro e w16 ⟨⟨r, rfl, hr⟩, hm9⟩; have hm := Chg.k' hHeld hm9; obtain rfl : r = true := hr.2 rfl; (try go_simp)); refine hKK.out _ _ (by assumption) fun hHeld => ?_; clear hKK KK; try simp only [Act.put, List.setIfInBounds_toArray, List.set]
    refine rn 35 rfl (by kernel_rfl) (by rfl) fun KK hKK => ?_
    go_simp; refine hKK.out _ _ (by assumption) fun hHeld => ?_; clear hKK KK; try simp only [Act.put, List.setIfInBounds_toArray, List.set]
    refine rn 36 rfl (by kernel_rfl) (by rfl) fun KK hKK => ?_
    go_simp; refine hKK.out _ _ (by assumption) fun hHeld => ?_; clear hKK KK; try simp only [Act.put, List.setIfInBounds_toArray, List.set]
    refine wpAnyH_done (by kernel_rfl) ?_ _
    skip
  case' rb0 =>
    go_simp; (refine (HWD.out _ hHeld).mono ?_; rintro e w14 ⟨a2, c2, rfl, ho2, hm2⟩; have hm := Chg.k' hHeld hm2; have t18 := run_str (HB12.out.stays hm); (try go_simp)); refine hKK.out _ _ (by assumption) fun hHeld => ?_; clear hKK KK; try simp only [Act.put, List.setIfInBounds_toArray, List.set]
    refine rn2 18 23 rfl rfl (by kernel_rfl) (by rfl) (by rfl) (fun KK hKK => ?ra1) (fun KK hKK => ?rb1)
    case' ra1 =>
      go_simp; refine hKK.out _ _ (by assumption) fun hHeld => ?_; clear hKK KK; try simp only [Act.put, List.setIfInBounds_toArray, List.set]
      refine rn 23 rfl (by kernel_rfl) (by rfl) fun KK hKK => ?_
      go_simp; (refine (HFY.out _ _ ho2.bs).mono ?_; rintro e w15 ⟨a3, c3, rfl, ho3, hm3⟩; have hm := Chg.k' hHeld hm3; have hB3 := hd ho3.bs; have t18 := run_str (HB12.out.stays hm); have t24 := run_str hB3.out; (try go_simp)); refine hKK.out _ _ (by assumption) fun hHeld => ?_; clear hKK KK; try simp only [Act.put, List.setIfInBounds_toArray, List.set]
      refine rn 24 rfl (by kernel_rfl) (by rfl) fun KK hKK => ?_
      go_simp; refine hKK.out _ _ (by assumption) fun hHeld => ?_; clear hKK KK; try simp only [Act.put, List.setIfInBounds_toArray, List.set]
      refine rn 25 rfl (by kernel_rfl) (by rfl) fun KK hKK => ?_
      go_simp; refine hKK.out _ _ (by assumption) fun hHeld => ?_; clear hKK KK; try simp only [Act.put, List.setIfInBounds_toArray, List.set]
      refine rn 26 rfl (by kernel_rfl) (by rfl) fun KK hKK => ?_
      go_simp; refine hKK.out _ _ (by assumption) fun hHeld => ?_; clear hKK KK; try simp only [Act.put, List.setIfInBounds_toArray, List.set]
      refine rn 27 rfl (by kernel_rfl) (by rfl) fun KK hKK => ?_
      go_simp; refine hKK.out _ _ (by assumption) fun hHeld => ?_; clear hKK KK; try simp only [Act.put, List.setIfInBounds_toArray, List.set]
      refine tks [28, 29] (by kernel_rfl) (fun _ _ _ _ _ h => h) (by assumption) ?_
      iterate 2 (refine tkc rfl rfl (by rfl) (fun wx hSw => by (try dsimp only at hSw); (have t6 := hSw.cellS HG12.out; have t8 := hSw.cellS Q12.out); go_simp; (try with_reducible rfl)) ?_; simp only [List.set])
      refine tk0 ?_
      refine rn 30 rfl (by kernel_rfl) (by rfl) fun KK hKK => ?_
      go_simp; refine hKK.out _ _ (by assumption) fun hHeld => ?_; clear hKK KK; try simp only [Act.put, List.setIfInBounds_toArray, List.set]
      refine rn 31 rfl (by kernel_rfl) (by rfl) fun KK hKK => ?_
      go_simp; refine hKK.out _ _ (by assumption) fun hHeld => ?_; clear hKK KK; try simp only [Act.put, List.setIfInBounds_toArray, List.set]
      refine tks [32, 33] (by kernel_rfl) (fun _ _ _ _ _ h => h) (by assumption) ?_
      refine tkc rfl rfl (by rfl) (fun wx hSw => by (try dsimp only at hSw); (refine exec_load_row (x := .tmp 13) (t := 32) ?_ ?_ (HKB.out.k hSw) Tryz.underlying32 rfl (by kernel_rfl) <;> rfl)) ?_; simp only [List.set]
      refine tkc rfl rfl (by rfl) (fun wx hSw => by (try dsimp only at hSw); (refine exec_load_row (x := .tmp 7) (t := 32) ?_ ?_ (HK12.out.k hSw) Tryz.underlying32 rfl (by kernel_rfl) <;> rfl)) ?_; simp only [List.set]
      refine tk0 ?_
      refine rn 34 rfl (by kernel_rfl) (by rfl) fun KK hKK => ?_
      go_simp; (refine (HSM.out _ hHeld).mono ?_; rintro e w16 ⟨⟨r, rfl, hr⟩, hm9⟩; have hm := Chg.k' hHeld hm9; obtain rfl : r = true := hr.2 rfl; (try go_simp)); refine hKK.out _ _ (by assumption) fun hHeld => ?_; clear hKK KK; try simp only [Act.put, List.setIfInBounds_toArray, List.set]
      refine rn 35 rfl (by kernel_rfl) (by rfl) fun KK hKK => ?_
      go_simp; refine hKK.out _ _ (by assumption) fun hHeld => ?_; clear hKK KK; try simp only [Act.put, List.setIfInBounds_toArray, List.set]
      refine rn 36 rfl (by kernel_rfl) (by rfl) fun KK hKK => ?_
      go_simp; refine hKK.out _ _ (by assumption) fun hHeld => ?_; clear hKK KK; try simp only [Act.put, List.setIfInBounds_toArray, List.set]
      refine wpAnyH_done (by kernel_rfl) ?_ _
      skip
    case' rb1 =>
      go_simp; (refine (HFY.out _ _ ho2.bs).mono ?_; rintro e w15 ⟨a3, c3, rfl, ho3, hm3⟩; have hm := Chg.k' hHeld hm3; have hB3 := hd ho3.bs; have t18 := run_str (HB12.out.stays hm); have t24 := run_str hB3.out; (try go_simp)); refine hKK.out _ _ (by assumption) fun hHeld => ?_; clear hKK KK; try simp only [Act.put, List.setIfInBounds_toArray, List.set]
      refine rn2 18 24 rfl rfl (by kernel_rfl) (by rfl) (by rfl) (fun KK hKK => ?ra2) (fun KK hKK => ?rb2)
      case' ra2 =>
        go_simp; refine hKK.out _ _ (by assumption) fun hHeld => ?_; clear hKK KK; try simp only [Act.put, List.setIfInBounds_toArray, List.set]
        refine rn 24 rfl (by kernel_rfl) (by rfl) fun KK hKK => ?_
        go_simp; refine hKK.out _ _ (by assumption) fun hHeld => ?_; clear hKK KK; try simp only [Act.put, List.setIfInBounds_toArray, List.set]
        refine rn 25 rfl (by kernel_rfl) (by rfl) fun KK hKK => ?_
        go_simp; refine hKK.out _ _ (by assumption) fun hHeld => ?_; clear hKK KK; try simp only [Act.put, List.setIfInBounds_toArray, List.set]
        refine rn 26 rfl (by kernel_rfl) (by rfl) fun KK hKK => ?_
        go_simp; refine hKK.out _ _ (by assumption) fun hHeld => ?_; clear hKK KK; try simp only [Act.put, List.setIfInBounds_toArray, List.set]
        refine rn 27 rfl (by kernel_rfl) (by rfl) fun KK hKK => ?_
        go_simp; refine hKK.out _ _ (by assumption) fun hHeld => ?_; clear hKK KK; try simp only [Act.put, List.setIfInBounds_toArray, List.set]
        refine tks [28, 29] (by kernel_rfl) (fun _ _ _ _ _ h => h) (by assumption) ?_
        iterate 2 (refine tkc rfl rfl (by rfl) (fun wx hSw => by (try dsimp only at hSw); (have t6 := hSw.cellS HG12.out; have t8 := hSw.cellS Q12.out); go_simp; (try with_reducible rfl)) ?_; simp only [List.set])
        refine tk0 ?_
        refine rn 30 rfl (by kernel_rfl) (by rfl) fun KK hKK => ?_
        go_simp; refine hKK.out _ _ (by assumption) fun hHeld => ?_; clear hKK KK; try simp only [Act.put, List.setIfInBounds_toArray, List.set]
        refine rn 31 rfl (by kernel_rfl) (by rfl) fun KK hKK => ?_
        go_simp; refine hKK.out _ _ (by assumption) fun hHeld => ?_; clear hKK KK; try simp only [Act.put, List.setIfInBounds_toArray, List.set]
        refine tks [32, 33] (by kernel_rfl) (fun _ _ _ _ _ h => h) (by assumption) ?_
        refine tkc rfl rfl (by rfl) (fun wx hSw => by (try dsimp only at hSw); (refine exec_load_row (x := .tmp 13) (t := 32) ?_ ?_ (HKB.out.k hSw) Tryz.underlying32 rfl (by kernel_rfl) <;> rfl)) ?_; simp only [List.set]
        refine tkc rfl rfl (by rfl) (fun wx hSw => by (try dsimp only at hSw); (refine exec_load_row (x := .tmp 7) (t := 32) ?_ ?_ (HK12.out.k hSw) Tryz.underlying32 rfl (by kernel_rfl) <;> rfl)) ?_; simp only [List.set]
        refine tk0 ?_
        refine rn 34 rfl (by kernel_rfl) (by rfl) fun KK hKK => ?_
        go_simp; (refine (HSM.out _ hHeld).mono ?_; rintro e w16 ⟨⟨r, rfl, hr⟩, hm9⟩; have hm := Chg.k' hHeld hm9; obtain rfl : r = true := hr.2 rfl; (try go_simp)); refine hKK.out _ _ (by assumption) fun hHeld => ?_; clear hKK KK; try simp only [Act.put, List.setIfInBounds_toArray, List.set]
        refine rn 35 rfl (by kernel_rfl) (by rfl) fun KK hKK => ?_
        go_simp; refine hKK.out _ _ (by assumption) fun hHeld => ?_; clear hKK KK; try simp only [Act.put, List.setIfInBounds_toArray, List.set]
        refine rn 36 rfl (by kernel_rfl) (by rfl) fun KK hKK => ?_
        go_simp; refine hKK.out _ _ (by assumption) fun hHeld => ?_; clear hKK KK; try simp only [Act.put, List.setIfInBounds_toArray, List.set]
        refine wpAnyH_done (by kernel_rfl) ?_ _
        skip
      case' rb2 =>
        go_simp; refine hKK.out _ _ (by assumption) fun hHeld => ?_; clear hKK KK; try simp only [Act.put, List.setIfInBounds_toArray, List.set]
        refine rn 18 rfl (by kernel_rfl) (by rfl) fun KK hKK => ?_
        go_simp; refine hKK.out _ _ (by assumption) fun hHeld => ?_; clear hKK KK; try simp only [Act.put, List.setIfInBounds_toArray, List.set]
        refine rn 25 rfl (by kernel_rfl) (by rfl) fun KK hKK => ?_
        go_simp; refine hKK.out _ _ (by assumption) fun hHeld => ?_; clear hKK KK; try simp only [Act.put, List.setIfInBounds_toArray, List.set]
        refine rn 26 rfl (by kernel_rfl) (by rfl) fun KK hKK => ?_
        go_simp; refine hKK.out _ _ (by assumption) fun hHeld => ?_; clear hKK KK; try simp only [Act.put, List.setIfInBounds_toArray, List.set]
        refine rn 27 rfl (by kernel_rfl) (by rfl) fun KK hKK => ?_
        go_simp; refine hKK.out _ _ (by assumption) fun hHeld => ?_; clear hKK KK; try simp only [Act.put, List.setIfInBounds_toArray, List.set]
        refine tks [28, 29] (by kernel_rfl) (fun _ _ _ _ _ h => h) (by assumption) ?_
        iterate 2 (refine tkc rfl rfl (by rfl) (fun wx hSw => by (try dsimp only at hSw); (have t6 := hSw.cellS HG12.out; have t8 := hSw.cellS Q12.out); go_simp; (try with_reducible rfl)) ?_; simp only [List.set])
        refine tk0 ?_
        refine rn 30 rfl (by kernel_rfl) (by rfl) fun KK hKK => ?_
        go_simp; refine hKK.out _ _ (by assumption) fun hHeld => ?_; clear hKK KK; try simp only [Act.put, List.setIfInBounds_toArray, List.set]
        refine rn 31 rfl (by kernel_rfl) (by rfl) fun KK hKK => ?_
        go_simp; refine hKK.out _ _ (by assumption) fun hHeld => ?_; clear hKK KK; try simp only [Act.put, List.setIfInBounds_toArray, List.set]
        refine tks [32, 33] (by kernel_rfl) (fun _ _ _ _ _ h => h) (by assumption) ?_
        refine tkc rfl rfl (by rfl) (fun wx hSw => by (try dsimp only at hSw); (refine exec_load_row (x := .tmp 13) (t := 32) ?_ ?_ (HKB.out.k hSw) Tryz.underlying32 rfl (by kernel_rfl) <;> rfl)) ?_; simp only [List.set]
        refine tkc rfl rfl (by rfl) (fun wx hSw => by (try dsimp only at hSw); (refine exec_load_row (x := .tmp 7) (t := 32) ?_ ?_ (HK12.out.k hSw) Tryz.underlying32 rfl (by kernel_rfl) <;> rfl)) ?_; simp only [List.set]
        refine tk0 ?_
        refine rn 34 rfl (by kernel_rfl) (by rfl) fun KK hKK => ?_
        go_simp; (refine (HSM.out _ hHeld).mono ?_; rintro e w16 ⟨⟨r, rfl, hr⟩, hm9⟩; have hm := Chg.k' hHeld hm9; obtain rfl : r = true := hr.2 rfl; (try go_simp)); refine hKK.out _ _ (by assumption) fun hHeld => ?_; clear hKK KK; try simp only [Act.put, List.setIfInBounds_toArray, List.set]
        refine rn 35 rfl (by kernel_rfl) (by rfl) fun KK hKK => ?_
        go_simp; refine hKK.out _ _ (by assumption) fun hHeld => ?_; clear hKK KK; try simp only [Act.put, List.setIfInBounds_toArray, List.set]
        refine rn 36 rfl (by kernel_rfl) (by rfl) fun KK hKK => ?_
        go_simp; refine hKK.out _ _ (by assumption) fun hHeld => ?_; clear hKK KK; try simp only [Act.put, List.setIfInBounds_toArray, List.set]
        refine wpAnyH_done (by kernel_rfl) ?_ _
        skip
  all_goals
    have HF := hd ((HC3.out.k HN12.out.c).k hHeld)
    clear hHeld
    try go_wp2_with (fail)
    rw [HP.out]
    exact ⟨rfl, HF.out⟩
end Go.Proofs.YtbiadpkglcdihaaGreat
