/- bagatellelaw19.fit. -/
import Derived.Test.YtdmokfplkhmijaaJLike
namespace Go.Proofs.Ytdmokfplkhmijaa
open Go.RowKit

/-- In w there is a disk d at b, all of whose blocks came up behind w0; nothing of w0 has turned. -/
def DS (w0 w : World) (b : Nat) (d : Dsk) : Prop := ∃ fp, Dk w fp b d ∧ Chg [] w0 w ∧ ∀ k ∈ fp, w0.heap.size ≤ k
theorem DkOut.ds {w0 w w' : World} {fp : List Nat} {b : Nat} {d' : Dsk} (h : DkOut w fp b d' w') (hc : Chg [] w0 w) (hf : ∀ k ∈ fp, w0.heap.size ≤ k) : DS w0 w' b d' := by
  obtain ⟨fp', h1, h2, h3⟩ := h
  have hz := hc.size
  refine ⟨fp', h1, hc.trans h2 (fun x hx hl => by have := hf x hx; omega), fun k hk => ?_⟩
  rcases h3 k hk with h | h
  · exact hf k h
  · omega
theorem DS.chg {w0 w : World} {b : Nat} {d : Dsk} (h : DS w0 w b d) : Chg [] w0 w := let ⟨_, _, h, _⟩ := h; h
theorem DS.k {w0 w w' : World} {b : Nat} {d : Dsk} (h : DS w0 w b d) (hc : Chg [] w w') : DS w0 w' b d :=
  let ⟨fp, h1, h2, h3⟩ := h; ⟨fp, h1.k hc, h2.k hc, h3⟩
theorem DS.new {w w' : World} {d : Dsk} {b : Nat} {fp : List Nat} (h1 : Dk w' fp b d) (h2 : Chg [] w w') (h3 : ∀ k ∈ fp, w.heap.size ≤ k) : DS w w' b d := ⟨fp, h1, h2, h3⟩
theorem DS.same {w0 w w' : World} {fp : List Nat} {b : Nat} {d d' : Dsk} (h : Dk w' fp b d') (hw : Dk w fp b d) (hc : Chg [] w0 w) (hf : ∀ k ∈ fp, w0.heap.size ≤ k) (hb : Chg [b] w w') : DS w0 w' b d' := by
  have hz := hc.size
  refine ⟨fp, h, hc.trans hb (fun x hx hl => ?_), hf⟩
  obtain rfl : x = b := by simpa using hx
  obtain ⟨_, _, _, _, _, hp⟩ := hw
  have := hf x hp.fpb
  omega

set_option maxHeartbeats 2000000 in
theorem fit19_any (w : World) : Calls Try.prog 12 #[] w fun e w' => e = .returned (.bool true) ∧ Chg [] w w' := by
  have kc := bsConst
  have hs3 := nameD_seg 3
  have J0 := new_begin 1000 hs3 (by decide)
  have E0 := new_beginE 1000 hs3 (by decide)
  have O0 := ops_begin 1000 hs3 (by decide)
  have J1 := J0.write (frameB 1 [97]) (by rw [frameB_length]; decide)
  have O1 := ops_writeD (beginD (newD 1000) (segB 3)) (segB 3) (frameB 1 [97])
  have J2 := J1.write (frameB 2 [98, 99]) (by rw [List.length_append, frameB_length, frameB_length]; decide)
  have O2 := ops_writeD (writeD (beginD (newD 1000) (segB 3)) (segB 3) (frameB 1 [97])) (segB 3) (frameB 2 [98, 99])
  generalize hd0 : beginD (newD 1000) (segB 3) = d0 at *
  have R0 := J0.room
  generalize hd1 : writeD d0 (segB 3) (frameB 1 [97]) = d1 at *
  have R1 := J1.room
  generalize hd2 : writeD d1 (segB 3) (frameB 2 [98, 99]) = d2 at *
  have HD0 := hd hd0
  have HD1 := hd hd1
  have HD2 := hd hd2
  have HJ2 := hd J2
  have HO0 := hd O0
  have HO1 := hd O1
  have HO2 := hd O2
  have HR0 := hd R0
  have HR1 := hd R1
  clear hd0 hd1 hd2 J0 J1 J2 hs3 O0 O1 O2 R0 R1
  go_enter Try.func12, Try.ntmps12
  go_wp2_with fail
  refine (DNew_any w 1000 (by decide)).mono ?_
  rintro e w1 ⟨b, fp, rfl, hk1, hc1, hf1⟩
  go_wp2_with fail
  refine (Begin_any hk1 3 (by decide) (by decide)).mono ?_
  rintro e w2 ⟨rfl, h2⟩
  rw [HD0.out] at h2
  rw [E0]
  obtain ⟨fp2, hk2, hc2, hf2⟩ := h2.ds hc1 hf1
  clear h2 hk1 hc1 hf1
  have b1 := Bs.marked w2 [97] #[.int .u8 97] 1 rfl rfl (by decide)
  go_wp2_with fail
  have hcA := (Chg.refl [] w2).alloc (.cells #[.int .u8 97] 5 (1, 2))
  have hkA := hk2.k hcA
  refine (Write_any hkA 3 (by decide) 1 _ [97] b1 (by decide) (.inr (by rw [HR0.out]; decide)) (by rw [HO0.out]; decide)).mono ?_
  rintro e w3 ⟨rfl, h3⟩
  rw [HD1.out] at h3
  obtain ⟨fp3, hk3, hc3, hf3⟩ := h3.ds (hc2.k hcA) hf2
  clear h3 hk2 hc2 hf2 hcA hkA b1
  have b2 := Bs.marked w3 [98, 99] #[.int .u8 98, .int .u8 99] 2 rfl rfl (by decide)
  go_wp2_with fail
  have hcB := (Chg.refl [] w3).alloc (.cells #[.int .u8 98, .int .u8 99] 5 (2, 3))
  have hkB := hk3.k hcB
  refine (Write_any hkB 3 (by decide) 2 _ [98, 99] b2 (by decide) (.inr (by rw [HR1.out]; decide)) (by have := HO0.out; have := HO1.out; omega)).mono ?_
  rintro e w4 ⟨rfl, h4⟩
  rw [HD2.out] at h4
  obtain ⟨fp4, hk4, hc4, hf4⟩ := h4.ds (hc3.k hcB) hf3
  clear h4 hk3 hc3 hf3 hcB hkB b2
  have hsy := HJ2.out.syncE
  have hby := HJ2.out.bytes
  go_wp2_with fail
  refine (Scan_any hk4 3 (by decide) (by have := HO0.out; have := HO1.out; have := HO2.out; omega) (by rw [hby, List.length_append, List.length_append, frameB_length, frameB_length]; decide)).mono ?_
  rintro e w5 hsc
  obtain ⟨hk5, hc5, hsc⟩ := hsc
  have hfin := (DS.same hk5 hk4 hc4 hf4 hc5).chg
  rcases hsc with ⟨hne, -⟩ | ⟨-, v, rs, rfl, hrs, hrl⟩
  · exact absurd hsy hne
  rw [hby] at hrs ⊢
  have hcat : ([] ++ frameB 1 [97] ++ frameB 2 [98, 99] : List UInt8) = catF [(1, [97]), (2, [98, 99])] ++ [] := by simp [catF]
  rw [hcat, scanB_cat 16384 [] (nextB_nil _) [(1, [97]), (2, [98, 99])] (by intro r hr; simp at hr; rcases hr with rfl | rfl <;> decide) (by intro r hr; simp at hr; rcases hr with rfl | rfl <;> decide)] at hrs
  have hl2 : rs.length = 2 := by have := congrArg List.length hrs; simpa using this
  have hlen : recLen (rs.map bare) = ([] ++ frameB 1 [97] ++ frameB 2 [98, 99] : List UInt8).length := by
    rw [hrs, List.length_append, List.length_append, frameB_length, frameB_length]; rfl
  rw [decide_eq_true hlen]
  clear hlen hcat hk4 hk5 hc4 hc5 hf4 hsy hby
  obtain ⟨bR, capR, rfl, hat⟩ := hrl.at (by omega)
  rw [hl2]
  obtain ⟨ao, c, -, r0, r1, hb⟩ := hat 1 (by omega)
  have hbr : bare (rs[1]'(by omega)) = (2, [98, 99]) := by
    have h := congrArg (fun l => l[1]?) hrs
    simp only [List.getElem?_map] at h
    rw [List.getElem?_eq_getElem (by omega)] at h
    simpa using h
  generalize rs[1]'(by omega) = r at *
  obtain ⟨rn, rv, rp⟩ := r
  simp only [bare, Prod.mk.injEq] at hbr r0 r1 hb
  obtain ⟨rfl, rfl⟩ := hbr
  clear hat hrs hrl hl2
  go_wp2_with (refine wpStr rfl _ rfl _ _ rfl hb ?_)
  go_ret
  exact ⟨rfl, hfin⟩
end Go.Proofs.Ytdmokfplkhmijaa
