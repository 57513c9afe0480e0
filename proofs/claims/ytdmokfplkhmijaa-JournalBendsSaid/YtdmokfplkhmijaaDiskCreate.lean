/- Disk.Create. -/
import Derived.Test.YtdmokfplkhmijaaDiskB
namespace Go.Proofs.Ytdmokfplkhmijaa
open Go.RowKit

variable {w : World} {fp : List Nat} {b : Nat} {fv cv : Value} {nb sb : Nat} {hs : List HF} {d : Dsk}

/-- The row of files has grown by an empty one. -/
theorem DkP.filed {w w' : World} {fp : List Nat} {b : Nat} {fv cv : Value} {nb sb : Nat} {hs : List HF} {d : Dsk} (h : DkP w fp b fv cv nb sb hs d) {fv' : Value}
    (hgw : w.grownBy w' fv.ownBlock) (hrow : w'.ownsRow 0 94 2 fv' (hs.length + 1) (fileCells hs ++ [.slice none 0 0, .int .i64 0])) (hg : GoodD { d with files := d.files ++ [([], 0)] }) :
    DkP (w'.setCell ⟨b, 1, none⟩ fv') (fv'.ownBlock.toList ++ fp) b fv' cv nb sb (hs ++ [(.slice none 0 0, [], 0)]) { d with files := d.files ++ [([], 0)] } := by
  have hc := Chg.ofGrown hgw
  have hbox : Blk w' b (boxCells fv cv nb sb d) 85 := h.box.grown hgw (ownsRow_apart h.files h.box (by decide))
  exact
  { box := hbox.set 1 fv'
    names := (h.names.grown hgw fun e => h.names.apartRow h.files e.symm).set _ _ (h.names.apart h.box)
    sure := (h.sure.grown hgw fun e => h.sure.apartRow h.files e.symm).set _ _ (h.sure.apart h.box)
    files := by
      rw [fileCells_app, List.length_append]
      exact ownsRow_set hrow hbox (by decide) 1 _
    same := by rw [List.map_append, h.same]; rfl
    changes := ownsRow_set (ownsRow_chg h.changes hc fun k hk => by simpa using ownsRow_ne2 h.changes h.files (by decide) k hk) hbox (by decide) 1 _
    bytes := fun f hf => by
      rcases List.mem_append.1 hf with hf | hf
      · exact ownsRow_set (ownsRow_chg (h.bytes f hf) hc fun k hk => by simpa using ownsRow_ne2 (h.bytes f hf) h.files (by decide) k hk) hbox (by decide) 1 _
      · obtain rfl : f = (.slice none 0 0, [], 0) := by simpa using hf
        exact OwB.nil _ _
    apart := by
      rw [List.pairwise_append]
      refine ⟨h.apart, by simp, fun f _ g hg k _ => ?_⟩
      obtain rfl : g = (.slice none 0 0, [], 0) := by simpa using hg
      simp [Value.ownBlock]
    ne := h.ne
    fpb := by simp [h.fpb]
    fpn := by simp [h.fpn]
    fps := by simp [h.fps]
    fpf := fun k hk => by simp [hk]
    fpc := fun k hk => by simp [h.fpc k hk]
    fph := fun f hf k hk => by
      rcases List.mem_append.1 hf with hf | hf
      · simp [h.fph f hf k hk]
      · obtain rfl : f = (.slice none 0 0, [], 0) := by simpa using hf
        simp [Value.ownBlock] at hk
    fpl := fun k hk => by
      rw [size_set]
      rcases List.mem_append.1 hk with hk | hk
      · exact (World.ownsRow.lt hrow k (by simpa using hk)).2
      · exact Nat.lt_of_lt_of_le (h.fpl k hk) hc.size
    good := hg }
theorem GoodD.filed {d : Dsk} (h : GoodD d) (ho : d.ops < 1073741824) : GoodD { opD d with files := d.files ++ [([], 0)] } := by
  have ⟨a0, a1, a2, a3, a4, a5, a6, a7, a8, a9, a10⟩ := h
  refine { h.op ho with named := fun p hp => ?_, sured := fun p hp => ?_, turned := fun c hc hne => ?_, idx := fun c hc => ?_, files := fun f hf => ?_, nfiles := ?_ }
  · have := a1 p hp; simp; omega
  · have := a2 p hp; simp; omega
  · have := a3 c hc hne; simp; omega
  · have := a4 c hc; simp; omega
  · rcases List.mem_append.1 hf with hf | hf
    · exact a5 f hf
    · obtain rfl : f = ([], 0) := by simpa using hf
      exact ⟨Nat.le_refl _, by show (0 : Int) ≤ d.room; exact a0.1, by simp⟩
  · show ((d.files ++ [(([] : List UInt8), 0)]).length : Int) ≤ d.ops + 1
    simp; omega

set_option maxHeartbeats 2000000 in
theorem Create_any (h : Dk w fp b d) (s : List UInt8) (hsl : s.length ≤ 140737488355328) (hops : d.ops < 1073741824) :
    Calls Try.prog 29 #[.pointer (some ⟨b, 0, none⟩), .string (strB s)] w fun e w' => e = .returned (.int .i64 (createE d s)) ∧ DkOut w fp b (createD d s) w' := by
  obtain ⟨fv, cv, nb, sb, hs, h⟩ := h
  have hg := h.good
  obtain ⟨CE, hCE⟩ : ∃ x, createE d s = x := ⟨_, rfl⟩
  obtain ⟨CD, hCD⟩ : ∃ x, createD d s = x := ⟨_, rfl⟩
  rw [hCE, hCD]
  have HG := hd hg
  have hCE2 := hCE
  unfold createE at hCE2
  unfold createD at hCD
  rw [hCE] at hCD
  clear hCE
  go_enter Try.func29, Try.ntmps29
  go_wp2_with fail
  refine (op_any h hops).mono ?_
  rintro e w1 ⟨rfl, h1, hc1, hz1⟩
  have hcf : Chg fp w w1 := hc1.mono (by simp only [List.mem_singleton]; rintro x rfl _; exact h.fpb)
  clear hc1 hz1 h
  by_cases hE : opE d = 0
  case neg =>
    rw [if_pos hE] at hCE2
    rw [if_pos (by rw [← hCE2]; exact hE)] at hCD
    subst hCD
    subst hCE2
    have hE' : (opE d == 0) = false := by simpa using hE
    clear hE
    go_wp2_with fail
    go_ret
    exact ⟨rfl, DkOut.same ⟨_, _, _, _, _, h1⟩ hcf⟩
  rw [if_neg (by simpa using hE)] at hCE2
  have q2 := h1.box.cell 2
  simp [boxCells] at q2
  have hm : MapAt w1 nb d.names := h1.names
  rw [hE]
  clear hE
  generalize hr : nget d.names s = r at hCE2
  go_upto_region 5 with (at_lookup; refine wpLook rfl _ _ rfl nb _ s rfl rfl hm hsl ?_; rw [hr])
  clear q2 hr
  have hnl := hg.nnames
  have hfl := hg.nfiles
  have hol := hg.ops
  clear hg
  have H1 := hd h1
  have HM := hd hm
  have HCF := hd hcf
  clear h1 hm hcf
  go_wp2_with fail
  refine (name_any w1 s hsl).mono ?_
  rintro e w2 ⟨rfl, hc2⟩
  have h2 := H1.out.k hc2
  have hm2 := HM.out.k hc2
  have hcf2 := HCF.out.trans hc2 (by simp)
  clear hc2 H1 HM HCF
  have q2 := h2.box.cell 2
  simp [boxCells] at q2
  have h20 : Dk w2 fp b (opD d) := ⟨_, _, _, _, _, h2⟩
  cases hn : nameD s
  case false =>
    rw [if_pos (by simp [hn])] at hCE2
    subst hCE2
    rw [if_pos (by decide)] at hCD
    subst hCD
    have H2 := hd (DkOut.same h20 hcf2)
    clear h2 h20 hm2 hcf2 q2
    go_wp2_with fail
    go_ret
    exact ⟨rfl, H2.out⟩
  rw [if_neg (by simp [hn])] at hCE2
  cases r with
  | some i =>
    rw [if_pos (by rfl)] at hCE2
    subst hCE2
    rw [if_pos (by decide)] at hCD
    subst hCD
    have H2 := hd (DkOut.same h20 hcf2)
    clear h2 h20 hm2 hcf2 q2
    go_wp2_with fail
    go_ret
    exact ⟨rfl, H2.out⟩
  | none =>
    rw [if_neg (by decide)] at hCE2
    by_cases h64 : 64 ≤ d.names.length
    · rw [if_pos h64] at hCE2
      subst hCE2
      rw [if_pos (by decide)] at hCD
      subst hCD
      have H2 := hd (DkOut.same h20 hcf2)
      have h64' : (64 : Int) ≤ (d.names.length : Int) := by omega
      clear h2 h20 hcf2
      go_wp2_with (at_len; refine wpLenM rfl _ rfl nb _ rfl hm2 ?_)
      go_ret
      exact ⟨rfl, H2.out⟩
    · rw [if_neg h64] at hCE2
      subst hCE2
      rw [if_neg (by decide)] at hCD
      have h64' : ¬ (64 : Int) ≤ (d.names.length : Int) := by omega
      have HGF := hd (HG.out.filed hops)
      have hfl' : hs.length = d.files.length := h2.len
      have hfi : (hs.length : Int) ≤ d.ops := by omega
      have HFL := hd hfl'
      have HCD := hd hCD
      clear hfl' hCD
      go_upto_region 11 with (at_len; refine wpLenM rfl _ rfl nb _ rfl hm2 ?_)
      have q1 := h2.box.cell 1
      simp [boxCells] at q1
      have hA := (Chg.refl [] w2).alloc (.cells #[.slice none 0 0, .int .i64 0] 94)
      have hrow := ownsRow_k h2.files hA
      have hbA := (h2.box.alloc (.cells #[.slice none 0 0, .int .i64 0] 94))
      have hap := ownsRow_apart hrow hbA (by decide)
      have H2 := hd h2
      have HCF2 := hd hcf2
      have HM2 := hd hm2
      clear h2 hcf2 hm2 h20 q2
      go_upto_region 12 with (at_builtin; refine wpApp rowFile rfl _ _ rfl 0 fv hs.length (fileCells hs) rfl hrow _ 1 [.slice none 0 0, .int .i64 0] rfl (Rd.lit w2 2 1 _ _ _ rfl rfl (by decide)) (by simp [Value.oneCell']) (by omega) (by omega) (Nat.zero_le _) ?_; intro ao3 c3 w3 hr3 hg3 hm3 _; have hb3 := hbA.grown hg3 hap; have q3 := hb3.cell 1; have f3 := hb3.free 1; simp [boxCells] at q3)
      have HD4 := hd (DkP.filed (H2.out.k hA) hg3 hr3 HGF.out)
      have hcf4 : Chg fp w (w3.setCell ⟨b, 1, none⟩ (.slice ao3 (hs.length + 1) c3)) := (((HCF2.out.trans hA (by simp))).grown hg3 (fun k hk _ => H2.out.fpf k hk)).setCell _ _ (fun _ => H2.out.fpb)
      have hgr : Gr fp w ((Value.slice ao3 (hs.length + 1) c3).ownBlock.toList ++ fp) := (Gr.refl fp w).trans (Gr.cons hm3 H2.out.fpf) (HCF2.out.trans hA (by simp)).size
      have HCF4 := hd hcf4
      have HGR := hd hgr
      clear hcf4 hgr hr3 hg3 hm3 hb3 f3 q3 hA hrow hbA hap q1 HCF2 HM2 H2
      generalize w3.setCell ⟨b, 1, none⟩ (.slice ao3 (hs.length + 1) c3) = w4 at *
      have q1 := HD4.out.box.cell 1
      simp [boxCells] at q1
      have hx1 : (hs.length : Int) = (d.files.length : Int) := by rw [HFL.out]
      go_wp2_with fail
      refine (change_any HD4.out [] s d.files.length (by simp) hsl (by simp [opD]) (by simp [opD]) (by show (d.names.length : Int) + 1 ≤ d.ops + 1; omega) (by show (d.sure.length + d.changes.length : Int) + 1 ≤ d.ops + 1; have := HG.out.nchanges; omega)).mono ?_
      rintro e w5 ⟨rfl, h5⟩
      have H5 := hd (h5.chain HCF4.out HGR.out)
      clear h5
      go_wp2_with fail
      go_ret
      exact ⟨rfl, by rw [← HCD.out]; exact H5.out⟩
end Go.Proofs.Ytdmokfplkhmijaa
