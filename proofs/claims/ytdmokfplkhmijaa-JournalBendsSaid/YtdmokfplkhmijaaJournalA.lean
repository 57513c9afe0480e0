/- journal.Begin. -/
import Derived.Test.YtdmokfplkhmijaaDiskAppend
import Derived.Test.YtdmokfplkhmijaaDiskCreate
import Derived.Test.YtdmokfplkhmijaaNameW
import Derived.Test.YtdmokfplkhmijaaFirst
import Derived.Test.YtdmokfplkhmijaaFrameB
import Derived.Test.YtdmokfplkhmijaaFrameAll
namespace Go.Proofs.Ytdmokfplkhmijaa
open Go.RowKit

variable {w w' : World} {fp : List Nat} {b : Nat} {d : Dsk}

theorem DkOut.chg {w w' : World} {fp : List Nat} {b : Nat} {d : Dsk} (h : DkOut w fp b d w') : Chg fp w w' := let ⟨_, _, h, _⟩ := h; h
theorem Dk.fpl {w : World} {fp : List Nat} {b : Nat} {d : Dsk} (h : Dk w fp b d) : ∀ k ∈ fp, k < w.heap.size := let ⟨_, _, _, _, _, h⟩ := h; h.fpl
theorem segB_length (n : Nat) : (segB n).length = 17 := hexS_length _ _ _
theorem GoodD.create {d : Dsk} (_ : GoodD d) (s : List UInt8) : (createD d s).ops = d.ops + 1 := by
  unfold createD; split <;> rfl

set_option maxHeartbeats 1000000 in
theorem begin1_any (h : Dk w fp b d) (seq : Nat) (hseq : seq ≤ 4611686018427387904) (hops : d.ops < 1073741824) (p q : Addr) (hp : w.cell? p = some (.pointer (some ⟨b, 0, none⟩))) (hq : w.cell? q = some (.int .i64 (seq : Int))) (hpf : p.block ∉ fp) (hqf : q.block ∉ fp) :
    Calls Try.prog 46 #[.pointer (some p), .pointer (some q)] w fun e w' => e = .returned (.int .i64 (createE d (segB seq))) ∧ DkOut w fp b (createD d (segB seq)) w' := by
  have H := hd h
  have Q0 := hd hp
  have Q1 := hd hq
  clear h hp hq
  go_enter Try.func46, Try.ntmps46
  go_upto_region 1 with (fail)
  refine anyH_start (n := 5) (L := #[false, false, false, false, false]) (by kernel_rfl) (by kernel_rfl) (S := (fun wx => Chg fp w wx)) ((Chg.refl _ _).drew) (fun hHeld => ?_)
  refine anyH_take (i := 0) (d := 3) (L' := #[true, false, false, false, false]) (v := ?v2) rfl rfl (by kernel_rfl) (fun _ _ _ h => h) (by rfl) ?hy2 (by assumption) ?rest2
  case hy2 => (intro wx hSw; (try dsimp only at hSw); (have t0 := hSw.cellT Q0.out hpf; have t1 := hSw.cellT Q1.out hqf); go_simp; (try with_reducible rfl))
  simp only [Act.put, List.setIfInBounds_toArray, List.set_cons_zero, List.set_cons_succ]
  refine anyH_take (i := 1) (d := 4) (L' := #[true, true, false, false, false]) (v := ?v3) rfl rfl (by kernel_rfl) (fun _ _ _ h => h) (by rfl) ?hy3 (by assumption) ?rest3
  case hy3 => (intro wx hSw; (try dsimp only at hSw); (have t0 := hSw.cellT Q0.out hpf; have t1 := hSw.cellT Q1.out hqf); go_simp; (try with_reducible rfl))
  simp only [Act.put, List.setIfInBounds_toArray, List.set_cons_zero, List.set_cons_succ]
  refine anyH_run (i := 2) (L' := #[true, true, true, false, false]) rfl (by kernel_rfl) (by rfl) (fun KK hKK => ?_)
  go_simp
  (refine (Segment_any _ seq hseq).mono ?_; rintro e w2 ⟨rfl, hc2⟩; have hc0 := (Chg.refl [] w).drew.k hc2; have hcf : Chg fp w w2 := hc0.mono (by simp); clear hc2; (try go_simp))
  refine hKK.out _ _ (by assumption) (fun hHeld => ?_)
  clear hKK KK
  try simp only [Act.put, List.setIfInBounds_toArray, List.set_cons_zero, List.set_cons_succ]
  refine anyH_run (i := 3) (L' := #[true, true, true, true, false]) rfl (by kernel_rfl) (by rfl) (fun KK hKK => ?_)
  go_simp
  (refine (Create_any (H.out.k hc0) (segB seq) (by rw [segB_length]; decide) hops).mono ?_; rintro e w3 ⟨rfl, h3⟩; have H3 := hd (h3.after hcf); have hcf3 : Chg fp w w3 := H3.out.chg; clear h3 hc0; (try go_simp))
  refine hKK.out _ _ (by assumption) (fun hHeld => ?_)
  clear hKK KK
  try simp only [Act.put, List.setIfInBounds_toArray, List.set_cons_zero, List.set_cons_succ]
  refine anyH_run (i := 4) (L' := #[true, true, true, true, true]) rfl (by kernel_rfl) (by rfl) (fun KK hKK => ?_)
  go_simp
  (skip)
  refine hKK.out _ _ (by assumption) (fun hHeld => ?_)
  clear hKK KK
  try simp only [Act.put, List.setIfInBounds_toArray, List.set_cons_zero, List.set_cons_succ]
  refine wpAnyH_done (by kernel_rfl) ?_ _
  go_wp2_with fail
  go_ret
  exact ⟨rfl, H3.out⟩

def beginE (d : Dsk) (s : List UInt8) : Int := if createE d s = 0 then opE (createD d s) else createE d s
def beginD (d : Dsk) (s : List UInt8) : Dsk := if createE d s = 0 then dirSyncD (createD d s) else createD d s

set_option maxHeartbeats 1000000 in
theorem Begin_any (h : Dk w fp b d) (seq : Nat) (hseq : seq ≤ 4611686018427387904) (hops : d.ops < 1073741000) :
    Calls Try.prog 15 #[.pointer (some ⟨b, 0, none⟩), .int .i64 (seq : Int)] w fun e w' => e = .returned (.int .i64 (beginE d (segB seq))) ∧ DkOut w fp b (beginD d (segB seq)) w' := by
  have hfl := h.fpl
  have H := hd h
  have HFL := hd hfl
  clear h hfl
  go_enter Try.func15, Try.ntmps15
  go_wp2_with fail
  have hA := (((Chg.refl [] w).alloc (.cells #[.pointer (some ⟨b, 0, none⟩)] 26)).alloc (.cells #[.int .i64 (seq : Int)] 3))
  have hk1 := (Blk.new w #[.pointer (some ⟨b, 0, none⟩)] 26).alloc (.cells #[.int .i64 (seq : Int)] 3)
  have hk2 := Blk.new (w.alloc (.cells #[.pointer (some ⟨b, 0, none⟩)] 26)) #[.int .i64 (seq : Int)] 3
  have e1 : (w.alloc (.cells #[.pointer (some ⟨b, 0, none⟩)] 26)).heap.size = w.heap.size + 1 := by simp
  rw [e1] at hk2
  have e2 : ((w.alloc (.cells #[.pointer (some ⟨b, 0, none⟩)] 26)).alloc (.cells #[.int .i64 (seq : Int)] 3)).heap.size = w.heap.size + 1 + 1 := by simp
  generalize (w.alloc (.cells #[.pointer (some ⟨b, 0, none⟩)] 26)).alloc (.cells #[.int .i64 (seq : Int)] 3) = wA at *
  have hA3 := hA.alloc (.cells #[.func (.func 46) #[] #[.pointer (some ⟨w.heap.size, 0, none⟩), .pointer (some ⟨w.heap.size + 1, 0, none⟩)], .func (.func 36) #[.pointer (some ⟨b, 0, none⟩)] #[]] 60)
  have hk3 := Blk.new wA #[.func (.func 46) #[] #[.pointer (some ⟨w.heap.size, 0, none⟩), .pointer (some ⟨w.heap.size + 1, 0, none⟩)], .func (.func 36) #[.pointer (some ⟨b, 0, none⟩)] #[]] 60
  replace hk1 := hk1.alloc (.cells #[.func (.func 46) #[] #[.pointer (some ⟨w.heap.size, 0, none⟩), .pointer (some ⟨w.heap.size + 1, 0, none⟩)], .func (.func 36) #[.pointer (some ⟨b, 0, none⟩)] #[]] 60)
  replace hk2 := hk2.alloc (.cells #[.func (.func 46) #[] #[.pointer (some ⟨w.heap.size, 0, none⟩), .pointer (some ⟨w.heap.size + 1, 0, none⟩)], .func (.func 36) #[.pointer (some ⟨b, 0, none⟩)] #[]] 60)
  rw [e2] at hk3
  generalize wA.alloc (.cells #[.func (.func 46) #[] #[.pointer (some ⟨w.heap.size, 0, none⟩), .pointer (some ⟨w.heap.size + 1, 0, none⟩)], .func (.func 36) #[.pointer (some ⟨b, 0, none⟩)] #[]] 60) = wB at *
  have hBf : Chg fp w wB := hA3.mono (by simp)
  have n0 : w.heap.size ∉ fp := fun h => by have := HFL.out _ h; omega
  have n1 : w.heap.size + 1 ∉ fp := fun h => by have := HFL.out _ h; omega
  have n2 : w.heap.size + 1 + 1 ∉ fp := fun h => by have := HFL.out _ h; omega
  have q0 := hk1.cell 0
  have q1 := hk2.cell 0
  have q2 := hk3.cell 0
  have q3 := hk3.cell 1
  simp at q0 q1 q2 q3
  have Q3 := hd q3
  refine (firstB_any wB (w.heap.size + 1 + 1) ⟨w.heap.size, 0, none⟩ ⟨w.heap.size + 1, 0, none⟩ ⟨b, 0, none⟩ q2 (fun w1 => createE d (segB seq) = 0 ∧ DkOut w fp b (createD d (segB seq)) w1)
    (fun e w' => e = .returned (.int .i64 (beginE d (segB seq))) ∧ DkOut w fp b (beginD d (segB seq)) w') ?_ ?_).mono ?_
  · refine (begin1_any (H.out.k hA3) seq hseq (by omega) _ _ q0 q1 n0 n1).mono ?_
    rintro e w1 ⟨rfl, h1⟩
    refine ⟨_, rfl, ?_⟩
    by_cases hz : createE d (segB seq) = 0
    · exact .inr ⟨hz, ⟨hz, h1.after hBf⟩, h1.chg.cellT Q3.out n2⟩
    · exact .inl ⟨hz, by unfold beginE; rw [if_neg hz], by unfold beginD; rw [if_neg hz]; exact h1.after hBf⟩
  · rintro w1 ⟨hz, fp1, hdk, hch, hgr⟩
    refine (DirSync_any hdk (by rw [GoodD.create H.out.good]; omega)).mono ?_
    rintro e w2 ⟨rfl, h2⟩
    exact ⟨_, rfl, by unfold beginE; rw [if_pos hz], by unfold beginD; rw [if_pos hz]; exact h2.chain hch hgr⟩
  · rintro e w1 ⟨rfl, h1⟩
    have H1 := hd h1
    clear h1 q0 q1 q2 q3 hk1 hk2 hk3 hA hA3 hBf n0 n1 n2
    go_wp2_with fail
    go_ret
    exact ⟨rfl, H1.out⟩
end Go.Proofs.Ytdmokfplkhmijaa

/- journal.Write. -/
namespace Go.Proofs.Ytdmokfplkhmijaa
open Go.RowKit

variable {w w' : World} {fp : List Nat} {b : Nat} {d : Dsk}

def RoomFor (d : Dsk) (s : List UInt8) (n : Nat) : Prop := (bytesD d s).length + n ≤ 4294967296 ∨ d.room ≤ 4294967296
theorem ops_append (d : Dsk) (s l : List UInt8) : (appendD d s l).ops = d.ops + 1 := by
  unfold appendD; split
  · rfl
  · split <;> rfl
theorem ops_sync (d : Dsk) (s : List UInt8) : (syncD d s).ops = d.ops + 1 := by
  unfold syncD; split
  · rfl
  · split <;> rfl

set_option maxHeartbeats 1000000 in
theorem write1_any (h : Dk w fp b d) (sg : List UInt8) (hsg : sg.length ≤ 140737488355328) (no : Int) (v : Value) (l : List UInt8) (hl : Bs w v l) (hll : l.length ≤ 4294967000) (hroom : RoomFor d sg (l.length + 20)) (hops : d.ops < 1073741824) (p q r s : Addr)
    (hp : w.cell? p = some (.pointer (some ⟨b, 0, none⟩))) (hq : w.cell? q = some (.string (strB sg))) (hr : w.cell? r = some (.int .i64 no)) (hs : w.cell? s = some v)
    (hpf : p.block ∉ fp) (hqf : q.block ∉ fp) (hrf : r.block ∉ fp) (hsf : s.block ∉ fp) :
    Calls Try.prog 47 #[.pointer (some p), .pointer (some q), .pointer (some r), .pointer (some s)] w fun e w' => e = .returned (.int .i64 (appendE d sg (frameB no l))) ∧ DkOut w fp b (appendD d sg (frameB no l)) w' := by
  have H := hd h
  have HL := hd hl
  obtain ⟨ao, cap, bv, off, rfl, -⟩ := hl.open
  have Q0 := hd hp
  have Q1 := hd hq
  have Q2 := hd hr
  have Q3 := hd hs
  have HFL := hd h.fpl
  clear h hp hq hr hs hl
  go_enter Try.func47, Try.ntmps47
  go_upto_region 1 with (fail)
  refine anyH_start (n := 7) (L := #[false, false, false, false, false, false, false]) (by kernel_rfl) (by kernel_rfl) (S := (fun wx => Chg fp w wx)) ((Chg.refl _ _).drew) (fun hHeld => ?_)
  refine anyH_take (i := 0) (d := 5) (L' := #[true, false, false, false, false, false, false]) (v := ?v2) rfl rfl (by kernel_rfl) (fun _ _ _ h => h) (by rfl) ?hy2 (by assumption) ?rest2
  case hy2 => (intro wx hSw; (try dsimp only at hSw); (have t0 := hSw.cellT Q0.out hpf; have t1 := hSw.cellT Q1.out hqf; have t2 := hSw.cellT Q2.out hrf; have t3 := hSw.cellT Q3.out hsf); go_simp; (try with_reducible rfl))
  simp only [Act.put, List.setIfInBounds_toArray, List.set_cons_zero, List.set_cons_succ]
  refine anyH_take (i := 1) (d := 6) (L' := #[true, true, false, false, false, false, false]) (v := ?v3) rfl rfl (by kernel_rfl) (fun _ _ _ h => h) (by rfl) ?hy3 (by assumption) ?rest3
  case hy3 => (intro wx hSw; (try dsimp only at hSw); (have t0 := hSw.cellT Q0.out hpf; have t1 := hSw.cellT Q1.out hqf; have t2 := hSw.cellT Q2.out hrf; have t3 := hSw.cellT Q3.out hsf); go_simp; (try with_reducible rfl))
  simp only [Act.put, List.setIfInBounds_toArray, List.set_cons_zero, List.set_cons_succ]
  refine anyH_take (i := 2) (d := 7) (L' := #[true, true, true, false, false, false, false]) (v := ?v4) rfl rfl (by kernel_rfl) (fun _ _ _ h => h) (by rfl) ?hy4 (by assumption) ?rest4
  case hy4 => (intro wx hSw; (try dsimp only at hSw); (have t0 := hSw.cellT Q0.out hpf; have t1 := hSw.cellT Q1.out hqf; have t2 := hSw.cellT Q2.out hrf; have t3 := hSw.cellT Q3.out hsf); go_simp; (try with_reducible rfl))
  simp only [Act.put, List.setIfInBounds_toArray, List.set_cons_zero, List.set_cons_succ]
  refine anyH_take (i := 3) (d := 8) (L' := #[true, true, true, true, false, false, false]) (v := ?v5) rfl rfl (by kernel_rfl) (fun _ _ _ h => h) (by rfl) ?hy5 (by assumption) ?rest5
  case hy5 => (intro wx hSw; (try dsimp only at hSw); (have t0 := hSw.cellT Q0.out hpf; have t1 := hSw.cellT Q1.out hqf; have t2 := hSw.cellT Q2.out hrf; have t3 := hSw.cellT Q3.out hsf); go_simp; (try with_reducible rfl))
  simp only [Act.put, List.setIfInBounds_toArray, List.set_cons_zero, List.set_cons_succ]
  refine anyH_run (i := 4) (L' := #[true, true, true, true, true, false, false]) rfl (by kernel_rfl) (by rfl) (fun KK hKK => ?_)
  go_simp
  (refine (FBytes_any no _ l _ (HL.out.k (Chg.refl [] w).drew) (by omega)).mono ?_; rintro e w2 ⟨ao2, c2, rfl, hb2, hc2⟩; have hc0 := (Chg.refl [] w).drew.k hc2; have hcf : Chg fp w w2 := hc0.mono (by simp); clear hc2; (try go_simp))
  refine hKK.out _ _ (by assumption) (fun hHeld => ?_)
  clear hKK KK
  try simp only [Act.put, List.setIfInBounds_toArray, List.set_cons_zero, List.set_cons_succ]
  refine anyH_run (i := 5) (L' := #[true, true, true, true, true, true, false]) rfl (by kernel_rfl) (by rfl) (fun KK hKK => ?_)
  go_simp
  (refine (Append_any (H.out.k hc0) sg hsg hops _ (frameB no l) hb2.bs (by rw [frameB_length]; omega) (fun k hk hf => by have h1 := (hb2.lo k hk).1; have h2 := HFL.out k hf; simp at h1; omega) (by rw [frameB_length]; exact hroom)).mono ?_; rintro e w3 ⟨rfl, h3⟩; have H3 := hd (h3.after hcf); have hcf3 : Chg fp w w3 := H3.out.chg; clear h3 hc0 hb2; (try go_simp))
  refine hKK.out _ _ (by assumption) (fun hHeld => ?_)
  clear hKK KK
  try simp only [Act.put, List.setIfInBounds_toArray, List.set_cons_zero, List.set_cons_succ]
  refine anyH_run (i := 6) (L' := #[true, true, true, true, true, true, true]) rfl (by kernel_rfl) (by rfl) (fun KK hKK => ?_)
  go_simp
  (skip)
  refine hKK.out _ _ (by assumption) (fun hHeld => ?_)
  clear hKK KK
  try simp only [Act.put, List.setIfInBounds_toArray, List.set_cons_zero, List.set_cons_succ]
  refine wpAnyH_done (by kernel_rfl) ?_ _
  go_wp2_with fail
  go_ret
  exact ⟨rfl, H3.out⟩
theorem write2_any (h : Dk w fp b d) (sg : List UInt8) (hsg : sg.length ≤ 140737488355328) (hops : d.ops < 1073741824) (p q : Addr)
    (hp : w.cell? p = some (.pointer (some ⟨b, 0, none⟩))) (hq : w.cell? q = some (.string (strB sg))) :
    Calls Try.prog 49 #[.pointer (some p), .pointer (some q)] w fun e w' => e = .returned (.int .i64 (syncE d sg)) ∧ DkOut w fp b (syncD d sg) w' := by
  have hsy := Sync_any h sg hsg hops
  clear h
  go_enter Try.func49, Try.ntmps49
  go_wp2_with fail
  refine (hsy).mono ?_
  rintro e w2 ⟨rfl, h2⟩
  have H2 := hd h2
  clear h2 hsy hp hq
  go_wp2_with fail
  go_ret
  exact ⟨rfl, H2.out⟩

def writeE (d : Dsk) (s : List UInt8) (l : List UInt8) : Int := if appendE d s l = 0 then syncE (appendD d s l) s else appendE d s l
def writeD (d : Dsk) (s : List UInt8) (l : List UInt8) : Dsk := if appendE d s l = 0 then syncD (appendD d s l) s else appendD d s l

set_option maxHeartbeats 1000000 in
theorem Write_any (h : Dk w fp b d) (seq : Nat) (hseq : seq ≤ 4611686018427387904) (no : Int) (v : Value) (l : List UInt8) (hl : Bs w v l) (hll : l.length ≤ 4294967000) (hroom : RoomFor d (segB seq) (l.length + 20)) (hops : d.ops < 1073741000) :
    Calls Try.prog 16 #[.pointer (some ⟨b, 0, none⟩), .int .i64 (seq : Int), .int .i64 no, v] w fun e w' => e = .returned (.int .i64 (writeE d (segB seq) (frameB no l))) ∧ DkOut w fp b (writeD d (segB seq) (frameB no l)) w' := by
  have HFL := hd h.fpl
  have H := hd h
  have HL := hd hl
  obtain ⟨ao, cap, bv, off, rfl, -⟩ := hl.open
  have hlen17 : (segB seq).length ≤ 140737488355328 := by rw [segB_length]; decide
  clear h hl
  go_enter Try.func16, Try.ntmps16
  go_upto_region 1 with (fail)
  have hA := (((Chg.refl [] w).alloc (.cells #[.pointer (some ⟨b, 0, none⟩)] 26)).alloc (.cells #[.int .i64 no] 3)).alloc (.cells #[.slice ao l.length cap] 30)
  have hk1 := ((Blk.new w #[.pointer (some ⟨b, 0, none⟩)] 26).alloc (.cells #[.int .i64 no] 3)).alloc (.cells #[.slice ao l.length cap] 30)
  have hk2 := (Blk.new (w.alloc (.cells #[.pointer (some ⟨b, 0, none⟩)] 26)) #[.int .i64 no] 3).alloc (.cells #[.slice ao l.length cap] 30)
  have hk3 := Blk.new ((w.alloc (.cells #[.pointer (some ⟨b, 0, none⟩)] 26)).alloc (.cells #[.int .i64 no] 3)) #[.slice ao l.length cap] 30
  have e1 : (w.alloc (.cells #[.pointer (some ⟨b, 0, none⟩)] 26)).heap.size = w.heap.size + 1 := by simp
  have e2 : ((w.alloc (.cells #[.pointer (some ⟨b, 0, none⟩)] 26)).alloc (.cells #[.int .i64 no] 3)).heap.size = w.heap.size + 1 + 1 := by simp
  rw [e1] at hk2
  rw [e2] at hk3
  clear e1 e2
  generalize ((w.alloc (.cells #[.pointer (some ⟨b, 0, none⟩)] 26)).alloc (.cells #[.int .i64 no] 3)).alloc (.cells #[.slice ao l.length cap] 30) = wA at *
  go_wp2_with fail
  refine (Segment_any wA seq hseq).mono ?_
  rintro e wS ⟨rfl, hcS⟩
  replace hA := hA.k hcS
  replace hk1 := hk1.k hcS
  replace hk2 := hk2.k hcS
  replace hk3 := hk3.k hcS
  clear hcS
  go_upto_region 2 with (fail)
  have hkS := Blk.new wS #[.string (strB (segB seq))] 9
  have hcS := (Chg.refl [] wS).alloc (.cells #[.string (strB (segB seq))] 9)
  have eS : (wS.alloc (.cells #[.string (strB (segB seq))] 9)).heap.size = wS.heap.size + 1 := by simp
  have hzS := hA.size
  replace hA := hA.k hcS
  replace hk1 := hk1.k hcS
  replace hk2 := hk2.k hcS
  replace hk3 := hk3.k hcS
  clear hcS
  generalize wS.alloc (.cells #[.string (strB (segB seq))] 9) = wB at *
  go_wp2_with fail
  have hkF := Blk.new wB #[.func (.func 47) #[] #[.pointer (some ⟨w.heap.size, 0, none⟩), .pointer (some ⟨wS.heap.size, 0, none⟩), .pointer (some ⟨w.heap.size + 1, 0, none⟩), .pointer (some ⟨w.heap.size + 1 + 1, 0, none⟩)], .func (.func 49) #[] #[.pointer (some ⟨w.heap.size, 0, none⟩), .pointer (some ⟨wS.heap.size, 0, none⟩)]] 60
  have hcF := (Chg.refl [] wB).alloc (.cells #[.func (.func 47) #[] #[.pointer (some ⟨w.heap.size, 0, none⟩), .pointer (some ⟨wS.heap.size, 0, none⟩), .pointer (some ⟨w.heap.size + 1, 0, none⟩), .pointer (some ⟨w.heap.size + 1 + 1, 0, none⟩)], .func (.func 49) #[] #[.pointer (some ⟨w.heap.size, 0, none⟩), .pointer (some ⟨wS.heap.size, 0, none⟩)]] 60)
  replace hA := hA.k hcF
  replace hk1 := hk1.k hcF
  replace hk2 := hk2.k hcF
  replace hk3 := hk3.k hcF
  replace hkS := hkS.k hcF
  clear hcF
  rw [eS] at hkF
  generalize wB.alloc (.cells #[.func (.func 47) #[] #[.pointer (some ⟨w.heap.size, 0, none⟩), .pointer (some ⟨wS.heap.size, 0, none⟩), .pointer (some ⟨w.heap.size + 1, 0, none⟩), .pointer (some ⟨w.heap.size + 1 + 1, 0, none⟩)], .func (.func 49) #[] #[.pointer (some ⟨w.heap.size, 0, none⟩), .pointer (some ⟨wS.heap.size, 0, none⟩)]] 60) = wC at *
  have hCf : Chg fp w wC := hA.mono (by simp)
  have n0 : w.heap.size ∉ fp := fun h => by have := HFL.out _ h; omega
  have n1 : w.heap.size + 1 ∉ fp := fun h => by have := HFL.out _ h; omega
  have n2 : w.heap.size + 1 + 1 ∉ fp := fun h => by have := HFL.out _ h; omega
  have n3 : wS.heap.size ∉ fp := fun h => by have := HFL.out _ h; omega
  have n4 : wS.heap.size + 1 ∉ fp := fun h => by have := HFL.out _ h; omega
  have q0 := hk1.cell 0
  have q1 := hkS.cell 0
  have q2 := hk2.cell 0
  have q3 := hk3.cell 0
  have q4 := hkF.cell 0
  have q5 := hkF.cell 1
  simp at q0 q1 q2 q3 q4 q5
  have Q0 := hd q0
  have Q1 := hd q1
  have Q5 := hd q5
  refine (firstW_any wC (wS.heap.size + 1) ⟨w.heap.size, 0, none⟩ ⟨wS.heap.size, 0, none⟩ ⟨w.heap.size + 1, 0, none⟩ ⟨w.heap.size + 1 + 1, 0, none⟩ q4
    (fun w1 => appendE d (segB seq) (frameB no l) = 0 ∧ DkOut w fp b (appendD d (segB seq) (frameB no l)) w1 ∧ w1.cell? ⟨w.heap.size, 0, none⟩ = some (.pointer (some ⟨b, 0, none⟩)) ∧ w1.cell? ⟨wS.heap.size, 0, none⟩ = some (.string (strB (segB seq))))
    (fun e w' => e = .returned (.int .i64 (writeE d (segB seq) (frameB no l))) ∧ DkOut w fp b (writeD d (segB seq) (frameB no l)) w') ?_ ?_).mono ?_
  · have hw1 := write1_any (H.out.k hA) (segB seq) hlen17 no (.slice ao l.length cap) l (HL.out.k hA) hll hroom (by omega) ⟨w.heap.size, 0, none⟩ ⟨wS.heap.size, 0, none⟩ ⟨w.heap.size + 1, 0, none⟩ ⟨w.heap.size + 1 + 1, 0, none⟩ q0 q1 q2 q3 n0 n3 n1 n2
    refine hw1.mono ?_
    rintro e w1 ⟨rfl, h1⟩
    refine ⟨_, rfl, ?_⟩
    by_cases hz : appendE d (segB seq) (frameB no l) = 0
    · exact .inr ⟨hz, ⟨hz, h1.after hCf, h1.chg.cellT Q0.out n0, h1.chg.cellT Q1.out n3⟩, h1.chg.cellT Q5.out n4⟩
    · exact .inl ⟨hz, by unfold writeE; rw [if_neg hz], by unfold writeD; rw [if_neg hz]; exact h1.after hCf⟩
  · rintro w1 ⟨hz, ⟨fp1, hdk, hch, hgr⟩, c0, c1⟩
    refine (write2_any hdk (segB seq) hlen17 (by rw [ops_append]; omega) _ _ c0 c1).mono ?_
    rintro e w2 ⟨rfl, h2⟩
    exact ⟨_, rfl, by unfold writeE; rw [if_pos hz], by unfold writeD; rw [if_pos hz]; exact h2.chain hch hgr⟩
  · rintro e w1 ⟨rfl, h1⟩
    have H1 := hd h1
    clear h1 q0 q1 q2 q3 q4 q5 hk1 hk2 hk3 hkS hkF hA hCf n0 n1 n2 n3 n4
    go_wp2_with fail
    go_ret
    exact ⟨rfl, H1.out⟩
end Go.Proofs.Ytdmokfplkhmijaa

/- journal.Scan. -/
namespace Go.Proofs.Ytdmokfplkhmijaa
open Go.RowKit

variable {w w' : World} {fp : List Nat} {b : Nat} {d : Dsk}

theorem RecL.mono {w : World} {base base' : Nat} {v : Value} {rs : List RecV} (h : RecL w base v rs) (hb : base' ≤ base) : RecL w base' v rs :=
  ⟨ownsRow_mono h.1 hb, fun r hr => ⟨(h.2 r hr).1.mono hb, (h.2 r hr).2⟩⟩
def ScanOut (w : World) (fp : List Nat) (b : Nat) (d : Dsk) (s : List UInt8) (e : Ending) (w' : World) : Prop :=
  Dk w' fp b (opD d) ∧ Chg [b] w w' ∧
    ((syncE d s ≠ 0 ∧ e = .returned (.tuple #[.slice none 0 0, .bool false, .int .i64 (syncE d s)])) ∨
     (syncE d s = 0 ∧ ∃ v rs, e = .returned (.tuple #[v, .bool (decide (recLen (rs.map bare) = (bytesD d s).length)), .int .i64 0]) ∧ rs.map bare = scanB 16384 (bytesD d s) ∧ RecL w' w.heap.size v rs))

set_option maxHeartbeats 1000000 in
theorem Scan_any (h : Dk w fp b d) (seq : Nat) (hseq : seq ≤ 4611686018427387904) (hops : d.ops < 1073741000) (hlen : (bytesD d (segB seq)).length ≤ 4000000000000) :
    Calls Try.prog 23 #[.pointer (some ⟨b, 0, none⟩), .int .i64 (seq : Int)] w (ScanOut w fp b d (segB seq)) := by
  have H := hd h
  have h17 : (segB seq).length ≤ 140737488355328 := by rw [segB_length]; decide
  clear h
  obtain ⟨CE, hCE⟩ : ∃ x, syncE d (segB seq) = x := ⟨_, rfl⟩
  obtain ⟨L, hL⟩ : ∃ x, bytesD d (segB seq) = x := ⟨_, rfl⟩
  have hbad : ∀ (e : Ending) (w' : World), CE ≠ 0 → Dk w' fp b (opD d) → Chg [b] w w' → e = .returned (.tuple #[.slice none 0 0, .bool false, .int .i64 CE]) → ScanOut w fp b d (segB seq) e w' := by
    intro e w' hne h1 h2 he
    unfold ScanOut
    rw [hCE]
    exact ⟨h1, h2, .inl ⟨hne, he⟩⟩
  have hgood : ∀ (e : Ending) (w' : World), CE = 0 → Dk w' fp b (opD d) → Chg [b] w w' → ∀ v rs, rs.map bare = scanB 16384 L → RecL w' w.heap.size v rs → e = .returned (.tuple #[v, .bool (decide (recLen (rs.map bare) = L.length)), .int .i64 0]) → ScanOut w fp b d (segB seq) e w' := by
    intro e w' hz h1 h2 v rs h3 h4 he
    unfold ScanOut
    rw [hCE, hL]
    exact ⟨h1, h2, .inr ⟨hz, v, rs, he, h3, h4⟩⟩
  rw [hL] at hlen
  have HBAD := hd hbad
  have HGOOD := hd hgood
  clear hbad hgood
  go_enter Try.func23, Try.ntmps23
  go_wp2_with fail
  refine (Segment_any w seq hseq).mono ?_
  rintro e w1 ⟨rfl, hc1⟩
  have hz1 := hc1.size
  go_wp2_with fail
  refine (Read_any (H.out.k hc1) (segB seq) h17 (by omega)).mono ?_
  rintro e w2 ⟨ao, n, c, rfl, hb2, hd2, hc2⟩
  rw [hCE, hL] at hb2
  rw [hCE]
  have hcw := (hc1.mono (S' := [b]) (by simp)).trans hc2 (by simp)
  have H2 := hd hd2
  have HC := hd hcw
  have hz2 := hc2.size
  clear hd2 hc1 hc2 hcw hCE hL
  by_cases hz : CE = 0
  case neg =>
    have hz' : (CE == 0) = false := by simpa using hz
    have HZ := hd hz
    clear hz hb2
    go_wp2_with fail
    refine bodyPost_ret (v := .tuple #[.slice none 0 0, .bool false, .int .i64 CE]) ?_ rfl ?_
    · simp only [results]; go_simp
    · exact HBAD.out _ _ HZ.out H2.out HC.out rfl
  rw [if_pos hz] at hb2
  subst hz
  obtain ⟨ao', c', e⟩ := hb2.form
  simp only [Value.slice.injEq] at e
  obtain ⟨rfl, rfl, rfl⟩ := e
  have hbs := hb2.bs
  clear hb2
  go_wp2_with fail
  refine (All_any ao c L 16384 w2 hbs (by omega)).mono ?_
  rintro e w3 ⟨v, rs, rfl, hrs, hrl, hc3⟩
  have H3 := hd (H2.out.k hc3)
  have HC3 := hd (HC.out.trans hc3 (by simp))
  have HRL := hd (hrl.mono (show w.heap.size ≤ w2.heap.size by omega))
  have HRS := hd hrs
  clear hrl hc3 hrs hbs
  by_cases hq : recLen (rs.map bare) = L.length
  · have hq' : ((recLen (rs.map bare) : Nat) : Int) = (L.length : Int) := by rw [hq]
    have HQ := hd hq
    clear hq
    go_wp2_with fail
    refine bodyPost_ret (v := .tuple #[v, .bool true, .int .i64 0]) ?_ rfl ?_
    · simp only [results]; go_simp
    · exact HGOOD.out _ _ (by trivial) H3.out HC3.out v rs HRS.out HRL.out (by rw [HQ.out]; simp)
  · have hq' : (((recLen (rs.map bare) : Nat) : Int) == (L.length : Int)) = false := by simp; omega
    have HQ := hd hq
    clear hq
    go_wp2_with fail
    refine bodyPost_ret (v := .tuple #[v, .bool false, .int .i64 0]) ?_ rfl ?_
    · simp only [results]; go_simp
    · exact HGOOD.out _ _ (by trivial) H3.out HC3.out v rs HRS.out HRL.out (by rw [decide_eq_false HQ.out])
end Go.Proofs.Ytdmokfplkhmijaa
