/- journal.first of two steps. -/
import Derived.Test.YtdmokfplkhmijaaKitB
import Derived.Deep.Cut
namespace Go.Proofs.Ytdmokfplkhmijaa
open Go.RowKit

def StepA (sb : Nat) (F2 : Value) (J : World → Prop) (Post : Ending → World → Prop) (e : Ending) (w1 : World) : Prop :=
  ∃ z : Int, e = .returned (.int .i64 z) ∧ ((z ≠ 0 ∧ Post (.returned (.int .i64 z)) w1) ∨ (z = 0 ∧ J w1 ∧ w1.cell? ⟨sb, 1, none⟩ = some F2))
def StepB (Post : Ending → World → Prop) (e : Ending) (w1 : World) : Prop := ∃ z : Int, e = .returned (.int .i64 z) ∧ Post (.returned (.int .i64 z)) w1

set_option maxHeartbeats 1000000 in
theorem firstB_any (w : World) (sb : Nat) (p q r : Addr) (h0 : w.cell? ⟨sb, 0, none⟩ = some (.func (.func 46) #[] #[.pointer (some p), .pointer (some q)])) (J : World → Prop) (Post : Ending → World → Prop)
    (H1 : Calls Try.prog 46 #[.pointer (some p), .pointer (some q)] w (StepA sb (.func (.func 36) #[.pointer (some r)] #[]) J Post)) (H2 : ∀ w1, J w1 → Calls Try.prog 36 #[.pointer (some r)] w1 (StepB Post)) :
    Calls Try.prog 45 #[.slice (some ⟨sb, 0, none⟩) 2 2] w Post := by
  have HH1 := hd H1
  have HH2 := hd H2
  clear H1 H2
  go_enter Try.func45, Try.ntmps45
  go_wp2_with fail
  go_loopw [4, 5, 8] (fun _ _ i wr => ∃ k : Nat, k ≤ 2 ∧ i = .int .i64 k ∧ ((k = 0 ∧ wr = w) ∨ (k = 1 ∧ J wr ∧ wr.cell? ⟨sb, 1, none⟩ = some (.func (.func 36) #[.pointer (some r)] #[])) ∨ (k = 2 ∧ Post (.returned (.int .i64 0)) wr))) (fun _ _ i _ => 2 - (intOf i).toNat)
  case atStart => exact ⟨0, by omega, rfl, .inl ⟨rfl, rfl⟩⟩
  case round =>
    obtain ⟨k, hk, rfl, hst⟩ := hrel
    rcases hst with ⟨rfl, rfl⟩ | ⟨rfl, hJ, h1⟩ | ⟨rfl, hP⟩
    · go_wp2_with fail
      refine (HH1.out).mono ?_
      rintro e w1 ⟨z, rfl, hz⟩
      rcases hz with ⟨hz, hP⟩ | ⟨rfl, hJ, h1⟩
      · have hz' : (z == 0) = false := by simpa using hz
        go_wp2_with fail
        exact hP
      · go_wp2_with fail
        go_roundw
        case rel => exact ⟨1, by omega, by go_num, .inr (.inl ⟨rfl, hJ, h1⟩)⟩
        case measure => simp [intOf]
    · go_wp2_with fail
      refine (HH2.out _ hJ).mono ?_
      rintro e w1 ⟨z, rfl, hP⟩
      by_cases hz : z = 0
      · subst hz
        go_wp2_with fail
        go_roundw
        case rel => exact ⟨2, by omega, by go_num, .inr (.inr ⟨rfl, hP⟩)⟩
        case measure => simp [intOf]
      · have hz' : (z == 0) = false := by simpa using hz
        go_wp2_with fail
        exact hP
    · go_wp2_with fail
      exact hP

set_option maxHeartbeats 1000000 in
theorem firstW_any (w : World) (sb : Nat) (p q r s : Addr) (h0 : w.cell? ⟨sb, 0, none⟩ = some (.func (.func 47) #[] #[.pointer (some p), .pointer (some q), .pointer (some r), .pointer (some s)])) (J : World → Prop) (Post : Ending → World → Prop)
    (H1 : Calls Try.prog 47 #[.pointer (some p), .pointer (some q), .pointer (some r), .pointer (some s)] w (StepA sb (.func (.func 49) #[] #[.pointer (some p), .pointer (some q)]) J Post)) (H2 : ∀ w1, J w1 → Calls Try.prog 49 #[.pointer (some p), .pointer (some q)] w1 (StepB Post)) :
    Calls Try.prog 45 #[.slice (some ⟨sb, 0, none⟩) 2 2] w Post := by
  have HH1 := hd H1
  have HH2 := hd H2
  clear H1 H2
  go_enter Try.func45, Try.ntmps45
  go_wp2_with fail
  go_loopw [4, 5, 8] (fun _ _ i wr => ∃ k : Nat, k ≤ 2 ∧ i = .int .i64 k ∧ ((k = 0 ∧ wr = w) ∨ (k = 1 ∧ J wr ∧ wr.cell? ⟨sb, 1, none⟩ = some (.func (.func 49) #[] #[.pointer (some p), .pointer (some q)])) ∨ (k = 2 ∧ Post (.returned (.int .i64 0)) wr))) (fun _ _ i _ => 2 - (intOf i).toNat)
  case atStart => exact ⟨0, by omega, rfl, .inl ⟨rfl, rfl⟩⟩
  case round =>
    obtain ⟨k, hk, rfl, hst⟩ := hrel
    rcases hst with ⟨rfl, rfl⟩ | ⟨rfl, hJ, h1⟩ | ⟨rfl, hP⟩
    · go_wp2_with fail
      refine (HH1.out).mono ?_
      rintro e w1 ⟨z, rfl, hz⟩
      rcases hz with ⟨hz, hP⟩ | ⟨rfl, hJ, h1⟩
      · have hz' : (z == 0) = false := by simpa using hz
        go_wp2_with fail
        exact hP
      · go_wp2_with fail
        go_roundw
        case rel => exact ⟨1, by omega, by go_num, .inr (.inl ⟨rfl, hJ, h1⟩)⟩
        case measure => simp [intOf]
    · go_wp2_with fail
      refine (HH2.out _ hJ).mono ?_
      rintro e w1 ⟨z, rfl, hP⟩
      by_cases hz : z = 0
      · subst hz
        go_wp2_with fail
        go_roundw
        case rel => exact ⟨2, by omega, by go_num, .inr (.inr ⟨rfl, hP⟩)⟩
        case measure => simp [intOf]
      · have hz' : (z == 0) = false := by simpa using hz
        go_wp2_with fail
        exact hP
    · go_wp2_with fail
      exact hP
end Go.Proofs.Ytdmokfplkhmijaa
