/- Words and walks that Apart rests on: Bodies. -/
import Derived.Test.YtpadflhffiiglaaGreatWApart4
/- world.RightBody, world.RightJoint: which bodies and joints may be. -/
namespace Go.Proofs.YtpadflhffiiglaaGreat
open Go.RowKit

structure Bdy where
  id : Int
  pos : V2
  vel : V2
  angle : Int
  spin : Int
  density : Int
  shape : Shp
structure Jnt where
  id : Int
  a : Int
  b : Int
  at_ : V2
  to_ : V2
  len : Int
def vB (b : Bdy) (pv : Value) : Value := .agg #[.int .i64 b.id, .int .i64 b.pos.1, .int .i64 b.pos.2, .int .i64 b.vel.1, .int .i64 b.vel.2, .int .i64 b.angle, .int .i64 b.spin, .int .i64 b.density, .int .i64 b.shape.kind, .int .i64 b.shape.r, pv]
def vJ (j : Jnt) : Value := .agg #[.int .i64 j.id, .int .i64 j.a, .int .i64 j.b, .int .i64 j.at_.1, .int .i64 j.at_.2, .int .i64 j.to_.1, .int .i64 j.to_.2, .int .i64 j.len]
def rightB (b : Bdy) : Bool :=
  rightS b.shape && nearV b.pos 4503599627370496 && nearV b.vel 17592186044416 && !decide (1099511627776 < absF b.spin) && !decide (b.angle < 0) && !decide (4294967296 ≤ b.angle) && !decide (b.density < 0) && !decide (4398046511104 < b.density) &&
    (decide (0 < b.density) || (decide (b.vel.1 = 0) && decide (b.vel.2 = 0) && decide (b.spin = 0)))
def rightJ (j : Jnt) : Bool :=
  nearV j.at_ 274877906944 && nearV j.to_ 274877906944 && decide (0 ≤ j.len) && decide (j.len ≤ 4503599627370496) && decide (1 ≤ j.a) && decide (1 ≤ j.b) && !decide (j.a = j.b)
set_option maxHeartbeats 1000000 in
theorem WWithin_any (a : V2) (most : Int) (ha : IV a) (w : World) : Calls Tryz.prog 80 #[vV a, .int .i64 most] w fun e w' => e = .returned (.bool (nearV a most)) ∧ Chg [] w w' := by
  obtain ⟨x, y⟩ := a
  obtain ⟨h1, h2⟩ := ha
  have hc1 := fun W => Abs_any x h1 W
  have hc2 := fun W => Abs_any y h2 W
  have hb1 := absF_s h1
  have hb2 := absF_s h2
  unfold nearV vV
  simp only at h1 h2 ⊢
  generalize absF x = p at *
  generalize absF y = q at *
  have hcb := (Chg.refl [] w).alloc (.cells #[.int .i64 x, .int .i64 y] 27)
  by_cases k1 : p ≤ most <;> by_cases k2 : q ≤ most <;> (
    go_enter Tryz.func80, Tryz.ntmps80
    go_wp2_with (first
      | (go_at_call 93; ((with_reducible refine (hc1 _).mono ?_); rintro e w' ⟨rfl, rfl⟩))
      | (go_at_call 93; ((with_reducible refine (hc2 _).mono ?_); rintro e w' ⟨rfl, rfl⟩)))
    go_ret
    exact ⟨by simp [k1, k2], hcb⟩)
end Go.Proofs.YtpadflhffiiglaaGreat
