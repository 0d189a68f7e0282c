/- Chapter 20: cmp.Compare at heights that are no NaN. -/
import Derived.Test.YtlgnidjkilbdfaaCf2
namespace Go.Proofs.Ytlgnidjkilbdfaa
open Go.RowKit Ieee
set_option linter.unusedVariables false
set_option maxRecDepth 100000
theorem isnan140 (x : Nat) (w : World) : Calls Try.prog 140 #[.float .f64 x] w fun e w' => e = .returned (.bool (nanB x)) ∧ w = w' := by
  have g := ne_self x
  cases h : nanB x <;> rw [h] at g <;> clear h
  all_goals go_enter Try.func140, Try.ntmps140
  all_goals go_wp2
  all_goals go_ret
  all_goals exact ⟨rfl, rfl⟩
def cmpI (o : Ordering) : Int := match o with | .lt => -1 | .eq => 0 | .gt => 1
theorem compare_of (x y : Nat) (hx : nanB x = false) (hy : nanB y = false) (o : Ordering) (ho : double.order x y = some o) (w : World) : Calls Try.prog 125 #[.float .f64 x, .float .f64 y] w fun e w' => e = .returned (.int .i64 (cmpI o)) ∧ w = w' := by
  have H := hide_ isnan140
  have hX := hide_ (fun w => by have h := isnan140 x w; rw [hx] at h; exact h)
  have hY := hide_ (fun w => by have h := isnan140 y w; rw [hy] at h; exact h)
  have hl : (FloatKind.f64.format.order x y == some .lt) = (o == .lt) := by rw [show FloatKind.f64.format.order x y = double.order x y from rfl, ho]; cases o <;> rfl
  have hg : (FloatKind.f64.format.order x y == some .gt) = (o == .gt) := by rw [show FloatKind.f64.format.order x y = double.order x y from rfl, ho]; cases o <;> rfl
  clear ho hx hy H
  have tok : True := trivial
  cases o
  all_goals simp only [cmpI]
  all_goals go_enter Try.func125, Try.ntmps125
  all_goals go_wp2_with (first
    | (go_at_call 140; have _t := tok; (with_reducible refine (hX.out _).mono ?_); rintro e w1 ⟨rfl, rfl⟩; clear tok)
    | (go_at_call 140; (with_reducible refine (hY.out _).mono ?_); rintro e w1 ⟨rfl, rfl⟩))
  all_goals go_ret
  all_goals exact ⟨rfl, rfl⟩
end Go.Proofs.Ytlgnidjkilbdfaa
