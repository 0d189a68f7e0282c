/- Chapter 20: the order of heights. -/
import Derived.Test.YtlgnidjkilbdfaaCf3
namespace Go.Proofs.Ytlgnidjkilbdfaa
open Go.RowKit Ieee
set_option linter.unusedVariables false
set_option maxRecDepth 100000
theorem isnan139 (x : Int) (w : World) : Calls Try.prog 139 #[.int .i64 x] w fun e w' => e = .returned (.bool false) ∧ w = w' := by
  have ht : (x != x) = false := by simp
  go_enter Try.func139, Try.ntmps139
  go_wp2
  go_ret
  exact ⟨by first | rfl | simp, rfl⟩
theorem compare_int (x y : Int) (w : World) : Calls Try.prog 123 #[.int .i64 x, .int .i64 y] w fun e w' => e = .returned (.int .i64 (cmpI (compare x y))) ∧ w = w' := by
  have H := hide_ isnan139
  have hc : cmpI (compare x y) = if x < y then -1 else if y < x then 1 else 0 := by
    rcases Int.lt_trichotomy x y with h | h | h
    · rw [if_pos h, (Int.compare_eq_lt).2 h]; rfl
    · rw [if_neg (by omega), if_neg (by omega), (Int.compare_eq_eq).2 h]; rfl
    · rw [if_neg (by omega), if_pos h, (Int.compare_eq_gt).2 h]; rfl
  rw [hc]
  clear hc
  by_cases h1 : x < y
  · rw [if_pos h1]
    go_enter Try.func123, Try.ntmps123
    go_wp2_with (go_at_call 139; (with_reducible refine (H.out _ _).mono ?_); rintro e w1 ⟨rfl, rfl⟩)
    go_ret
    exact ⟨rfl, rfl⟩
  · rw [if_neg h1]
    by_cases h2 : y < x
    · rw [if_pos h2]
      go_enter Try.func123, Try.ntmps123
      go_wp2_with (go_at_call 139; (with_reducible refine (H.out _ _).mono ?_); rintro e w1 ⟨rfl, rfl⟩)
      go_ret
      exact ⟨rfl, rfl⟩
    · rw [if_neg h2]
      go_enter Try.func123, Try.ntmps123
      go_wp2_with (go_at_call 139; (with_reducible refine (H.out _ _).mono ?_); rintro e w1 ⟨rfl, rfl⟩)
      go_ret
      exact ⟨rfl, rfl⟩
/-- The order of two heights that are no NaN. -/
def ordO (x y : Nat) (o : Ordering) : Ordering := match o with | .eq => compare (if negB x then (0 : Int) else 1) (if negB y then 0 else 1) | o => o
theorem order_of (x y : Nat) (hx64 : x < 2 ^ 64) (hy64 : y < 2 ^ 64) (hx : nanB x = false) (hy : nanB y = false) (o : Ordering) (ho : double.order x y = some o) (w : World) : Calls Try.prog 113 #[.float .f64 x, .float .f64 y] w fun e w' => e = .returned (.int .i64 (cmpI (ordO x y o))) ∧ w = w' := by
  have HC := hide_ (compare_of x y hx hy o ho)
  have HX := hide_ (sign_any x hx64)
  have HY := hide_ (sign_any y hy64)
  have he : (FloatKind.f64.format.order x y == some .eq) = (o == .eq) := by rw [show FloatKind.f64.format.order x y = double.order x y from rfl, ho]; cases o <;> rfl
  have HI := hide_ compare_int
  unfold ordO
  generalize (if negB x = true then (0 : Int) else 1) = p at *
  generalize (if negB y = true then (0 : Int) else 1) = q at *
  clear ho hx hy hx64 hy64
  have tok : True := trivial
  cases o
  all_goals simp only []
  all_goals go_enter Try.func113, Try.ntmps113
  all_goals go_wp2_with (first
    | (go_at_call 124; have _t := tok; (with_reducible refine (HX.out _).mono ?_); rintro e w1 ⟨rfl, rfl⟩; clear tok)
    | (go_at_call 124; (with_reducible refine (HY.out _).mono ?_); rintro e w1 ⟨rfl, rfl⟩)
    | (go_at_call 123; (with_reducible refine (HI.out _ _ _).mono ?_); rintro e w1 ⟨rfl, rfl⟩)
    | (go_at_call 125; (with_reducible refine (HC.out _).mono ?_); rintro e w1 ⟨rfl, rfl⟩))
  all_goals go_ret
  all_goals exact ⟨rfl, rfl⟩
end Go.Proofs.Ytlgnidjkilbdfaa
