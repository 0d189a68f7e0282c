/- Chapter 20: the sign of a height. -/
import Derived.Test.YtlgnidjkilbdfaaCf
namespace Go.Proofs.Ytlgnidjkilbdfaa
open Go.RowKit Ieee
set_option linter.unusedVariables false
set_option maxRecDepth 100000
def negB (x : Nat) : Bool := decide (2 ^ 63 ≤ x)
theorem signbit_any (x : Nat) (hx : x < 2 ^ 64) (w : World) : Calls Try.prog 126 #[.float .f64 x] w fun e w' => e = .returned (.bool (negB x)) ∧ w = w' := by
  have g1 := run_bits
  unfold negB
  by_cases h : 2 ^ 63 ≤ x
  · have hw : IntKind.i64.wrap (x : Int) = (x : Int) - 18446744073709551616 := by
      have hb : IntKind.i64.bits = 64 := rfl
      unfold IntKind.wrap
      simp only [hb, show IntKind.i64.signed = true from rfl]
      rw [if_pos (by simp; omega)]
      omega
    rw [decide_eq_true h]
    have hd : (x : Int) - 18446744073709551616 < 0 := by omega
    go_enter Try.func126, Try.ntmps126
    go_wp2
    go_ret
    exact ⟨by first | rfl | (show Ending.returned (.bool (decide ((x : Int) - 18446744073709551616 < 0))) = _; rw [decide_eq_true hd]), rfl⟩
  · have hw : IntKind.i64.wrap (x : Int) = (x : Int) := by
      have hb : IntKind.i64.bits = 64 := rfl
      unfold IntKind.wrap
      simp only [hb, show IntKind.i64.signed = true from rfl]
      rw [if_neg (by simp; omega)]
      omega
    rw [decide_eq_false h]
    have hd : ¬ (x : Int) < 0 := by omega
    go_enter Try.func126, Try.ntmps126
    go_wp2
    go_ret
    exact ⟨by first | rfl | (show Ending.returned (.bool (decide ((x : Int) < 0))) = _; rw [decide_eq_false hd]), rfl⟩
theorem sign_any (x : Nat) (hx : x < 2 ^ 64) (w : World) : Calls Try.prog 124 #[.float .f64 x] w fun e w' => e = .returned (.int .i64 (if negB x then 0 else 1)) ∧ w = w' := by
  have HS := hide_ (signbit_any x hx)
  generalize negB x = p at *
  clear hx
  cases p
  all_goals go_enter Try.func124, Try.ntmps124
  all_goals go_wp2_with (go_at_call 126; (with_reducible refine (HS.out _).mono ?_); rintro e w1 ⟨rfl, rfl⟩)
  all_goals go_ret
  all_goals exact ⟨rfl, rfl⟩
end Go.Proofs.Ytlgnidjkilbdfaa
