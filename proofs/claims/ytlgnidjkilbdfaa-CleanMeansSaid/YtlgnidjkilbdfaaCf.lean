/- Chapter 20: is a height finite. -/
import Derived.Test.YtlgnidjkilbdfaaAbs
namespace Go.Proofs.Ytlgnidjkilbdfaa
open Go.RowKit Ieee
set_option linter.unusedVariables false
set_option maxRecDepth 100000
theorem read_inf {x : Nat} {s : Bool} (hr : double.read x = .infinity s) : x % 2 ^ 63 = 2047 * 2 ^ 52 := by
  have hb : double.binade = 2 ^ 52 := rfl
  have hi : double.infRung = 2047 * 2 ^ 52 := by decide
  have hs : double.signWeight = 2 ^ 63 := by decide
  unfold Format.read at hr
  simp only [hb, hi, hs] at hr
  repeat' split at hr
  all_goals first
    | cases hr
    | omega
  all_goals omega
theorem read_nan2 {x : Nat} {s : Bool} {f : Nat} (hr : double.read x = .nan s f) : 2047 * 2 ^ 52 < x % 2 ^ 63 := by
  have hb : double.binade = 2 ^ 52 := rfl
  have hi : double.infRung = 2047 * 2 ^ 52 := by decide
  have hs : double.signWeight = 2 ^ 63 := by decide
  unfold Format.read at hr
  simp only [hb, hi, hs] at hr
  repeat' split at hr
  all_goals first
    | cases hr
    | omega
  all_goals omega
theorem abs_gt (x : Nat) : (FloatKind.f64.format.order (x % 2 ^ 63) 9218868437227405311 == some .gt) = (!oneB x && !nanB x) := by
  cases hr : double.read x with
  | number s m i =>
    have h1 : oneB x = true := by unfold oneB; rw [hr]
    rw [h1]
    simp only [Bool.not_true, Bool.false_and]
    rw [beq_eq_false_iff_ne]
    exact abs_max h1
  | infinity s =>
    have h1 : oneB x = false := by unfold oneB; rw [hr]
    have h2 : nanB x = false := by unfold nanB; rw [hr]
    rw [h1, h2, read_inf hr]
    decide +kernel
  | nan s f =>
    have h1 : nanB x = true := by unfold nanB; rw [hr]
    have h2 : nanB (x % 2 ^ 63) = true := nan_of _ (x % 2 ^ 63) (by omega) (read_nan2 hr)
    rw [h1, show FloatKind.f64.format.order (x % 2 ^ 63) 9218868437227405311 = double.order (x % 2 ^ 63) 9218868437227405311 from rfl, nan_order h2]
    simp
theorem isinf_any (x : Nat) (hx : x < 2 ^ 64) (w : World) : Calls Try.prog 40 #[.float .f64 x, .int .i64 0] w fun e w' => e = .returned (.bool (!oneB x && !nanB x)) ∧ w = w' := by
  have HA := hide_ (abs_any x hx)
  have hg := abs_gt x
  generalize x % 2 ^ 63 = y at *
  generalize (!oneB x && !nanB x) = r at *
  clear hx
  cases r
  all_goals go_enter Try.func40, Try.ntmps40
  all_goals go_wp2_with (go_at_call 82; (with_reducible refine (HA.out _).mono ?_); rintro e w1 ⟨rfl, rfl⟩)
  all_goals go_ret
  all_goals exact ⟨rfl, rfl⟩
theorem finite_any (x : Nat) (hx : x < 2 ^ 64) (w : World) : Calls Try.prog 86 #[.float .f64 x] w fun e w' => e = .returned (.bool (oneB x)) ∧ w = w' := by
  have HI := hide_ (isinf_any x hx)
  have HN := hide_ (isnan_any x)
  have h1 := one_nan (x := x)
  generalize oneB x = p at *
  generalize nanB x = q at *
  clear hx
  cases p <;> cases q
  all_goals first
    | (exact absurd (h1 rfl) (by decide))
    | (clear h1
       go_enter Try.func86, Try.ntmps86
       go_wp2_with (first
         | (go_at_call 40; (with_reducible refine (HI.out _).mono ?_); rintro e w1 ⟨rfl, rfl⟩)
         | (go_at_call 39; (with_reducible refine (HN.out _).mono ?_); rintro e w1 ⟨rfl, rfl⟩))
       go_ret
       exact ⟨rfl, rfl⟩)
end Go.Proofs.Ytlgnidjkilbdfaa
