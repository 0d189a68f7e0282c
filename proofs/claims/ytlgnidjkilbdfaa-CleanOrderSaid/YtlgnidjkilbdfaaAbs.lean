/- math.Abs, IsNaN, IsInf at words of 64 bits. -/
import Derived.Test.YtlgnidjkilbdfaaKn
import Derived.Test.YtlgnidjkilbdfaaFl3
import Derived.Laws.BitsAllLaws
namespace Go.Proofs.Ytlgnidjkilbdfaa
open Go.RowKit Ieee
set_option linter.unusedVariables false
set_option maxRecDepth 100000
theorem isnan_any (x : Nat) (w : World) : Calls Try.prog 39 #[.float .f64 x] w fun e w' => e = .returned (.bool (nanB x)) ∧ w = w' := by
  have g := ne_self x
  cases h : nanB x <;> rw [h] at g <;> clear h
  all_goals go_enter Try.func39, Try.ntmps39
  all_goals go_wp2
  all_goals go_ret
  all_goals exact ⟨rfl, rfl⟩
theorem and_top (x : Nat) (hx : x < 2 ^ 64) : (bits .andNot .u64 (x : Int) 9223372036854775808).toNat = x % 2 ^ 63 := by
  have h := u64_andNot_nat x 9223372036854775808 hx (by decide)
  rw [show ((9223372036854775808 : Nat) : Int) = 9223372036854775808 from rfl] at h
  rw [h, Int.toNat_natCast, show 18446744073709551615 - 9223372036854775808 = 2 ^ 63 - 1 from rfl, Nat.and_two_pow_sub_one_eq_mod]
theorem abs_any (x : Nat) (hx : x < 2 ^ 64) (w : World) : Calls Try.prog 82 #[.float .f64 x] w fun e w' => e = .returned (.float .f64 (x % 2 ^ 63)) ∧ w = w' := by
  have g1 := run_bits
  have g2 := run_frombits
  have g3 := hide_ (and_top x hx)
  clear hx
  go_enter Try.func82, Try.ntmps82
  go_wp2
  go_ret
  rw [← g3.out]
  exact ⟨rfl, rfl⟩
theorem one_rung {x : Nat} (h : oneB x = true) : x % 2 ^ 63 < 2047 * 2 ^ 52 := by
  unfold oneB Format.read at h
  have hb : double.binade = 2 ^ 52 := rfl
  have hi : double.infRung = 2047 * 2 ^ 52 := by decide
  have hs : double.signWeight = 2 ^ 63 := by decide
  simp only [hb, hi, hs] at h
  split at h
  · rename_i heq
    split at heq
    · omega
    · split at heq
      · omega
      · split at heq <;> cases heq
  · cases h
theorem one_nan {x : Nat} (h : oneB x = true) : nanB x = false := by
  unfold oneB at h
  unfold nanB
  cases hr : double.read x <;> rw [hr] at h <;> simp_all
theorem abs_max {x : Nat} (h : oneB x = true) : FloatKind.f64.format.order (x % 2 ^ 63) 9218868437227405311 ≠ some .gt := by
  have hr := one_rung h
  have f1 := fin_word (neg := false) hr
  have f2 := fin_word (neg := false) (R := 9218868437227405311) (by decide)
  rw [word_false] at f1 f2
  have ho := order_fin f1 f2
  simp only [Bool.false_eq_true, if_false] at ho
  rw [show FloatKind.f64.format.order (x % 2 ^ 63) 9218868437227405311 = double.order (x % 2 ^ 63) 9218868437227405311 from rfl, ho]
  have hm := valR_mono (A := x % 2 ^ 63) (B := 9218868437227405311) (by omega)
  intro he
  have := Option.some.inj he
  rw [Int.compare_eq_gt] at this
  omega
theorem isinf_one (x : Nat) (hx : x < 2 ^ 64) (h : oneB x = true) (w : World) : Calls Try.prog 40 #[.float .f64 x, .int .i64 0] w fun e w' => e = .returned (.bool false) ∧ w = w' := by
  have HA := hide_ (abs_any x hx)
  have hg : (FloatKind.f64.format.order (x % 2 ^ 63) 9218868437227405311 == some .gt) = false := by rw [beq_eq_false_iff_ne]; exact abs_max h
  generalize x % 2 ^ 63 = y at *
  clear hx h
  go_enter Try.func40, Try.ntmps40
  go_wp2_with (go_at_call 82; (with_reducible refine (HA.out _).mono ?_); rintro e w1 ⟨rfl, rfl⟩)
  go_ret
  exact ⟨rfl, rfl⟩
end Go.Proofs.Ytlgnidjkilbdfaa
