/- Chapter 20: which sums, differences, products of heights are no NaN. No program walked. -/
import Derived.Test.YtlgnidjkilbdfaaMd
namespace Go.Proofs.Ytlgnidjkilbdfaa
open Ieee
set_option linter.unusedVariables false
set_option maxRecDepth 100000
theorem nearest_le (m : Nat) (p : Int) : double.nearest false m p ≤ 2047 * 2 ^ 52 := by
  have hi : double.infRung = 2047 * 2 ^ 52 := by decide
  unfold Format.nearest
  split
  · rw [word_false]; omega
  · rw [word_false, hi]; omega
theorem word_lt (s : Bool) {R : Nat} (h : R < 2 ^ 63) : double.word s R < 2 ^ 64 := by
  cases s
  · rw [word_false]; omega
  · rw [word_true h]; omega
theorem nan_word (s : Bool) {R : Nat} (h : R ≤ 2047 * 2 ^ 52) : nanB (double.word s R) = false := by
  rcases Nat.lt_or_ge R (2047 * 2 ^ 52) with h1 | h1
  · unfold nanB; rw [read_at s h1]
  · obtain rfl : R = 2047 * 2 ^ 52 := by omega
    cases s <;> decide +kernel
theorem near_ok (s : Bool) (m : Nat) (p : Int) : nanB (double.nearest s m p) = false ∧ double.nearest s m p < 2 ^ 64 := by
  have h := nearest_le m p
  rw [nearest_word]
  exact ⟨nan_word s h, word_lt s (by omega)⟩
theorem inf_ok (s : Bool) : nanB (double.word s double.infRung) = false ∧ double.word s double.infRung < 2 ^ 64 := by cases s <;> decide +kernel
theorem one_read {x : Nat} (h : oneB x = true) : ∃ s m p, double.read x = .number s m p := by
  unfold oneB at h
  split at h
  · rename_i s m p e; exact ⟨s, m, p, e⟩
  · cases h
theorem ok_read {x : Nat} (h : nanB x = false) : (∃ s m p, double.read x = .number s m p) ∨ ∃ s, double.read x = .infinity s := by
  unfold nanB at h
  cases hr : double.read x with
  | number s m p => exact .inl ⟨s, m, p, rfl⟩
  | infinity s => exact .inr ⟨s, rfl⟩
  | nan s f => rw [hr] at h; cases h
def less (x y : Nat) : Nat := (double.sub x y).getD 0
def times (x y : Nat) : Nat := (double.mul x y).getD 0
def over (x y : Nat) : Nat := (double.div x y).getD 0
theorem less_ok {x y : Nat} (hx : oneB x = true) (hy : oneB y = true) : double.sub x y = some (less x y) ∧ nanB (less x y) = false ∧ less x y < 2 ^ 64 := by
  obtain ⟨s, m, p, e⟩ := one_read hx
  obtain ⟨t, n, q, f⟩ := one_read hy
  unfold less Format.sub
  rw [e, f]
  simp only [Datum.opposite, Datum.sum, Option.map_some, Format.write, Option.getD_some, true_and]
  exact near_ok _ _ _
theorem plus_ok {x y : Nat} (hx : oneB x = true) (hy : nanB y = false) : double.add x y = some (plus x y) ∧ nanB (plus x y) = false ∧ plus x y < 2 ^ 64 := by
  obtain ⟨s, m, p, e⟩ := one_read hx
  rcases ok_read hy with ⟨t, n, q, f⟩ | ⟨t, f⟩
  · unfold plus Format.add
    rw [e, f]
    simp only [Datum.sum, Option.map_some, Format.write, Option.getD_some, true_and]
    exact near_ok _ _ _
  · unfold plus Format.add
    rw [e, f]
    simp only [Datum.sum, Option.map_some, Format.write, Option.getD_some, true_and]
    exact inf_ok _
/-- A number that is not nought. -/
def posB (x : Nat) : Bool := match double.read x with | .number _ m _ => m != 0 | _ => false
theorem times_ok {x y : Nat} (hx : nanB x = false) (hy : posB y = true) : double.mul x y = some (times x y) ∧ nanB (times x y) = false ∧ times x y < 2 ^ 64 := by
  obtain ⟨t, n, q, f, hn⟩ : ∃ t n q, double.read y = .number t n q ∧ n ≠ 0 := by
    unfold posB at hy
    split at hy
    · rename_i s m p e; exact ⟨s, m, p, e, by simpa using hy⟩
    · cases hy
  rcases ok_read hx with ⟨s, m, p, e⟩ | ⟨s, e⟩
  · unfold times Format.mul
    rw [e, f]
    simp only [Datum.product, Option.map_some, Format.write, Option.getD_some, true_and]
    exact near_ok _ _ _
  · unfold times Format.mul
    rw [e, f]
    simp only [Datum.product, if_neg hn, Option.map_some, Format.write, Option.getD_some, true_and]
    exact inf_ok _
open Go in
/-- The parts of a small gap. -/
theorem part_ok : ∀ d : Nat, d < 5 → ∀ k : Nat, k < d → 0 < k → double.div (floatOfInt .f64 (k : Int)) (floatOfInt .f64 (d : Int)) = some (over (floatOfInt .f64 (k : Int)) (floatOfInt .f64 (d : Int))) ∧ posB (over (floatOfInt .f64 (k : Int)) (floatOfInt .f64 (d : Int))) = true := by decide +kernel
/-- The height put in at x. -/
def lineB (a b : Int × Nat) (x : Int) : Nat := plus a.2 (times (less b.2 a.2) (over (floatOfInt .f64 (x - a.1)) (floatOfInt .f64 (b.1 - a.1))))
end Go.Proofs.Ytlgnidjkilbdfaa
