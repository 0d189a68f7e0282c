/- Rounding to a whole number, and the whole number as an integer. No program. -/
import Derived.Test.YtklhdpkofpkmjaaNd
import GoSem.Extern.MathFloor
namespace Go.Proofs.Ytklhdpkofpkmjaa
open Ieee
set_option linter.unusedVariables false
/-- The nearest whole number's size; of two the even one. -/
def rteM (x : Nat) : Nat :=
  match double.read x with
  | .number s m i => Toward.even.cut s (m <<< i.toNat) (-i).toNat
  | _ => 0
def rteS (x : Nat) : Bool :=
  match double.read x with
  | .number s _ _ => s
  | _ => false
/-- The nearest whole number. -/
def rteN (x : Nat) : Int := if rteS x then -(rteM x : Int) else rteM x
/-- .. as bits. -/
def rteB (x : Nat) : Nat := double.nearest (rteS x) (rteM x) 0
theorem rteM_le {n x : Nat} (h : AbsN n x) : rteM x ≤ n := by
  obtain ⟨v, hf, hv, _⟩ := h
  obtain ⟨s, m, i, rx, hi, rfl⟩ := hf.ex
  unfold rteM
  rw [rx]
  simp only [Nat.shiftLeft_eq]
  refine cut_le ?_
  rw [signed_abs, p74_eq'] at hv
  exact pow_shift (d := 0) (s := 1074) (u := (i + 1074).toNat) (by rw [Nat.zero_add]; exact hv) (by omega)
theorem rteN_le {n x : Nat} (h : AbsN n x) : -(n : Int) ≤ rteN x ∧ rteN x ≤ n := by
  have := rteM_le h
  unfold rteN
  split <;> omega
theorem zero_cut {neg : Bool} {R drop : Nat} : Toward.zero.cut neg (R * 2 ^ drop) drop = R := by
  unfold Toward.cut
  simp only [Nat.shiftLeft_eq, Nat.one_mul, Bool.toNat_false, Nat.add_zero]
  rcases Nat.eq_zero_or_pos R with rfl | hR
  · simp
  · have h1 : drop ≤ (R * 2 ^ drop).log2 := (Nat.le_log2 (Nat.ne_of_gt (Nat.mul_pos hR (Nat.two_pow_pos _)))).2 (by
      have := Nat.mul_le_mul_right (2 ^ drop) hR
      omega)
    rw [Nat.min_eq_left (by omega)]
    exact Nat.mul_div_cancel _ (Nat.two_pow_pos _)
theorem int_back {neg : Bool} {R : Nat} (hR : R < 2 ^ 53) : (double.read (double.nearest neg R 0)).toInt .zero = some (if neg then -(R : Int) else R) := by
  have hf := nearest_int neg R hR
  obtain ⟨s, m, i, rx, hi, hv⟩ := hf.ex
  rw [rx]
  unfold Datum.toInt Datum.integral
  simp only
  have habs : m * 2 ^ (i + 1074).toNat = R * 2 ^ 1074 := by
    have h := congrArg Int.natAbs hv
    rw [signed_abs] at h
    rw [← h]
    cases neg
    · rfl
    · rw [if_pos rfl, Int.natAbs_neg]; rfl
  have hcut : m * 2 ^ i.toNat = R * 2 ^ (-i).toNat := by
    have h1 := pow_shift (m := m) (V := R) (u := (i + 1074).toNat) (s := 1074) (d := 0) (al := i.toNat) (be := (-i).toNat) (by rw [Nat.zero_add]; exact Nat.le_of_eq habs) (by omega)
    have h2 := pow_shift' (m := m) (V := R) (u := (i + 1074).toNat) (s := 1074) (d := 0) (al := i.toNat) (be := (-i).toNat) (by rw [Nat.zero_add]; exact Nat.le_of_eq habs.symm) (by omega)
    omega
  rw [Nat.shiftLeft_eq, hcut, zero_cut]
  congr 1
  rw [signed_val, Nat.pow_zero, Nat.mul_one]
  by_cases h0 : R = 0
  · subst h0; cases s <;> cases neg <;> rfl
  · have hP : 0 < P74 := by rw [← valR_one]; exact Nat.lt_of_lt_of_le (by rw [valR_low (by decide)]; decide : 0 < valR 1) (valR_mono (by decide))
    have hpos : 0 < R * 2 ^ 1074 := by rw [← p74_eq']; exact Nat.mul_pos (Nat.pos_of_ne_zero h0) hP
    rw [signed_val, habs] at hv
    generalize R * 2 ^ 1074 = V at hv hpos
    cases s <;> cases neg <;> simp at hv ⊢ <;> omega
theorem toInt_rte {n x : Nat} (h : AbsN n x) (hn : n < 2 ^ 53) : floatToIntVal .f64 (rteB x) .i64 = some (rteN x) := by
  have h1 := rteM_le h
  have h2 := int_back (neg := rteS x) (R := rteM x) (by omega)
  have h3 := rteN_le h
  unfold floatToIntVal
  have e : (FloatKind.f64.decode (rteB x)).toInt .zero = some (rteN x) := h2
  rw [e]
  have hb : IntKind.i64.min ≤ rteN x ∧ rteN x ≤ IntKind.i64.max := by
    have m1 : IntKind.i64.min = -9223372036854775808 := by decide
    have m2 : IntKind.i64.max = 9223372036854775807 := by decide
    omega
  simp only [hb, and_self, if_true]
end Go.Proofs.Ytklhdpkofpkmjaa
