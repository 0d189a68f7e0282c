/- Floating point words of 64 bits: whole numbers as such; quotients that are not above a power of two. No program. -/
import Derived.Test.YtlgnidjkilbdfaaFl2
namespace Go.Proofs.Ytlgnidjkilbdfaa
open Ieee
set_option linter.unusedVariables false
/-- A whole number's rung. -/
theorem int_rung (n : Nat) (hn : n < 2 ^ 53) : ∃ R, R < 2047 * 2 ^ 52 ∧ valR R = n * 2 ^ 1074 := by
  by_cases h0 : n = 0
  · exact ⟨0, by decide, by subst h0; generalize 2 ^ 1074 = P; rw [Nat.zero_mul]; exact valR_low (by decide)⟩
  have hlo := Nat.log2_self_le h0
  have hhi : n < 2 ^ (n.log2 + 1) := Nat.lt_log2_self
  have hL : n.log2 < 53 := by
    rcases Nat.lt_or_ge n.log2 53 with h | h
    · exact h
    · have := Nat.pow_le_pow_right (n := 2) (by decide) h
      omega
  generalize n.log2 = L at *
  have h1 : 2 ^ 52 ≤ n * 2 ^ (52 - L) := by
    calc 2 ^ 52 = 2 ^ L * 2 ^ (52 - L) := by rw [← Nat.pow_add]; congr 1; omega
      _ ≤ _ := Nat.mul_le_mul_right _ hlo
  have h2 : n * 2 ^ (52 - L) < 2 ^ 53 := by
    calc n * 2 ^ (52 - L) < 2 ^ (L + 1) * 2 ^ (52 - L) := Nat.mul_lt_mul_of_pos_right hhi (Nat.two_pow_pos _)
      _ = 2 ^ 53 := by rw [← Nat.pow_add]; congr 1; omega
  obtain ⟨m, hm⟩ : ∃ m, n * 2 ^ (52 - L) = 2 ^ 52 + m := ⟨n * 2 ^ (52 - L) - 2 ^ 52, by omega⟩
  refine ⟨(1022 + L + 1) * 2 ^ 52 + m, by omega, ?_⟩
  unfold valR
  rw [if_neg (by omega), show ((1022 + L + 1) * 2 ^ 52 + m) % 2 ^ 52 = m by omega, show ((1022 + L + 1) * 2 ^ 52 + m) / 2 ^ 52 - 1 = 1022 + L by omega, ← hm, Nat.mul_assoc, ← Nat.pow_add]
  congr 2
  omega
theorem nearest_int (neg : Bool) (n : Nat) (hn : n < 2 ^ 53) : Fin64 (double.nearest neg n 0) (if neg then -((n * 2 ^ 1074 : Nat) : Int) else ((n * 2 ^ 1074 : Nat) : Int)) := by
  obtain ⟨R, hR, hv⟩ := int_rung n hn
  obtain ⟨R', h1, h2, h3⟩ := nearest_between (neg := neg) (mag := n) (p := 0) (A := R) (B := R) (u := 1074) (s := 0) hR (by omega) (by rw [hv, Nat.pow_zero, Nat.mul_one]; exact Nat.le_refl _) (by rw [hv, Nat.pow_zero, Nat.mul_one]; exact Nat.le_refl _)
  obtain rfl : R' = R := by omega
  rw [h3, ← hv]
  exact fin_word hR
theorem fin_ofInt (n : Int) (hn : n.natAbs < 2 ^ 53) : Fin64 (floatOfInt .f64 n) (n * (2 ^ 1074 : Nat)) := by
  have h := nearest_int (decide (n < 0)) n.natAbs hn
  have e : floatOfInt .f64 n = double.nearest (decide (n < 0)) n.natAbs 0 := rfl
  rw [e]
  have hv : n * ((2 ^ 1074 : Nat) : Int) = if decide (n < 0) = true then -((n.natAbs * 2 ^ 1074 : Nat) : Int) else ((n.natAbs * 2 ^ 1074 : Nat) : Int) := by
    generalize 2 ^ 1074 = P
    by_cases h : n < 0
    · rw [if_pos (decide_eq_true h), Int.natCast_mul, show ((n.natAbs : Nat) : Int) = -n by omega, Int.neg_mul, Int.neg_neg]
    · rw [if_neg (by simpa using h), Int.natCast_mul, show ((n.natAbs : Nat) : Int) = n by omega]
  rw [hv]
  exact h
/-- A power of two's rung. -/
theorem valR_two (K : Nat) (hK : K ≤ 1000) : valR ((1022 + K + 1) * 2 ^ 52) = 2 ^ (1074 + K) := by
  unfold valR
  rw [if_neg (by omega), show ((1022 + K + 1) * 2 ^ 52) % 2 ^ 52 = 0 by omega, show ((1022 + K + 1) * 2 ^ 52) / 2 ^ 52 - 1 = 1022 + K by omega, Nat.add_zero, ← Nat.pow_add]
  congr 1
  omega
theorem pow_up {g I E : Nat} (h : g * 2 ^ I ≤ 2 ^ E) (a : Nat) : g * 2 ^ (I + a) ≤ 2 ^ (E + a) := by
  rw [Nat.pow_add, Nat.pow_add, ← Nat.mul_assoc]
  exact Nat.mul_le_mul_right _ h
theorem Fin64.div {x y : Nat} {a b : Int} {K : Nat} (hx : Fin64 x a) (hy : Fin64 y b) (hK : K ≤ 1000) (hb : 0 < b) (h : a.natAbs ≤ 2 ^ K * b.natAbs) :
    ∃ r c, double.div x y = some r ∧ Fin64 r c ∧ c.natAbs ≤ 2 ^ (1074 + K) ∧ (0 ≤ a → 0 ≤ c) := by
  obtain ⟨s, m, i, rx, hi, rfl⟩ := hx.ex
  obtain ⟨t, n, j, ry, hj, rfl⟩ := hy.ex
  rw [signed_abs, signed_abs] at h
  have hn0 : n ≠ 0 := by
    rintro rfl
    rw [signed_val] at hb
    cases t <;> simp at hb
  have ht : t = false := by
    cases t
    · rfl
    · rw [signed_val, if_pos rfl] at hb; omega
  subst ht
  have hsa : 0 ≤ signed s m (i + 1074).toNat → s = true → m = 0 := by
    intro h1 h2
    subst h2
    rw [signed_val, if_pos rfl] at h1
    have h3 : m * 2 ^ (i + 1074).toNat = 0 := by omega
    exact (Nat.mul_eq_zero.1 h3).resolve_right (Nat.ne_of_gt (Nat.two_pow_pos _))
  obtain ⟨more, hmore⟩ : ∃ more, more = double.fractionBits + 2 + n.log2 - m.log2 := ⟨_, rfl⟩
  obtain ⟨g, hg⟩ : ∃ g, g = 2 * (m <<< more / n) + (m <<< more % n != 0).toNat := ⟨_, rfl⟩
  have e : double.div x y = some (double.nearest s g (i - j - more - 1)) := by
    unfold Format.div
    rw [rx, ry]
    simp only [Datum.quotient, if_neg hn0, Option.map_some, Format.write, Bool.xor_false, hg, hmore]
  rw [e]
  rw [Nat.shiftLeft_eq] at hg
  by_cases hm : m = 0
  · subst hm
    have hg0 : g = 0 := by rw [hg, Nat.zero_mul, Nat.zero_div, Nat.zero_mod]; rfl
    rw [hg0]
    refine ⟨_, 0, rfl, ?_, Nat.zero_le _, fun _ => Int.le_refl _⟩
    have h1 := fin_word (neg := s) (R := 0) (by decide)
    have h2 : (if s = true then -((valR 0 : Nat) : Int) else ((valR 0 : Nat) : Int)) = 0 := by rw [valR_low (by decide)]; cases s <;> rfl
    rw [h2] at h1
    unfold Format.nearest
    rw [if_pos rfl]
    exact h1
  · have hlo := Nat.log2_self_le hm
    have hhi : n < 2 ^ (n.log2 + 1) := Nat.lt_log2_self
    have hfb : double.fractionBits = 52 := rfl
    rw [hfb] at hmore
    have hD : n < m * 2 ^ more := by
      calc n < 2 ^ (n.log2 + 1) := hhi
        _ ≤ 2 ^ (m.log2 + more) := Nat.pow_le_pow_right (by decide) (by omega)
        _ = 2 ^ m.log2 * 2 ^ more := by rw [Nat.pow_add]
        _ ≤ _ := Nat.mul_le_mul_right _ hlo
    obtain ⟨I, hI⟩ : ∃ I, I = (i + 1074).toNat := ⟨_, rfl⟩
    obtain ⟨J, hJ⟩ : ∃ J, J = (j + 1074).toNat := ⟨_, rfl⟩
    rw [← hI, ← hJ] at h
    rw [← hI] at hsa ⊢
    obtain ⟨D, hDe⟩ : ∃ D, D = m * 2 ^ more := ⟨_, rfl⟩
    rw [← hDe] at hg hD
    have hd1 : D * 2 ^ I ≤ n * 2 ^ (K + more + J) := by
      have h1 := Nat.mul_le_mul_right (2 ^ more) h
      calc D * 2 ^ I = m * 2 ^ I * 2 ^ more := by rw [hDe]; ac_rfl
        _ ≤ 2 ^ K * (n * 2 ^ J) * 2 ^ more := h1
        _ = n * 2 ^ (K + more + J) := by rw [Nat.pow_add, Nat.pow_add]; ac_rfl
    have hIE : I ≤ K + more + J := by
      rcases Nat.lt_or_ge (K + more + J) I with h1 | h1
      · exfalso
        have h2 : n * 2 ^ (K + more + J) < D * 2 ^ (K + more + J) := Nat.mul_lt_mul_of_pos_right hD (Nat.two_pow_pos _)
        have h3 : D * 2 ^ (K + more + J) ≤ D * 2 ^ I := Nat.mul_le_mul_left _ (Nat.pow_le_pow_right (by decide) (by omega))
        omega
      · exact h1
    have hd2 : D ≤ n * 2 ^ (K + more + J - I) := by
      have h1 : n * 2 ^ (K + more + J) = n * 2 ^ (K + more + J - I) * 2 ^ I := by rw [Nat.mul_assoc, ← Nat.pow_add]; congr 2; omega
      rw [h1] at hd1
      exact Nat.le_of_mul_le_mul_right hd1 (Nat.two_pow_pos _)
    have hg2 : g ≤ 2 * 2 ^ (K + more + J - I) := by
      generalize 2 ^ (K + more + J - I) = V at hd2
      have hdm := Nat.div_add_mod D n
      have hql : D / n ≤ V := Nat.div_le_of_le_mul hd2
      by_cases hr : D % n = 0
      · rw [hg, hr]
        have : ((0 : Nat) != 0).toNat = 0 := rfl
        omega
      · have : D / n < V := by
          rcases Nat.lt_or_ge (D / n) V with h' | h'
          · exact h'
          · have e : D / n = V := by omega
            rw [e] at hdm
            omega
        have hb : (D % n != 0).toNat ≤ 1 := by cases (D % n != 0) <;> decide
        omega
    have hq : g * 2 ^ I ≤ 2 ^ (K + more + 1 + J) := by
      calc g * 2 ^ I ≤ 2 * 2 ^ (K + more + J - I) * 2 ^ I := Nat.mul_le_mul_right _ hg2
        _ = 2 ^ (K + more + 1 + J) := by
          rw [Nat.mul_assoc, ← Nat.pow_add, show K + more + J - I + I = K + more + J by omega, show K + more + 1 + J = K + more + J + 1 by omega, Nat.pow_succ, Nat.mul_comm]
    obtain ⟨c, f1, f2, f3, f4, f5⟩ := write_in (neg := s) (mag := g) (p := i - j - more - 1) (A := 0) (B := (1022 + K + 1) * 2 ^ 52) (u := I + 1074) (s := more + 1 + J) (by omega) (by omega)
      (by rw [valR_low (by decide), Nat.zero_mul]; exact Nat.zero_le _)
      (by
        rw [valR_two K hK, ← Nat.pow_add, show 1074 + K + (more + 1 + J) = K + more + 1 + J + 1074 by omega]
        exact pow_up hq 1074)
    rw [valR_two K hK] at f3
    refine ⟨_, c, rfl, f1, Int.ofNat_le.1 f3, fun h0 => f4 ?_⟩
    cases s
    · rfl
    · exact absurd (hsa h0 rfl) hm
end Go.Proofs.Ytlgnidjkilbdfaa
