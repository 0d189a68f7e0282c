/- Chapter 20: half of a height, sums, and their negatives, by sign and rung. No program walked. -/
import Derived.Test.YtlgnidjkilbdfaaRk
namespace Go.Proofs.Ytlgnidjkilbdfaa
open Ieee
set_option linter.unusedVariables false
set_option maxRecDepth 100000
def rm (R : Nat) : Nat := if R < 2 ^ 52 then R else 2 ^ 52 + R % 2 ^ 52
def rp (R : Nat) : Int := if R < 2 ^ 52 then -1074 else -1074 + (R / 2 ^ 52 - 1 : Nat)
theorem read_at (neg : Bool) {R : Nat} (h : R < 2047 * 2 ^ 52) : double.read (double.word neg R) = .number neg (rm R) (rp R) := by
  have hl : double.leastPlace = -1074 := by decide
  have hb : double.binade = 2 ^ 52 := rfl
  have hi : double.infRung = 2047 * 2 ^ 52 := by decide
  have hs : double.signWeight = 2 ^ 63 := by decide
  have hw : double.word neg R / 2 ^ 63 % 2 = neg.toNat ∧ double.word neg R % 2 ^ 63 = R := by
    cases neg
    · rw [word_false]; simp only [Bool.toNat_false]; omega
    · rw [word_true (by omega)]; simp only [Bool.toNat_true]; omega
  have hn : (neg.toNat == 1) = neg := by cases neg <;> rfl
  unfold Format.read rm rp
  simp only [hs, hb, hi, hl, hw.1, hw.2, hn]
  by_cases h1 : R < 2 ^ 52
  · rw [if_pos h1, if_pos h1, if_pos h1]
  · rw [if_neg h1, if_pos h, if_neg h1, if_neg h1]
theorem rm_val (R : Nat) : rm R * 2 ^ (rp R + 1074).toNat = valR R := by
  unfold rm rp valR
  by_cases h1 : R < 2 ^ 52
  · simp only [h1, if_true]; simp
  · simp only [h1, if_false]
    congr 2
    omega
theorem rm_lt (R : Nat) : rm R < 2 ^ 53 := by unfold rm; split <;> omega
theorem rp_ge (R : Nat) : -1074 ≤ rp R := by unfold rp; split <;> omega
theorem cut_neg (s : Bool) (n d : Nat) : Toward.even.cut s n d = Toward.even.cut false n d := by
  unfold Toward.cut
  rfl
theorem nearest_word (s : Bool) (mag : Nat) (p : Int) : double.nearest s mag p = double.word s (double.nearest false mag p) := by
  unfold Format.nearest
  by_cases h : mag = 0
  · rw [if_pos h, if_pos h, word_false]
  · rw [if_neg h, if_neg h, word_false]
    simp only [cut_neg s]
theorem read_two : double.read 4611686018427387904 = .number false (2 ^ 52) (-51) := by decide +kernel
def more (R : Nat) : Nat := 106 - (rm R).log2
def hR (R : Nat) : Nat := double.nearest false (2 * (rm R <<< more R / 2 ^ 52) + (rm R <<< more R % 2 ^ 52 != 0).toNat) (rp R - -51 - (more R : Nat) - 1)
theorem div_two (s : Bool) {R : Nat} (h : R < 2047 * 2 ^ 52) : double.div (double.word s R) 4611686018427387904 = some (double.word s (hR R)) := by
  have h2 : (2 ^ 52 : Nat).log2 = 52 := Nat.log2_two_pow
  have hf : double.fractionBits = 52 := rfl
  unfold Format.div
  rw [read_at s h, read_two]
  simp only [Datum.quotient, if_neg (show ¬ (2 ^ 52 : Nat) = 0 by decide), Option.map_some, Format.write, Bool.xor_false]
  rw [nearest_word, h2, hf]
  rfl
theorem log_rm (R : Nat) : (rm R).log2 ≤ 52 := by
  rcases Nat.eq_zero_or_pos (rm R) with h | h
  · rw [h]; decide
  · have := (Nat.log2_lt (by omega)).2 (rm_lt R)
    omega
theorem hR_between {R A B : Nat} (hB : B < 2047 * 2 ^ 52) (h1 : 2 * valR A ≤ valR R) (h2 : valR R ≤ 2 * valR B) : A ≤ hR R ∧ hR R ≤ B := by
  have hl := log_rm R
  have hp := rp_ge R
  obtain ⟨k, hk⟩ : ∃ k, more R = 52 + k := ⟨more R - 52, by unfold more; omega⟩
  have hd : rm R <<< more R = 2 ^ 52 * (rm R * 2 ^ k) := by rw [Nat.shiftLeft_eq, hk, Nat.pow_add]; ac_rfl
  have hg : 2 * (rm R <<< more R / 2 ^ 52) + (rm R <<< more R % 2 ^ 52 != 0).toNat = 2 * (rm R * 2 ^ k) := by
    rw [hd, Nat.mul_div_cancel_left _ (by decide), Nat.mul_mod_right]; rfl
  unfold hR
  rw [hg]
  have hv : 2 * (rm R * 2 ^ k) * 2 ^ ((rp R + 1074).toNat + 51) = valR R * 2 ^ (more R) := by
    rw [← rm_val R, hk, Nat.pow_add, Nat.pow_add, show (2 : Nat) ^ 52 = 2 * 2 ^ 51 from rfl]; ac_rfl
  obtain ⟨R', f1, f2, f3⟩ := nearest_between (neg := false) (mag := 2 * (rm R * 2 ^ k)) (p := rp R - -51 - (more R : Nat) - 1) (A := A) (B := B) (u := (rp R + 1074).toNat + 51) (s := more R + 1) hB (by omega)
    (by rw [hv, Nat.pow_succ]
        calc valR A * (2 ^ more R * 2) = (2 * valR A) * 2 ^ more R := by ac_rfl
          _ ≤ _ := Nat.mul_le_mul_right _ h1)
    (by rw [hv, Nat.pow_succ]
        calc valR R * 2 ^ more R ≤ (2 * valR B) * 2 ^ more R := Nat.mul_le_mul_right _ h2
          _ = _ := by ac_rfl)
  rw [f3]
  exact ⟨f1, f2⟩
theorem valR_dbl {R : Nat} (h : 2 ^ 52 ≤ R) : valR (R + 2 ^ 52) = 2 * valR R := by
  unfold valR
  rw [if_neg (by omega), if_neg (by omega)]
  obtain ⟨t, ht⟩ : ∃ t, R / 2 ^ 52 = t + 1 := ⟨R / 2 ^ 52 - 1, by omega⟩
  have e1 : (R + 2 ^ 52) / 2 ^ 52 = t + 2 := by omega
  have e2 : (R + 2 ^ 52) % 2 ^ 52 = R % 2 ^ 52 := by omega
  rw [e1, e2, ht, show t + 2 - 1 = t + 1 by omega, show t + 1 - 1 = t by omega, Nat.pow_add 2 t 1]
  generalize 2 ^ 52 + R % 2 ^ 52 = a
  generalize 2 ^ t = b
  rw [Nat.pow_one, ← Nat.mul_assoc, Nat.mul_comm (a * b) 2]
/-- Halves are no greater than half of the greatest. -/
theorem hR_le {R : Nat} (h : R < 2047 * 2 ^ 52) : hR R ≤ 2046 * 2 ^ 52 - 1 :=
  (hR_between (A := 0) (by omega) (by rw [valR_low (by decide)]; omega) (by rw [← valR_dbl (by decide)]; exact valR_mono (by omega))).2
theorem hR_exact {R : Nat} (h : R < 2047 * 2 ^ 52) (h2 : R = 0 ∨ 2 ^ 53 ≤ R) : 2 * valR (hR R) = valR R := by
  have z : valR 0 = 0 := valR_low (by decide)
  rcases h2 with rfl | h2
  · have := (hR_between (R := 0) (A := 0) (B := 0) (by decide) (by rw [z]; decide) (by rw [z]; decide)).2
    obtain h0 : hR 0 = 0 := by omega
    rw [h0, z]
  · obtain ⟨T, rfl⟩ : ∃ T, R = T + 2 ^ 52 := ⟨R - 2 ^ 52, by omega⟩
    have hd := valR_dbl (R := T) (by omega)
    have := hR_between (R := T + 2 ^ 52) (A := T) (B := T) (by omega) (by rw [hd]; exact Nat.le_refl _) (by rw [hd]; exact Nat.le_refl _)
    obtain e : hR (T + 2 ^ 52) = T := by omega
    rw [e, hd]
/-- The value of a sign and a rung. -/
def sv (s : Bool) (R : Nat) : Int := if s then -(valR R : Int) else valR R
def tot (s t : Bool) (R T : Nat) : Int := signed s (rm R) (rp R - min (rp R) (rp T)).toNat + signed t (rm T) (rp T - min (rp R) (rp T)).toNat
theorem sv_signed (s : Bool) (R : Nat) : sv s R = signed s (rm R) (rp R + 1074).toNat := by
  rw [signed_val, rm_val]; rfl
theorem tot_val (s t : Bool) (R T : Nat) : sv s R + sv t T = tot s t R T * 2 ^ (min (rp R) (rp T) + 1074).toNat := by
  have h1 := rp_ge R
  have h2 := rp_ge T
  rw [sv_signed, sv_signed]
  unfold tot
  rw [Int.add_mul, ← signed_scale, ← signed_scale]
  congr 2 <;> omega
def sumR (s t : Bool) (R T : Nat) : Nat := double.nearest false (tot s t R T).natAbs (min (rp R) (rp T))
theorem add_word (s t : Bool) {R T : Nat} (hR : R < 2047 * 2 ^ 52) (hT : T < 2047 * 2 ^ 52) :
    double.add (double.word s R) (double.word t T) = some (double.word (if tot s t R T = 0 then s && t else decide (tot s t R T < 0)) (sumR s t R T)) := by
  unfold Format.add
  rw [read_at s hR, read_at t hT]
  simp only [Datum.sum, Option.map_some, Format.write]
  rw [nearest_word]
  rfl
theorem tot_neg (s t : Bool) (R T : Nat) : tot (!t) (!s) T R = -tot s t R T := by
  unfold tot
  rw [Int.min_comm, signed_val, signed_val, signed_val, signed_val]
  cases s <;> cases t <;> simp <;> omega
theorem sumR_neg (s t : Bool) (R T : Nat) : sumR (!t) (!s) T R = sumR s t R T := by
  unfold sumR
  rw [tot_neg, Int.natAbs_neg, Int.min_comm]
theorem sumR_between {s t : Bool} {R T A B : Nat} (hB : B < 2047 * 2 ^ 52) (h1 : (valR A : Int) ≤ (sv s R + sv t T).natAbs) (h2 : ((sv s R + sv t T).natAbs : Int) ≤ valR B) : A ≤ sumR s t R T ∧ sumR s t R T ≤ B := by
  have g1 := rp_ge R
  have g2 := rp_ge T
  rw [tot_val, Int.natAbs_mul, Int.natAbs_pow] at h1 h2
  have e2 : Int.natAbs 2 = 2 := rfl
  rw [e2] at h1 h2
  obtain ⟨K, f1, f2, f3⟩ := nearest_between (neg := false) (mag := (tot s t R T).natAbs) (p := min (rp R) (rp T)) (A := A) (B := B) (u := (min (rp R) (rp T) + 1074).toNat) (s := 0) hB (by omega)
    (by rw [Nat.pow_zero, Nat.mul_one]; exact Int.ofNat_le.1 h1) (by rw [Nat.pow_zero, Nat.mul_one]; exact Int.ofNat_le.1 h2)
  unfold sumR
  rw [f3]
  exact ⟨f1, f2⟩
theorem tot_sign (s t : Bool) (R T : Nat) : (tot s t R T = 0 ↔ sv s R + sv t T = 0) ∧ (tot s t R T < 0 ↔ sv s R + sv t T < 0) := by
  rw [tot_val]
  have hp : (0 : Int) < 2 ^ (min (rp R) (rp T) + 1074).toNat := Int.pow_pos (by decide)
  generalize (2 : Int) ^ (min (rp R) (rp T) + 1074).toNat = K at *
  generalize tot s t R T = a
  rcases Int.lt_trichotomy a 0 with h | h | h
  · have := Int.mul_neg_of_neg_of_pos h hp; omega
  · subst h; simp
  · have := Int.mul_pos h hp; omega
end Go.Proofs.Ytlgnidjkilbdfaa
