/- Floating point words of 64 bits as scaled whole numbers: what rounding to nearest keeps. No program. -/
import Derived.Laws.FloatArith
namespace Go.Proofs.Ytlgnidjkilbdfaa
open Ieee
set_option linter.unusedVariables false
/-- The magnitude of a rung, in units of the least number. -/
def valR (R : Nat) : Nat := if R < 2 ^ 52 then R else (2 ^ 52 + R % 2 ^ 52) * 2 ^ (R / 2 ^ 52 - 1)
/-- The bits are of a finite number, whose value is v of the least number's units. -/
structure Fin64 (b : Nat) (v : Int) : Prop where
  ex : ∃ (neg : Bool) (mag : Nat) (place : Int), double.read b = .number neg mag place ∧ -1074 ≤ place ∧ v = signed neg mag (place + 1074).toNat
theorem valR_low {R : Nat} (h : R < 2 ^ 53) : valR R = R := by
  unfold valR
  split
  · rfl
  · rename_i h1
    have : R / 2 ^ 52 = 1 := by omega
    rw [this]
    simp
    omega
theorem bin_key (N m P : Nat) (hm : m < N) (hp : 0 < P) : N * P ≤ (N + m) * P ∧ (N + m) * P < (N + N) * P :=
  ⟨Nat.mul_le_mul_right _ (by omega), Nat.mul_lt_mul_of_pos_right (by omega) hp⟩
theorem valR_bin {R : Nat} (h : 2 ^ 52 ≤ R) : 2 ^ (R / 2 ^ 52 + 51) ≤ valR R ∧ valR R < 2 ^ (R / 2 ^ 52 + 52) := by
  unfold valR
  rw [if_neg (by omega)]
  obtain ⟨t, ht⟩ : ∃ t, R / 2 ^ 52 = t + 1 := ⟨R / 2 ^ 52 - 1, by omega⟩
  rw [ht]
  have k := bin_key (2 ^ 52) (R % 2 ^ 52) (2 ^ t) (Nat.mod_lt _ (by decide)) (Nat.two_pow_pos t)
  have e1 : 2 ^ (t + 1 + 51) = 2 ^ 52 * 2 ^ t := by rw [← Nat.pow_add, Nat.add_comm t 1, Nat.add_right_comm]
  have e2 : 2 ^ (t + 1 + 52) = (2 ^ 52 + 2 ^ 52) * 2 ^ t := by
    rw [show (2 ^ 52 + 2 ^ 52 : Nat) = 2 ^ 53 by rfl, ← Nat.pow_add, Nat.add_comm t 1, Nat.add_right_comm]
  rw [e1, e2]
  exact k
theorem valR_mono {A B : Nat} (h : A ≤ B) : valR A ≤ valR B := by
  by_cases hb : B < 2 ^ 52
  · rw [valR_low (by omega), valR_low (by omega)]; exact h
  · have b1 := valR_bin (R := B) (by omega)
    by_cases ha : A < 2 ^ 52
    · rw [valR_low (R := A) (by omega)]
      have : 2 ^ 52 ≤ 2 ^ (B / 2 ^ 52 + 51) := Nat.pow_le_pow_right (by decide) (by omega)
      omega
    · have a1 := valR_bin (R := A) (by omega)
      by_cases hd : A / 2 ^ 52 = B / 2 ^ 52
      · unfold valR
        rw [if_neg ha, if_neg hb, hd]
        exact Nat.mul_le_mul_right _ (by omega)
      · have : A / 2 ^ 52 + 52 ≤ B / 2 ^ 52 + 51 := by omega
        have := Nat.pow_le_pow_right (n := 2) (by decide) this
        omega
theorem pow_shift {m V u s d al be : Nat} (h : m * 2 ^ u ≤ V * 2 ^ (d + s)) (he : u + be = al + d + s) : m * 2 ^ al ≤ V * 2 ^ be := by
  have h1 := Nat.mul_le_mul_right (2 ^ be) h
  rw [Nat.mul_assoc, Nat.mul_assoc, ← Nat.pow_add, ← Nat.pow_add, he] at h1
  rw [show al + d + s = al + (d + s) by omega, show d + s + be = be + (d + s) by omega, Nat.pow_add 2 al (d + s), Nat.pow_add 2 be (d + s), ← Nat.mul_assoc, ← Nat.mul_assoc] at h1
  exact Nat.le_of_mul_le_mul_right h1 (Nat.two_pow_pos _)
theorem pow_shift' {m V u s d al be : Nat} (h : V * 2 ^ (d + s) ≤ m * 2 ^ u) (he : u + be = al + d + s) : V * 2 ^ be ≤ m * 2 ^ al := by
  have h1 := Nat.mul_le_mul_right (2 ^ be) h
  rw [Nat.mul_assoc, Nat.mul_assoc, ← Nat.pow_add, ← Nat.pow_add, he] at h1
  rw [show al + d + s = al + (d + s) by omega, show d + s + be = be + (d + s) by omega, Nat.pow_add 2 al (d + s), Nat.pow_add 2 be (d + s), ← Nat.mul_assoc, ← Nat.mul_assoc] at h1
  exact Nat.le_of_mul_le_mul_right h1 (Nat.two_pow_pos _)
theorem cut_le {neg : Bool} {n drop V : Nat} (h : n ≤ V * 2 ^ drop) : Toward.even.cut neg n drop ≤ V := by
  unfold Toward.cut
  simp only [Nat.shiftLeft_eq, Nat.one_mul]
  rcases Nat.lt_or_ge (n.log2 + 2) drop with hd | hd
  · rw [Nat.min_eq_right (by omega)]
    have hn : n < 2 ^ (n.log2 + 1) := Nat.lt_log2_self
    have e : 2 ^ (n.log2 + 2) = 2 * 2 ^ (n.log2 + 1) := by rw [Nat.pow_succ]; omega
    rw [e]
    generalize 2 ^ (n.log2 + 1) = g at hn
    rw [Nat.div_eq_of_lt (by omega), Nat.mod_eq_of_lt (by omega)]
    have h2 : (2 * g == 2 * n) = false := by simp; omega
    have h3 : ¬ g < n := by omega
    simp [h2, h3]
  · rw [Nat.min_eq_left hd]
    have hg : 0 < 2 ^ drop := Nat.two_pow_pos _
    generalize 2 ^ drop = g at hg h
    have hdm := Nat.div_add_mod n g
    have hq : n / g ≤ V := Nat.div_le_of_le_mul (by rw [Nat.mul_comm]; exact h)
    by_cases hr : n % g = 0
    · rw [hr]
      have h1 : decide (g < 2 * 0) = false := by simp
      have h2 : (g == 2 * 0) = false := by simp; omega
      simp [h2]
      exact hq
    · have : n / g < V := by
        rcases Nat.lt_or_ge (n / g) V with h' | h'
        · exact h'
        · have e : n / g = V := by omega
          rw [e, Nat.mul_comm] at hdm
          omega
      have hb : ∀ b : Bool, b.toNat ≤ 1 := fun b => by cases b <;> decide
      have := hb (decide (g < 2 * (n % g)) || (g == 2 * (n % g) && n / g % 2 == 1))
      omega
theorem le_cut {neg : Bool} {n drop V : Nat} (h : V * 2 ^ drop ≤ n) : V ≤ Toward.even.cut neg n drop := by
  unfold Toward.cut
  simp only [Nat.shiftLeft_eq, Nat.one_mul]
  rcases Nat.lt_or_ge (n.log2 + 2) drop with hd | hd
  · have hn : n < 2 ^ (n.log2 + 1) := Nat.lt_log2_self
    have h3 : 2 ^ (n.log2 + 1) ≤ 2 ^ drop := Nat.pow_le_pow_right (by decide) (by omega)
    rcases Nat.eq_zero_or_pos V with rfl | hv
    · exact Nat.zero_le _
    · have := Nat.mul_le_mul_right (2 ^ drop) hv
      omega
  · rw [Nat.min_eq_left hd]
    have : V ≤ n / 2 ^ drop := (Nat.le_div_iff_mul_le (Nat.two_pow_pos _)).2 h
    omega
/-- The rung of a rounded number. -/
theorem nearest_rung (neg : Bool) (mag : Nat) (p : Int) (hm : mag ≠ 0) : ∃ (d al be kept : Nat), (d : Int) = max (p + mag.log2 - 52) (-1074) + 1074 ∧ (al : Int) - be = p + 1074 - d ∧ (al = 0 ∨ be = 0) ∧ kept = Toward.even.cut neg (mag * 2 ^ al) be ∧
    double.nearest neg mag p = double.word neg (min (d * 2 ^ 52 + kept) (2047 * 2 ^ 52)) := by
  have hl : double.leastPlace = -1074 := by decide
  have hf : double.fractionBits = 52 := rfl
  have hb : double.binade = 2 ^ 52 := rfl
  have hi : double.infRung = 2047 * 2 ^ 52 := by decide
  refine ⟨(max (p + mag.log2 - 52) (-1074) + 1074).toNat, (p - max (p + mag.log2 - 52) (-1074)).toNat, (max (p + mag.log2 - 52) (-1074) - p).toNat, _, by omega, by omega, by omega, rfl, ?_⟩
  unfold Format.nearest
  rw [if_neg hm]
  simp only [hl, hf, hb, hi, Nat.shiftLeft_eq]
  rfl
theorem valR_split {R : Nat} (h : 2 ^ 52 ≤ R) : ∃ t m, R = (t + 1) * 2 ^ 52 + m ∧ m < 2 ^ 52 ∧ valR R = (2 ^ 52 + m) * 2 ^ t := by
  refine ⟨R / 2 ^ 52 - 1, R % 2 ^ 52, by omega, Nat.mod_lt _ (by decide), ?_⟩
  unfold valR
  rw [if_neg (by omega)]
theorem dbl (mag al k : Nat) (h : 1 ≤ k) : 2 * (mag * 2 ^ al) ≤ mag * 2 ^ (al + k) := by
  have h1 : 2 ^ (al + 1) ≤ 2 ^ (al + k) := Nat.pow_le_pow_right (by decide) (by omega)
  calc 2 * (mag * 2 ^ al) = mag * 2 ^ (al + 1) := by rw [Nat.pow_succ, Nat.mul_comm 2, Nat.mul_assoc]
    _ ≤ _ := Nat.mul_le_mul_left _ h1
theorem pow_shift_lt {m V u s d al be : Nat} (h : m * 2 ^ u < V * 2 ^ (d + s)) (he : u + be = al + d + s) : m * 2 ^ al < V * 2 ^ be := by
  rcases Nat.lt_or_ge (m * 2 ^ al) (V * 2 ^ be) with h1 | h1
  · exact h1
  · exfalso
    have h2 := Nat.mul_le_mul_right (2 ^ (d + s)) h1
    have h3 := Nat.mul_lt_mul_of_pos_right h (Nat.two_pow_pos be)
    rw [Nat.mul_assoc, Nat.mul_assoc, ← Nat.pow_add, ← Nat.pow_add] at h2 h3
    rw [he, show al + d + s = al + (d + s) by omega, show d + s + be = be + (d + s) by omega] at h3
    omega
theorem lt_pow {a b : Nat} (h : 2 ^ a < 2 ^ b) : a < b := (Nat.pow_lt_pow_iff_right (by decide)).1 h
/-- The kept digits lie between. -/
theorem kept_bin {neg : Bool} {mag al be d : Nat} {p : Int} (hm : mag ≠ 0) (hd : (d : Int) = max (p + mag.log2 - 52) (-1074) + 1074) (hab : (al : Int) - be = p + 1074 - d) :
    Toward.even.cut neg (mag * 2 ^ al) be ≤ 2 ^ 53 ∧ mag * 2 ^ al < 2 ^ 53 * 2 ^ be ∧ (1 ≤ d → 2 ^ 52 ≤ Toward.even.cut neg (mag * 2 ^ al) be ∧ 2 ^ 52 * 2 ^ be ≤ mag * 2 ^ al) := by
  have hlo := Nat.log2_self_le hm
  have hhi : mag < 2 ^ (mag.log2 + 1) := Nat.lt_log2_self
  generalize mag.log2 = L at *
  have h1 : mag * 2 ^ al < 2 ^ 53 * 2 ^ be := by
    calc mag * 2 ^ al < 2 ^ (L + 1) * 2 ^ al := Nat.mul_lt_mul_of_pos_right hhi (Nat.two_pow_pos _)
      _ = 2 ^ (L + 1 + al) := by rw [Nat.pow_add 2 (L + 1)]
      _ ≤ 2 ^ (53 + be) := Nat.pow_le_pow_right (by decide) (by omega)
      _ = 2 ^ 53 * 2 ^ be := by rw [Nat.pow_add]
  refine ⟨cut_le (Nat.le_of_lt h1), h1, fun hd1 => ?_⟩
  have h2 : 2 ^ 52 * 2 ^ be ≤ mag * 2 ^ al := by
    calc 2 ^ 52 * 2 ^ be = 2 ^ (52 + be) := by rw [Nat.pow_add]
      _ ≤ 2 ^ (L + al) := Nat.pow_le_pow_right (by decide) (by omega)
      _ = 2 ^ L * 2 ^ al := by rw [Nat.pow_add]
      _ ≤ mag * 2 ^ al := Nat.mul_le_mul_right _ hlo
  exact ⟨le_cut h2, h2⟩
theorem rung_le {neg : Bool} {mag al be d R u s : Nat} {p : Int} (hm : mag ≠ 0) (hd : (d : Int) = max (p + mag.log2 - 52) (-1074) + 1074) (hab : (al : Int) - be = p + 1074 - d)
    (hu : (u : Int) = p + 1074 + s) (h : mag * 2 ^ u ≤ valR R * 2 ^ s) : d * 2 ^ 52 + Toward.even.cut neg (mag * 2 ^ al) be ≤ R := by
  obtain ⟨k1, k2, k3⟩ := kept_bin (neg := neg) hm hd hab
  have he : u + be = al + d + s := by omega
  by_cases hd0 : d = 0
  · subst hd0
    by_cases hr : R < 2 ^ 53
    · rw [valR_low hr] at h
      have := cut_le (neg := neg) (pow_shift (d := 0) (al := al) (be := be) (by simpa using h) he)
      omega
    · omega
  · obtain ⟨k3, k4⟩ := k3 (by omega)
    have hR : 2 ^ 52 ≤ R := by
      rcases Nat.lt_or_ge R (2 ^ 52) with hr | hr
      · rw [valR_low (by omega)] at h
        exfalso
        have h5 : mag * 2 ^ u < 2 ^ 52 * 2 ^ s := Nat.lt_of_le_of_lt h (Nat.mul_lt_mul_of_pos_right hr (Nat.two_pow_pos _))
        have h6 := pow_shift_lt (m := mag) (V := 2 ^ 52) (u := u) (s := s) (d := 0) (al := al + d) (be := be) (by simpa using h5) (by omega)
        have h7 := dbl mag al d (by omega)
        omega
      · exact hr
    obtain ⟨t, m, hRt, hm52, hv⟩ := valR_split hR
    rw [hv] at h
    rcases Nat.lt_trichotomy (t + 1) (d + 1) with ht | ht | ht
    · exfalso
      have h5 : mag * 2 ^ u < 2 ^ 53 * 2 ^ t * 2 ^ s := Nat.lt_of_le_of_lt h (Nat.mul_lt_mul_of_pos_right (Nat.mul_lt_mul_of_pos_right (by omega) (Nat.two_pow_pos _)) (Nat.two_pow_pos _))
      have h6 := pow_shift_lt (m := mag) (V := 2 ^ 53) (u := u) (s := s) (d := t) (al := al + (d - t)) (be := be) (by rw [Nat.pow_add, ← Nat.mul_assoc]; exact h5) (by omega)
      have h7 := dbl mag al (d - t) (by omega)
      omega
    · obtain rfl : t = d := by omega
      have := cut_le (neg := neg) (pow_shift (d := t) (al := al) (be := be) (by rw [Nat.pow_add, ← Nat.mul_assoc]; exact h) he)
      omega
    · have : (d + 2) * 2 ^ 52 ≤ (t + 1) * 2 ^ 52 := Nat.mul_le_mul_right _ (by omega)
      omega
theorem le_rung {neg : Bool} {mag al be d R u s : Nat} {p : Int} (hm : mag ≠ 0) (hd : (d : Int) = max (p + mag.log2 - 52) (-1074) + 1074) (hab : (al : Int) - be = p + 1074 - d)
    (hu : (u : Int) = p + 1074 + s) (h : valR R * 2 ^ s ≤ mag * 2 ^ u) : R ≤ d * 2 ^ 52 + Toward.even.cut neg (mag * 2 ^ al) be := by
  obtain ⟨k1, k2, k3⟩ := kept_bin (neg := neg) hm hd hab
  have he : u + be = al + d + s := by omega
  rcases Nat.lt_or_ge R (2 ^ 52) with hr | hr
  · by_cases hd0 : d = 0
    · subst hd0
      rw [valR_low (by omega)] at h
      have := le_cut (neg := neg) (pow_shift' (d := 0) (al := al) (be := be) (by simpa using h) he)
      omega
    · obtain ⟨k3, k4⟩ := k3 (by omega)
      omega
  · obtain ⟨t, m, hRt, hm52, hv⟩ := valR_split hr
    rw [hv] at h
    rcases Nat.lt_trichotomy t d with ht | ht | ht
    · obtain ⟨k3, k4⟩ := k3 (by omega)
      have : (t + 1) * 2 ^ 52 ≤ d * 2 ^ 52 := Nat.mul_le_mul_right _ (by omega)
      omega
    · subst ht
      have := le_cut (neg := neg) (pow_shift' (d := t) (al := al) (be := be) (by rw [Nat.pow_add, ← Nat.mul_assoc]; exact h) he)
      omega
    · exfalso
      have h5 : 2 ^ 52 * 2 ^ t * 2 ^ s ≤ mag * 2 ^ u := Nat.le_trans (Nat.mul_le_mul_right _ (Nat.mul_le_mul_right _ (by omega))) h
      have h6 := pow_shift' (m := mag) (V := 2 ^ 52 * 2 ^ (t - d)) (u := u) (s := s) (d := d) (al := al) (be := be) (by rw [Nat.pow_add, ← Nat.mul_assoc, Nat.mul_assoc (2 ^ 52), ← Nat.pow_add, show t - d + d = t by omega]; exact h5) he
      have h7 : 2 * 2 ^ 52 ≤ 2 ^ 52 * 2 ^ (t - d) := by
        have := Nat.pow_le_pow_right (n := 2) (by decide) (show 1 ≤ t - d by omega)
        omega
      have h8 := Nat.mul_le_mul_right (2 ^ be) h7
      omega
/-- ROUNDING KEEPS BOUNDS that are numbers of the format. -/
theorem nearest_between {neg : Bool} {mag : Nat} {p : Int} {A B u s : Nat} (hB : B < 2047 * 2 ^ 52) (hu : (u : Int) = p + 1074 + s) (hA : valR A * 2 ^ s ≤ mag * 2 ^ u) (hb : mag * 2 ^ u ≤ valR B * 2 ^ s) :
    ∃ R, A ≤ R ∧ R ≤ B ∧ double.nearest neg mag p = double.word neg R := by
  by_cases hm : mag = 0
  · subst hm
    refine ⟨0, ?_, Nat.zero_le _, by unfold Format.nearest; rw [if_pos rfl]⟩
    rcases Nat.lt_or_ge A (2 ^ 52) with ha | ha
    · rw [valR_low (by omega)] at hA
      rcases Nat.eq_zero_or_pos A with rfl | ha
      · exact Nat.le_refl _
      · have := Nat.mul_pos ha (Nat.two_pow_pos s)
        omega
    · have h1 := valR_bin ha
      have h2 : 0 < valR A := Nat.lt_of_lt_of_le (Nat.two_pow_pos _) h1.1
      have := Nat.mul_pos h2 (Nat.two_pow_pos s)
      omega
  · obtain ⟨d, al, be, kept, hd, hab, h0, hk, hn⟩ := nearest_rung neg mag p hm
    have h1 := rung_le (neg := neg) hm hd hab hu hb
    have h2 := le_rung (neg := neg) hm hd hab hu hA
    rw [← hk] at h1 h2
    exact ⟨_, h2, h1, by rw [hn, Nat.min_eq_left (by omega)]⟩
end Go.Proofs.Ytlgnidjkilbdfaa
