/- Chapter 20: half by the product, sums and means. No program walked. -/
import Derived.Test.YtlgnidjkilbdfaaBp
namespace Go.Proofs.Ytlgnidjkilbdfaa
open Ieee Go
set_option linter.unusedVariables false
set_option maxRecDepth 100000
theorem log_shift (R a : Nat) (h : R ≠ 0) : (R * 2 ^ a).log2 = R.log2 + a := by
  have h1 := Nat.log2_self_le h
  have h2 : R < 2 ^ (R.log2 + 1) := Nat.lt_log2_self
  have hp := Nat.two_pow_pos a
  have hne : R * 2 ^ a ≠ 0 := Nat.mul_ne_zero h (by omega)
  have lo : R.log2 + a ≤ (R * 2 ^ a).log2 := (Nat.le_log2 hne).2 (by rw [Nat.pow_add]; exact Nat.mul_le_mul_right _ h1)
  have hi : (R * 2 ^ a).log2 < R.log2 + a + 1 := (Nat.log2_lt hne).2 (by rw [show R.log2 + a + 1 = R.log2 + 1 + a by omega, Nat.pow_add]; exact Nat.mul_lt_mul_of_pos_right h2 hp)
  omega
/-- Half of a small number of units: to the nearest, and to the even one. -/
theorem near_half {R : Nat} (h0 : R ≠ 0) (h : R < 2 ^ 53) (a : Nat) : double.nearest false (R * 2 ^ a) (-1075 - (a : Int)) = R / 2 + (decide (R % 2 = 1) && decide (R / 2 % 2 = 1)).toNat := by
  have hl := log_shift R a h0
  have hR : R.log2 ≤ 52 := by have := (Nat.log2_lt h0).2 h; omega
  have hp := Nat.two_pow_pos a
  have hf : double.fractionBits = 52 := rfl
  have hlp : double.leastPlace = -1074 := by decide
  have hb : double.binade = 2 ^ 52 := rfl
  have hi : double.infRung = 2047 * 2 ^ 52 := by decide
  have hlast : max (-1075 - (a : Int) + ((R * 2 ^ a).log2 : Nat) - (52 : Nat)) (-1074) = -1074 := by rw [hl]; omega
  unfold Format.nearest
  rw [if_neg (Nat.mul_ne_zero h0 (by omega)), hf, hlp]
  simp only [hlast]
  rw [show (-1075 - (a : Int) - -1074).toNat = 0 by omega, show ((-1074 : Int) - (-1075 - (a : Int))).toNat = a + 1 by omega, show ((-1074 : Int) - -1074).toNat = 0 by omega, Nat.shiftLeft_zero, Nat.zero_mul, Nat.zero_add, word_false, hi]
  have hc : Toward.even.cut false (R * 2 ^ a) (a + 1) = R / 2 + (decide (R % 2 = 1) && decide (R / 2 % 2 = 1)).toNat := by
    unfold Toward.cut
    simp only
    rw [hl, Nat.min_eq_left (by omega), Nat.shiftLeft_eq, Nat.one_mul, Nat.pow_succ, Nat.mul_comm (2 ^ a) 2, Nat.mul_div_mul_right _ _ hp, Nat.mul_mod_mul_right]
    congr 2
    rcases Nat.mod_two_eq_zero_or_one R with h2 | h2
    · rw [h2]
      have e1 : decide (2 * 2 ^ a < 2 * (0 * 2 ^ a)) = false := decide_eq_false (by omega)
      have e2 : (2 * 2 ^ a == 2 * (0 * 2 ^ a)) = false := by rw [beq_eq_false_iff_ne]; omega
      rw [e1, e2]; simp
    · rw [h2, Nat.one_mul]
      have e1 : decide (2 * 2 ^ a < 2 * 2 ^ a) = false := decide_eq_false (by omega)
      rw [e1, beq_self_eq_true]
      simp
      rfl
  rw [hc]
  refine Nat.min_eq_left ?_
  have : (decide (R % 2 = 1) && decide (R / 2 % 2 = 1)).toNat ≤ 1 := by cases (decide (R % 2 = 1) && decide (R / 2 % 2 = 1)) <;> decide
  omega
theorem read_half : double.read 4602678819172646912 = .number false (2 ^ 52) (-53) := by decide +kernel
theorem hR_small {R : Nat} (h0 : R ≠ 0) (h : R < 2 ^ 53) : hR R = R / 2 + (decide (R % 2 = 1) && decide (R / 2 % 2 = 1)).toNat := by
  have hl := log_rm R
  have e1 : rm R = R := by unfold rm; split <;> omega
  have e2 : rp R = -1074 := by unfold rp; split <;> omega
  obtain ⟨k, hk⟩ : ∃ k, more R = 52 + k := ⟨more R - 52, by unfold more; omega⟩
  have hd : R <<< more R = 2 ^ 52 * (R * 2 ^ k) := by rw [Nat.shiftLeft_eq, hk, Nat.pow_add]; ac_rfl
  have hg : 2 * (R <<< more R / 2 ^ 52) + (R <<< more R % 2 ^ 52 != 0).toNat = R * 2 ^ (k + 1) := by
    rw [hd, Nat.mul_div_cancel_left _ (by decide), Nat.mul_mod_right, Nat.pow_succ]
    show 2 * (R * 2 ^ k) + 0 = _
    rw [Nat.add_zero]; ac_rfl
  unfold hR
  rw [e1, e2, hg, ← near_half h0 h (k + 1)]
  congr 1
  omega
theorem mul_half (s : Bool) {R : Nat} (h : R < 2047 * 2 ^ 52) : double.mul (double.word s R) 4602678819172646912 = some (double.word s (hR R)) := by
  have hm : double.mul (double.word s R) 4602678819172646912 = some (double.word s (double.nearest false (rm R * 2 ^ 52) (rp R + -53))) := by
    unfold Format.mul
    rw [read_at s h, read_half]
    simp only [Datum.product, Option.map_some, Format.write, Bool.xor_false]
    rw [nearest_word]
  rw [hm]
  congr 2
  rcases Nat.lt_or_ge R (2 ^ 53) with h1 | h1
  · rcases Nat.eq_zero_or_pos R with h0 | h0
    · subst h0
      decide +kernel
    · have e1 : rm R = R := by unfold rm; split <;> omega
      have e2 : rp R = -1074 := by unfold rp; split <;> omega
      rw [hR_small (by omega) h1, ← near_half (by omega) h1 52, e1, e2]
      congr 1
  · obtain ⟨T, rfl⟩ : ∃ T, R = T + 2 ^ 52 := ⟨R - 2 ^ 52, by omega⟩
    have hd := valR_dbl (R := T) (by omega)
    have a := hR_between (R := T + 2 ^ 52) (A := T) (B := T) (by omega) (by rw [hd]; exact Nat.le_refl _) (by rw [hd]; exact Nat.le_refl _)
    have hp := rp_ge (T + 2 ^ 52)
    have hT : T < 2047 * 2 ^ 52 := by omega
    have hu : (((rp (T + 2 ^ 52) + 1074).toNat : Nat) : Int) = rp (T + 2 ^ 52) + -53 + 1074 + (53 : Nat) := by omega
    have hv : rm (T + 2 ^ 52) * 2 ^ 52 * 2 ^ ((rp (T + 2 ^ 52) + 1074).toNat) = valR T * 2 ^ 53 := by
      have := rm_val (T + 2 ^ 52)
      rw [hd] at this
      rw [Nat.mul_right_comm, this, Nat.mul_comm 2 (valR T), Nat.mul_assoc]
    obtain ⟨K, f1, f2, f3⟩ := nearest_between (neg := false) (mag := rm (T + 2 ^ 52) * 2 ^ 52) (p := rp (T + 2 ^ 52) + -53) (A := T) (B := T) (u := (rp (T + 2 ^ 52) + 1074).toNat) (s := 53) hT hu
      (by rw [hv]; exact Nat.le_refl _) (by rw [hv]; exact Nat.le_refl _)
    rw [f3, word_false]
    clear hv hd
    omega
theorem half_mul {x : Nat} (hx : x < 2 ^ 64) (h : oneB x = true) : double.mul x 4602678819172646912 = some (half x) := by
  have h1 := mul_half (negB x) (one_rung h)
  rw [word_of hx, ← (half_word hx h).1] at h1
  exact h1
theorem log_rm_top {T : Nat} (h : 2 ^ 52 ≤ T) : (rm T).log2 = 52 ∧ 2 ^ 52 ≤ rm T := by
  have h1 : 2 ^ 52 ≤ rm T := by unfold rm; rw [if_neg (by omega)]; omega
  have h2 := rm_lt T
  exact ⟨(Nat.log2_eq_iff (by omega)).2 ⟨h1, h2⟩, h1⟩
/-- A quotient by one or more is no farther from nought. -/
theorem div_le (s : Bool) {R T : Nat} (h : R < 2047 * 2 ^ 52) (h1 : 1023 * 2 ^ 52 ≤ T) (h2 : T < 2047 * 2 ^ 52) : ∃ K, K ≤ R ∧ double.div (double.word s R) (double.word false T) = some (double.word s K) := by
  have hl := log_rm R
  obtain ⟨ht, ht2⟩ := log_rm_top (T := T) (by omega)
  have hpT : -52 ≤ rp T := by unfold rp; rw [if_neg (by omega)]; omega
  have hpR := rp_ge R
  have hf : double.fractionBits = 52 := rfl
  obtain ⟨mo, hmo⟩ : ∃ mo, mo = double.fractionBits + 2 + (rm T).log2 - (rm R).log2 := ⟨_, rfl⟩
  have hm1 : 54 ≤ mo := by rw [hmo, ht, hf]; omega
  obtain ⟨e, he⟩ : ∃ e : Nat, (e : Int) = rp T + mo := ⟨(rp T + mo).toNat, by omega⟩
  have hdiv : double.div (double.word s R) (double.word false T) = some (double.word s (double.nearest false (2 * (rm R <<< mo / rm T) + (rm R <<< mo % rm T != 0).toNat) (rp R - rp T - mo - 1))) := by
    unfold Format.div
    rw [read_at s h, read_at false h2]
    simp only [Datum.quotient, if_neg (show ¬ rm T = 0 by omega), Option.map_some, Format.write, Bool.xor_false]
    rw [nearest_word, ← hmo]
  rw [hdiv]
  obtain ⟨D, hD⟩ : ∃ D, D = rm R * 2 ^ mo := ⟨_, rfl⟩
  obtain ⟨V, hV⟩ : ∃ V, V = rm R * 2 ^ e := ⟨_, rfl⟩
  have hDV : D ≤ rm T * V := by
    have a : 2 ^ mo ≤ 2 ^ (52 + e) := Nat.pow_le_pow_right (by decide) (by omega)
    rw [Nat.pow_add] at a
    have b : 2 ^ 52 * 2 ^ e ≤ rm T * 2 ^ e := Nat.mul_le_mul_right _ ht2
    rw [hD, hV, Nat.mul_left_comm]
    exact Nat.mul_le_mul_left _ (Nat.le_trans a b)
  have hg : 2 * (D / rm T) + (D % rm T != 0).toNat ≤ 2 * V := by
    have hdm := Nat.div_add_mod D (rm T)
    have hql : D / rm T ≤ V := Nat.div_le_of_le_mul hDV
    by_cases hr : D % rm T = 0
    · rw [hr]
      have : ((0 : Nat) != 0).toNat = 0 := rfl
      omega
    · have : D / rm T < V := by
        rcases Nat.lt_or_ge (D / rm T) V with h' | h'
        · exact h'
        · exfalso
          have e1 : D / rm T = V := Nat.le_antisymm hql h'
          rw [e1] at hdm
          omega
      have hb : (D % rm T != 0).toNat ≤ 1 := by cases (D % rm T != 0) <;> decide
      omega
  rw [Nat.shiftLeft_eq, ← hD]
  generalize 2 * (D / rm T) + (D % rm T != 0).toNat = G at *
  have hu : (((rp R + 1074).toNat : Nat) : Int) = rp R - rp T - mo - 1 + 1074 + ((e + 1 : Nat) : Int) := by omega
  have hval : G * 2 ^ (rp R + 1074).toNat ≤ valR R * 2 ^ (e + 1) := by
    have a := Nat.mul_le_mul_right (2 ^ (rp R + 1074).toNat) hg
    have b : 2 * V * 2 ^ (rp R + 1074).toNat = valR R * 2 ^ (e + 1) := by
      rw [hV, ← rm_val R, Nat.pow_succ]
      generalize 2 ^ (rp R + 1074).toNat = x
      generalize 2 ^ e = y
      generalize rm R = m
      rw [show 2 * (m * y) * x = m * x * (y * 2) by ac_rfl]
    rw [b] at a
    exact a
  obtain ⟨K, f1, f2, f3⟩ := nearest_between (neg := false) (mag := G) (p := rp R - rp T - mo - 1) (A := 0) (B := R) (u := (rp R + 1074).toNat) (s := e + 1) h hu (by rw [valR_zero]; omega) hval
  rw [f3, word_false]
  exact ⟨K, f2, rfl⟩
theorem ofInt_word {N : Nat} (h : N < 2 ^ 53) (h1 : 0 < N) : ∃ T, 1023 * 2 ^ 52 ≤ T ∧ T < 2047 * 2 ^ 52 ∧ floatOfInt .f64 (N : Int) = double.word false T := by
  obtain ⟨R, hR, hv⟩ := int_rung N h
  obtain ⟨R', f1, f2, f3⟩ := nearest_between (neg := false) (mag := N) (p := 0) (A := R) (B := R) (u := 1074) (s := 0) hR (by omega) (by rw [hv, Nat.pow_zero, Nat.mul_one]; exact Nat.le_refl _) (by rw [hv, Nat.pow_zero, Nat.mul_one]; exact Nat.le_refl _)
  obtain rfl : R' = R := by omega
  refine ⟨R', ?_, hR, ?_⟩
  · rcases Nat.lt_or_ge R' (1023 * 2 ^ 52) with hlt | hge
    · exfalso
      have a := valR_lt hlt
      have b := valR_two 0 (by decide)
      rw [show (1022 + 0 + 1) * 2 ^ 52 = 1023 * 2 ^ 52 from rfl, Nat.add_zero] at b
      rw [b, hv] at a
      have := Nat.le_mul_of_pos_left (2 ^ 1074) h1
      generalize 2 ^ 1074 = P at *
      omega
    · exact hge
  · have e : floatOfInt .f64 (N : Int) = double.nearest (decide ((N : Int) < 0)) (N : Int).natAbs 0 := rfl
    rw [e, decide_eq_false (by omega), Int.natAbs_natCast]
    exact f3
/-- A sum over how many there are. -/
theorem over_ok {x N : Nat} (hx : x < 2 ^ 64) (h : oneB x = true) (hN : N < 2 ^ 53) (h1 : 0 < N) :
    double.div x (floatOfInt .f64 (N : Int)) = some (over x (floatOfInt .f64 (N : Int))) ∧ over x (floatOfInt .f64 (N : Int)) < 2 ^ 64 ∧ oneB (over x (floatOfInt .f64 (N : Int))) = true := by
  obtain ⟨s, R, hR', rfl⟩ := one_form hx h
  obtain ⟨T, t1, t2, e⟩ := ofInt_word hN h1
  obtain ⟨K, k1, k2⟩ := div_le s hR' t1 t2
  unfold over
  rw [e, k2]
  exact ⟨rfl, word_lt _ (by omega), one_word _ (by omega)⟩
def sums (S : List Nat) (k : Nat) : Nat := (S.take k).foldl plus 0
theorem sums_succ {S : List Nat} {k : Nat} (h : k < S.length) : sums S (k + 1) = plus (sums S k) (S.getD k 0) := by
  unfold sums
  rw [List.take_succ_eq_append_getElem h, List.foldl_append, List.getD_eq_getElem?_getD, List.getElem?_eq_getElem h]
  rfl
def sumOk (S : List Nat) : Bool := (List.range (S.length + 1)).all fun j => oneB (sums S j)
def meanE (S : List Nat) : Int := if S.length = 0 then 0 else if sumOk S then 0 else 9
def meanV (S : List Nat) : Nat := if S.length = 0 then 0 else if sumOk S then over (sums S S.length) (floatOfInt .f64 (S.length : Int)) else 0
/-- Up to k each sum is finite. -/
def SumTo (S : List Nat) (k : Nat) : Prop := sums S k < 2 ^ 64 ∧ ∀ j, j ≤ k → oneB (sums S j) = true
theorem SumTo.zero (S : List Nat) : SumTo S 0 := by
  refine ⟨by show (0 : Nat) < 2 ^ 64; decide, fun j hj => ?_⟩
  obtain rfl : j = 0 := by omega
  show oneB 0 = true
  decide +kernel
theorem SumTo.ok {S : List Nat} (h : SumTo S S.length) : sumOk S = true := by
  unfold sumOk
  rw [List.all_eq_true]
  intro j hj
  rw [List.mem_range] at hj
  exact h.2 j (by omega)
theorem sum_bad {S : List Nat} {j : Nat} (hj : j ≤ S.length) (h : oneB (sums S j) = false) : sumOk S = false := by
  rw [Bool.eq_false_iff]
  intro hs
  unfold sumOk at hs
  rw [List.all_eq_true] at hs
  have := hs j (List.mem_range.2 (by omega))
  rw [h] at this
  cases this
end Go.Proofs.Ytlgnidjkilbdfaa
