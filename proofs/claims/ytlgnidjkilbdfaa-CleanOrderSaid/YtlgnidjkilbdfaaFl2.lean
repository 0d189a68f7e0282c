/- Floating point words of 64 bits: sums, products, quotients, comparisons by scaled whole numbers. No program. -/
import Derived.Test.YtlgnidjkilbdfaaFl
import GoSem.Op.Unary
namespace Go.Proofs.Ytlgnidjkilbdfaa
open Ieee
set_option linter.unusedVariables false
theorem word_true {R : Nat} (h : R < 2 ^ 63) : double.word true R = 2 ^ 63 + R := rfl
theorem word_false (R : Nat) : double.word false R = R := rfl
theorem read_word {neg : Bool} {R : Nat} (h : R < 2047 * 2 ^ 52) : ∃ (m : Nat) (p : Int), double.read (double.word neg R) = .number neg m p ∧ -1074 ≤ p ∧ m * 2 ^ (p + 1074).toNat = valR R := by
  have hl : double.leastPlace = -1074 := by decide
  have hb : double.binade = 2 ^ 52 := rfl
  have hi : double.infRung = 2047 * 2 ^ 52 := by decide
  have hs : double.signWeight = 2 ^ 63 := by decide
  have hw : double.word neg R / 2 ^ 63 % 2 = neg.toNat ∧ double.word neg R % 2 ^ 63 = R := by
    cases neg
    · rw [word_false]; simp only [Bool.toNat_false]; omega
    · rw [word_true (by omega)]; simp only [Bool.toNat_true]; omega
  have hn : (neg.toNat == 1) = neg := by cases neg <;> rfl
  unfold Format.read valR
  simp only [hs, hb, hi, hl, hw.1, hw.2, hn]
  by_cases h1 : R < 2 ^ 52
  · rw [if_pos h1, if_pos h1]
    exact ⟨R, -1074, rfl, by omega, by simp⟩
  · rw [if_neg h1, if_pos h, if_neg h1]
    refine ⟨_, _, rfl, by omega, ?_⟩
    congr 2
    omega
theorem signed_val (neg : Bool) (m u : Nat) : signed neg m u = if neg then -((m * 2 ^ u : Nat) : Int) else ((m * 2 ^ u : Nat) : Int) := by
  unfold signed
  rw [Nat.shiftLeft_eq]
theorem signed_abs (neg : Bool) (m u : Nat) : (signed neg m u).natAbs = m * 2 ^ u := by
  rw [signed_val]
  cases neg
  · rfl
  · rw [if_pos rfl, Int.natAbs_neg]; rfl
theorem signed_scale (neg : Bool) (m u k : Nat) : signed neg m (u + k) = signed neg m u * 2 ^ k := by
  rw [signed_val, signed_val]
  have h : ((m * 2 ^ (u + k) : Nat) : Int) = ((m * 2 ^ u : Nat) : Int) * 2 ^ k := by
    rw [Nat.pow_add, ← Nat.mul_assoc]
    push_cast
    rfl
  cases neg
  · simpa using h
  · simp only [if_true, h, Int.neg_mul]
theorem fin_word {neg : Bool} {R : Nat} (h : R < 2047 * 2 ^ 52) : Fin64 (double.word neg R) (if neg then -(valR R : Int) else valR R) := by
  obtain ⟨m, p, h1, h2, h3⟩ := read_word (neg := neg) h
  exact ⟨neg, m, p, h1, h2, by rw [signed_val, h3]⟩
/-- What is written of a number between two rungs. -/
theorem write_in {neg : Bool} {mag : Nat} {p : Int} {A B u s : Nat} (hB : B < 2047 * 2 ^ 52) (hu : (u : Int) = p + 1074 + s) (hA : valR A * 2 ^ s ≤ mag * 2 ^ u) (hb : mag * 2 ^ u ≤ valR B * 2 ^ s) :
    ∃ c, Fin64 (double.nearest neg mag p) c ∧ (valR A : Int) ≤ c.natAbs ∧ (c.natAbs : Int) ≤ valR B ∧ (neg = false → 0 ≤ c) ∧ (neg = true → c ≤ 0) := by
  obtain ⟨R, h1, h2, h3⟩ := nearest_between (neg := neg) hB hu hA hb
  rw [h3]
  refine ⟨_, fin_word (by omega), ?_, ?_, ?_, ?_⟩
  · cases neg <;> simp <;> exact valR_mono h1
  · cases neg <;> simp <;> exact valR_mono h2
  · rintro rfl; simp
  · rintro rfl; simp
theorem Fin64.add {x y : Nat} {a b : Int} {A B : Nat} (hx : Fin64 x a) (hy : Fin64 y b) (hB : B < 2047 * 2 ^ 52) (h1 : valR A ≤ (a + b).natAbs) (h2 : (a + b).natAbs ≤ valR B) :
    ∃ r c, double.add x y = some r ∧ Fin64 r c ∧ (valR A : Int) ≤ c.natAbs ∧ (c.natAbs : Int) ≤ valR B ∧ (0 ≤ a + b → 0 ≤ c) ∧ (a + b ≤ 0 → c ≤ 0) := by
  obtain ⟨s, m, i, rx, hi, rfl⟩ := hx.ex
  obtain ⟨t, n, j, ry, hj, rfl⟩ := hy.ex
  have hsum : signed s m (i + 1074).toNat + signed t n (j + 1074).toNat = (signed s m (i - min i j).toNat + signed t n (j - min i j).toNat) * 2 ^ (min i j + 1074).toNat := by
    rw [Int.add_mul, ← signed_scale, ← signed_scale]
    congr 2 <;> omega
  rw [hsum] at h1 h2 ⊢
  have e : double.add x y = some (double.write (.number (if signed s m (i - min i j).toNat + signed t n (j - min i j).toNat = 0 then s && t else decide (signed s m (i - min i j).toNat + signed t n (j - min i j).toNat < 0)) (signed s m (i - min i j).toNat + signed t n (j - min i j).toNat).natAbs (min i j))) := by
    unfold Format.add
    rw [rx, ry]
    rfl
  rw [e]
  have hb1 : -1074 ≤ min i j := by omega
  generalize min i j = base at *
  generalize signed s m (i - base).toNat + signed t n (j - base).toNat = T at *
  have hp : (0 : Int) < 2 ^ (base + 1074).toNat := Int.pow_pos (by decide)
  have habs : (T * 2 ^ (base + 1074).toNat).natAbs = T.natAbs * 2 ^ (base + 1074).toNat := by
    rw [Int.natAbs_mul, Int.natAbs_pow]; rfl
  rw [habs] at h1 h2
  by_cases h0 : T = 0
  · subst h0
    refine ⟨_, 0, rfl, ?_, ?_, ?_, fun _ => Int.le_refl _, fun _ => Int.le_refl _⟩
    · have := fin_word (neg := if (0 : Int) = 0 then s && t else decide ((0 : Int) < 0)) (R := 0) (by decide)
      simpa [Format.write, Format.nearest, valR] using this
    · simpa using h1
    · simp
  · obtain ⟨c, f1, f2, f3, f4, f5⟩ := write_in (neg := if T = 0 then s && t else decide (T < 0)) (mag := T.natAbs) (p := base) (A := A) (B := B) (u := (base + 1074).toNat) (s := 0) hB (by omega) (by simpa using h1) (by simpa using h2)
    refine ⟨_, c, rfl, f1, f2, f3, fun h => ?_, fun h => ?_⟩
    · have hT : 0 ≤ T := by
        rcases Int.lt_or_le T 0 with h' | h'
        · have := Int.mul_neg_of_neg_of_pos h' hp; omega
        · exact h'
      exact f4 (by rw [if_neg h0]; exact decide_eq_false (by omega))
    · have hT : T ≤ 0 := by
        rcases Int.lt_or_le 0 T with h' | h'
        · have := Int.mul_pos h' hp; omega
        · exact h'
      exact f5 (by rw [if_neg h0]; exact decide_eq_true (by omega))
theorem Fin64.mul {x y : Nat} {a b : Int} {A B : Nat} (hx : Fin64 x a) (hy : Fin64 y b) (hB : B < 2047 * 2 ^ 52) (h1 : valR A * 2 ^ 1074 ≤ a.natAbs * b.natAbs) (h2 : a.natAbs * b.natAbs ≤ valR B * 2 ^ 1074) :
    ∃ r c, double.mul x y = some r ∧ Fin64 r c ∧ (valR A : Int) ≤ c.natAbs ∧ (c.natAbs : Int) ≤ valR B ∧ (0 ≤ a * b → 0 ≤ c) ∧ (a * b ≤ 0 → c ≤ 0) := by
  obtain ⟨s, m, i, rx, hi, rfl⟩ := hx.ex
  obtain ⟨t, n, j, ry, hj, rfl⟩ := hy.ex
  rw [signed_abs, signed_abs] at h1 h2
  have e : double.mul x y = some (double.nearest (s ^^ t) (m * n) (i + j)) := by
    unfold Format.mul
    rw [rx, ry]
    rfl
  rw [e]
  have hm : m * 2 ^ (i + 1074).toNat * (n * 2 ^ (j + 1074).toNat) = m * n * 2 ^ ((i + 1074).toNat + (j + 1074).toNat) := by
    rw [Nat.pow_add]; ac_rfl
  rw [hm] at h1 h2
  have hsg : (s = t → 0 ≤ signed s m (i + 1074).toNat * signed t n (j + 1074).toNat) ∧ (s ≠ t → signed s m (i + 1074).toNat * signed t n (j + 1074).toNat ≤ 0) := by
    rw [signed_val, signed_val]
    generalize m * 2 ^ (i + 1074).toNat = M
    generalize n * 2 ^ (j + 1074).toNat = N
    have h : (0 : Int) ≤ (M : Int) * (N : Int) := Int.mul_nonneg (by omega) (by omega)
    cases s <;> cases t <;> simp only [if_true, if_false, Bool.false_eq_true, Int.neg_mul, Int.mul_neg, Int.neg_neg, ne_eq, not_true, not_false_eq_true, false_implies, true_implies, reduceCtorEq, and_true, true_and] <;> omega
  by_cases h0 : m * n = 0
  · refine ⟨_, 0, rfl, ?_, ?_, ?_, fun _ => Int.le_refl _, fun _ => Int.le_refl _⟩
    · have := fin_word (neg := s ^^ t) (R := 0) (by decide)
      rw [h0]
      simpa [Format.nearest, valR] using this
    · rw [h0, Nat.zero_mul] at h1
      have : valR A = 0 := by
        rcases Nat.eq_zero_or_pos (valR A) with h | h
        · exact h
        · have := Nat.mul_pos h (Nat.two_pow_pos 1074); omega
      simp [this]
    · simp
  · obtain ⟨c, f1, f2, f3, f4, f5⟩ := write_in (neg := s ^^ t) (mag := m * n) (p := i + j) (A := A) (B := B) (u := (i + 1074).toNat + (j + 1074).toNat) (s := 1074) hB (by omega) h1 h2
    have hpos : 0 < m * n := Nat.pos_of_ne_zero h0
    have hne : signed s m (i + 1074).toNat * signed t n (j + 1074).toNat ≠ 0 := by
      intro h
      have h' := congrArg Int.natAbs h
      rw [Int.natAbs_mul, signed_abs, signed_abs, hm] at h'
      have := Nat.mul_pos hpos (Nat.two_pow_pos ((i + 1074).toNat + (j + 1074).toNat))
      simp at h'
      omega
    refine ⟨_, c, rfl, f1, f2, f3, fun h => f4 ?_, fun h => f5 ?_⟩
    · by_cases hst : s = t
      · subst hst; simp
      · have := hsg.2 hst; omega
    · by_cases hst : s = t
      · have := hsg.1 hst; omega
      · cases s <;> cases t <;> first | rfl | exact absurd rfl hst
theorem xor_top {y : Nat} (h : y < 2 ^ 63) : y ^^^ 2 ^ 63 = y + 2 ^ 63 := by
  rw [Nat.xor_comm, Nat.add_comm]
  apply Nat.eq_of_testBit_eq
  intro k
  rw [Nat.testBit_xor, Nat.testBit_two_pow]
  rcases Nat.lt_trichotomy k 63 with hk | hk | hk
  · rw [Nat.testBit_two_pow_add_gt hk, decide_eq_false (by omega)]
    simp
  · subst hk
    rw [Nat.testBit_two_pow_add_eq]
    simp
  · rw [decide_eq_false (by omega), Nat.testBit_lt_two_pow (Nat.lt_of_lt_of_le h (Nat.pow_le_pow_right (by decide) (by omega))), Nat.testBit_lt_two_pow]
    · rfl
    · have : 2 ^ 64 ≤ 2 ^ k := Nat.pow_le_pow_right (by decide) (by omega)
      omega
theorem Fin64.neg {x : Nat} {a : Int} (hx : Fin64 x a) (hw : x < 2 ^ 64) : Fin64 (Op.negFloat .f64 x) (-a) ∧ Op.negFloat .f64 x < 2 ^ 64 := by
  obtain ⟨s, m, i, rx, hi, rfl⟩ := hx.ex
  have hs : double.signWeight = 2 ^ 63 := by decide
  have e : Op.negFloat .f64 x = if x < 2 ^ 63 then x + 2 ^ 63 else x - 2 ^ 63 := by
    show x ^^^ 2 ^ 63 = _
    rcases Nat.lt_or_ge x (2 ^ 63) with h | h
    · rw [if_pos h, xor_top h]
    · rw [if_neg (by omega)]
      obtain ⟨y, rfl⟩ : ∃ y, x = y + 2 ^ 63 := ⟨x - 2 ^ 63, by omega⟩
      have h2 := xor_top (show y < 2 ^ 63 by omega)
      rw [Nat.add_sub_cancel, ← h2, Nat.xor_assoc, Nat.xor_self, Nat.xor_zero]
  have hd : double.read (Op.negFloat .f64 x) = .number (!s) m i := by
    rw [e]
    unfold Format.read at rx ⊢
    simp only [hs] at rx ⊢
    have hm : (if x < 2 ^ 63 then x + 2 ^ 63 else x - 2 ^ 63) % 2 ^ 63 = x % 2 ^ 63 := by split <;> omega
    have hq : ((if x < 2 ^ 63 then x + 2 ^ 63 else x - 2 ^ 63) / 2 ^ 63 % 2 == 1) = !(x / 2 ^ 63 % 2 == 1) := by
      split
      · rw [show (x + 2 ^ 63) / 2 ^ 63 % 2 = 1 by omega, show x / 2 ^ 63 % 2 = 0 by omega]; rfl
      · rw [show (x - 2 ^ 63) / 2 ^ 63 % 2 = 0 by omega, show x / 2 ^ 63 % 2 = 1 by omega]; rfl
    rw [hm, hq]
    split at rx
    · rename_i h1
      rw [if_pos h1]
      cases rx
      rfl
    · rename_i h1
      rw [if_neg h1]
      split at rx
      · rename_i h2
        rw [if_pos h2]
        cases rx
        rfl
      · split at rx <;> cases rx
  refine ⟨⟨!s, m, i, hd, hi, ?_⟩, by rw [e]; split <;> omega⟩
  rw [signed_val, signed_val]
  cases s <;> simp
theorem order_fin {x y : Nat} {a b : Int} (hx : Fin64 x a) (hy : Fin64 y b) : double.order x y = some (compare a b) := by
  obtain ⟨s, m, i, rx, hi, rfl⟩ := hx.ex
  obtain ⟨t, n, j, ry, hj, rfl⟩ := hy.ex
  have e : double.order x y = some (compare (signed s m (i - min i j).toNat) (signed t n (j - min i j).toNat)) := by
    unfold Format.order
    rw [rx, ry]
    rfl
  have h1 : signed s m (i + 1074).toNat = signed s m (i - min i j).toNat * 2 ^ (min i j + 1074).toNat := by
    rw [← signed_scale]; congr 1; omega
  have h2 : signed t n (j + 1074).toNat = signed t n (j - min i j).toNat * 2 ^ (min i j + 1074).toNat := by
    rw [← signed_scale]; congr 1; omega
  rw [e, h1, h2]
  have hp : (0 : Int) < 2 ^ (min i j + 1074).toNat := Int.pow_pos (by decide)
  generalize (2 : Int) ^ (min i j + 1074).toNat = K at *
  generalize signed s m (i - min i j).toNat = a
  generalize signed t n (j - min i j).toNat = b
  congr 1
  show compareOfLessAndEq a b = compareOfLessAndEq (a * K) (b * K)
  unfold compareOfLessAndEq
  rcases Int.lt_trichotomy a b with h | h | h
  · rw [if_pos h, if_pos (Int.mul_lt_mul_of_pos_right h hp)]
  · subst h
    rw [if_neg (Int.lt_irrefl _), if_neg (Int.lt_irrefl _), if_pos rfl, if_pos rfl]
  · have h' := Int.mul_lt_mul_of_pos_right h hp
    rw [if_neg (by omega), if_neg (by omega), if_neg (by omega), if_neg (by omega)]
end Go.Proofs.Ytlgnidjkilbdfaa
