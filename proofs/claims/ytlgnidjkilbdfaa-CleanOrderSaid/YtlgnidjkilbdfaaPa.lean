/- Chapter 20: the mean of one height; whatever the order. -/
import Derived.Test.YtlgnidjkilbdfaaMo
namespace Go.Proofs.Ytlgnidjkilbdfaa
open Go.RowKit Ieee
set_option linter.unusedVariables false
set_option maxRecDepth 100000
theorem read_1 : double.read 4607182418800017408 = .number false (2 ^ 52) (-52) := by decide +kernel
def dR (R : Nat) : Nat := double.nearest false (2 * (rm R <<< more R / 2 ^ 52) + (rm R <<< more R % 2 ^ 52 != 0).toNat) (rp R - -52 - (more R : Nat) - 1)
theorem div_1 (s : Bool) {R : Nat} (h : R < 2047 * 2 ^ 52) : double.div (double.word s R) 4607182418800017408 = some (double.word s (dR R)) := by
  unfold Format.div
  rw [read_at s h, read_1]
  have h2 : (2 ^ 52 : Nat).log2 = 52 := by decide
  have hf : double.fractionBits = 52 := rfl
  simp only [Datum.quotient, if_neg (show ¬ (2 ^ 52 : Nat) = 0 by decide), Option.map_some, Format.write, Bool.xor_false]
  rw [nearest_word, h2, hf]
  rfl
theorem dR_exact {R : Nat} (hB : R < 2047 * 2 ^ 52) : dR R = R := by
  have hl := log_rm R
  have hp := rp_ge R
  obtain ⟨k, hk⟩ : ∃ k, more R = 52 + k := ⟨more R - 52, by unfold more; omega⟩
  have hd : rm R <<< more R = 2 ^ 52 * (rm R * 2 ^ k) := by rw [Nat.shiftLeft_eq, hk, Nat.pow_add]; ac_rfl
  have hg : 2 * (rm R <<< more R / 2 ^ 52) + (rm R <<< more R % 2 ^ 52 != 0).toNat = 2 * (rm R * 2 ^ k) := by
    rw [hd, Nat.mul_div_cancel_left _ (by decide), Nat.mul_mod_right]; rfl
  unfold dR
  rw [hg]
  have hv : 2 * (rm R * 2 ^ k) * 2 ^ ((rp R + 1074).toNat + 52) = valR R * 2 ^ (more R + 1) := by
    have e1 : 2 ^ ((rp R + 1074).toNat + 52) = 2 ^ (rp R + 1074).toNat * 2 ^ 52 := Nat.pow_add _ _ _
    have e2 : 2 ^ (52 + k + 1) = 2 ^ 52 * (2 ^ k * 2) := by rw [Nat.add_assoc, Nat.pow_add 2 52 (k + 1)]; exact congrArg (2 ^ 52 * ·) (Nat.pow_succ (n := 2) (m := k))
    rw [← rm_val R, hk, e1, e2]
    generalize 2 ^ 52 = P
    generalize 2 ^ k = Q
    generalize 2 ^ (rp R + 1074).toNat = U
    generalize rm R = M
    ac_rfl
  obtain ⟨R', f1, f2, f3⟩ := nearest_between (neg := false) (mag := 2 * (rm R * 2 ^ k)) (p := rp R - -52 - (more R : Nat) - 1) (A := R) (B := R) (u := (rp R + 1074).toNat + 52) (s := more R + 1) hB (by omega)
    (by rw [hv]; exact Nat.le_refl _) (by rw [hv]; exact Nat.le_refl _)
  rw [f3]
  show R' = R
  omega
theorem over_one {x : Nat} (hx : x < 2 ^ 64) (h : oneB x = true) : over x (floatOfInt .f64 ((1 : Nat) : Int)) = x := by
  obtain ⟨s, R, hR, rfl⟩ := one_form hx h
  unfold over
  rw [show floatOfInt .f64 ((1 : Nat) : Int) = 4607182418800017408 by decide +kernel, div_1 s hR, dR_exact hR]
  rfl
theorem plus_zero {x : Nat} (hx : x < 2 ^ 64) (h : oneB x = true) : plus 0 x = x ∨ (plus 0 x = 0 ∧ x = 2 ^ 63) := by
  obtain ⟨s, R, hR, rfl⟩ := one_form hx h
  have h0 : (0 : Nat) = double.word false 0 := rfl
  have e : sumR false s 0 R = R := by
    have h1 : sv false 0 = 0 := by unfold sv; rw [valR_zero]; rfl
    have h2 : ((sv false 0 + sv s R).natAbs : Int) = valR R := by rw [h1, Int.zero_add, sv_abs]
    obtain ⟨a, b⟩ := sumR_between (s := false) (t := s) (R := 0) (T := R) (A := R) (B := R) hR (by omega) (by omega)
    omega
  have ha := add_word false s (R := 0) (T := R) (by omega) hR
  rw [← h0, e] at ha
  obtain ⟨t1, t2⟩ := tot_sign false s 0 R
  have h1 : sv false 0 = 0 := by unfold sv; rw [valR_zero]; rfl
  rw [h1, Int.zero_add] at t1 t2
  unfold plus
  rw [ha, Option.getD_some]
  rcases Nat.eq_zero_or_pos R with h0 | h0
  · subst h0
    have h2 : sv s 0 = 0 := by unfold sv; rw [valR_zero]; cases s <;> rfl
    rw [if_pos (t1.2 h2)]
    cases s
    · exact .inl rfl
    · exact .inr ⟨rfl, rfl⟩
  · have hv : 0 < valR R := by have := valR_lt h0; omega
    have h2 : sv s R ≠ 0 := by unfold sv; cases s <;> simp <;> omega
    rw [if_neg (fun h => h2 (t1.1 h))]
    left
    have h3 : decide (tot false s 0 R < 0) = s := by
      cases s
      · exact decide_eq_false (fun h => by have h4 := t2.1 h; unfold sv at h4; simp at h4; omega)
      · exact decide_eq_true (t2.2 (by unfold sv; simp; omega))
    rw [h3]
theorem feq_refl {x : Nat} (h : nanB x = false) : feqB x x = true := by
  unfold feqB
  rw [show FloatKind.f64.format.order x x = double.order x x from rfl, order_self, h]
  rfl
/-- The mean of one height is that height, but for the sign of a zero. -/
theorem mean_one {x : Nat} (hx : x < 2 ^ 64) (h : oneB x = true) : meanE [x] = 0 ∧ feqB (meanV [x]) x = true ∧ oneB (meanV [x]) = true ∧ meanV [x] < 2 ^ 64 := by
  have hs : sums [x] 1 = plus 0 x := rfl
  have hs0 : sums [x] 0 = 0 := rfl
  have hp : plus 0 x < 2 ^ 64 ∧ oneB (plus 0 x) = true ∧ feqB (plus 0 x) x = true := by
    rcases plus_zero hx h with e | ⟨e, e2⟩
    · rw [e]
      refine ⟨hx, h, feq_refl ?_⟩
      obtain ⟨s, R, hR, rfl⟩ := one_form hx h
      exact nan_word s (by omega)
    · rw [e, e2]
      refine ⟨by decide, by decide +kernel, by decide +kernel⟩
  have hok : sumOk [x] = true := by
    unfold sumOk
    rw [List.all_eq_true]
    intro j hj
    simp only [List.length_cons, List.length_nil, List.mem_range] at hj
    rcases (show j = 0 ∨ j = 1 by omega) with rfl | rfl
    · rw [hs0]; decide +kernel
    · rw [hs]; exact hp.2.1
  have hv : meanV [x] = plus 0 x := by
    unfold meanV
    rw [if_neg (by simp), hok, if_pos rfl]
    show over (sums [x] 1) (floatOfInt .f64 ((1 : Nat) : Int)) = _
    rw [hs, over_one hp.1 hp.2.1]
  refine ⟨?_, ?_, ?_, ?_⟩
  · unfold meanE
    rw [if_neg (by simp), hok, if_pos rfl]
  · rw [hv]; exact hp.2.2
  · rw [hv]; exact hp.2.1
  · rw [hv]; exact hp.1
theorem sumTo_ok {S : List Nat} (h64 : ∀ k, k < S.length → S.getD k 0 < 2 ^ 64 ∧ oneB (S.getD k 0) = true) (hok : sumOk S = true) : ∀ k, k ≤ S.length → sums S k < 2 ^ 64 ∧ oneB (sums S k) = true := by
  intro k
  have hall : ∀ j, j ≤ S.length → oneB (sums S j) = true := fun j hj => by
    unfold sumOk at hok
    exact List.all_eq_true.1 hok j (List.mem_range.2 (by omega))
  induction k with
  | zero => exact fun hk => ⟨by show (0 : Nat) < 2 ^ 64; decide, hall 0 hk⟩
  | succ k ih =>
    intro hk
    obtain ⟨i1, i2⟩ := ih (by omega)
    refine ⟨?_, hall _ hk⟩
    rw [sums_succ (by omega)]
    obtain ⟨g1, g2⟩ := h64 k (by omega)
    refine (plus_ok i2 ?_).2.2
    obtain ⟨s, R, hR, e⟩ := one_form g1 g2
    rw [e]
    exact nan_word s (by omega)
/-- A mean that is told is a number. -/
theorem mean_fin {S : List Nat} (h64 : ∀ k, k < S.length → S.getD k 0 < 2 ^ 64 ∧ oneB (S.getD k 0) = true) (hl : S.length < 2 ^ 53) (he : meanE S = 0) : oneB (meanV S) = true ∧ meanV S < 2 ^ 64 := by
  unfold meanE meanV at *
  by_cases h0 : S.length = 0
  · rw [if_pos h0]; decide +kernel
  · rw [if_neg h0] at he ⊢
    cases hok : sumOk S
    · rw [hok] at he; simp at he
    · rw [if_pos rfl]
      obtain ⟨a, b⟩ := sumTo_ok h64 hok S.length (Nat.le_refl _)
      obtain ⟨_, c, d⟩ := over_ok a b hl (by omega)
      exact ⟨d, c⟩
end Go.Proofs.Ytlgnidjkilbdfaa
