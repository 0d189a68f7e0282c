/- The plain law of the reference's nearest: its loop finds what rounding to even finds. No program. -/
import Derived.Test.YtklhdpkofpkmjaaFl8
namespace Go.Proofs.Ytklhdpkofpkmjaa
open Ieee
set_option linter.unusedVariables false
def NHALF : Nat := 13826050856027422720
/-- Toward nought. -/
def trN (x : Nat) : Int :=
  match double.read x with
  | .number s m i => signed s (Toward.zero.cut s (m <<< i.toNat) (-i).toNat) 0
  | _ => 0
theorem zero_cut_div (neg : Bool) (N drop : Nat) : Toward.zero.cut neg N drop = N / 2 ^ drop := by
  unfold Toward.cut
  simp only [Nat.shiftLeft_eq, Nat.one_mul, Bool.toNat_false, Nat.add_zero]
  rcases Nat.lt_or_ge (N.log2 + 2) drop with hd | hd
  · rw [Nat.min_eq_right (by omega)]
    have hn : N < 2 ^ (N.log2 + 1) := Nat.lt_log2_self
    have h1 : 2 ^ (N.log2 + 1) ≤ 2 ^ (N.log2 + 2) := pow_up2 _ _ (by omega)
    have h2 : 2 ^ (N.log2 + 1) ≤ 2 ^ drop := pow_up2 _ _ (by omega)
    rw [Nat.div_eq_of_lt (by omega), Nat.div_eq_of_lt (by omega)]
  · rw [Nat.min_eq_left hd]
/-- What is cut toward nought. -/
theorem tr_spec {x : Nat} {v : Int} (h : Fin64 x v) : (0 ≤ v → trN x * (P74 : Int) ≤ v ∧ v < trN x * (P74 : Int) + P74) ∧ (v ≤ 0 → v ≤ trN x * (P74 : Int) ∧ trN x * (P74 : Int) < v + P74) := by
  obtain ⟨s, m, i, rx, hi, rfl⟩ := h.ex
  have hT : trN x = signed s (m * 2 ^ i.toNat / 2 ^ (-i).toNat) 0 := by
    unfold trN
    rw [rx]
    simp only [zero_cut_div, Nat.shiftLeft_eq]
  have hsc : m * 2 ^ (i + 1074).toNat * 2 ^ (-i).toNat = m * 2 ^ i.toNat * P74 := by
    have h := pow_eq4 m (i + 1074).toNat (-i).toNat i.toNat 1074 (by omega)
    rw [← p74_eq'] at h
    exact h
  rw [hT, signed_val, signed_val, Nat.pow_zero, Nat.mul_one]
  have hG : 0 < 2 ^ (-i).toNat := Nat.two_pow_pos _
  have hU := p74_pos
  generalize 2 ^ (-i).toNat = G at *
  generalize m * 2 ^ i.toNat = N at *
  generalize m * 2 ^ (i + 1074).toNat = V at *
  generalize P74 = U at *
  have hdm := Nat.div_add_mod N G
  have hr := Nat.mod_lt N hG
  have h1 : N / G * U ≤ V := by
    have : N / G * U * G ≤ V * G := by
      rw [hsc, Nat.mul_assoc, Nat.mul_comm U G, ← Nat.mul_assoc]
      exact Nat.mul_le_mul_right _ (Nat.div_mul_le_self N G)
    exact Nat.le_of_mul_le_mul_right this hG
  have h2 : V < N / G * U + U := by
    have h3 : V * G < (N / G * U + U) * G := by
      rw [hsc, ← Nat.succ_mul, Nat.mul_assoc, Nat.mul_comm U G, ← Nat.mul_assoc]
      refine Nat.mul_lt_mul_of_pos_right ?_ (by omega)
      rw [Nat.succ_mul, Nat.mul_comm]
      omega
    exact Nat.lt_of_mul_lt_mul_right h3
  have h1' : ((N / G : Nat) : Int) * (U : Int) ≤ (V : Int) := by rw [← Int.natCast_mul]; omega
  have h2' : (V : Int) < ((N / G : Nat) : Int) * (U : Int) + (U : Int) := by rw [← Int.natCast_mul]; omega
  generalize N / G = Q at *
  cases s
  · simp only [Bool.false_eq_true, if_false]
    exact ⟨fun _ => ⟨h1', h2'⟩, fun h0 => by
      have hV : V = 0 := by omega
      omega⟩
  · simp only [if_true, Int.neg_mul]
    exact ⟨fun h0 => by
      have hV : V = 0 := by omega
      omega, fun _ => by omega⟩
theorem dbl_pow (a b : Nat) (h : a + 1 = b) : 2 * 2 ^ a = 2 ^ b := by rw [← h, Nat.pow_succ, Nat.mul_comm]
theorem half_two : 2 * (valR HALF : Int) = (P74 : Int) := by
  have h := dbl_pow (52 + 1021) 1074 (by omega)
  rw [← half_val, ← p74_eq'] at h
  omega
def fs (x y : Nat) : Nat := (double.sub x y).getD 0
/-- A test of the loop. -/
def tst (d : Nat) (k : Int) : Bool := ((double.order d NHALF == some .gt) && (double.order d HALF == some .lt)) || (((double.order d HALF == some .eq) || (double.order d NHALF == some .eq)) && (k.tmod 2 == 0))
theorem cmp_lt' (a b : Int) : (some (compare a b) == some Ordering.lt) = decide (a < b) := by
  have e : compare a b = compareOfLessAndEq a b := rfl
  rw [e]; unfold compareOfLessAndEq
  by_cases h : a < b
  · rw [if_pos h, decide_eq_true h]; rfl
  · rw [if_neg h, decide_eq_false h]; split <;> rfl
theorem cmp_gt' (a b : Int) : (some (compare a b) == some Ordering.gt) = decide (b < a) := by
  have e : compare a b = compareOfLessAndEq a b := rfl
  rw [e]; unfold compareOfLessAndEq
  rcases Int.lt_trichotomy a b with h | h | h
  · rw [if_pos h, decide_eq_false (by omega)]; rfl
  · rw [if_neg (by omega), if_pos h, decide_eq_false (by omega)]; rfl
  · rw [if_neg (by omega), if_neg (by omega), decide_eq_true h]; rfl
theorem cmp_eq' (a b : Int) : (some (compare a b) == some Ordering.eq) = decide (a = b) := by
  have e : compare a b = compareOfLessAndEq a b := rfl
  rw [e]; unfold compareOfLessAndEq
  rcases Int.lt_trichotomy a b with h | h | h
  · rw [if_pos h, decide_eq_false (by omega)]; rfl
  · rw [if_neg (by omega), if_pos h, decide_eq_true h]; rfl
  · rw [if_neg (by omega), if_neg (by omega), decide_eq_false (by omega)]; rfl
theorem tmod2 (k : Int) : (k.tmod 2 == 0) = decide (k % 2 = 0) := by
  have h : k.tmod 2 = 0 ↔ k % 2 = 0 := by
    rw [← Int.dvd_iff_tmod_eq_zero, Int.dvd_iff_emod_eq_zero]
  by_cases h1 : k % 2 = 0
  · rw [decide_eq_true h1]; simpa using h.2 h1
  · rw [decide_eq_false h1, beq_eq_false_iff_ne]; exact fun hh => h1 (h.1 hh)
theorem tst_eq {d : Nat} {c k : Int} (h : Fin64 d c) : tst d k = decide ((-(valR HALF : Int) < c ∧ c < valR HALF) ∨ ((c = valR HALF ∨ c = -(valR HALF : Int)) ∧ k % 2 = 0)) := by
  have hH := pos_const HALF (by decide)
  have hN : Fin64 NHALF (-(valR HALF : Int)) := neg_const HALF (by decide)
  unfold tst
  rw [order_fin h hH, order_fin h hN, cmp_gt', cmp_lt', cmp_eq', cmp_eq', tmod2]
  by_cases a1 : -(valR HALF : Int) < c <;> by_cases a2 : c < valR HALF <;> by_cases a3 : c = valR HALF <;> by_cases a4 : c = -(valR HALF : Int) <;> by_cases a5 : k % 2 = 0 <;> simp [a1, a2, a3, a4, a5]
theorem sub_in {x y : Nat} {v b : Int} {A B : Nat} (hx : Fin64 x v) (hy : Fin64 y b) (hw : y < 2 ^ 64) (hB : B < 2047 * 2 ^ 52) (h1 : valR A ≤ (v - b).natAbs) (h2 : (v - b).natAbs ≤ valR B) :
    double.sub x y = some (fs x y) ∧ ∃ c, Fin64 (fs x y) c ∧ (valR A : Int) ≤ c.natAbs ∧ (c.natAbs : Int) ≤ valR B ∧ (0 ≤ v - b → 0 ≤ c) ∧ (v - b ≤ 0 → c ≤ 0) := by
  have hn := (hy.neg hw).1
  obtain ⟨r, c, e1, e2, e3, e4, e5, e6⟩ := hx.add hn (A := A) (B := B) hB (by rw [← Int.sub_eq_add_neg]; exact h1) (by rw [← Int.sub_eq_add_neg]; exact h2)
  rw [← sub_add hy hw] at e1
  have hr : fs x y = r := by unfold fs; rw [e1]; rfl
  rw [hr]
  rw [← Int.sub_eq_add_neg] at e5 e6
  exact ⟨e1, c, e2, e3, e4, e5, e6⟩
def TWO : Nat := 4611686018427387904
theorem pow_split (a b c : Nat) (h : a + b = c) : 2 ^ a * 2 ^ b = 2 ^ c := by rw [← Nat.pow_add, h]
theorem valR_two' : (valR TWO : Int) = 2 * (P74 : Int) := by
  have h1 : valR TWO = 2 ^ (52 + 1023) := valR_bin0 1023
  have h2 := dbl_pow 1074 (52 + 1023) (by omega)
  rw [← p74_eq'] at h2
  have h3 := h1.trans h2.symm
  clear h1 h2
  omega
theorem w_unit : ((2 ^ 1021 : Nat) : Int) * 9007199254740992 = (P74 : Int) := by
  have h := pow_split 1021 53 1074 (by omega)
  rw [← p74_eq'] at h
  generalize 2 ^ 1021 = W at h ⊢
  omega
theorem tst_near {x : Nat} {v : Int} (hx : Fin64 x v) (k : Int) (hk : k.natAbs < 2 ^ 53) (hk1 : trN x - 1 ≤ k) (hk2 : k ≤ rteN x) :
    double.sub x (floatOfInt .f64 k) = some (fs x (floatOfInt .f64 k)) ∧ tst (fs x (floatOfInt .f64 k)) k = decide (k = rteN x) := by
  have hy := fin_ofInt k hk
  rw [← p74_eq'] at hy
  have hw : floatOfInt .f64 k < 2 ^ 64 := double.nearest_lt _ _ _
  have hnr := rte_near hx
  have htr := tr_spec hx
  have hH := half_two
  have hU := p74_pos
  have hT := valR_two'
  have hO : (valR ONE : Int) = (P74 : Int) := by rw [valR_one]
  have hmul1 : trN x * (P74 : Int) - (P74 : Int) ≤ k * (P74 : Int) := by
    have h := Int.mul_le_mul_of_nonneg_right hk1 (Int.le_of_lt hU)
    rw [Int.sub_mul, Int.one_mul] at h
    exact h
  have hmul2 : k * (P74 : Int) ≤ rteN x * (P74 : Int) := Int.mul_le_mul_of_nonneg_right hk2 (Int.le_of_lt hU)
  have hlow : -(valR HALF : Int) ≤ v - rteN x * (P74 : Int) ∧ v - rteN x * (P74 : Int) ≤ (valR HALF : Int) := by
    unfold NearP at hnr
    omega
  have hD1 : -(valR HALF : Int) ≤ v - k * (P74 : Int) := by omega
  have hD2 : v - k * (P74 : Int) < 2 * (P74 : Int) := by
    rcases Int.le_total 0 v with h | h
    · have := (htr.1 h).2; omega
    · have := (htr.2 h).1; omega
  have huniq : ∀ L, NearP (P74 : Int) v L → L = rteN x := fun L hL => near_unique hU hL hnr
  by_cases hbig : (valR HALF : Int) ≤ v.natAbs
  · by_cases hDU : v - k * (P74 : Int) < (P74 : Int)
    · obtain ⟨j, hj⟩ := big_mult hx (by omega)
      have hDw : v - k * (P74 : Int) = (j - k * 9007199254740992) * ((2 ^ 1021 : Nat) : Int) := by
        rw [hj, ← w_unit, Int.sub_mul]
        congr 1
        rw [Int.mul_assoc, Int.mul_comm 9007199254740992]
      have hW : (0 : Int) < ((2 ^ 1021 : Nat) : Int) := by
        have h := w_unit
        rcases Int.lt_or_le 0 ((2 ^ 1021 : Nat) : Int) with h' | h'
        · exact h'
        · exfalso; generalize ((2 ^ 1021 : Nat) : Int) = W at *; omega
      have hwu := w_unit
      generalize hWn : (2 ^ 1021 : Nat) = W at *
      generalize hJ : j - k * 9007199254740992 = J at *
      have hJ2 : J.natAbs < 2 ^ 53 := by
        have h1 : J * (W : Int) < 9007199254740992 * (W : Int) := by rw [← hDw, Int.mul_comm 9007199254740992]; omega
        have h2 : -9007199254740992 * (W : Int) < J * (W : Int) := by rw [← hDw, Int.neg_mul, Int.mul_comm 9007199254740992]; omega
        have h3 := Int.lt_of_mul_lt_mul_right h1 (Int.le_of_lt hW)
        have h4 := Int.lt_of_mul_lt_mul_right h2 (Int.le_of_lt hW)
        omega
      obtain ⟨R, hR, hRv⟩ := mult_rung J.natAbs hJ2
      rw [hWn] at hRv
      have hab : (v - k * (P74 : Int)).natAbs = valR R := by
        rw [hDw, hRv, Int.natAbs_mul]; rfl
      obtain ⟨hs, c, hc, c1, c2, c3, c4⟩ := sub_in hx hy hw hR (A := R) (B := R) (by omega) (by omega)
      have hcD : c = v - k * (P74 : Int) := by omega
      refine ⟨hs, ?_⟩
      rw [tst_eq hc, hcD]
      by_cases hkK : k = rteN x
      · rw [decide_eq_true hkK]
        rw [← hkK] at hnr
        unfold NearP at hnr
        exact decide_eq_true (by omega)
      · rw [decide_eq_false hkK]
        refine decide_eq_false (fun hh => hkK (huniq k ?_))
        unfold NearP
        omega
    · obtain ⟨hs, c, hc, c1, c2, c3, c4⟩ := sub_in hx hy hw (by decide) (A := ONE) (B := TWO) (by omega) (by omega)
      refine ⟨hs, ?_⟩
      have hc0 := c3 (by omega)
      rw [tst_eq hc, decide_eq_false (by omega), decide_eq_false (fun hh => by subst hh; omega)]
  · have hK0 : rteN x = 0 := (huniq 0 (by unfold NearP; omega)).symm
    have hn0 : trN x = 0 := by
      rcases Int.lt_trichotomy (trN x) 0 with h | h | h
      · exfalso
        have h1 : trN x * (P74 : Int) ≤ (-1) * (P74 : Int) := Int.mul_le_mul_of_nonneg_right (by omega) (Int.le_of_lt hU)
        rcases Int.le_total 0 v with h' | h'
        · have := (htr.1 h').2; omega
        · have := (htr.2 h').1; omega
      · exact h
      · exfalso
        have h1 : 1 * (P74 : Int) ≤ trN x * (P74 : Int) := Int.mul_le_mul_of_nonneg_right (by omega) (Int.le_of_lt hU)
        rcases Int.le_total 0 v with h' | h'
        · have := (htr.1 h').1; omega
        · have := (htr.2 h').2; omega
    rw [hK0]
    rcases (show k = 0 ∨ k = -1 by omega) with rfl | rfl
    · obtain ⟨R, hR, hRv⟩ := fin_rung hx
      have hz : (0 : Int) * (P74 : Int) = 0 := Int.zero_mul _
      rw [hz] at hy
      obtain ⟨hs, c, hc, c1, c2, c3, c4⟩ := sub_in hx hy hw hR (A := R) (B := R) (by rw [Int.sub_zero]; omega) (by rw [Int.sub_zero]; omega)
      rw [Int.sub_zero] at c3 c4
      have hcv : c = v := by omega
      refine ⟨hs, ?_⟩
      rw [tst_eq hc, hcv, decide_eq_true (by omega), decide_eq_true rfl]
    · have hz : (-1 : Int) * (P74 : Int) = -(P74 : Int) := by rw [Int.neg_mul, Int.one_mul]
      rw [hz] at hy
      obtain ⟨hs, c, hc, c1, c2, c3, c4⟩ := sub_in hx hy hw (by decide) (A := HALF) (B := TWO) (by omega) (by omega)
      have hc0 := c3 (by omega)
      refine ⟨hs, ?_⟩
      rw [tst_eq hc, decide_eq_false (by omega), decide_eq_false (by omega)]
end Go.Proofs.Ytklhdpkofpkmjaa
