/- SecondLevel: the plain law; the early ends. -/
import Derived.Test.YtcibbnphkpaifaaTg
namespace Go.Proofs.Ytcibbnphkpaifaa
open Go.RowKit
set_option linter.unusedVariables false
set_option maxRecDepth 100000
def xq (a b t : Int) : Rat := ((t - a : Int) : Rat) / ((b - a : Int) : Rat)
theorem xq_pos {a b : Int} (h : a < b) : (0 : Rat) < ((b - a : Int) : Rat) := by
  have : (0 : Int) < b - a := by omega
  exact_mod_cast this
theorem xq_lt {a b t s : Int} (h : a < b) (hts : t < s) : xq a b t < xq a b s := by
  have hp := xq_pos h
  have h1 : ((t - a : Int) : Rat) < ((s - a : Int) : Rat) := by
    have : t - a < s - a := by omega
    exact_mod_cast this
  unfold xq
  rw [Rat.div_def, Rat.div_def]
  exact Rat.mul_lt_mul_of_pos_right h1 (Rat.inv_pos.2 hp)
theorem xq_zero (a b : Int) : xq a b a = 0 := by
  unfold xq
  rw [Int.sub_self, Rat.div_def]
  show (0 : Rat) * _ = 0
  grind
theorem xq_one {a b : Int} (h : a < b) : xq a b b = 1 := by
  have hp := xq_pos h
  unfold xq
  rw [Rat.div_def]
  exact Rat.mul_inv_cancel _ (by grind)
def cvQ (v u : Wt) (t : Int) : Rat := curveQ v.h u.h (xq v.l u.t t)
theorem cmp_lt {x y : Rat} (h : x < y) : cmpQ x y = -1 := by unfold cmpQ; rw [if_pos h]
theorem cmp_gt {x y : Rat} (h : y < x) : cmpQ x y = 1 := by unfold cmpQ; rw [if_neg (by grind), if_pos h]
theorem cmp_eq (x : Rat) : cmpQ x x = 0 := by unfold cmpQ; rw [if_neg (by grind), if_neg (by grind)]
theorem cmp_neg1 {x y : Rat} (h : cmpQ x y = -1) : x < y := by
  unfold cmpQ at h
  by_cases h1 : x < y
  · exact h1
  · rw [if_neg h1] at h; split at h <;> omega
theorem cmp_pos1 {x y : Rat} (h : cmpQ x y = 1) : y < x := by
  unfold cmpQ at h
  by_cases h1 : x < y
  · rw [if_pos h1] at h; omega
  · rw [if_neg h1] at h
    by_cases h2 : y < x
    · exact h2
    · rw [if_neg h2] at h; omega
theorem level_plain {v u : Wt} {t : Int} (h : v.l < u.t) (h1 : v.l ≤ t) (h2 : t < u.t) (hne : v.h ≠ u.h) :
    cmpQ (cvQ v u t) (cvQ v u (t + 1)) = cmpQ v.h u.h ∧ cmpQ (cvQ v u (t + 1)) u.h ≠ -cmpQ v.h u.h ∧ cmpQ v.h (cvQ v u t) ≠ -cmpQ v.h u.h := by
  have hx0 : (0 : Rat) ≤ xq v.l u.t t := by
    rcases Int.lt_or_eq_of_le h1 with h3 | h3
    · have := xq_lt h h3; rw [xq_zero] at this; grind
    · rw [← h3, xq_zero]; grind
  have hx1 : xq v.l u.t t < xq v.l u.t (t + 1) := xq_lt h (by omega)
  have hx2 : xq v.l u.t (t + 1) ≤ 1 := by
    rcases Int.lt_or_eq_of_le (show t + 1 ≤ u.t by omega) with h3 | h3
    · have := xq_lt h h3; rw [xq_one h] at this; grind
    · rw [h3, xq_one h]; grind
  have e0 : curveQ v.h u.h 0 = v.h := curve_zero _ _
  have e1 : curveQ v.h u.h 1 = u.h := curve_one _ _
  unfold cvQ
  generalize xq v.l u.t t = x at *
  generalize xq v.l u.t (t + 1) = y at *
  rcases (show v.h < u.h ∨ u.h < v.h by grind) with hlt | hgt
  · have hxy := curve_up hlt hx0 hx1 hx2
    have k1 : curveQ v.h u.h y ≤ u.h := by
      rcases (show y < 1 ∨ y = 1 by grind) with h3 | h3
      · have := curve_up hlt (by grind) h3 (by grind); grind
      · rw [h3, e1]; grind
    have k2 : v.h ≤ curveQ v.h u.h x := by
      rcases (show 0 < x ∨ x = 0 by grind) with h3 | h3
      · have := curve_up hlt (by grind) h3 (by grind); grind
      · rw [h3, e0]; grind
    rw [cmp_lt hlt]
    refine ⟨cmp_lt hxy, fun hh => ?_, fun hh => ?_⟩
    · have := cmp_pos1 hh; grind
    · have := cmp_pos1 hh; grind
  · have hxy := curve_down hgt hx0 hx1 hx2
    have k1 : u.h ≤ curveQ v.h u.h y := by
      rcases (show y < 1 ∨ y = 1 by grind) with h3 | h3
      · have := curve_down hgt (by grind) h3 (by grind); grind
      · rw [h3, e1]; grind
    have k2 : curveQ v.h u.h x ≤ v.h := by
      rcases (show 0 < x ∨ x = 0 by grind) with h3 | h3
      · have := curve_down hgt (by grind) h3 (by grind); grind
      · rw [h3, e0]; grind
    rw [cmp_gt hgt]
    refine ⟨cmp_gt hxy, fun hh => ?_, fun hh => ?_⟩
    · have := cmp_neg1 hh; grind
    · have := cmp_neg1 hh; grind
/-- The curve from one water to the next one. -/
theorem level_at {L : List Wt} {K J : Nat} {t : Int} (hs : Snd L) (hJ : J = K + 1) (h : J < L.length) (hK : K < L.length) (h1 : L[K].l ≤ t) (h2 : t ≤ L[J].t) : btw L t = (cvQ L[K] L[J] t, 0, 0) ∨ ∃ x, btw L t = (x, 3, -1) := by
  subst hJ
  have hlt := hs.lt (i := K) (j := K + 1) (by omega) h
  have ho := hs.one hK
  have ho2 := hs.one h
  have key : atQ L t = (cvQ L[K] L[K + 1] t, 0) ∨ atQ L t = (0, 3) := by
    rcases Int.lt_or_eq_of_le h1 with h3 | h3
    · rcases Int.lt_or_eq_of_le h2 with h4 | h4
      · rw [atQ_in hs h h3 h4]
        unfold curW
        split
        · exact .inl rfl
        · exact .inr rfl
      · left
        rw [atQ_on (k := K + 1) hs h (by omega) (by omega), h4]
        unfold cvQ
        rw [xq_one hlt, curve_one]
    · left
      rw [atQ_on (k := K) hs hK (by omega) (by omega), ← h3]
      unfold cvQ
      rw [xq_zero, curve_zero]
  unfold btw
  rw [hs.zero, if_pos rfl]
  rcases key with e | e <;> rw [e]
  · exact .inl rfl
  · exact .inr ⟨0, rfl⟩
end Go.Proofs.Ytcibbnphkpaifaa
