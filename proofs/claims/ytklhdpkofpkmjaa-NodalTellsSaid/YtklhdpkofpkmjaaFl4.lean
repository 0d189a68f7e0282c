/- The plain law of a turn's number: all its steps are valid, and none is more than 1 in size. No program. -/
import Derived.Test.YtklhdpkofpkmjaaFl3
namespace Go.Proofs.Ytklhdpkofpkmjaa
open Ieee
set_option linter.unusedVariables false
def fm (x y : Nat) : Nat := (double.mul x y).getD 0
def fa (x y : Nat) : Nat := (double.add x y).getD 0
def fd (x y : Nat) : Nat := (double.div x y).getD 0
/-- The value is from 0 to the rung's. -/
def Pos (R b : Nat) : Prop := ∃ v, Fin64 b v ∧ 0 ≤ v ∧ v.natAbs ≤ valR R ∧ b < 2 ^ 64
/-- The value is from 0 down to the rung's. -/
def Neg (R b : Nat) : Prop := ∃ v, Fin64 b v ∧ v ≤ 0 ∧ v.natAbs ≤ valR R ∧ b < 2 ^ 64
/-- The value's size is at most the rung's. -/
def Abs (R b : Nat) : Prop := ∃ v, Fin64 b v ∧ v.natAbs ≤ valR R ∧ b < 2 ^ 64
theorem Pos.abs {R b : Nat} (h : Pos R b) : Abs R b := let ⟨v, a, _, c, d⟩ := h; ⟨v, a, c, d⟩
theorem Neg.abs {R b : Nat} (h : Neg R b) : Abs R b := let ⟨v, a, _, c, d⟩ := h; ⟨v, a, c, d⟩
theorem Pos.up {R S b : Nat} (h : Pos R b) (hs : R ≤ S) : Pos S b := let ⟨v, a, p, c, d⟩ := h; ⟨v, a, p, Nat.le_trans c (valR_mono hs), d⟩
theorem Neg.up {R S b : Nat} (h : Neg R b) (hs : R ≤ S) : Neg S b := let ⟨v, a, p, c, d⟩ := h; ⟨v, a, p, Nat.le_trans c (valR_mono hs), d⟩
theorem Abs.up {R S b : Nat} (h : Abs R b) (hs : R ≤ S) : Abs S b := let ⟨v, a, c, d⟩ := h; ⟨v, a, Nat.le_trans c (valR_mono hs), d⟩
theorem pos_const (S : Nat) (h : S < 2047 * 2 ^ 52) : Fin64 S (valR S) := fin_word (neg := false) h
theorem neg_const (S : Nat) (h : S < 2047 * 2 ^ 52) : Fin64 (2 ^ 63 + S) (-(valR S : Int)) := fin_word (neg := true) h
def P74 : Nat := 2 ^ 1074
/-- 1. -/
def ONE : Nat := 4607182418800017408
theorem pow_add0 (a b : Nat) : a ^ b = a ^ (b + 0) := rfl
theorem p74_eq' : P74 = 2 ^ 1074 := P74.eq_1
theorem p74_eq : P74 = 2 ^ (1074 + 0) := p74_eq'.trans (pow_add0 2 1074)
theorem valR_one : valR ONE = P74 := (valR_two 0 (by decide)).trans p74_eq.symm
theorem Fin64.mulP {x y : Nat} {a b : Int} {B : Nat} (hx : Fin64 x a) (hy : Fin64 y b) (hB : B < 2047 * 2 ^ 52) (h2 : a.natAbs * b.natAbs ≤ valR B * P74) :
    ∃ r c, double.mul x y = some r ∧ Fin64 r c ∧ (c.natAbs : Int) ≤ valR B ∧ (0 ≤ a * b → 0 ≤ c) ∧ (a * b ≤ 0 → c ≤ 0) := by
  have h1 : ∀ P, valR 0 * P ≤ a.natAbs * b.natAbs := fun P => by rw [valR_low (by decide), Nat.zero_mul]; exact Nat.zero_le _
  rw [p74_eq'] at h2
  obtain ⟨r, c, e1, e2, e3, e4, e5, e6⟩ := Fin64.mul hx hy hB (h1 _) h2
  exact ⟨r, c, e1, e2, e4, e5, e6⟩
theorem mul_ok {x y a : Nat} (h : ∃ r c, double.mul x y = some r ∧ Fin64 r c) : double.mul x y = some (fm x y) ∧ fm x y < 2 ^ 64 := by
  obtain ⟨r, c, h1, _⟩ := h
  have := double.mul_lt h1
  unfold fm
  rw [h1]
  exact ⟨rfl, this⟩
theorem add_ok {x y a : Nat} (h : ∃ r c, double.add x y = some r ∧ Fin64 r c) : double.add x y = some (fa x y) ∧ fa x y < 2 ^ 64 := by
  obtain ⟨r, c, h1, _⟩ := h
  have := double.add_lt h1
  unfold fa
  rw [h1]
  exact ⟨rfl, this⟩
theorem Neg.mul {R h q : Nat} (hR : R < 2047 * 2 ^ 52) (hh : Neg R h) (hq : Pos ONE q) : double.mul h q = some (fm h q) ∧ Neg R (fm h q) := by
  obtain ⟨a, fa1, ha, hab, _⟩ := hh
  obtain ⟨b, fb1, hb, hbb, _⟩ := hq
  rw [valR_one] at hbb
  obtain ⟨r, c, h1, h2, h4, h5, h6⟩ := fa1.mulP fb1 (B := R) hR (Nat.mul_le_mul hab hbb)
  have hw := mul_ok (a := 0) ⟨r, c, h1, h2⟩
  obtain rfl : fm h q = r := by rw [h1] at hw; exact (Option.some.inj hw.1).symm
  exact ⟨hw.1, c, h2, h6 (Int.mul_nonpos_of_nonpos_of_nonneg ha hb), Int.ofNat_le.1 h4, hw.2⟩
theorem Pos.mul {R h q : Nat} (hR : R < 2047 * 2 ^ 52) (hh : Pos R h) (hq : Pos ONE q) : double.mul h q = some (fm h q) ∧ Pos R (fm h q) := by
  obtain ⟨a, fa1, ha, hab, _⟩ := hh
  obtain ⟨b, fb1, hb, hbb, _⟩ := hq
  rw [valR_one] at hbb
  obtain ⟨r, c, h1, h2, h4, h5, h6⟩ := fa1.mulP fb1 (B := R) hR (Nat.mul_le_mul hab hbb)
  have hw := mul_ok (a := 0) ⟨r, c, h1, h2⟩
  obtain rfl : fm h q = r := by rw [h1] at hw; exact (Option.some.inj hw.1).symm
  exact ⟨hw.1, c, h2, h5 (Int.mul_nonneg ha hb), Int.ofNat_le.1 h4, hw.2⟩
theorem Neg.add {R S h : Nat} (hS : S < 2047 * 2 ^ 52) (hh : Neg R h) (hRS : R ≤ S) : double.add h S = some (fa h S) ∧ Pos S (fa h S) := by
  obtain ⟨a, fa1, ha, hab, _⟩ := hh
  have hm := valR_mono hRS
  obtain ⟨r, c, h1, h2, h3, h4, h5, h6⟩ := fa1.add (pos_const S hS) (A := 0) (B := S) hS (by rw [valR_low (by decide)]; exact Nat.zero_le _) (by omega)
  have hw := add_ok (a := 0) ⟨r, c, h1, h2⟩
  obtain rfl : fa h S = r := by rw [h1] at hw; exact (Option.some.inj hw.1).symm
  exact ⟨hw.1, c, h2, h5 (by omega), Int.ofNat_le.1 h4, hw.2⟩
theorem Pos.add {R S h : Nat} (hS : S < 2047 * 2 ^ 52) (hh : Pos R h) (hRS : R ≤ S) : double.add h (2 ^ 63 + S) = some (fa h (2 ^ 63 + S)) ∧ Neg S (fa h (2 ^ 63 + S)) := by
  obtain ⟨a, fa1, ha, hab, _⟩ := hh
  have hm := valR_mono hRS
  obtain ⟨r, c, h1, h2, h3, h4, h5, h6⟩ := fa1.add (neg_const S hS) (A := 0) (B := S) hS (by rw [valR_low (by decide)]; exact Nat.zero_le _) (by omega)
  have hw := add_ok (a := 0) ⟨r, c, h1, h2⟩
  obtain rfl : fa h (2 ^ 63 + S) = r := by rw [h1] at hw; exact (Option.some.inj hw.1).symm
  exact ⟨hw.1, c, h2, h6 (by omega), Int.ofNat_le.1 h4, hw.2⟩
theorem Abs.add {R S T x y : Nat} (hT : T < 2047 * 2 ^ 52) (hx : Abs R x) (hy : Abs S y) (h : valR R + valR S ≤ valR T) : double.add x y = some (fa x y) ∧ Abs T (fa x y) := by
  obtain ⟨a, f1, ha, _⟩ := hx
  obtain ⟨b, f2, hb, _⟩ := hy
  obtain ⟨r, c, h1, h2, h3, h4, h5, h6⟩ := f1.add f2 (A := 0) (B := T) hT (by rw [valR_low (by decide)]; exact Nat.zero_le _) (by omega)
  have hw := add_ok (a := 0) ⟨r, c, h1, h2⟩
  obtain rfl : fa x y = r := by rw [h1] at hw; exact (Option.some.inj hw.1).symm
  exact ⟨hw.1, c, h2, Int.ofNat_le.1 h4, hw.2⟩
theorem Abs.mul {R S T x y : Nat} (hT : T < 2047 * 2 ^ 52) (hx : Abs R x) (hy : Abs S y) (h : valR R * valR S ≤ valR T * P74) : double.mul x y = some (fm x y) ∧ Abs T (fm x y) := by
  obtain ⟨a, f1, ha, _⟩ := hx
  obtain ⟨b, f2, hb, _⟩ := hy
  obtain ⟨r, c, h1, h2, h4, h5, h6⟩ := f1.mulP f2 (B := T) hT (Nat.le_trans (Nat.mul_le_mul ha hb) h)
  have hw := mul_ok (a := 0) ⟨r, c, h1, h2⟩
  obtain rfl : fm x y = r := by rw [h1] at hw; exact (Option.some.inj hw.1).symm
  exact ⟨hw.1, c, h2, Int.ofNat_le.1 h4, hw.2⟩
/-- What stands below 1 in the series, from within outward. -/
def sinO : Nat → Nat
  | 0 => 13648976655441704991
  | 1 => 4460272573143870729
  | 2 => 13716528800881525988
  | 3 => 4523617214285662004
  | 4 => 13774824197408792602
  | 5 => 4575957461383581969
  | _ => 13818544856648471893
/-- .. of the cosine. -/
def cosO : Nat → Nat
  | 0 => 4407590220077447199
  | 1 => 13666517717442657437
  | 2 => 4477122120089393304
  | 3 => 13732177094651715420
  | 4 => 4537941361671905306
  | 5 => 13787419979223755799
  | 6 => 4586165620538955093
  | _ => 13826050856027422720
/-- The series, k steps on. -/
def hat (L : Nat → Nat) (q : Nat) : Nat → Nat
  | 0 => L 0
  | k + 1 => fa (fm (hat L q k) q) (L (k + 1))
/-- Each step of the series is valid. -/
def Steps (L : Nat → Nat) (n q : Nat) : Prop := ∀ k, k < n → double.mul (hat L q k) q = some (fm (hat L q k) q) ∧ double.add (fm (hat L q k) q) (L (k + 1)) = some (hat L q (k + 1))
theorem sin_steps {q : Nat} (hq : Pos ONE q) : Steps sinO 6 q ∧ Neg 4595172819793696085 (hat sinO q 6) := by
  have h0 : Neg 4425604618586929183 (hat sinO q 0) := ⟨_, neg_const 4425604618586929183 (by decide), by omega, by omega, (by decide : (13648976655441704991 : Nat) < 2 ^ 64)⟩
  have m1 := h0.mul (by decide) hq
  have a1 := m1.2.add (S := 4460272573143870729) (by decide) (by decide)
  have h1 : Pos 4460272573143870729 (hat sinO q 1) := a1.2
  have m2 := h1.mul (by decide) hq
  have a2 := m2.2.add (S := 4493156764026750180) (by decide) (by decide)
  have h2 : Neg 4493156764026750180 (hat sinO q 2) := a2.2
  have m3 := h2.mul (by decide) hq
  have a3 := m3.2.add (S := 4523617214285662004) (by decide) (by decide)
  have h3 : Pos 4523617214285662004 (hat sinO q 3) := a3.2
  have m4 := h3.mul (by decide) hq
  have a4 := m4.2.add (S := 4551452160554016794) (by decide) (by decide)
  have h4 : Neg 4551452160554016794 (hat sinO q 4) := a4.2
  have m5 := h4.mul (by decide) hq
  have a5 := m5.2.add (S := 4575957461383581969) (by decide) (by decide)
  have h5 : Pos 4575957461383581969 (hat sinO q 5) := a5.2
  have m6 := h5.mul (by decide) hq
  have a6 := m6.2.add (S := 4595172819793696085) (by decide) (by decide)
  have h6 : Neg 4595172819793696085 (hat sinO q 6) := a6.2
  refine ⟨fun k hk => ?_, h6⟩
  rcases (show k = 0 ∨ k = 1 ∨ k = 2 ∨ k = 3 ∨ k = 4 ∨ k = 5 by omega) with rfl | rfl | rfl | rfl | rfl | rfl
  · exact ⟨m1.1, a1.1⟩
  · exact ⟨m2.1, a2.1⟩
  · exact ⟨m3.1, a3.1⟩
  · exact ⟨m4.1, a4.1⟩
  · exact ⟨m5.1, a5.1⟩
  · exact ⟨m6.1, a6.1⟩
theorem cos_steps {q : Nat} (hq : Pos ONE q) : Steps cosO 7 q ∧ Neg 4602678819172646912 (hat cosO q 7) := by
  have h0 : Pos 4407590220077447199 (hat cosO q 0) := ⟨_, pos_const 4407590220077447199 (by decide), by omega, by omega, (by decide : (4407590220077447199 : Nat) < 2 ^ 64)⟩
  have m1 := h0.mul (by decide) hq
  have a1 := m1.2.add (S := 4443145680587881629) (by decide) (by decide)
  have h1 : Neg 4443145680587881629 (hat cosO q 1) := a1.2
  have m2 := h1.mul (by decide) hq
  have a2 := m2.2.add (S := 4477122120089393304) (by decide) (by decide)
  have h2 : Pos 4477122120089393304 (hat cosO q 2) := a2.2
  have m3 := h2.mul (by decide) hq
  have a3 := m3.2.add (S := 4508805057796939612) (by decide) (by decide)
  have h3 : Neg 4508805057796939612 (hat cosO q 3) := a3.2
  have m4 := h3.mul (by decide) hq
  have a4 := m4.2.add (S := 4537941361671905306) (by decide) (by decide)
  have h4 : Pos 4537941361671905306 (hat cosO q 4) := a4.2
  have m5 := h4.mul (by decide) hq
  have a5 := m5.2.add (S := 4564047942368979991) (by decide) (by decide)
  have h5 : Neg 4564047942368979991 (hat cosO q 5) := a5.2
  have m6 := h5.mul (by decide) hq
  have a6 := m6.2.add (S := 4586165620538955093) (by decide) (by decide)
  have h6 : Pos 4586165620538955093 (hat cosO q 6) := a6.2
  have m7 := h6.mul (by decide) hq
  have a7 := m7.2.add (S := 4602678819172646912) (by decide) (by decide)
  have h7 : Neg 4602678819172646912 (hat cosO q 7) := a7.2
  refine ⟨fun k hk => ?_, h7⟩
  rcases (show k = 0 ∨ k = 1 ∨ k = 2 ∨ k = 3 ∨ k = 4 ∨ k = 5 ∨ k = 6 by omega) with rfl | rfl | rfl | rfl | rfl | rfl | rfl
  · exact ⟨m1.1, a1.1⟩
  · exact ⟨m2.1, a2.1⟩
  · exact ⟨m3.1, a3.1⟩
  · exact ⟨m4.1, a4.1⟩
  · exact ⟨m5.1, a5.1⟩
  · exact ⟨m6.1, a6.1⟩
  · exact ⟨m7.1, a7.1⟩
end Go.Proofs.Ytklhdpkofpkmjaa
