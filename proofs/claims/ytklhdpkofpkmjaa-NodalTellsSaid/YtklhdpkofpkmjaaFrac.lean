/- Plain law: fractions of a turn in lowest terms: their sums, their multiples. No Go in sight. -/
import Derived.Test.YtklhdpkofpkmjaaLib
namespace Go.Proofs.Ytklhdpkofpkmjaa
open Go.RowKit
/-- A turn in lowest terms, as a value. -/
def turnV (p q : Nat) : Array Value := #[.int .i64 ((p / Nat.gcd q p : Nat) : Int), .int .i64 ((q / Nat.gcd q p : Nat) : Int)]
theorem turnV_scale (p q m : Nat) (hm : 0 < m) : turnV (p * m) (q * m) = turnV p q := by
  unfold turnV
  rw [Nat.gcd_mul_right, Nat.mul_div_mul_right _ _ hm, Nat.mul_div_mul_right _ _ hm]
structure Low (p q g x w : Nat) : Prop where
  hg : 0 < g
  hx : x * g = p
  hw : w * g = q
  lt : x < w
  co : Nat.gcd w x = 1
theorem low_of (p q : Nat) (h : p < q) : Low p q (Nat.gcd q p) (p / Nat.gcd q p) (q / Nat.gcd q p) := by
  have hg : 0 < Nat.gcd q p := Nat.gcd_pos_of_pos_left _ (by omega)
  have hw := Nat.div_mul_cancel (Nat.gcd_dvd_left q p)
  have hx := Nat.div_mul_cancel (Nat.gcd_dvd_right q p)
  refine ⟨hg, hx, hw, ?_, ?_⟩
  · refine Nat.lt_of_mul_lt_mul_right (a := Nat.gcd q p) ?_
    rw [hx, hw]
    exact h
  · have := Nat.coprime_div_gcd_div_gcd hg
    exact this
theorem Low.wpos {p q g x w : Nat} (h : Low p q g x w) : 0 < w := by have := h.lt; omega
theorem Low.wle {p q g x w : Nat} (h : Low p q g x w) : w ≤ q := by rw [← h.hw]; exact Nat.le_mul_of_pos_right _ h.hg
theorem Low.turn {p q g x w : Nat} (h : Low p q g x w) : turnV p q = turnV x w := by rw [← h.hx, ← h.hw]; exact turnV_scale _ _ _ h.hg
/-- The sum of two fractions, over the least whole that both go into, comes to the sum of the numerators. -/
theorem add_law {P Q q g1 x w1 g2 y w2 : Nat} (h1 : Low P q g1 x w1) (h2 : Low Q q g2 y w2) :
    let g := Nat.gcd w1 w2
    let v := w2 / g
    let u := w1 / g
    w1 * v ≤ q ∧ 0 < w1 * v ∧ x * v + y * u < 2 * (w1 * v) ∧ turnV ((x * v + y * u) % (w1 * v)) (w1 * v) = turnV ((P + Q) % q) q := by
  intro g v u
  have hgp : 0 < g := Nat.gcd_pos_of_pos_left _ h1.wpos
  have hv : v * g = w2 := Nat.div_mul_cancel (Nat.gcd_dvd_right w1 w2)
  have hu : u * g = w1 := Nat.div_mul_cancel (Nat.gcd_dvd_left w1 w2)
  have hvp : 0 < v := by rcases Nat.eq_zero_or_pos v with h | h; · rw [h] at hv; have := h2.wpos; omega
                         · exact h
  have hup : 0 < u := by rcases Nat.eq_zero_or_pos u with h | h; · rw [h] at hu; have := h1.wpos; omega
                         · exact h
  have hl : w1 * v = Nat.lcm w1 w2 := by
    rw [Nat.lcm, Nat.mul_div_assoc _ (Nat.gcd_dvd_right w1 w2)]
  have hd : w1 * v ∣ q := by
    rw [hl]
    exact Nat.lcm_dvd ⟨g1, by rw [h1.hw]⟩ ⟨g2, by rw [h2.hw]⟩
  obtain ⟨m, hm⟩ := hd
  have hqp : 0 < q := by have := h1.wle; have := h1.wpos; omega
  have hmp : 0 < m := by rcases Nat.eq_zero_or_pos m with h | h; · rw [h] at hm; omega
                         · exact h
  have hwp : 0 < w1 * v := Nat.mul_pos h1.wpos hvp
  have hc : w1 * v = w2 * u := by rw [← hv, ← hu]; simp only [Nat.mul_comm, Nat.mul_left_comm]
  have e1 : v * m = g1 := by
    refine Nat.eq_of_mul_eq_mul_left h1.wpos ?_
    rw [h1.hw, hm, Nat.mul_assoc]
  have e2 : u * m = g2 := by
    refine Nat.eq_of_mul_eq_mul_left h2.wpos ?_
    rw [h2.hw, hm, hc, Nat.mul_assoc]
  have es : (x * v + y * u) * m = P + Q := by
    rw [Nat.add_mul, Nat.mul_assoc, Nat.mul_assoc, e1, e2, h1.hx, h2.hx]
  refine ⟨?_, hwp, ?_, ?_⟩
  · rw [hm]; exact Nat.le_mul_of_pos_right _ hmp
  · have a1 : x * v < w1 * v := Nat.mul_lt_mul_of_pos_right h1.lt hvp
    have a2 : y * u < w2 * u := Nat.mul_lt_mul_of_pos_right h2.lt hup
    omega
  · rw [← turnV_scale _ _ m hmp, ← Nat.mul_mod_mul_right, es, ← hm]
/-- A multiple of a fraction. -/
theorem times_law {P q g x w : Nat} (h : Low P q g x w) (n : Int) :
    turnV ((x * (n % (w : Int)).toNat) % w) w = turnV (((P : Int) * n) % (q : Int)).toNat q := by
  have hwp := h.wpos
  rw [← turnV_scale _ w g h.hg, ← Nat.mul_mod_mul_right, h.hw]
  congr 1
  have hk : ((n % (w : Int)).toNat : Int) = n % (w : Int) := Int.toNat_of_nonneg (Int.emod_nonneg _ (by omega))
  have hq : (q : Int) = (w : Int) * g := by rw [← h.hw]; simp
  have hP : (P : Int) = (x : Int) * g := by rw [← h.hx]; simp
  apply Int.ofNat.inj
  show ((x * (n % (w : Int)).toNat * g % q : Nat) : Int) = ((((P : Int) * n) % (q : Int)).toNat : Int)
  rw [Int.toNat_of_nonneg (Int.emod_nonneg _ (by have := h.wle; omega)), Int.natCast_emod, Int.natCast_mul, Int.natCast_mul, hk, hq, hP]
  have e : n = n % (w : Int) + w * (n / w) := (Int.emod_add_mul_ediv n w).symm
  conv => rhs; rw [e]
  rw [show (x : Int) * g * (n % (w : Int) + w * (n / w)) = x * (n % (w : Int)) * g + (w * g) * (x * (n / w)) by
    simp only [Int.mul_add, Int.mul_comm, Int.mul_left_comm, Int.mul_assoc], Int.add_mul_emod_self_left]
end Go.Proofs.Ytklhdpkofpkmjaa
