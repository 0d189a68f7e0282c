/- The plain law of the reference's nearest, the tests of its loop. No program. -/
import Derived.Test.YtklhdpkofpkmjaaFl6
import Derived.Test.YtklhdpkofpkmjaaBd
namespace Go.Proofs.Ytklhdpkofpkmjaa
open Ieee
set_option linter.unusedVariables false
/-- The nearest number of units of U; of two the even one. -/
def NearP (U v K : Int) : Prop := (2 * (v - K * U) < U ∧ -U < 2 * (v - K * U)) ∨ ((2 * (v - K * U) = U ∨ 2 * (v - K * U) = -U) ∧ K % 2 = 0)
theorem near_unique {U v K L : Int} (hU : 0 < U) (h1 : NearP U v K) (h2 : NearP U v L) : K = L := by
  have hd : (v - L * U) - (v - K * U) = (K - L) * U := by rw [Int.sub_mul]; omega
  unfold NearP at h1 h2
  rcases Int.lt_trichotomy K L with h | h | h
  · have hk : (K - L) * U ≤ -U := by
      have : (K - L) * U ≤ (-1) * U := Int.mul_le_mul_of_nonneg_right (by omega) (by omega)
      omega
    by_cases hk2 : K - L = -1
    · rw [hk2] at hd; omega
    · have : (K - L) * U ≤ (-2) * U := Int.mul_le_mul_of_nonneg_right (by omega) (by omega)
      omega
  · exact h
  · have hk : U ≤ (K - L) * U := by
      have : 1 * U ≤ (K - L) * U := Int.mul_le_mul_of_nonneg_right (by omega) (by omega)
      omega
    by_cases hk2 : K - L = 1
    · rw [hk2] at hd; omega
    · have : 2 * U ≤ (K - L) * U := Int.mul_le_mul_of_nonneg_right (by omega) (by omega)
      omega
theorem even_cut (neg : Bool) (N drop : Nat) : Toward.even.cut neg N drop = N / 2 ^ drop + (if 2 ^ drop < 2 * (N % 2 ^ drop) ∨ (2 ^ drop = 2 * (N % 2 ^ drop) ∧ N / 2 ^ drop % 2 = 1) then 1 else 0) := by
  unfold Toward.cut
  simp only [Nat.shiftLeft_eq, Nat.one_mul]
  rcases Nat.lt_or_ge (N.log2 + 2) drop with hd | hd
  · rw [Nat.min_eq_right (by omega)]
    have hn : N < 2 ^ (N.log2 + 1) := Nat.lt_log2_self
    have e : 2 ^ (N.log2 + 2) = 2 * 2 ^ (N.log2 + 1) := by rw [Nat.pow_succ]; omega
    have hdr : 2 ^ (N.log2 + 2) ≤ 2 ^ drop := Nat.pow_le_pow_right (by decide) (by omega)
    rw [e] at hdr ⊢
    generalize 2 ^ (N.log2 + 1) = g at hn hdr
    generalize 2 ^ drop = G at hdr
    rw [Nat.div_eq_of_lt (show N < 2 * g by omega), Nat.mod_eq_of_lt (show N < 2 * g by omega), Nat.div_eq_of_lt (show N < G by omega), Nat.mod_eq_of_lt (show N < G by omega), if_neg (by omega)]
    have h1 : decide (2 * g < 2 * N) = false := decide_eq_false (by omega)
    have h2 : (2 * g == 2 * N) = false := by rw [beq_eq_false_iff_ne]; omega
    rw [h1, h2]
    rfl
  · rw [Nat.min_eq_left hd]
    congr 1
    generalize 2 ^ drop = G
    by_cases h1 : G < 2 * (N % G)
    · rw [if_pos (.inl h1), decide_eq_true h1]; rfl
    · rw [decide_eq_false h1]
      by_cases h2 : G = 2 * (N % G) ∧ N / G % 2 = 1
      · rw [if_pos (.inr h2), show (G == 2 * (N % G)) = true by rw [beq_iff_eq]; exact h2.1, show (N / G % 2 == 1) = true by rw [beq_iff_eq]; exact h2.2]
        rfl
      · rw [if_neg (by omega)]
        by_cases h3 : G = 2 * (N % G)
        · rw [show (N / G % 2 == 1) = false by rw [beq_eq_false_iff_ne]; omega]
          simp
        · rw [show (G == 2 * (N % G)) = false by rw [beq_eq_false_iff_ne]; omega]
          simp
/-- Of a size: the even cut is nearest. -/
theorem even_near (neg : Bool) (N drop : Nat) : NearP ((2 ^ drop : Nat) : Int) (N : Int) (Toward.even.cut neg N drop : Nat) := by
  rw [even_cut]
  have hG : 0 < 2 ^ drop := Nat.two_pow_pos _
  generalize 2 ^ drop = G at hG
  have hdm := Nat.div_add_mod N G
  have hr := Nat.mod_lt N hG
  have hN : (N : Int) = (G : Int) * ((N / G : Nat) : Int) + ((N % G : Nat) : Int) := by rw [← Int.natCast_mul]; omega
  generalize N / G = Q at *
  generalize N % G = r at *
  unfold NearP
  split
  · rename_i hc
    have e : (N : Int) - ((Q + 1 : Nat) : Int) * (G : Int) = (r : Int) - G := by
      rw [hN, Int.natCast_add, Int.add_mul, Int.mul_comm]; omega
    rw [e]
    rcases hc with hc | ⟨hc, hq⟩
    · exact .inl (by omega)
    · exact .inr (by omega)
  · rename_i hc
    have e : (N : Int) - ((Q + 0 : Nat) : Int) * (G : Int) = (r : Int) := by
      rw [hN, Nat.add_zero, Int.mul_comm]; omega
    rw [e]
    by_cases h2 : 2 * r = G
    · exact .inr (by omega)
    · exact .inl (by omega)
theorem near_scale {G U V N K : Int} (hG : 0 < G) (hU : 0 < U) (h : V * G = N * U) (hn : NearP G N K) : NearP U V K := by
  have e : (V - K * U) * G = (N - K * G) * U := by
    rw [Int.sub_mul, Int.sub_mul, h]
    congr 1
    rw [Int.mul_assoc, Int.mul_assoc, Int.mul_comm U G]
  unfold NearP at *
  generalize V - K * U = A at *
  generalize N - K * G = B at *
  have e2 : (2 * A) * G = (2 * B) * U := by rw [Int.mul_assoc, Int.mul_assoc, e]
  rcases hn with ⟨h1, h2⟩ | ⟨h1, h2⟩
  · left
    constructor
    · have : 2 * B * U < G * U := Int.mul_lt_mul_of_pos_right h1 hU
      rw [← e2, Int.mul_comm G U] at this
      exact Int.lt_of_mul_lt_mul_right this (by omega)
    · have : -G * U < 2 * B * U := Int.mul_lt_mul_of_pos_right h2 hU
      rw [← e2, Int.neg_mul, Int.mul_comm G U, ← Int.neg_mul] at this
      exact Int.lt_of_mul_lt_mul_right this (by omega)
  · right
    refine ⟨?_, h2⟩
    rcases h1 with h1 | h1
    · left
      rw [h1, Int.mul_comm G U] at e2
      exact Int.eq_of_mul_eq_mul_right (by omega) e2
    · right
      rw [h1, Int.neg_mul, Int.mul_comm G U, ← Int.neg_mul] at e2
      exact Int.eq_of_mul_eq_mul_right (by omega) e2
end Go.Proofs.Ytklhdpkofpkmjaa
namespace Go.Proofs.Ytklhdpkofpkmjaa
open Ieee
set_option linter.unusedVariables false
theorem near_neg {U v K : Int} (h : NearP U v K) : NearP U (-v) (-K) := by
  unfold NearP at *
  have e : -v - -K * U = -(v - K * U) := by rw [Int.neg_mul]; omega
  rw [e]
  generalize v - K * U = A at *
  omega
theorem p74_pos : (0 : Int) < (P74 : Int) := by
  have : 0 < P74 := by rw [← valR_one]; exact Nat.lt_of_lt_of_le (by rw [valR_low (by decide)]; decide : 0 < valR 1) (valR_mono (by decide))
  omega
theorem pow_eq4 (m a b c e : Nat) (h : a + b = c + e) : m * 2 ^ a * 2 ^ b = m * 2 ^ c * 2 ^ e := by
  rw [Nat.mul_assoc, Nat.mul_assoc, ← Nat.pow_add, ← Nat.pow_add, h]
theorem pow_up2 (a e : Nat) (h : a ≤ e) : 2 ^ a ≤ 2 ^ e := Nat.pow_le_pow_right (by decide) h
theorem rte_near {x : Nat} {v : Int} (h : Fin64 x v) : NearP (P74 : Int) v (rteN x) := by
  obtain ⟨s, m, i, rx, hi, rfl⟩ := h.ex
  have hM : rteM x = Toward.even.cut s (m * 2 ^ i.toNat) (-i).toNat := by
    unfold rteM
    rw [rx]
    simp only [Nat.shiftLeft_eq]
  have hS : rteS x = s := by unfold rteS; rw [rx]
  have h1 := even_near s (m * 2 ^ i.toNat) (-i).toNat
  have hsc : m * 2 ^ (i + 1074).toNat * 2 ^ (-i).toNat = m * 2 ^ i.toNat * P74 := by
    have h := pow_eq4 m (i + 1074).toNat (-i).toNat i.toNat 1074 (by omega)
    rw [← p74_eq'] at h
    exact h
  have h2 := near_scale (G := ((2 ^ (-i).toNat : Nat) : Int)) (U := (P74 : Int)) (V := ((m * 2 ^ (i + 1074).toNat : Nat) : Int)) (N := ((m * 2 ^ i.toNat : Nat) : Int)) (by have := Nat.two_pow_pos (-i).toNat; omega) p74_pos (by
    rw [← Int.natCast_mul, ← Int.natCast_mul, hsc]) h1
  rw [← hM] at h2
  unfold rteN
  rw [hS, signed_val]
  cases s
  · exact h2
  · exact near_neg h2
theorem fin_rung {b : Nat} {v : Int} (h : Fin64 b v) : ∃ R, R < 2047 * 2 ^ 52 ∧ v.natAbs = valR R := by
  obtain ⟨s, m, i, rx, hi, rfl⟩ := h.ex
  have hl : double.leastPlace = -1074 := by decide
  have hb : double.binade = 2 ^ 52 := rfl
  have hin : double.infRung = 2047 * 2 ^ 52 := by decide
  have hs : double.signWeight = 2 ^ 63 := by decide
  refine ⟨b % 2 ^ 63, ?_⟩
  unfold Format.read at rx
  simp only [hl, hb, hin, hs] at rx
  rw [signed_abs]
  by_cases h1 : b % 2 ^ 63 < 2 ^ 52
  · rw [if_pos h1] at rx
    cases rx
    refine ⟨by omega, ?_⟩
    rw [valR_low (by omega)]
    exact Nat.mul_one _
  · rw [if_neg h1] at rx
    by_cases h2 : b % 2 ^ 63 < 2047 * 2 ^ 52
    · rw [if_pos h2] at rx
      cases rx
      refine ⟨h2, ?_⟩
      unfold valR
      rw [if_neg h1]
      congr 2
      omega
    · rw [if_neg h2] at rx
      split at rx <;> cases rx
theorem valR_bin0 (t : Nat) : valR ((t + 1) * 2 ^ 52) = 2 ^ (52 + t) := by
  unfold valR
  rw [if_neg (by omega), show ((t + 1) * 2 ^ 52) % 2 ^ 52 = 0 by omega, show ((t + 1) * 2 ^ 52) / 2 ^ 52 - 1 = t by omega, Nat.add_zero, ← Nat.pow_add]
theorem half_val : valR HALF = 2 ^ (52 + 1021) := valR_bin0 1021
theorem pow_cut (a t e : Nat) (h : e ≤ t) : a * 2 ^ t = a * 2 ^ (t - e) * 2 ^ e := by rw [Nat.mul_assoc, ← Nat.pow_add, Nat.sub_add_cancel h]
theorem big_mult {b : Nat} {v : Int} (h : Fin64 b v) (hv : valR HALF ≤ v.natAbs) : ∃ j : Int, v = j * ((2 ^ 1021 : Nat) : Int) := by
  obtain ⟨R, hR, he⟩ := fin_rung h
  rw [he] at hv
  have hRH : HALF ≤ R := by
    rcases Nat.lt_or_ge R HALF with hlt | hge
    · exfalso
      have hH : HALF = 1022 * 2 ^ 52 := by decide
      rcases Nat.lt_or_ge R (2 ^ 52) with hr | hr
      · have h1 := valR_mono (show R ≤ 2 ^ 52 by omega)
        have h2 := valR_mono (show 2 ^ 52 ≤ HALF by decide)
        rw [half_val] at hv
        rw [valR_low (by omega)] at hv
        have := pow_up2 53 (52 + 1021) (by omega)
        omega
      · have h1 := (valR_bin hr).2
        rw [half_val] at hv
        have := pow_up2 (R / 2 ^ 52 + 52) (52 + 1021) (by omega)
        omega
    · exact hge
  have hH : HALF = 1022 * 2 ^ 52 := by decide
  obtain ⟨t, m, hRt, hm, hval⟩ := valR_split (show 2 ^ 52 ≤ R by omega)
  have ht : 1021 ≤ t := by omega
  have hval2 := hval.trans (pow_cut (2 ^ 52 + m) t 1021 ht)
  rw [hval2] at he
  generalize (2 ^ 52 + m) * 2 ^ (t - 1021) = J at he
  generalize 2 ^ 1021 = W at he ⊢
  rcases (show v = ((J * W : Nat) : Int) ∨ v = -((J * W : Nat) : Int) by omega) with h | h
  · exact ⟨J, by rw [h, Int.natCast_mul]⟩
  · exact ⟨-J, by rw [h, Int.natCast_mul, Int.neg_mul]⟩
/-- Small multiples are numbers of the format. -/
theorem mult_rung (n : Nat) (hn : n < 2 ^ 53) : ∃ R, R < 2047 * 2 ^ 52 ∧ valR R = n * 2 ^ 1021 := by
  by_cases h0 : n = 0
  · exact ⟨0, by decide, by subst h0; generalize 2 ^ 1021 = P; rw [Nat.zero_mul]; exact valR_low (by decide)⟩
  have hlo := Nat.log2_self_le h0
  have hhi : n < 2 ^ (n.log2 + 1) := Nat.lt_log2_self
  have hL : n.log2 < 53 := by
    rcases Nat.lt_or_ge n.log2 53 with h | h
    · exact h
    · have := Nat.pow_le_pow_right (n := 2) (by decide) h
      omega
  generalize n.log2 = L at *
  have h1 : 2 ^ 52 ≤ n * 2 ^ (52 - L) := by
    calc 2 ^ 52 = 2 ^ L * 2 ^ (52 - L) := by rw [← Nat.pow_add]; congr 1; omega
      _ ≤ _ := Nat.mul_le_mul_right _ hlo
  have h2 : n * 2 ^ (52 - L) < 2 ^ 53 := by
    calc n * 2 ^ (52 - L) < 2 ^ (L + 1) * 2 ^ (52 - L) := Nat.mul_lt_mul_of_pos_right hhi (Nat.two_pow_pos _)
      _ = 2 ^ 53 := by rw [← Nat.pow_add]; congr 1; omega
  obtain ⟨m, hm⟩ : ∃ m, n * 2 ^ (52 - L) = 2 ^ 52 + m := ⟨n * 2 ^ (52 - L) - 2 ^ 52, by omega⟩
  refine ⟨(969 + L + 1) * 2 ^ 52 + m, by omega, ?_⟩
  unfold valR
  rw [if_neg (by omega), show ((969 + L + 1) * 2 ^ 52 + m) % 2 ^ 52 = m by omega, show ((969 + L + 1) * 2 ^ 52 + m) / 2 ^ 52 - 1 = 969 + L by omega, ← hm, Nat.mul_assoc, ← Nat.pow_add]
  congr 2
  omega
theorem read_neg {y : Nat} {b : Int} (hy : Fin64 y b) (hw : y < 2 ^ 64) : double.read (Op.negFloat .f64 y) = (double.read y).opposite := by
  obtain ⟨s, m, i, rx, hi, rfl⟩ := hy.ex
  have hs : double.signWeight = 2 ^ 63 := by decide
  have e : Op.negFloat .f64 y = if y < 2 ^ 63 then y + 2 ^ 63 else y - 2 ^ 63 := by
    show y ^^^ 2 ^ 63 = _
    rcases Nat.lt_or_ge y (2 ^ 63) with h | h
    · rw [if_pos h, xor_top h]
    · rw [if_neg (by omega)]
      obtain ⟨z, rfl⟩ : ∃ z, y = z + 2 ^ 63 := ⟨y - 2 ^ 63, by omega⟩
      have h2 := xor_top (show z < 2 ^ 63 by omega)
      rw [Nat.add_sub_cancel, ← h2, Nat.xor_assoc, Nat.xor_self, Nat.xor_zero]
  rw [rx, e]
  unfold Format.read at rx ⊢
  simp only [hs] at rx ⊢
  have hm : (if y < 2 ^ 63 then y + 2 ^ 63 else y - 2 ^ 63) % 2 ^ 63 = y % 2 ^ 63 := by split <;> omega
  have hq : ((if y < 2 ^ 63 then y + 2 ^ 63 else y - 2 ^ 63) / 2 ^ 63 % 2 == 1) = !(y / 2 ^ 63 % 2 == 1) := by
    split
    · rw [show (y + 2 ^ 63) / 2 ^ 63 % 2 = 1 by omega, show y / 2 ^ 63 % 2 = 0 by omega]; rfl
    · rw [show (y - 2 ^ 63) / 2 ^ 63 % 2 = 0 by omega, show y / 2 ^ 63 % 2 = 1 by omega]; rfl
  rw [hm, hq]
  split at rx
  · rename_i h1
    rw [if_pos h1]
    cases rx
    rfl
  · rename_i h1
    rw [if_neg h1]
    split at rx
    · rename_i h2
      rw [if_pos h2]
      cases rx
      rfl
    · split at rx <;> cases rx
theorem sub_add {x y : Nat} {b : Int} (hy : Fin64 y b) (hw : y < 2 ^ 64) : double.sub x y = double.add x (Op.negFloat .f64 y) := by
  unfold Format.sub Format.add
  rw [read_neg hy hw]
end Go.Proofs.Ytklhdpkofpkmjaa
