/- The laws' helpers: parts, sameTurn, Pick: contracts. -/
import Derived.Test.YtklhdpkofpkmjaaTn
namespace Go.Proofs.Ytklhdpkofpkmjaa
open Go.RowKit Ieee
set_option linter.unusedVariables false
set_option maxRecDepth 100000
theorem parts_ok (P : Nat) (w : World) (hP : P < 3600000) : Calls Try.prog 51 #[.agg (turnV P 3600000)] w fun e w' => e = .returned (.tuple #[.int .i64 (P : Int), .bool true]) ∧ Below w.heap.size w w' := by
  have h := low_of P 3600000 hP
  have hv : turnV P 3600000 = #[.int .i64 ((P / Nat.gcd 3600000 P : Nat) : Int), .int .i64 ((3600000 / Nat.gcd 3600000 P : Nat) : Int)] := rfl
  rw [hv]
  clear hv
  generalize P / Nat.gcd 3600000 P = x at *
  generalize 3600000 / Nat.gcd 3600000 P = y at *
  generalize Nat.gcd 3600000 P = g at *
  have hx := h.hx
  have hw := h.hw
  have hl := h.lt
  have hg := h.hg
  clear h
  have hy : y ≤ 3600000 := by rw [← hw]; exact Nat.le_mul_of_pos_right _ hg
  have d1 : (3600000 : Int).tmod (y : Int) = 0 := by
    rw [Int.tmod_eq_emod_of_nonneg (by omega), ← show ((y * g : Nat) : Int) = 3600000 by omega]
    simp
  have d2 : (3600000 : Int).tdiv (y : Int) = (g : Int) := by
    rw [Int.tdiv_eq_ediv_of_nonneg (by omega), ← show ((y * g : Nat) : Int) = 3600000 by omega, Int.natCast_mul]
    exact Int.mul_ediv_cancel_left _ (by omega)
  have d3 : (x : Int) * (g : Int) = (P : Int) := by rw [← hx, Int.natCast_mul]
  have hy0 : ((y : Int) == 0) = false := by rw [beq_eq_false_iff_ne]; omega
  have b1 : (1 : Int) ≤ (y : Int) := by omega
  have b2 : (y : Int) ≤ 3600000 := by omega
  have b3 : (x : Int) < (y : Int) := by omega
  have hgl : g ≤ 3600000 := by rw [← hw]; exact Nat.le_mul_of_pos_left _ (by omega)
  have b4 : wrap64 (g : Int) = (g : Int) := IntWalk.wrap64_in _ (by omega)
  have b5 : wrap64 ((x : Int) * (g : Int)) = (P : Int) := by rw [d3]; exact IntWalk.wrap64_in _ (by omega)
  go_enter Try.func51, Try.ntmps51
  have c := cells_two (heap_alloc_last w (.cells #[.int .i64 (x : Int), .int .i64 (y : Int)] 35))
  obtain ⟨c0, c1⟩ := c
  go_wp2
  go_quiet (fail)
  go_wp2
  go_ret2
  refine ⟨?_, by exact Grew.below (by repeat (first | exact Grew.refl _ | assumption | refine Grew.alloc ?_ _ | refine Grew.drewN ?_ _ | refine Grew.drew ?_ | refine Grew.setRow ?_ (by first | assumption | (simp; done) | (simp; omega) | omega) _ | refine Grew.setCell ?_ (by first | assumption | (simp; done) | (simp; omega) | omega) _ | refine Grew.step ?_ (by assumption)))⟩
  first
    | rfl
    | (rw [b4, b5]; rfl)
    | simp [b4, b5]
theorem same_turn (x y : Int) (w : World) : Calls Try.prog 52 #[.agg #[.int .i64 x, .int .i64 y], .agg #[.int .i64 x, .int .i64 y]] w fun e w' => e = .returned (.bool true) ∧ Below w.heap.size w w' := by
  have c := cells_two (heap_past (o' := .cells #[.int .i64 x, .int .i64 y] 35) (heap_alloc_last w (.cells #[.int .i64 x, .int .i64 y] 35)))
  obtain ⟨c0, c1⟩ := c
  have d := cells_two (heap_at1 w (.cells #[.int .i64 x, .int .i64 y] 35) (.cells #[.int .i64 x, .int .i64 y] 35))
  obtain ⟨d0, d1⟩ := d
  go_enter Try.func52, Try.ntmps52
  go_wp2
  go_ret
  exact ⟨rfl, by exact Grew.below (by repeat (first | exact Grew.refl _ | assumption | refine Grew.alloc ?_ _ | refine Grew.drewN ?_ _ | refine Grew.drew ?_ | refine Grew.setRow ?_ (by first | assumption | (simp; done) | (simp; omega) | omega) _ | refine Grew.setCell ?_ (by first | assumption | (simp; done) | (simp; omega) | omega) _ | refine Grew.step ?_ (by assumption)))⟩
theorem pick_ok (t : Int) (n : Nat) (w : World) (hn : 0 < n) (hn2 : n ≤ 4294967296) : Calls Try.prog 47 #[.int .i64 t, .int .i64 (n : Int)] w fun e w' => e = .returned (.int .i64 (t % (n : Int))) ∧ w = w' := by
  obtain ⟨r, hr⟩ : ∃ r, r = t.tmod (n : Int) := ⟨_, rfl⟩
  obtain ⟨q, hq⟩ : ∃ q, q = t % (n : Int) := ⟨_, rfl⟩
  have hrr : (r < 0 → r + n = q) ∧ (¬ r < 0 → r = q) ∧ -4294967296 ≤ r ∧ r ≤ 4294967296 := by
    have h1 := Int.tmod_lt_of_pos t (show (0 : Int) < n by omega)
    have h2 := Int.lt_tmod_of_pos t (show (0 : Int) < n by omega)
    have h3 : r % (n : Int) = q := by rw [hq, ← tmod_emod t n (by omega), ← hr, Int.add_emod_right]
    rw [← hr] at h1 h2
    refine ⟨fun h => ?_, fun h => ?_, by omega, by omega⟩
    · rw [← h3, ← Int.add_emod_right]
      exact (Int.emod_eq_of_lt (by omega) (by omega)).symm
    · rw [← h3]
      exact (Int.emod_eq_of_lt (by omega) (by omega)).symm
  have hn0 : ((n : Int) == 0) = false := by rw [beq_eq_false_iff_ne]; omega
  rw [← hq]
  obtain ⟨r1, r2, r3, r4⟩ := hrr
  have hr' : t.tmod (n : Int) = r := hr.symm
  clear hr hq
  by_cases hneg : r < 0
  · have hs := r1 hneg
    clear r1 r2
    go_enter Try.func47, Try.ntmps47
    go_wp2
    go_ret
    exact ⟨by first | rfl | rw [hs], rfl⟩
  · obtain rfl := r2 hneg
    clear r1 r2
    go_enter Try.func47, Try.ntmps47
    go_wp2
    go_ret
    exact ⟨rfl, rfl⟩
end Go.Proofs.Ytklhdpkofpkmjaa
