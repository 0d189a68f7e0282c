/- Contracts of the reference's chapter 11: Check. -/
import Derived.Test.YtklhdpkofpkmjaaR8d
namespace Go.Proofs.Ytklhdpkofpkmjaa
open Go.RowKit
theorem rcheck_ok (f : Nat → Int) (w : World) (h : Good f) :
    Calls Try.prog 56 #[.agg #[.int .i8 (f 0), .int .i8 (f 1), .int .i8 (f 2), .int .i8 (f 3), .int .i8 (f 4), .int .i8 (f 5)]] w fun e w' => e = .returned (.int .i64 0) ∧ Below w.heap.size w w' := by
  have H := hide_ h
  clear h
  go_enter Try.func56, Try.ntmps56
  go_wp2
  go_loop [3] (fun i => ∃ k : Nat, k ≤ 6 ∧ i = .int .i64 k) (fun i => 6 - (intOf i).toNat)
  case atStart => exact ⟨0, by omega, rfl⟩
  case round =>
    obtain ⟨k, hk, rfl⟩ := hrel
    by_cases hlt : k < 6
    · have hi := cell_ar (heap_alloc_last w (.cells #[.int .i8 (f 0), .int .i8 (f 1), .int .i8 (f 2), .int .i8 (f 3), .int .i8 (f 4), .int .i8 (f 5)] 54)) k hlt
      have h1 := (H.out k hlt).1
      have h2 := (H.out k hlt).2
      go_wp2
      go_round
      case rel => exact ⟨k + 1, by omega, by go_num⟩
      case measure => simp [intOf]; omega
    · obtain rfl : k = 6 := by omega
      go_wp2
      go_ret
      exact ⟨rfl, by (repeat (first | exact Below.refl _ _ | assumption | refine Below.setCell ?_ (by first | assumption | (simp; done) | (simp; omega) | omega) _ | refine below_drewN ?_ _ | refine Below.drew ?_ | refine Below.alloc ?_ (by first | assumption | (simp; done) | (simp; omega) | omega) _))⟩
theorem rcheck_no (f : Nat → Int) (w : World) (h : ¬ Good f) :
    Calls Try.prog 56 #[.agg #[.int .i8 (f 0), .int .i8 (f 1), .int .i8 (f 2), .int .i8 (f 3), .int .i8 (f 4), .int .i8 (f 5)]] w fun e w' => e = .returned (.int .i64 210) ∧ Below w.heap.size w w' := by
  have H := hide_ h
  clear h
  go_enter Try.func56, Try.ntmps56
  go_wp2
  go_loop [3] (fun i => ∃ k : Nat, k ≤ 6 ∧ i = .int .i64 k ∧ Hid (∀ j, j < k → -4 ≤ f j ∧ f j ≤ 4)) (fun i => 6 - (intOf i).toNat)
  case atStart => exact ⟨0, by omega, rfl, hide_ (fun j hj => by omega)⟩
  case round =>
    obtain ⟨k, hk, rfl, hgd⟩ := hrel
    by_cases hlt : k < 6
    · have hi := cell_ar (heap_alloc_last w (.cells #[.int .i8 (f 0), .int .i8 (f 1), .int .i8 (f 2), .int .i8 (f 3), .int .i8 (f 4), .int .i8 (f 5)] 54)) k hlt
      by_cases h1 : f k < -4
      · go_wp2
        go_ret
        exact ⟨rfl, by (repeat (first | exact Below.refl _ _ | assumption | refine Below.setCell ?_ (by first | assumption | (simp; done) | (simp; omega) | omega) _ | refine below_drewN ?_ _ | refine Below.drew ?_ | refine Below.alloc ?_ (by first | assumption | (simp; done) | (simp; omega) | omega) _))⟩
      · have h1 : -4 ≤ f k := by omega
        by_cases h2 : 4 < f k
        · go_wp2
          go_ret
          exact ⟨rfl, by (repeat (first | exact Below.refl _ _ | assumption | refine Below.setCell ?_ (by first | assumption | (simp; done) | (simp; omega) | omega) _ | refine below_drewN ?_ _ | refine Below.drew ?_ | refine Below.alloc ?_ (by first | assumption | (simp; done) | (simp; omega) | omega) _))⟩
        · have h2 : f k ≤ 4 := by omega
          have hgd2 : Hid (∀ j, j < k + 1 → -4 ≤ f j ∧ f j ≤ 4) := hide_ (fun j hj => by
            rcases Nat.lt_succ_iff_lt_or_eq.1 hj with hj | rfl
            · exact hgd.out j hj
            · exact ⟨h1, h2⟩)
          go_wp2
          go_round
          case rel => exact ⟨k + 1, by omega, by go_num, hgd2⟩
          case measure => simp [intOf]; omega
    · obtain rfl : k = 6 := by omega
      exact absurd hgd.out H.out
end Go.Proofs.Ytklhdpkofpkmjaa
