/- Chapter 12: spans, the same float, turns in lowest terms: contracts. -/
import Derived.Test.YtklhdpkofpkmjaaNd
namespace Go.Proofs.Ytklhdpkofpkmjaa
open Go.RowKit Ieee
set_option linter.unusedVariables false
set_option maxRecDepth 100000
theorem sameF {x : Nat} {v : Int} (h : Fin64 x v) (w : World) : Calls Try.prog 38 #[.float .f64 x, .float .f64 x] w fun e w' => e = .returned (.bool true) ∧ w = w' := by
  have h1 : (FloatKind.f64.format.order x x == some .eq) = true := by
    rw [show FloatKind.f64.format.order x x = some (compare v v) from order_fin h h]
    simp
  clear h
  go_enter Try.func38, Try.ntmps38
  go_wp2
  go_ret
  exact ⟨rfl, rfl⟩
theorem span_alike (a b : Int) : ∃ e1 : Int, (e1 = 0 → 0 ≤ a ∧ b ≤ 1048577 ∧ a ≤ b ∧ b - a ≤ 4096) ∧
    (∀ w : World, Calls Try.prog 89 #[.int .i64 a, .int .i64 b] w fun e w' => e = .returned (.int .i64 e1) ∧ w = w') ∧
    (∀ w : World, Calls Try.prog 91 #[.int .i64 a, .int .i64 b] w fun e w' => e = .returned (.int .i64 e1) ∧ w = w') := by
  by_cases h0 : a < 0
  · refine ⟨2, by omega, fun w => ?_, fun w => ?_⟩
    · go_enter Try.func89, Try.ntmps89
      go_wp2
      go_ret
      exact ⟨rfl, rfl⟩
    · go_enter Try.func91, Try.ntmps91
      go_wp2
      go_ret
      exact ⟨rfl, rfl⟩
  by_cases h1 : 1048577 < b
  · refine ⟨2, by omega, fun w => ?_, fun w => ?_⟩
    · go_enter Try.func89, Try.ntmps89
      go_wp2
      go_ret
      exact ⟨rfl, rfl⟩
    · go_enter Try.func91, Try.ntmps91
      go_wp2
      go_ret
      exact ⟨rfl, rfl⟩
  by_cases h2 : b < a
  · refine ⟨2, by omega, fun w => ?_, fun w => ?_⟩
    · go_enter Try.func89, Try.ntmps89
      go_wp2
      go_ret
      exact ⟨rfl, rfl⟩
    · go_enter Try.func91, Try.ntmps91
      go_wp2
      go_ret
      exact ⟨rfl, rfl⟩
  by_cases h3 : 4096 < b - a
  · refine ⟨3, by omega, fun w => ?_, fun w => ?_⟩
    · go_enter Try.func89, Try.ntmps89
      go_wp2
      go_ret
      exact ⟨rfl, rfl⟩
    · go_enter Try.func91, Try.ntmps91
      go_wp2
      go_ret
      exact ⟨rfl, rfl⟩
  · refine ⟨0, by omega, fun w => ?_, fun w => ?_⟩
    · go_enter Try.func89, Try.ntmps89
      go_wp2
      go_ret
      exact ⟨rfl, rfl⟩
    · go_enter Try.func91, Try.ntmps91
      go_wp2
      go_ret
      exact ⟨rfl, rfl⟩
theorem turned_ok (part : Int) (P Q : Nat) (w : World) (hp0 : -9000000000000000000 ≤ part) (hp1 : part ≤ 9000000000000000000) (hQ : 0 < Q) (hQ2 : Q ≤ 4294967296) (hP : part % (Q : Int) = (P : Int)) :
    Calls Try.prog 107 #[.int .i64 part, .int .i64 (Q : Int)] w fun e w' => e = .returned (.agg (turnV P Q)) ∧ Below w.heap.size w w' := by
  have hPQ : P < Q := by have := Int.emod_lt_of_pos part (show (0 : Int) < Q by omega); omega
  have hgp : 0 < Nat.gcd Q P := Nat.gcd_pos_of_pos_left _ (by omega)
  have ht : turnV P Q = #[.int .i64 ((P : Int) / (Nat.gcd Q P : Nat)), .int .i64 ((Q : Int) / (Nat.gcd Q P : Nat))] := by
    unfold turnV
    rw [Int.natCast_ediv, Int.natCast_ediv]
  rw [ht]
  clear ht
  obtain ⟨g, hgd⟩ : ∃ g, g = Nat.gcd Q P := ⟨_, rfl⟩
  rw [← hgd] at hgp ⊢
  have Hg := hide_ hgd
  clear hgd
  have b1 := div_bd P g
  have b2 := div_bd Q g
  obtain ⟨r, hr⟩ : ∃ r, r = part.tmod (Q : Int) := ⟨_, rfl⟩
  have hrr : (r < 0 → r + Q = P) ∧ (¬ r < 0 → r = P) ∧ -4294967296 ≤ r ∧ r ≤ 4294967296 := by
    have h1 := Int.tmod_lt_of_pos part (show (0 : Int) < Q by omega)
    have h2 := Int.lt_tmod_of_pos part (show (0 : Int) < Q by omega)
    have h3 : r % (Q : Int) = P := by rw [← hP, ← tmod_emod part Q (by omega), ← hr, Int.add_emod_right]
    rw [← hr] at h1 h2
    refine ⟨fun h => ?_, fun h => ?_, by omega, by omega⟩
    · rw [← h3, ← Int.add_emod_right]
      exact (Int.emod_eq_of_lt (by omega) (by omega)).symm
    · rw [← h3]
      exact (Int.emod_eq_of_lt (by omega) (by omega)).symm
  have hQ0 : ((Q : Int) == 0) = false := by rw [beq_eq_false_iff_ne]; omega
  have hz1 : (P : Int) ≤ 4294967296 := by omega
  have hz2 : (Q : Int) ≤ 4294967296 := by omega
  obtain ⟨r1, r2, r3, r4⟩ := hrr
  have hg1 : (1 : Int) ≤ (g : Int) := by omega
  have hgb : ((g : Int) == 0) = false := by rw [beq_eq_false_iff_ne]; omega
  have t1 : (P : Int).tdiv (g : Int) = (P : Int) / (g : Int) := Int.tdiv_eq_ediv_of_nonneg (by omega)
  have t2 : (Q : Int).tdiv (g : Int) = (Q : Int) / (g : Int) := Int.tdiv_eq_ediv_of_nonneg (by omega)
  have hr' : part.tmod (Q : Int) = r := hr.symm
  clear hr hP
  by_cases hneg : r < 0
  · have hPr : r + (Q : Int) = (P : Int) := r1 hneg
    clear r1 r2
    go_enter Try.func107, Try.ntmps107
    go_wp2
    go_loopw [5, 6] (fun a b wr => ∃ x y n : Nat, x ≤ 4294967296 ∧ y ≤ 4294967296 ∧ Hid (Nat.gcd y x = Nat.gcd Q P) ∧ a = .int .i64 x ∧ b = .int .i64 y ∧ wr = (w.alloc (.cells #[.int .i64 0, .int .i64 0] 35)).drewN n) (fun _ b _ => (intOf b).toNat)
    case atStart => exact ⟨P, Q, 0, by omega, by omega, hide_ rfl, rfl, rfl, rfl⟩
    case round =>
      obtain ⟨x, y, n, hx, hy, hg, rfl, rfl, rfl⟩ := hrel
      by_cases hy0 : y = 0
      · subst hy0
        obtain rfl : x = g := by have := hg.out; rw [Nat.gcd_zero_left] at this; rw [Hg.out, this]
        clear hg Hg
        go_wp2
        go_region
        go_wp2
        refine bodyPost_ret (v := .agg #[.int .i64 ((P : Int) / x), .int .i64 ((Q : Int) / x)]) (by simp [results, Try.results107, go_sem]) rfl ⟨rfl, ?_⟩
        (repeat (first | exact Below.refl _ _ | assumption | refine Below.setCell ?_ (by first | assumption | (simp; done) | (simp; omega) | omega) _ | refine below_drewN ?_ _ | refine Below.drew ?_ | refine Below.alloc ?_ (by first | assumption | (simp; done) | (simp; omega) | omega) _))
      · have hy1 : 1 ≤ y := by omega
        have hb : ((y : Int) != 0) = true := by rw [bne_iff_ne]; omega
        have hb0 : ((y : Int) == 0) = false := by rw [beq_eq_false_iff_ne]; omega
        go_wp2
        go_quiet (fail)
        go_wp2
        have hm := Nat.mod_lt x (show 0 < y by omega)
        go_roundw
        case rel => exact ⟨y, x % y, n + nq, by omega, by omega, hide_ ((Nat.gcd_rec y x).symm.trans hg.out), rfl, by rw [Int.natCast_emod], World.drewN_drewN _ _ _⟩
        case measure => simp only [intOf, ← Int.natCast_emod]; simp; omega
  · obtain rfl : r = (P : Int) := r2 hneg
    clear r1 r2
    go_enter Try.func107, Try.ntmps107
    go_wp2
    go_loopw [5, 6] (fun a b wr => ∃ x y n : Nat, x ≤ 4294967296 ∧ y ≤ 4294967296 ∧ Hid (Nat.gcd y x = Nat.gcd Q P) ∧ a = .int .i64 x ∧ b = .int .i64 y ∧ wr = (w.alloc (.cells #[.int .i64 0, .int .i64 0] 35)).drewN n) (fun _ b _ => (intOf b).toNat)
    case atStart => exact ⟨P, Q, 0, by omega, by omega, hide_ rfl, rfl, rfl, rfl⟩
    case round =>
      obtain ⟨x, y, n, hx, hy, hg, rfl, rfl, rfl⟩ := hrel
      by_cases hy0 : y = 0
      · subst hy0
        obtain rfl : x = g := by have := hg.out; rw [Nat.gcd_zero_left] at this; rw [Hg.out, this]
        clear hg Hg
        go_wp2
        go_region
        go_wp2
        refine bodyPost_ret (v := .agg #[.int .i64 ((P : Int) / x), .int .i64 ((Q : Int) / x)]) (by simp [results, Try.results107, go_sem]) rfl ⟨rfl, ?_⟩
        (repeat (first | exact Below.refl _ _ | assumption | refine Below.setCell ?_ (by first | assumption | (simp; done) | (simp; omega) | omega) _ | refine below_drewN ?_ _ | refine Below.drew ?_ | refine Below.alloc ?_ (by first | assumption | (simp; done) | (simp; omega) | omega) _))
      · have hy1 : 1 ≤ y := by omega
        have hb : ((y : Int) != 0) = true := by rw [bne_iff_ne]; omega
        have hb0 : ((y : Int) == 0) = false := by rw [beq_eq_false_iff_ne]; omega
        go_wp2
        go_quiet (fail)
        go_wp2
        have hm := Nat.mod_lt x (show 0 < y by omega)
        go_roundw
        case rel => exact ⟨y, x % y, n + nq, by omega, by omega, hide_ ((Nat.gcd_rec y x).symm.trans hg.out), rfl, by rw [Int.natCast_emod], World.drewN_drewN _ _ _⟩
        case measure => simp only [intOf, ← Int.natCast_emod]; simp; omega
end Go.Proofs.Ytklhdpkofpkmjaa
