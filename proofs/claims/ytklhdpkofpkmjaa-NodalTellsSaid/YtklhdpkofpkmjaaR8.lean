/- Contracts of the reference's chapter 8 (turns): Of, Check, Neg, Add, Sub, where the product of wholes has no high word. -/
import Derived.Test.YtklhdpkofpkmjaaGrp3
namespace Go.Proofs.Ytklhdpkofpkmjaa
open Go.RowKit
theorem gcd8_ok (p q : Nat) (w : World) (hp : p ≤ 9223372036854775807) (hq : q ≤ 9223372036854775807) :
    Calls Try.prog 118 #[.int .u64 (p : Int), .int .u64 (q : Int)] w fun e w' => e = .returned (.int .u64 (Nat.gcd p q : Nat)) ∧ ∃ n, w' = w.drewN n := by
  obtain ⟨g, hgd⟩ : ∃ g, g = Nat.gcd p q := ⟨_, rfl⟩
  rw [← hgd]
  have Hg := hide_ hgd
  clear hgd
  go_enter Try.func118, Try.ntmps118
  go_wp2
  go_loopw [0, 1] (fun a b wr => ∃ x y n : Nat, x ≤ 9223372036854775807 ∧ y ≤ 9223372036854775807 ∧ Hid (Nat.gcd x y = Nat.gcd p q) ∧ a = .int .u64 x ∧ b = .int .u64 y ∧ wr = w.drewN n) (fun _ b _ => (intOf b).toNat)
  case atStart => exact ⟨p, q, 0, hp, hq, rfl, rfl, rfl, rfl⟩
  case round =>
    obtain ⟨x, y, n, hx, hy, hg, rfl, rfl, rfl⟩ := hrel
    by_cases hy0 : y = 0
    · subst hy0
      obtain rfl : x = g := by have := hg.out; rw [Nat.gcd_zero_right] at this; rw [Hg.out, this]
      clear hg Hg
      go_wp2
      go_ret
      exact ⟨rfl, _, rfl⟩
    · have hy1 : 1 ≤ y := by omega
      have hb : ((y : Int) != 0) = true := by rw [bne_iff_ne]; omega
      have hb0 : ((y : Int) == 0) = false := by rw [beq_eq_false_iff_ne]; omega
      go_wp2
      go_quiet (fail)
      go_wp2
      have hm := Nat.mod_lt x (show 0 < y by omega)
      go_roundw
      case rel => exact ⟨y, x % y, n + nq, by omega, by omega, hide_ (by rw [← hg.out, Nat.gcd_comm x y, Nat.gcd_rec y x, Nat.gcd_comm]), rfl, by rw [Int.natCast_emod], World.drewN_drewN _ _ _⟩
      case measure => simp only [intOf, ← Int.natCast_emod]; simp; omega
theorem turnV_div (p q : Nat) : turnV p q = #[.int .i64 ((p : Int) / (Nat.gcd q p : Nat)), .int .i64 ((q : Int) / (Nat.gcd q p : Nat))] := by
  unfold turnV
  rw [Int.natCast_ediv, Int.natCast_ediv]
theorem of8_ok (part : Int) (p q : Nat) (w : World) (hq0 : 0 < q) (hq : q ≤ 4294967296) (hp : part % (q : Int) = (p : Int)) :
    Calls Try.prog 101 #[.int .i64 part, .int .i64 (q : Int)] w fun e w' => e = .returned (.tuple #[.agg (turnV p q), .int .i64 0]) ∧ Below w.heap.size w w' := by
  have hpq : p < q := by have := Int.emod_lt_of_pos part (show (0 : Int) < q by omega); omega
  have h1 : -(q : Int) < part.tmod q := by have := Int.lt_tmod_of_pos part (show (0 : Int) < q by omega); omega
  have h2 : part.tmod q < q := Int.tmod_lt_of_pos part (by omega)
  have He := hide_ (show (part.tmod q + (q : Int)) % (q : Int) = (p : Int) by rw [tmod_emod _ _ (by omega), hp])
  have HC := hide_ (fun wx => gcd8_ok p q wx (by omega) (by omega))
  have hgp : 0 < Nat.gcd p q := Nat.gcd_pos_of_pos_right _ (by omega)
  have hgl : Nat.gcd p q ≤ q := Nat.gcd_le_right _ hq0
  rw [turnV_div, Nat.gcd_comm q p]
  generalize Nat.gcd p q = g at HC hgp hgl ⊢
  have b1 := div_bd p g
  have b2 := div_bd q g
  have hg1 : (1 : Int) ≤ (g : Int) := by omega
  have k3 : wrap64 (g : Int) = (g : Int) := IntWalk.wrap64_in _ (by omega)
  have t1 : (p : Int).tdiv (g : Int) = (p : Int) / (g : Int) := Int.tdiv_eq_ediv_of_nonneg (by omega)
  have t2 : (q : Int).tdiv (g : Int) = (q : Int) / (g : Int) := Int.tdiv_eq_ediv_of_nonneg (by omega)
  have hgb : ((g : Int) == 0) = false := by rw [beq_eq_false_iff_ne]; omega
  have hb0 : ((q : Int) == 0) = false := by rw [beq_eq_false_iff_ne]; omega
  have k1 : IntKind.u64.wrap (p : Int) = (p : Int) := IntWalk.u64_in _ (by omega)
  have k2 : IntKind.u64.wrap (q : Int) = (q : Int) := IntWalk.u64_in _ (by omega)
  clear hp
  by_cases hneg : part.tmod q < 0
  · have e1 : part.tmod q + (q : Int) = (p : Int) := by rw [← He.out, Int.emod_eq_of_lt (by omega) (by omega)]
    have e2 : IntKind.i64.wrap (part.tmod q + (q : Int)) = (p : Int) := by rw [e1]; exact IntWalk.i64_in _ (by omega)
    go_enter Try.func101, Try.ntmps101
    go_wp2_with (first | (go_at_call 118; (with_reducible refine (HC.out _).mono ?_); rintro e w1 ⟨rfl, n, rfl⟩) | ((with_reducible apply wpList_store_new); (with_reducible rfl); (with_reducible rfl); rfl; rfl; kernel_rfl; rfl; kernel_rfl))
    go_region
    go_wp2
    refine bodyPost_ret (v := .tuple #[.agg #[.int .i64 ((p : Int) / g), .int .i64 ((q : Int) / g)], .int .i64 0]) (by simp [results, Try.results101, go_sem]) rfl ⟨rfl, ?_⟩
    (repeat (first | exact Below.refl _ _ | assumption | refine Below.setCell ?_ (by first | assumption | (simp; done) | (simp; omega) | omega) _ | refine below_drewN ?_ _ | refine Below.drew ?_ | refine Below.alloc ?_ (by first | assumption | (simp; done) | (simp; omega) | omega) _))
  · have e1 : part.tmod q = (p : Int) := by
      have := He.out
      rw [Int.add_emod_right, Int.emod_eq_of_lt (by omega) h2] at this
      exact this
    go_enter Try.func101, Try.ntmps101
    go_wp2_with (first | (go_at_call 118; (with_reducible refine (HC.out _).mono ?_); rintro e w1 ⟨rfl, n, rfl⟩) | ((with_reducible apply wpList_store_new); (with_reducible rfl); (with_reducible rfl); rfl; rfl; kernel_rfl; rfl; kernel_rfl))
    go_region
    go_wp2
    refine bodyPost_ret (v := .tuple #[.agg #[.int .i64 ((p : Int) / g), .int .i64 ((q : Int) / g)], .int .i64 0]) (by simp [results, Try.results101, go_sem]) rfl ⟨rfl, ?_⟩
    (repeat (first | exact Below.refl _ _ | assumption | refine Below.setCell ?_ (by first | assumption | (simp; done) | (simp; omega) | omega) _ | refine below_drewN ?_ _ | refine Below.drew ?_ | refine Below.alloc ?_ (by first | assumption | (simp; done) | (simp; omega) | omega) _))
end Go.Proofs.Ytklhdpkofpkmjaa
