/- Contracts of package turn: Check, Times, Add, Neg, Sub, at turns in lowest terms. -/
import Derived.Test.YtklhdpkofpkmjaaTurn
import Derived.Test.YtklhdpkofpkmjaaFrac
namespace Go.Proofs.Ytklhdpkofpkmjaa
open Go.RowKit
/-- The greatest number that divides both. -/
theorem common_ok (p q : Nat) (w : World) (hp : p ≤ 9223372036854775807) (hq : q ≤ 9223372036854775807) :
    Calls Try.prog 87 #[.int .i64 (p : Int), .int .i64 (q : Int)] w fun e w' => e = .returned (.int .i64 (Nat.gcd p q : Nat)) ∧ ∃ n, w' = w.drewN n := by
  obtain ⟨g, hgd⟩ : ∃ g, g = Nat.gcd p q := ⟨_, rfl⟩
  rw [← hgd]
  have Hg := hide_ hgd
  clear hgd
  go_enter Try.func87, Try.ntmps87
  go_wp2
  go_loopw [0, 1] (fun a b wr => ∃ x y n : Nat, x ≤ 9223372036854775807 ∧ y ≤ 9223372036854775807 ∧ Hid (Nat.gcd x y = Nat.gcd p q) ∧ a = .int .i64 x ∧ b = .int .i64 y ∧ wr = w.drewN n) (fun _ b _ => (intOf b).toNat)
  case atStart => exact ⟨p, q, 0, hp, hq, rfl, rfl, rfl, rfl⟩
  case round =>
    obtain ⟨x, y, n, hx, hy, hg, rfl, rfl, rfl⟩ := hrel
    by_cases hy0 : y = 0
    · subst hy0
      obtain rfl : x = g := by have := hg.out; rw [Nat.gcd_zero_right] at this; rw [Hg.out, this]
      clear hg Hg
      go_wp2
      go_ret
      exact ⟨rfl, _, rfl⟩
    · have hy1 : 1 ≤ y := by omega
      have hb : ((y : Int) != 0) = true := by rw [bne_iff_ne]; omega
      go_wp2
      go_quiet (fail)
      go_wp2
      have hm := Nat.mod_lt x (show 0 < y by omega)
      go_roundw
      case rel => exact ⟨y, x % y, n + nq, by omega, by omega, hide_ (by rw [← hg.out, Nat.gcd_comm x y, Nat.gcd_rec y x, Nat.gcd_comm]), rfl, by rw [Int.natCast_emod], World.drewN_drewN _ _ _⟩
      case measure => simp only [intOf, ← Int.natCast_emod]; simp; omega
theorem tcheck_ok (x q : Nat) (w : World) (hx : x < q) (hq : q ≤ 4294967296) (hc : Nat.gcd q x = 1) :
    Calls Try.prog 33 #[.agg #[.int .i64 (x : Int), .int .i64 (q : Int)]] w fun e w' => e = .returned (.int .i64 0) ∧ Below w.heap.size w w' := by
  have hcom := fun wx => common_ok q x wx (by omega) (by omega)
  rw [hc] at hcom
  have HC := hide_ hcom
  clear hcom hc
  go_enter Try.func33, Try.ntmps33
  go_wp2_with (go_at_call 87; refine (HC.out _).mono ?_; rintro e w1 ⟨rfl, n1, rfl⟩)
  go_ret
  refine ⟨rfl, ?_⟩
  (repeat (first | exact Below.refl _ _ | assumption | refine Below.setCell ?_ (by first | assumption | (simp; done) | (simp; omega) | omega) _ | refine below_drewN ?_ _ | refine Below.drew ?_ | refine Below.alloc ?_ (by first | assumption | (simp; done) | (simp; omega) | omega) _))
end Go.Proofs.Ytklhdpkofpkmjaa
