/- Contracts of package turn: a fraction in its lowest terms, Of. -/
import Derived.Test.YtklhdpkofpkmjaaLib
namespace Go.Proofs.Ytklhdpkofpkmjaa
open Go.RowKit
/-- part over whole in lowest terms. -/
theorem lowest_ok (p q : Nat) (w : World) (hp : p < q) (hq : q ≤ 9223372036854775807) (hW : q / Nat.gcd q p ≤ 4294967296) :
    Calls Try.prog 85 #[.int .u64 (p : Int), .int .u64 (q : Int)] w fun e w' => e = .returned (.tuple #[.agg #[.int .i64 ((p / Nat.gcd q p : Nat) : Int), .int .i64 ((q / Nat.gcd q p : Nat) : Int)], .int .i64 0]) ∧ Below w.heap.size w w' := by
  obtain ⟨g, hgd⟩ : ∃ g, g = Nat.gcd q p := ⟨_, rfl⟩
  rw [← hgd] at hW ⊢
  have Hg := hide_ hgd
  clear hgd
  go_enter Try.func85, Try.ntmps85
  go_wp2
  go_loopw [6, 7] (fun a b wr => ∃ x y n : Nat, 0 < x ∧ x ≤ q ∧ y ≤ q ∧ Hid (Nat.gcd x y = Nat.gcd q p) ∧ a = .int .u64 x ∧ b = .int .u64 y ∧ wr = (w.alloc (.cells #[.int .i64 0, .int .i64 0] 35)).drewN n) (fun _ b _ => (intOf b).toNat)
  case atStart => exact ⟨q, p, 0, by omega, by omega, by omega, rfl, rfl, rfl, rfl⟩
  case round =>
    obtain ⟨x, y, n, hx0, hx, hy, hg, rfl, rfl, rfl⟩ := hrel
    by_cases hy0 : y = 0
    · subst hy0
      obtain rfl : x = g := by have := hg.out; rw [Nat.gcd_zero_right] at this; rw [Hg.out, this]
      clear hg Hg
      have h1 := (div_bd p x).1
      have h2 := (div_bd p x).2
      have h3 := (div_bd q x).1
      have h4 : (q : Int) / (x : Int) ≤ 4294967296 := by rw [← Int.natCast_ediv]; omega
      go_wp2
      go_region
      go_wp2
      exact bodyPost_ret (v := .tuple #[.agg #[.int .i64 ((p : Int) / (x : Int)), .int .i64 ((q : Int) / (x : Int))], .int .i64 0]) (by simp [results, Try.results85, go_sem]) rfl ⟨by rw [Int.natCast_ediv, Int.natCast_ediv], by (repeat (first | exact Below.refl _ _ | assumption | refine Below.setCell ?_ (by first | assumption | (simp; done) | (simp; omega) | omega) _ | refine below_drewN ?_ _ | refine Below.drew ?_ | refine Below.alloc ?_ (by first | assumption | (simp; done) | (simp; omega) | omega) _))⟩
    · have hy1 : 1 ≤ y := by omega
      have hb : ((y : Int) != 0) = true := by rw [bne_iff_ne]; omega
      go_wp2
      go_quiet (fail)
      go_wp2
      have hm := Nat.mod_lt x (show 0 < y by omega)
      go_roundw
      case rel => exact ⟨y, x % y, n + nq, by omega, hy, by omega, hide_ (by rw [← hg.out, Nat.gcd_comm x y, Nat.gcd_rec y x, Nat.gcd_comm]), rfl, by rw [Int.natCast_emod], World.drewN_drewN _ _ _⟩
      case measure => simp only [intOf, ← Int.natCast_emod]; simp; omega

theorem tmod_emod (a b : Int) (_hb : 0 < b) : (a.tmod b + b) % b = a % b := by
  rw [Int.add_emod_right]
  have h := Int.tmod_add_mul_tdiv a b
  conv => rhs; rw [← h, Int.add_mul_emod_self_left]

/-- part over whole, without whole turns. -/
theorem of_ok (part : Int) (p q : Nat) (w : World) (hq0 : 0 < q) (hq : q ≤ 4294967296) (hp : part % (q : Int) = (p : Int)) :
    Calls Try.prog 32 #[.int .i64 part, .int .i64 (q : Int)] w fun e w' => e = .returned (.tuple #[.agg #[.int .i64 ((p / Nat.gcd q p : Nat) : Int), .int .i64 ((q / Nat.gcd q p : Nat) : Int)], .int .i64 0]) ∧ Below w.heap.size w w' := by
  have hpq : p < q := by have := Int.emod_lt_of_pos part (show (0 : Int) < q by omega); omega
  have h1 : -(q : Int) < part.tmod q := by have := Int.lt_tmod_of_pos part (show (0 : Int) < q by omega); omega
  have h2 : part.tmod q < q := Int.tmod_lt_of_pos part (by omega)
  have He : (part.tmod q + (q : Int)) % (q : Int) = (p : Int) := by rw [tmod_emod _ _ (by omega), hp]
  have hW : q / Nat.gcd q p ≤ 4294967296 := Nat.le_trans (Nat.div_le_self _ _) hq
  have hc := fun wx => lowest_ok p q wx hpq (by omega) hW
  have Hc := hide_ hc
  clear hc hW hp
  have hb0 : ((q : Int) == 0) = false := by rw [beq_eq_false_iff_ne]; omega
  go_enter Try.func32, Try.ntmps32
  go_wp2_with (first | (go_at_call 85; refine (Hc.out _).mono ?_; rintro e w' ⟨rfl, hb⟩; have hg1 := blk_below hb) | ((with_reducible apply wpList_store_blk); (with_reducible rfl); (with_reducible rfl); rfl; assumption; rfl; kernel_rfl; rfl; kernel_rfl))
  refine ret_ct rfl _ 35 _ _ rfl (setRow_heap _ _ _ _ _ _ hg1) Try.underlying35 rfl (by kernel_rfl) rfl ⟨?_, ?_⟩
  · simp
  · refine below_setRow (Below.trans ?_ (hb.mono (by simp))) (Nat.le_refl _) _
    (repeat (first | exact Below.refl _ _ | assumption | refine Below.setCell ?_ (by first | assumption | (simp; done) | (simp; omega) | omega) _ | refine below_drewN ?_ _ | refine Below.drew ?_ | refine Below.alloc ?_ (by first | assumption | (simp; done) | (simp; omega) | omega) _))
end Go.Proofs.Ytklhdpkofpkmjaa
