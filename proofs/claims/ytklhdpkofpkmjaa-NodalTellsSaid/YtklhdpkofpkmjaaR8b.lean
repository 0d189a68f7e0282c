/- Contracts of the reference's chapter 8 (turns): Check, Neg. -/
import Derived.Test.YtklhdpkofpkmjaaR8
namespace Go.Proofs.Ytklhdpkofpkmjaa
open Go.RowKit
set_option maxRecDepth 100000 in
theorem check8_ok (x q : Nat) (w : World) (hx : x < q) (hq : q ≤ 4294967296) (hc : Nat.gcd x q = 1) :
    Calls Try.prog 115 #[.agg #[.int .i64 (x : Int), .int .i64 (q : Int)]] w fun e w' => e = .returned (.int .i64 0) ∧ Below w.heap.size w w' := by
  have hcom := fun wx => gcd8_ok x q wx (by omega) (by omega)
  rw [hc] at hcom
  have HC := hide_ hcom
  clear hcom hc
  have k1 : IntKind.u64.wrap (x : Int) = (x : Int) := IntWalk.u64_in _ (by omega)
  have k2 : IntKind.u64.wrap (q : Int) = (q : Int) := IntWalk.u64_in _ (by omega)
  have d1 : ¬ ((q : Int) < 1) := by omega
  have d2 : ¬ ((4294967296 : Int) < q) := by omega
  have d3 : ¬ ((x : Int) < 0) := by omega
  have d4 : ¬ ((q : Int) ≤ x) := by omega
  go_enter Try.func115, Try.ntmps115
  go_wp2_with (go_at_call 118; (with_reducible refine (HC.out _).mono ?_); rintro e w1 ⟨rfl, n1, rfl⟩)
  go_ret
  refine ⟨rfl, ?_⟩
  (repeat (first | exact Below.refl _ _ | assumption | refine Below.setCell ?_ (by first | assumption | (simp; done) | (simp; omega) | omega) _ | refine below_drewN ?_ _ | refine Below.drew ?_ | refine Below.alloc ?_ (by first | assumption | (simp; done) | (simp; omega) | omega) _))
theorem neg_mod (x q : Nat) (hx : x < q) : (-(x : Int)) % (q : Int) = (((q - x) % q : Nat) : Int) := by
  rcases Nat.eq_zero_or_pos x with rfl | h
  · simp
  · rw [Nat.mod_eq_of_lt (by omega), ← Int.add_emod_right, Int.emod_eq_of_lt (by omega) (by omega)]; omega
set_option maxRecDepth 100000 in
theorem neg8_low (x q : Nat) (w : World) (hx : x < q) (hq : q ≤ 4294967296) (hc : Nat.gcd x q = 1) :
    Calls Try.prog 116 #[.agg #[.int .i64 (x : Int), .int .i64 (q : Int)]] w fun e w' => e = .returned (.tuple #[.agg (turnV ((q - x) % q) q), .int .i64 0]) ∧ Below w.heap.size w w' := by
  have HK := hide_ (fun wx => check8_ok x q wx hx hq hc)
  have HO := hide_ (fun wx => of8_ok (-(x : Int)) ((q - x) % q) q wx (by omega) hq (neg_mod x q hx))
  clear hc
  have k1 : IntKind.i64.wrap (-(x : Int)) = -(x : Int) := IntWalk.i64_in _ (by omega)
  obtain ⟨x3, y3, e3⟩ := turnV_two ((q - x) % q) q
  rw [e3] at HO ⊢
  clear e3
  go_enter Try.func116, Try.ntmps116
  go_wp2_with (first
    | (go_at_call 115; (with_reducible refine (HK.out _).mono ?_); rintro e w1 ⟨rfl, hb1⟩; obtain ⟨g0, g1, l1⟩ := blk_two hb1; obtain ⟨b0, b1⟩ := cells_two g0)
    | (go_at_call 101; (with_reducible refine (HO.out _).mono ?_); rintro e w2 ⟨rfl, hb2⟩; have g2 := (hb2.block _ (by omega)).trans g1)
    | ((with_reducible apply wpList_load_row (hu := Try.underlying35)); (with_reducible rfl); (with_reducible rfl); rfl; (first | assumption | exact heap_alloc_last _ _ | exact heap_past (by assumption)); rfl; kernel_rfl)
    | ((with_reducible apply wpList_store_blk); (with_reducible rfl); (with_reducible rfl); rfl; assumption; rfl; kernel_rfl; rfl; kernel_rfl))
  refine ret_ct rfl _ 35 _ _ rfl (setRow_heap _ _ _ _ _ _ g2) Try.underlying35 rfl (by kernel_rfl) rfl ⟨rfl, ?_⟩
  have hg0 := (((Grew.refl w).alloc (.cells #[.int .i64 x, .int .i64 q] 35)).alloc (.cells #[.int .i64 0, .int .i64 0] 35)).step hb1
  exact Grew.below (by repeat (first | exact Grew.refl _ | assumption | refine Grew.alloc ?_ _ | refine Grew.drewN ?_ _ | refine Grew.drew ?_ | refine Grew.setRow ?_ (by first | assumption | (simp; done) | (simp; omega) | omega) _ | refine Grew.setCell ?_ (by first | assumption | (simp; done) | (simp; omega) | omega) _ | refine Grew.step ?_ (by assumption)))
end Go.Proofs.Ytklhdpkofpkmjaa
