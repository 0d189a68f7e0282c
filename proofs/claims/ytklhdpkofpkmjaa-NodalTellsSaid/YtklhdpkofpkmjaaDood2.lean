/- Contracts of package doodson: Phase; of package turn: Neg, Sub. -/
import Derived.Test.YtklhdpkofpkmjaaDood
import Derived.Test.YtklhdpkofpkmjaaCalls
import Derived.Laws.Cover3
namespace Go.Proofs.Ytklhdpkofpkmjaa
open Go.RowKit
def unitAt (t : Int) (j : Nat) : Int := unit j t
theorem unitAt_bd (t : Int) (j : Nat) : 0 ≤ unitAt t j ∧ unitAt t j ≤ 3600000000 := by have := unit_bd j t; unfold unitAt; omega
theorem cells_ar {w : World} {g : Nat} {f : Nat → Int} (h : w.heap[g]? = some (.cells #[.int .i8 (f 0), .int .i8 (f 1), .int .i8 (f 2), .int .i8 (f 3), .int .i8 (f 4), .int .i8 (f 5)] 54)) :
    w.cell? ⟨g, 0, none⟩ = some (.int .i8 (f 0)) ∧ w.cell? ⟨g, 1, none⟩ = some (.int .i8 (f 1)) ∧ w.cell? ⟨g, 2, none⟩ = some (.int .i8 (f 2)) ∧ w.cell? ⟨g, 3, none⟩ = some (.int .i8 (f 3)) ∧ w.cell? ⟨g, 4, none⟩ = some (.int .i8 (f 4)) ∧ w.cell? ⟨g, 5, none⟩ = some (.int .i8 (f 5)) := by
  refine ⟨?_, ?_, ?_, ?_, ?_, ?_⟩ <;> (rw [cell_of_row _ _ _ _ _ _ h]; rfl)
theorem cells_six {t : Int} {b g c : Nat} {w : World} (h : Six t b g c w) :
    w.cell? ⟨g, 0, none⟩ = some (.int .i64 (unitAt t 0)) ∧ w.cell? ⟨g, 1, none⟩ = some (.int .i64 (unitAt t 1)) ∧ w.cell? ⟨g, 2, none⟩ = some (.int .i64 (unitAt t 2)) ∧ w.cell? ⟨g, 3, none⟩ = some (.int .i64 (unitAt t 3)) ∧ w.cell? ⟨g, 4, none⟩ = some (.int .i64 (unitAt t 4)) ∧ w.cell? ⟨g, 5, none⟩ = some (.int .i64 (unitAt t 5)) :=
  ⟨h.cell 0 (by decide), h.cell 1 (by decide), h.cell 2 (by decide), h.cell 3 (by decide), h.cell 4 (by decide), h.cell 5 (by decide)⟩
set_option maxRecDepth 100000 in
theorem phase_ok (f : Nat → Int) (t : Int) (w : World) (h : Good f) (h0 : 0 ≤ t) (h1 : t ≤ 1048576) :
    Calls Try.prog 40 #[.agg #[.int .i8 (f 0), .int .i8 (f 1), .int .i8 (f 2), .int .i8 (f 3), .int .i8 (f 4), .int .i8 (f 5)], .int .i64 t] w fun e w' => e = .returned (.tuple #[.agg (turnV (dsum f (unitAt t) 6 % 3600000000).toNat 3600000000), .int .i64 0]) ∧ Below w.heap.size w w' := by
  have hs := fun wx => dsum_ok f (unitAt t) wx h (fun j _ => unitAt_bd t j)
  have hk := fun wx => dcheck_ok f wx h
  obtain ⟨x, y, e1⟩ := turnV_two (dsum f (unitAt t) 6 % 3600000000).toNat 3600000000
  rw [e1] at hs ⊢
  have HS := hide_ hs
  have HK := hide_ hk
  clear hs hk e1 h
  go_enter Try.func40, Try.ntmps40
  go_wp2_with (first
    | (go_at_call 55; (with_reducible refine (HK.out _).mono ?_); rintro e w1 ⟨rfl, hb1⟩)
    | (go_at_call 17; (with_reducible refine (all_six _ _ h0 h1).mono ?_); rintro e w2 ⟨g2, k2, rfl, s2, hb2⟩))
  obtain ⟨g0, g1, hlt⟩ := blk_two hb1
  have n0 := (hb2.block _ (by omega)).trans g0
  have n1 := (hb2.block _ (by omega)).trans g1
  have hl2 := hb2.size
  obtain ⟨a0, a1, a2, a3, a4, a5⟩ := cells_ar n0
  obtain ⟨u0, u1, u2, u3, u4, u5⟩ := cells_six s2
  have N1 := hide_ n1
  have hsl : ∀ wx, (Instr.arrayAt 117 (.slice (some ⟨g2, 0, none⟩) 6 k2)).run Try.prog wx = .ok (.pointer (some ⟨g2, 0, none⟩)) wx := fun wx => run_arrayAt _ 117 2 6 _ 6 k2 Try.underlying117 (by decide)
  clear g0 g1 n0 n1
  go_region_with (first | (go_at_call 93; (with_reducible refine (HS.out _).mono ?_); rintro e w3 ⟨rfl, hb3⟩; obtain ⟨q0, q1⟩ := cells_two ((hb3.block _ (by simp; omega)).trans N1.out); obtain ⟨f0, f1⟩ := free_two ((hb3.block _ (by simp; omega)).trans N1.out)))
  all_goals
    go_wp2
    refine bodyPost_ret (v := .tuple #[.agg #[.int .i64 x, .int .i64 y], .int .i64 0]) (by simp [results, Try.results40, go_sem, q0, q1]) rfl ⟨rfl, ?_⟩
    have hg0 := (((Grew.refl w).alloc (.cells #[.int .i8 (f 0), .int .i8 (f 1), .int .i8 (f 2), .int .i8 (f 3), .int .i8 (f 4), .int .i8 (f 5)] 54)).alloc (.cells #[.int .i64 0, .int .i64 0] 35)).step hb1
    have hg1 := (hg0.step hb2).drew
    have hg2 := hg1.step hb3
    exact Grew.below (by repeat (first | exact Grew.refl _ | assumption | refine Grew.alloc ?_ _ | refine Grew.drewN ?_ _ | refine Grew.drew ?_ | refine Grew.setRow ?_ (by first | assumption | (simp; done) | (simp; omega) | omega) _ | refine Grew.setCell ?_ (by first | assumption | (simp; done) | (simp; omega) | omega) _ | refine Grew.step ?_ (by assumption)))
set_option maxRecDepth 100000 in
theorem phase_no (f : Nat → Int) (t : Int) (w : World) (h : ¬ (Good f ∧ 0 ≤ t ∧ t ≤ 1048576)) :
    Calls Try.prog 40 #[.agg #[.int .i8 (f 0), .int .i8 (f 1), .int .i8 (f 2), .int .i8 (f 3), .int .i8 (f 4), .int .i8 (f 5)], .int .i64 t] w fun e w' => ∃ e1 : Int, e = .returned (.tuple #[.agg #[.int .i64 0, .int .i64 0], .int .i64 e1]) ∧ ((Good f → e1 = 2) ∧ (¬ Good f → e1 = 210)) ∧ Below w.heap.size w w' := by
  by_cases hf : Good f
  · have ht : t < 0 ∨ 1048576 < t := by
      by_cases h0 : t < 0 ∨ 1048576 < t
      · exact h0
      · exact absurd ⟨hf, by omega, by omega⟩ h
    have HK := hide_ (fun wx => dcheck_ok f wx hf)
    have HT := hide_ ht
    have GF := hide_ hf
    clear hf ht h
    go_enter Try.func40, Try.ntmps40
    go_wp2_with (first
      | (go_at_call 55; (with_reducible refine (HK.out _).mono ?_); rintro e w1 ⟨rfl, hb1⟩; obtain ⟨q0, q1⟩ := cells_two (blk_two hb1).2.1; obtain ⟨f0, f1⟩ := free_two (blk_two hb1).2.1)
      | (go_at_call 17; (with_reducible refine (all_no _ _ HT.out).mono ?_); rintro e w2 ⟨rfl, rfl⟩))
    refine bodyPost_ret (v := .tuple #[.agg #[.int .i64 0, .int .i64 0], .int .i64 2]) (by simp [results, Try.results40, go_sem, q0, q1]) rfl ⟨2, rfl, ⟨fun _ => rfl, fun hn => absurd GF.out hn⟩, ?_⟩
    have hg0 := (((Grew.refl w).alloc (.cells #[.int .i8 (f 0), .int .i8 (f 1), .int .i8 (f 2), .int .i8 (f 3), .int .i8 (f 4), .int .i8 (f 5)] 54)).alloc (.cells #[.int .i64 0, .int .i64 0] 35)).step hb1
    exact Grew.below (by repeat (first | exact Grew.refl _ | assumption | refine Grew.alloc ?_ _ | refine Grew.drewN ?_ _ | refine Grew.drew ?_ | refine Grew.setRow ?_ (by first | assumption | (simp; done) | (simp; omega) | omega) _ | refine Grew.setCell ?_ (by first | assumption | (simp; done) | (simp; omega) | omega) _ | refine Grew.step ?_ (by assumption)))
  · have HK := hide_ (fun wx => dcheck_no f wx hf)
    have GF := hide_ hf
    clear hf h
    go_enter Try.func40, Try.ntmps40
    go_wp2_with (first
      | (go_at_call 55; (with_reducible refine (HK.out _).mono ?_); rintro e w1 ⟨rfl, hb1⟩; obtain ⟨q0, q1⟩ := cells_two (blk_two hb1).2.1; obtain ⟨f0, f1⟩ := free_two (blk_two hb1).2.1))
    refine bodyPost_ret (v := .tuple #[.agg #[.int .i64 0, .int .i64 0], .int .i64 210]) (by simp [results, Try.results40, go_sem, q0, q1]) rfl ⟨210, rfl, ⟨fun hn => absurd hn GF.out, fun _ => rfl⟩, ?_⟩
    have hg0 := (((Grew.refl w).alloc (.cells #[.int .i8 (f 0), .int .i8 (f 1), .int .i8 (f 2), .int .i8 (f 3), .int .i8 (f 4), .int .i8 (f 5)] 54)).alloc (.cells #[.int .i64 0, .int .i64 0] 35)).step hb1
    exact Grew.below (by repeat (first | exact Grew.refl _ | assumption | refine Grew.alloc ?_ _ | refine Grew.drewN ?_ _ | refine Grew.drew ?_ | refine Grew.setRow ?_ (by first | assumption | (simp; done) | (simp; omega) | omega) _ | refine Grew.setCell ?_ (by first | assumption | (simp; done) | (simp; omega) | omega) _ | refine Grew.step ?_ (by assumption)))
/-- 0 less a turn. -/
theorem neg_low (x q : Nat) (w : World) (hx : x < q) (hq : q ≤ 4294967296) (hc : Nat.gcd q x = 1) :
    Calls Try.prog 45 #[.agg #[.int .i64 (x : Int), .int .i64 (q : Int)]] w fun e w' => e = .returned (.tuple #[.agg #[.int .i64 (((q : Int) - (x : Int)) % (q : Int)), .int .i64 (q : Int)], .int .i64 0]) ∧ Below w.heap.size w w' := by
  have HK := hide_ (fun wx => tcheck_ok x q wx hx hq hc)
  clear hc
  have e1 : IntKind.i64.wrap ((q : Int) - (x : Int)) = (q : Int) - (x : Int) := IntWalk.i64_in _ (by omega)
  have e2 : ((q : Int) - (x : Int)).tmod (q : Int) = ((q : Int) - (x : Int)) % (q : Int) := Int.tmod_eq_emod_of_nonneg (by omega)
  have hq0 : ((q : Int) == 0) = false := by rw [beq_eq_false_iff_ne]; omega
  have hq1 : (1 : Int) ≤ (q : Int) := by omega
  go_enter Try.func45, Try.ntmps45
  go_wp2_with (go_at_call 33; (with_reducible refine (HK.out _).mono ?_); rintro e w1 ⟨rfl, hb1⟩)
  obtain ⟨g0, g1, hlt⟩ := blk_two hb1
  obtain ⟨c0, c1⟩ := cells_two g0
  obtain ⟨q0, q1⟩ := cells_two g1
  obtain ⟨f0, f1⟩ := free_two g1
  clear g0 g1
  go_region
  go_wp2
  refine bodyPost_ret (v := .tuple #[.agg #[.int .i64 (((q : Int) - (x : Int)) % (q : Int)), .int .i64 (q : Int)], .int .i64 0]) (by simp [results, Try.results45, go_sem, q0, q1]) rfl ⟨rfl, ?_⟩
  have hg0 := (((Grew.refl w).alloc (.cells #[.int .i64 (x : Int), .int .i64 (q : Int)] 35)).alloc (.cells #[.int .i64 0, .int .i64 0] 35)).step hb1
  exact Grew.below (by repeat (first | exact Grew.refl _ | assumption | refine Grew.alloc ?_ _ | refine Grew.drewN ?_ _ | refine Grew.drew ?_ | refine Grew.setRow ?_ (by first | assumption | (simp; done) | (simp; omega) | omega) _ | refine Grew.setCell ?_ (by first | assumption | (simp; done) | (simp; omega) | omega) _ | refine Grew.step ?_ (by assumption)))
end Go.Proofs.Ytklhdpkofpkmjaa
