/- Contracts of the reference's chapter 11: Speed of good numbers. -/
import Derived.Test.YtklhdpkofpkmjaaRc3
namespace Go.Proofs.Ytklhdpkofpkmjaa
open Go.RowKit
set_option maxRecDepth 100000 in
theorem rspeed11_ok (f : Nat → Int) (w : World) (h : Good f) :
    Calls Try.prog 53 #[.agg #[.int .i8 (f 0), .int .i8 (f 1), .int .i8 (f 2), .int .i8 (f 3), .int .i8 (f 4), .int .i8 (f 5)]] w fun e w' => e = .returned (.tuple #[.agg (turnV (du f rowAdds) 3600000000), .int .i64 0]) ∧ Below w.heap.size w w' := by
  have hp0 := fun wx => rphase_ok f 0 wx h (by omega) (by omega)
  have hp1 := fun wx => rphase_ok f 1 wx h (by omega) (by omega)
  have hs := fun wx => sub8_turn (du f (unitAt 1)) (du f (unitAt 0)) 3600000000 wx (du_lt _ _) (du_lt _ _) (by omega)
  rw [du_diff] at hs
  obtain ⟨x0, y0, e0⟩ := turnV_two (du f (unitAt 0)) 3600000000
  obtain ⟨x1, y1, e1⟩ := turnV_two (du f (unitAt 1)) 3600000000
  obtain ⟨x2, y2, e2⟩ := turnV_two (du f rowAdds) 3600000000
  rw [e0] at hp0 hs
  rw [e1] at hp1 hs
  rw [e2] at hs ⊢
  have HP0 := hide_ hp0
  have HP1 := hide_ hp1
  have HS := hide_ hs
  clear hp0 hp1 hs e0 e1 e2 h
  have tok1 : True := trivial
  go_enter Try.func53, Try.ntmps53
  go_wp2_with (first
    | (go_at_call 54; have _t := tok1; (with_reducible refine (HP0.out _).mono ?_); rintro e w1 ⟨rfl, hb1⟩; clear tok1; have g0 := (blk_two hb1).1; have g1 := (blk_two hb1).2.1; have m0 := heap_past (o' := .cells #[.int .i64 x0, .int .i64 y0] 35) g0; have m1 := heap_past (o' := .cells #[.int .i64 x0, .int .i64 y0] 35) g1; have m2 := heap_alloc_last w1 (.cells #[.int .i64 x0, .int .i64 y0] 35))
    | (go_at_call 54; (with_reducible refine (HP1.out _).mono ?_); rintro e w2 ⟨rfl, hb2⟩; have k0 := (hb2.block _ (lt_of_heap m2)).trans m2; have k1 := (hb2.block _ (lt_of_heap m1)).trans m1; have n0 := heap_past (o' := .cells #[.int .i64 x1, .int .i64 y1] 35) k0; have n1 := heap_past (o' := .cells #[.int .i64 x1, .int .i64 y1] 35) k1)
    | (go_at_call 100; (with_reducible refine (HS.out _).mono ?_); rintro e w3 ⟨rfl, hb3⟩; have p1 := (hb3.block _ (lt_of_heap n1)).trans n1)
    | ((with_reducible apply wpList_store_new); (with_reducible rfl); (with_reducible rfl); rfl; rfl; kernel_rfl; rfl; kernel_rfl) | ((with_reducible apply wpList_store_blk); (with_reducible rfl); (with_reducible rfl); rfl; assumption; rfl; kernel_rfl; rfl; kernel_rfl) | ((with_reducible apply wpList_load_row (hu := Try.underlying54)); (with_reducible rfl); (with_reducible rfl); rfl; (first | assumption | exact heap_alloc_last _ _ | exact heap_past (by assumption)); rfl; kernel_rfl) | ((with_reducible apply wpList_load_row (hu := Try.underlying35)); (with_reducible rfl); (with_reducible rfl); rfl; (first | assumption | exact heap_alloc_last _ _ | exact heap_past (by assumption)); rfl; kernel_rfl))
  refine ret_ct rfl _ 35 _ _ rfl (setRow_heap _ _ _ _ _ _ p1) Try.underlying35 rfl (by kernel_rfl) rfl ⟨rfl, ?_⟩
  have hg0 := (((Grew.refl w).alloc (.cells #[.int .i8 (f 0), .int .i8 (f 1), .int .i8 (f 2), .int .i8 (f 3), .int .i8 (f 4), .int .i8 (f 5)] 54)).alloc (.cells #[.int .i64 0, .int .i64 0] 35)).step hb1
  have hg1 := ((hg0.alloc (.cells #[.int .i64 x0, .int .i64 y0] 35)).step hb2).alloc (.cells #[.int .i64 x1, .int .i64 y1] 35)
  have hg2 := hg1.step hb3
  exact Grew.below (by repeat (first | exact Grew.refl _ | assumption | refine Grew.alloc ?_ _ | refine Grew.drewN ?_ _ | refine Grew.drew ?_ | refine Grew.setRow ?_ (by first | assumption | (simp; done) | (simp; omega) | omega) _ | refine Grew.setCell ?_ (by first | assumption | (simp; done) | (simp; omega) | omega) _ | refine Grew.step ?_ (by assumption)))
end Go.Proofs.Ytklhdpkofpkmjaa
