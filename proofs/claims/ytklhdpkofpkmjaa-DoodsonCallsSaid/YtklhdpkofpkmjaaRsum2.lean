/- Chapter 11: sums of lists of which one is no list of numbers. -/
import Derived.Test.YtklhdpkofpkmjaaRsum
namespace Go.Proofs.Ytklhdpkofpkmjaa
open Go.RowKit
set_option maxHeartbeats 800000
set_option maxRecDepth 100000
theorem rsum_no (s : Int) (f g : Nat → Int) (w : World) (h : ¬ (Good f ∧ Good g)) :
    Calls Try.prog 102 #[.agg #[.int .i8 (f 0), .int .i8 (f 1), .int .i8 (f 2), .int .i8 (f 3), .int .i8 (f 4), .int .i8 (f 5)], .agg #[.int .i8 (g 0), .int .i8 (g 1), .int .i8 (g 2), .int .i8 (g 3), .int .i8 (g 4), .int .i8 (g 5)], .int .i8 s] w fun e w' =>
      e = .returned (.tuple #[.agg #[.int .i8 0, .int .i8 0, .int .i8 0, .int .i8 0, .int .i8 0, .int .i8 0], .int .i64 210]) ∧ Below w.heap.size w w' := by
  by_cases hf : Good f
  · have hg : ¬ Good g := fun hg => h ⟨hf, hg⟩
    have HF := hide_ (fun wx => rcheck_ok f wx hf)
    have HG := hide_ (fun wx => rcheck_no g wx hg)
    clear hf hg h
    have tok1 : True := trivial
    go_enter Try.func102, Try.ntmps102
    go_wp2_with (first
      | (go_at_call 56; have _t := tok1; (with_reducible refine (HF.out _).mono ?_); rintro e w1 ⟨rfl, hb1⟩; clear tok1; have A1 := (Abc.new w f g).below hb1; have a1 := A1.g1)
      | (go_at_call 56; (with_reducible refine (HG.out _).mono ?_); rintro e w2 ⟨rfl, hb2⟩; have A2 := A1.below hb2; have n2 := A2.g2)
      | ((with_reducible apply wpList_load_row (hu := Try.underlying54)); (with_reducible rfl); (with_reducible rfl); rfl; (first | assumption | exact heap_alloc_last _ _ | exact heap_past (by assumption)); rfl; kernel_rfl) | ((with_reducible apply wpList_store_new); (with_reducible rfl); (with_reducible rfl); rfl; rfl; kernel_rfl; rfl; kernel_rfl) | ((with_reducible apply wpList_store_blk); (with_reducible rfl); (with_reducible rfl); rfl; assumption; rfl; kernel_rfl; rfl; kernel_rfl))
    refine ret_ct rfl _ 54 _ _ rfl (setRow_heap _ _ _ _ _ _ n2) Try.underlying54 rfl (by kernel_rfl) rfl ⟨rfl, ?_⟩
    have hg0 := ((((Grew.refl w).alloc (.cells #[.int .i8 (f 0), .int .i8 (f 1), .int .i8 (f 2), .int .i8 (f 3), .int .i8 (f 4), .int .i8 (f 5)] 54)).alloc (.cells #[.int .i8 (g 0), .int .i8 (g 1), .int .i8 (g 2), .int .i8 (g 3), .int .i8 (g 4), .int .i8 (g 5)] 54)).alloc (.cells #[.int .i8 0, .int .i8 0, .int .i8 0, .int .i8 0, .int .i8 0, .int .i8 0] 54)).step hb1
    exact Grew.below (by repeat (first | exact Grew.refl _ | assumption | refine Grew.alloc ?_ _ | refine Grew.drewN ?_ _ | refine Grew.drew ?_ | refine Grew.setRow ?_ (by first | assumption | (simp; done) | (simp; omega) | omega) _ | refine Grew.setCell ?_ (by first | assumption | (simp; done) | (simp; omega) | omega) _ | refine Grew.step ?_ (by assumption)))
  · have HF := hide_ (fun wx => rcheck_no f wx hf)
    clear hf h
    go_enter Try.func102, Try.ntmps102
    go_wp2_with (first
      | (go_at_call 56; (with_reducible refine (HF.out _).mono ?_); rintro e w1 ⟨rfl, hb1⟩; have A1 := (Abc.new w f g).below hb1; have n2 := A1.g2)
      | ((with_reducible apply wpList_load_row (hu := Try.underlying54)); (with_reducible rfl); (with_reducible rfl); rfl; (first | assumption | exact heap_alloc_last _ _ | exact heap_past (by assumption)); rfl; kernel_rfl) | ((with_reducible apply wpList_store_new); (with_reducible rfl); (with_reducible rfl); rfl; rfl; kernel_rfl; rfl; kernel_rfl) | ((with_reducible apply wpList_store_blk); (with_reducible rfl); (with_reducible rfl); rfl; assumption; rfl; kernel_rfl; rfl; kernel_rfl))
    refine ret_ct rfl _ 54 _ _ rfl (setRow_heap _ _ _ _ _ _ n2) Try.underlying54 rfl (by kernel_rfl) rfl ⟨rfl, ?_⟩
    have hg0 := ((((Grew.refl w).alloc (.cells #[.int .i8 (f 0), .int .i8 (f 1), .int .i8 (f 2), .int .i8 (f 3), .int .i8 (f 4), .int .i8 (f 5)] 54)).alloc (.cells #[.int .i8 (g 0), .int .i8 (g 1), .int .i8 (g 2), .int .i8 (g 3), .int .i8 (g 4), .int .i8 (g 5)] 54)).alloc (.cells #[.int .i8 0, .int .i8 0, .int .i8 0, .int .i8 0, .int .i8 0, .int .i8 0] 54)).step hb1
    exact Grew.below (by repeat (first | exact Grew.refl _ | assumption | refine Grew.alloc ?_ _ | refine Grew.drewN ?_ _ | refine Grew.drew ?_ | refine Grew.setRow ?_ (by first | assumption | (simp; done) | (simp; omega) | omega) _ | refine Grew.setCell ?_ (by first | assumption | (simp; done) | (simp; omega) | omega) _ | refine Grew.step ?_ (by assumption)))
end Go.Proofs.Ytklhdpkofpkmjaa
