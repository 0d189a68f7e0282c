/- Chapter 11: sums, differences and opposites of lists of numbers, of any arguments, in the program and in the reference. -/
import Derived.Test.YtklhdpkofpkmjaaRsum2
namespace Go.Proofs.Ytklhdpkofpkmjaa
open Go.RowKit
set_option maxHeartbeats 800000
set_option maxRecDepth 100000
set_option linter.unusedVariables false
theorem joined_no (v : Value) (f g : Nat → Int) (w : World) (h : ¬ (Good f ∧ Good g)) :
    Calls Try.prog 94 #[.agg #[.int .i8 (f 0), .int .i8 (f 1), .int .i8 (f 2), .int .i8 (f 3), .int .i8 (f 4), .int .i8 (f 5)], .agg #[.int .i8 (g 0), .int .i8 (g 1), .int .i8 (g 2), .int .i8 (g 3), .int .i8 (g 4), .int .i8 (g 5)], v] w fun e w' =>
      e = .returned (.tuple #[.agg #[.int .i8 0, .int .i8 0, .int .i8 0, .int .i8 0, .int .i8 0, .int .i8 0], .int .i64 210]) ∧ Below w.heap.size w w' := by
  have hi := fun wx => (index138 f g wx).1
  have hj := fun wx => (index138 f g wx).2
  by_cases hf : Good f
  · have hg : ¬ Good g := fun hg => h ⟨hf, hg⟩
    have HF := hide_ (fun wx => dcheck_ok f wx hf)
    have HG := hide_ (fun wx => dcheck_no g wx hg)
    have HI := hide_ hi
    have HJ := hide_ hj
    clear hf hg h hi hj
    go_enter Try.func94, Try.ntmps94
    go_wp2
    go_loopw [17, 10] (fun i _ wr => ∃ k : Nat, k ≤ 1 ∧ i = .int .i64 k ∧ Abc w.heap.size f g wr ∧ Grew w.heap.size w wr) (fun i _ _ => 2 - (intOf i).toNat)
    case atStart => exact ⟨0, by omega, rfl, Abc.new _ _ _, ((Grew.refl w).alloc _).alloc _ |>.alloc _⟩
    case round =>
      obtain ⟨k, hk, rfl, ht, hgr⟩ := hrel
      rcases (show k = 0 ∨ k = 1 by omega) with rfl | rfl
      · have hi := HI.out
        clear HG
        go_wp2_with (go_at_call 55; (with_reducible refine (HF.out _).mono ?_); rintro e w3 ⟨rfl, hb3⟩)
        go_roundw
        case rel => exact ⟨1, by omega, rfl, (ht.below ((Below.refl _ _).alloc (Nat.le_refl _) _)).below hb3, (hgr.alloc _).step hb3⟩
        case measure => simp [intOf]
      · have hj := HJ.out
        clear HF
        have n0 := ht.g2
        go_wp2_with (first | (go_at_call 55; (with_reducible refine (HG.out _).mono ?_); rintro e w3 ⟨rfl, hb3⟩; have n2 := ((ht.below ((Below.refl _ _).alloc (Nat.le_refl _) _)).below hb3).g2) | ((with_reducible apply wpList_store_blk); (with_reducible rfl); (with_reducible rfl); rfl; assumption; rfl; kernel_rfl; rfl; kernel_rfl))
        refine ret_ct rfl _ 54 _ _ rfl (setRow_heap _ _ _ _ _ _ n2) Try.underlying54 rfl (by kernel_rfl) rfl ⟨rfl, ?_⟩
        exact Grew.below (by repeat (first | exact Grew.refl _ | assumption | refine Grew.alloc ?_ _ | refine Grew.drewN ?_ _ | refine Grew.drew ?_ | refine Grew.setRow ?_ (by first | assumption | (simp; done) | (simp; omega) | omega) _ | refine Grew.setCell ?_ (by first | assumption | (simp; done) | (simp; omega) | omega) _ | refine Grew.step ?_ (by assumption)))
  · have HF := hide_ (fun wx => dcheck_no f wx hf)
    have HI := hide_ hi
    clear hf h hi hj
    go_enter Try.func94, Try.ntmps94
    go_wp2
    go_loopw [17, 10] (fun i _ wr => i = .int .i64 0 ∧ Abc w.heap.size f g wr ∧ Grew w.heap.size w wr) (fun i _ _ => 2 - (intOf i).toNat)
    case atStart => exact ⟨rfl, Abc.new _ _ _, ((Grew.refl w).alloc _).alloc _ |>.alloc _⟩
    case round =>
      obtain ⟨rfl, ht, hgr⟩ := hrel
      have hi := HI.out
      go_wp2_with (first | (go_at_call 55; (with_reducible refine (HF.out _).mono ?_); rintro e w3 ⟨rfl, hb3⟩; have n2 := ((ht.below ((Below.refl _ _).alloc (Nat.le_refl _) _)).below hb3).g2) | ((with_reducible apply wpList_store_blk); (with_reducible rfl); (with_reducible rfl); rfl; assumption; rfl; kernel_rfl; rfl; kernel_rfl))
      refine ret_ct rfl _ 54 _ _ rfl (setRow_heap _ _ _ _ _ _ n2) Try.underlying54 rfl (by kernel_rfl) rfl ⟨rfl, ?_⟩
      exact Grew.below (by repeat (first | exact Grew.refl _ | assumption | refine Grew.alloc ?_ _ | refine Grew.drewN ?_ _ | refine Grew.drew ?_ | refine Grew.setRow ?_ (by first | assumption | (simp; done) | (simp; omega) | omega) _ | refine Grew.setCell ?_ (by first | assumption | (simp; done) | (simp; omega) | omega) _ | refine Grew.step ?_ (by assumption)))
end Go.Proofs.Ytklhdpkofpkmjaa
