/- Contracts of the reference's chapter 11: Phase of bad arguments, Speed. -/
import Derived.Test.YtklhdpkofpkmjaaRc2
namespace Go.Proofs.Ytklhdpkofpkmjaa
open Go.RowKit
set_option maxRecDepth 100000 in
theorem rphase_no (f : Nat → Int) (t : Int) (w : World) (h : ¬ (Good f ∧ 0 ≤ t ∧ t ≤ 1048576)) :
    Calls Try.prog 54 #[.agg #[.int .i8 (f 0), .int .i8 (f 1), .int .i8 (f 2), .int .i8 (f 3), .int .i8 (f 4), .int .i8 (f 5)], .int .i64 t] w fun e w' => ∃ e1 : Int, e = .returned (.tuple #[.agg #[.int .i64 0, .int .i64 0], .int .i64 e1]) ∧ ((Good f → e1 = 2) ∧ (¬ Good f → e1 = 210)) ∧ Below w.heap.size w w' := by
  by_cases hf : Good f
  · have ht : t < 0 ∨ 1048576 < t := by
      by_cases h0 : t < 0 ∨ 1048576 < t
      · exact h0
      · exact absurd ⟨hf, by omega, by omega⟩ h
    have HK := hide_ (fun wx => rcheck_ok f wx hf)
    have GF := hide_ hf
    clear hf h
    by_cases h0 : t < 0
    · clear ht
      go_enter Try.func54, Try.ntmps54
      go_wp2_with (first
        | (go_at_call 56; (with_reducible refine (HK.out _).mono ?_); rintro e w1 ⟨rfl, hb1⟩; have g1 := (blk_two hb1).2.1) | ((with_reducible apply wpList_store_blk); (with_reducible rfl); (with_reducible rfl); rfl; assumption; rfl; kernel_rfl; rfl; kernel_rfl))
      refine ret_ct rfl _ 35 _ _ rfl (setRow_heap _ _ _ _ _ _ g1) Try.underlying35 rfl (by kernel_rfl) rfl ⟨2, rfl, ⟨fun _ => rfl, fun hn => absurd GF.out hn⟩, ?_⟩
      have hg0 := (((Grew.refl w).alloc (.cells #[.int .i8 (f 0), .int .i8 (f 1), .int .i8 (f 2), .int .i8 (f 3), .int .i8 (f 4), .int .i8 (f 5)] 54)).alloc (.cells #[.int .i64 0, .int .i64 0] 35)).step hb1
      exact Grew.below (by repeat (first | exact Grew.refl _ | assumption | refine Grew.alloc ?_ _ | refine Grew.drewN ?_ _ | refine Grew.drew ?_ | refine Grew.setRow ?_ (by first | assumption | (simp; done) | (simp; omega) | omega) _ | refine Grew.setCell ?_ (by first | assumption | (simp; done) | (simp; omega) | omega) _ | refine Grew.step ?_ (by assumption)))
    · have h1 : 1048576 < t := by omega
      have h2 : 0 ≤ t := by omega
      clear ht h0
      go_enter Try.func54, Try.ntmps54
      go_wp2_with (first
        | (go_at_call 56; (with_reducible refine (HK.out _).mono ?_); rintro e w1 ⟨rfl, hb1⟩; have g1 := (blk_two hb1).2.1) | ((with_reducible apply wpList_store_blk); (with_reducible rfl); (with_reducible rfl); rfl; assumption; rfl; kernel_rfl; rfl; kernel_rfl))
      refine ret_ct rfl _ 35 _ _ rfl (setRow_heap _ _ _ _ _ _ g1) Try.underlying35 rfl (by kernel_rfl) rfl ⟨2, rfl, ⟨fun _ => rfl, fun hn => absurd GF.out hn⟩, ?_⟩
      have hg0 := (((Grew.refl w).alloc (.cells #[.int .i8 (f 0), .int .i8 (f 1), .int .i8 (f 2), .int .i8 (f 3), .int .i8 (f 4), .int .i8 (f 5)] 54)).alloc (.cells #[.int .i64 0, .int .i64 0] 35)).step hb1
      exact Grew.below (by repeat (first | exact Grew.refl _ | assumption | refine Grew.alloc ?_ _ | refine Grew.drewN ?_ _ | refine Grew.drew ?_ | refine Grew.setRow ?_ (by first | assumption | (simp; done) | (simp; omega) | omega) _ | refine Grew.setCell ?_ (by first | assumption | (simp; done) | (simp; omega) | omega) _ | refine Grew.step ?_ (by assumption)))
  · have HK := hide_ (fun wx => rcheck_no f wx hf)
    have GF := hide_ hf
    clear hf h
    go_enter Try.func54, Try.ntmps54
    go_wp2_with (first
      | (go_at_call 56; (with_reducible refine (HK.out _).mono ?_); rintro e w1 ⟨rfl, hb1⟩; have g1 := (blk_two hb1).2.1) | ((with_reducible apply wpList_store_blk); (with_reducible rfl); (with_reducible rfl); rfl; assumption; rfl; kernel_rfl; rfl; kernel_rfl))
    refine ret_ct rfl _ 35 _ _ rfl (setRow_heap _ _ _ _ _ _ g1) Try.underlying35 rfl (by kernel_rfl) rfl ⟨210, rfl, ⟨fun hn => absurd hn GF.out, fun _ => rfl⟩, ?_⟩
    have hg0 := (((Grew.refl w).alloc (.cells #[.int .i8 (f 0), .int .i8 (f 1), .int .i8 (f 2), .int .i8 (f 3), .int .i8 (f 4), .int .i8 (f 5)] 54)).alloc (.cells #[.int .i64 0, .int .i64 0] 35)).step hb1
    exact Grew.below (by repeat (first | exact Grew.refl _ | assumption | refine Grew.alloc ?_ _ | refine Grew.drewN ?_ _ | refine Grew.drew ?_ | refine Grew.setRow ?_ (by first | assumption | (simp; done) | (simp; omega) | omega) _ | refine Grew.setCell ?_ (by first | assumption | (simp; done) | (simp; omega) | omega) _ | refine Grew.step ?_ (by assumption)))
theorem dspeed_no (f : Nat → Int) (w : World) (h : ¬ Good f) :
    Calls Try.prog 46 #[.agg #[.int .i8 (f 0), .int .i8 (f 1), .int .i8 (f 2), .int .i8 (f 3), .int .i8 (f 4), .int .i8 (f 5)]] w fun e w' => e = .returned (.tuple #[.agg #[.int .i64 0, .int .i64 0], .int .i64 210]) ∧ Below w.heap.size w w' := by
  have HK := hide_ (fun wx => dcheck_no f wx h)
  clear h
  go_enter Try.func46, Try.ntmps46
  go_wp2_with (first
    | (go_at_call 55; (with_reducible refine (HK.out _).mono ?_); rintro e w1 ⟨rfl, hb1⟩; have g1 := (blk_two hb1).2.1) | ((with_reducible apply wpList_store_blk); (with_reducible rfl); (with_reducible rfl); rfl; assumption; rfl; kernel_rfl; rfl; kernel_rfl))
  refine ret_ct rfl _ 35 _ _ rfl (setRow_heap _ _ _ _ _ _ g1) Try.underlying35 rfl (by kernel_rfl) rfl ⟨rfl, ?_⟩
  have hg0 := (((Grew.refl w).alloc (.cells #[.int .i8 (f 0), .int .i8 (f 1), .int .i8 (f 2), .int .i8 (f 3), .int .i8 (f 4), .int .i8 (f 5)] 54)).alloc (.cells #[.int .i64 0, .int .i64 0] 35)).step hb1
  exact Grew.below (by repeat (first | exact Grew.refl _ | assumption | refine Grew.alloc ?_ _ | refine Grew.drewN ?_ _ | refine Grew.drew ?_ | refine Grew.setRow ?_ (by first | assumption | (simp; done) | (simp; omega) | omega) _ | refine Grew.setCell ?_ (by first | assumption | (simp; done) | (simp; omega) | omega) _ | refine Grew.step ?_ (by assumption)))
theorem rspeed11_no (f : Nat → Int) (w : World) (h : ¬ Good f) :
    Calls Try.prog 53 #[.agg #[.int .i8 (f 0), .int .i8 (f 1), .int .i8 (f 2), .int .i8 (f 3), .int .i8 (f 4), .int .i8 (f 5)]] w fun e w' => e = .returned (.tuple #[.agg #[.int .i64 0, .int .i64 0], .int .i64 210]) ∧ Below w.heap.size w w' := by
  have HP : Hid (∀ wx : World, Calls Try.prog 54 #[.agg #[.int .i8 (f 0), .int .i8 (f 1), .int .i8 (f 2), .int .i8 (f 3), .int .i8 (f 4), .int .i8 (f 5)], .int .i64 0] wx fun e w' => e = .returned (.tuple #[.agg #[.int .i64 0, .int .i64 0], .int .i64 210]) ∧ Below wx.heap.size wx w') :=
    hide_ (fun wx => (rphase_no f 0 wx (fun hh => h hh.1)).mono fun _ _ ⟨e1, he, hh, hb⟩ => ⟨by rw [he, hh.2 h], hb⟩)
  clear h
  go_enter Try.func53, Try.ntmps53
  go_wp2_with (first
    | (go_at_call 54; (with_reducible refine (HP.out _).mono ?_); rintro e w1 ⟨rfl, hb1⟩; have g1 := (blk_two hb1).2.1; have g2 := heap_past (o' := .cells #[.int .i64 0, .int .i64 0] 35) g1) | ((with_reducible apply wpList_store_new); (with_reducible rfl); (with_reducible rfl); rfl; rfl; kernel_rfl; rfl; kernel_rfl) | ((with_reducible apply wpList_store_blk); (with_reducible rfl); (with_reducible rfl); rfl; assumption; rfl; kernel_rfl; rfl; kernel_rfl))
  refine ret_ct rfl _ 35 _ _ rfl (setRow_heap _ _ _ _ _ _ g2) Try.underlying35 rfl (by kernel_rfl) rfl ⟨rfl, ?_⟩
  have hg0 := (((Grew.refl w).alloc (.cells #[.int .i8 (f 0), .int .i8 (f 1), .int .i8 (f 2), .int .i8 (f 3), .int .i8 (f 4), .int .i8 (f 5)] 54)).alloc (.cells #[.int .i64 0, .int .i64 0] 35)).step hb1
  exact Grew.below (by repeat (first | exact Grew.refl _ | assumption | refine Grew.alloc ?_ _ | refine Grew.drewN ?_ _ | refine Grew.drew ?_ | refine Grew.setRow ?_ (by first | assumption | (simp; done) | (simp; omega) | omega) _ | refine Grew.setCell ?_ (by first | assumption | (simp; done) | (simp; omega) | omega) _ | refine Grew.step ?_ (by assumption)))
theorem du_diff (f : Nat → Int) : (du f (unitAt 1) + (3600000000 - du f (unitAt 0)) % 3600000000) % 3600000000 = du f rowAdds := by
  have h := du_next f 0
  have h1 := du_lt f (unitAt 0)
  have h2 := du_lt f rowAdds
  have h3 : unitAt (0 + 1) = unitAt 1 := rfl
  rw [h3] at h
  omega
end Go.Proofs.Ytklhdpkofpkmjaa
