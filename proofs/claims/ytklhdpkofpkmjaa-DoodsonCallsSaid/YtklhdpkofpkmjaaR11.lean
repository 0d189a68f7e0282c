/- Chapter 11: Species, Print, Check answer alike in the program and in the reference. -/
import Derived.Test.YtklhdpkofpkmjaaAlike2
namespace Go.Proofs.Ytklhdpkofpkmjaa
open Go.RowKit
set_option maxHeartbeats 800000
set_option maxRecDepth 100000
set_option linter.unusedVariables false
theorem spec_alike (f : Nat → Int) : ∃ x e1 : Int, AlikeV 60 61 #[.agg #[.int .i8 (f 0), .int .i8 (f 1), .int .i8 (f 2), .int .i8 (f 3), .int .i8 (f 4), .int .i8 (f 5)]] (.tuple #[.int .i64 x, .int .i64 e1]) := by
  by_cases hf : Good f
  · have HA := hide_ (fun wx => dcheck_ok f wx hf)
    have HB := hide_ (fun wx => rcheck_ok f wx hf)
    have hf0 := hf 0 (by omega)
    clear hf
    refine ⟨max (f 0) (-f 0), 0, fun w => ?_, fun w => ?_⟩
    · clear HB
      go_enter Try.func60, Try.ntmps60
      go_wp2_with (go_at_call 55; (with_reducible refine (HA.out _).mono ?_); rintro e w1 ⟨rfl, hb1⟩; obtain ⟨c0, c1, c2, c3, c4, c5⟩ := cells_ar (blk_below hb1))
      all_goals
        go_ret2
        refine ⟨?_, by exact Grew.below (by repeat (first | exact Grew.refl _ | assumption | refine Grew.alloc ?_ _ | refine Grew.drewN ?_ _ | refine Grew.drew ?_ | refine Grew.setRow ?_ (by first | assumption | (simp; done) | (simp; omega) | omega) _ | refine Grew.setCell ?_ (by first | assumption | (simp; done) | (simp; omega) | omega) _ | refine Grew.step ?_ (by assumption)))⟩
        simp
        omega
    · clear HA
      go_enter Try.func61, Try.ntmps61
      go_wp2_with (go_at_call 56; (with_reducible refine (HB.out _).mono ?_); rintro e w1 ⟨rfl, hb1⟩; obtain ⟨c0, c1, c2, c3, c4, c5⟩ := cells_ar (blk_below hb1))
      all_goals
        go_ret2
        refine ⟨?_, by exact Grew.below (by repeat (first | exact Grew.refl _ | assumption | refine Grew.alloc ?_ _ | refine Grew.drewN ?_ _ | refine Grew.drew ?_ | refine Grew.setRow ?_ (by first | assumption | (simp; done) | (simp; omega) | omega) _ | refine Grew.setCell ?_ (by first | assumption | (simp; done) | (simp; omega) | omega) _ | refine Grew.step ?_ (by assumption)))⟩
        simp
        omega
  · have HA := hide_ (fun wx => dcheck_no f wx hf)
    have HB := hide_ (fun wx => rcheck_no f wx hf)
    clear hf
    refine ⟨0, 210, fun w => ?_, fun w => ?_⟩
    · clear HB
      go_enter Try.func60, Try.ntmps60
      go_wp2_with (go_at_call 55; (with_reducible refine (HA.out _).mono ?_); rintro e w1 ⟨rfl, hb1⟩)
      go_ret2
      exact ⟨rfl, by exact Grew.below (by repeat (first | exact Grew.refl _ | assumption | refine Grew.alloc ?_ _ | refine Grew.drewN ?_ _ | refine Grew.drew ?_ | refine Grew.setRow ?_ (by first | assumption | (simp; done) | (simp; omega) | omega) _ | refine Grew.setCell ?_ (by first | assumption | (simp; done) | (simp; omega) | omega) _ | refine Grew.step ?_ (by assumption)))⟩
    · clear HA
      go_enter Try.func61, Try.ntmps61
      go_wp2_with (go_at_call 56; (with_reducible refine (HB.out _).mono ?_); rintro e w1 ⟨rfl, hb1⟩)
      go_ret2
      exact ⟨rfl, by exact Grew.below (by repeat (first | exact Grew.refl _ | assumption | refine Grew.alloc ?_ _ | refine Grew.drewN ?_ _ | refine Grew.drew ?_ | refine Grew.setRow ?_ (by first | assumption | (simp; done) | (simp; omega) | omega) _ | refine Grew.setCell ?_ (by first | assumption | (simp; done) | (simp; omega) | omega) _ | refine Grew.step ?_ (by assumption)))⟩
theorem rprint_ok (f : Nat → Int) (w : World) (h : Good f) :
    Calls Try.prog 63 #[.agg #[.int .i8 (f 0), .int .i8 (f 1), .int .i8 (f 2), .int .i8 (f 3), .int .i8 (f 4), .int .i8 (f 5)]] w fun e w' => e = .returned (.tuple #[.string ((pl f 6).foldl (fun r n => r.push (UInt8.ofNat n.toNat)) ByteArray.empty), .int .i64 0]) ∧ Below w.heap.size w w' := by
  obtain ⟨i0, hi0, hz0, hz1, hz2⟩ := info_parts info5
  have HK := hide_ (fun wx => rcheck_ok f wx h)
  have H := hide_ h
  clear h
  go_enter Try.func63, Try.ntmps63
  go_wp2_with (go_at_call 56; (with_reducible refine (HK.out _).mono ?_); rintro e w1 ⟨rfl, hb1⟩)
  have hn1 := blk_below hb1
  have hg1 := ((Grew.refl w).alloc (.cells #[.int .i8 (f 0), .int .i8 (f 1), .int .i8 (f 2), .int .i8 (f 3), .int .i8 (f 4), .int .i8 (f 5)] 54)).step hb1
  clear HK hb1
  go_loopw [5, 6] (fun v i wr => ∃ k : Nat, k ≤ 6 ∧ i = .int .i64 k ∧ wr.ownsRow (w.heap.size + 1) 5 1 v (pl f k).length ((pl f k).map (Value.int .u8)) ∧ wr.heap[w.heap.size]? = some (.cells #[.int .i8 (f 0), .int .i8 (f 1), .int .i8 (f 2), .int .i8 (f 3), .int .i8 (f 4), .int .i8 (f 5)] 54) ∧ Grew w.heap.size w wr) (fun _ i _ => 6 - (intOf i).toNat)
  case atStart => exact ⟨0, by omega, rfl, World.ownsRow_nil _ _ _ _, hn1, hg1⟩
  case round =>
    obtain ⟨k, hk, rfl, hown, hn, hgr⟩ := hrel
    have hlen := pl_len f k
    have hsz := hgr.2
    have hsz1 := lt_of_heap hn
    by_cases hlt : k < 6
    · have hi := cell_ar hn k hlt
      have hfk := H.out k hlt
      by_cases h3 : k = 3
      · have hk3 : ((k : Int) == 3) = true := by rw [beq_iff_eq]; omega
        have h3' := hide_ h3
        clear h3
        go_wp2_with (first
          | (at_builtin; refine wpList_push rfl _ _ 124 rfl (w.heap.size + 1) 5 i0 (.int .u8 0) 1 1 Try.underlying124 hi0 hz0 hz1 hz2 rfl (by decide) (by decide) _ _ _ rfl hown #[.int .u8 46] _ 1 1 rfl rfl (by kernel_rfl) (by omega) (by omega) ?_; intro v3 w3 hown3 hb3 _ _; have hn3 := (hb3.block _ (by omega)).trans hn; have hi3 := cell_ar hn3 k hlt)
          | (at_builtin; refine wpList_push rfl _ _ 124 rfl (w.heap.size + 1) 5 i0 (.int .u8 0) 1 1 Try.underlying124 hi0 hz0 hz1 hz2 rfl (by decide) (by decide) _ _ _ rfl hown3 #[.int .u8 (53 + f k)] _ 1 1 rfl rfl (by kernel_rfl) (by omega) (lt_of_heap hn3) ?_; intro v4 w4 hown4 hb4 _ _))
        go_roundw
        case rel => exact ⟨k + 1, by omega, by go_num, by simpa [pl, h3'.out] using hown4, (hb4.block _ (by omega)).trans hn3, (hgr.more (hb3.mono (by omega))).more (hb4.mono (by omega))⟩
        case measure => simp [intOf]; omega
      · have hk3 : ((k : Int) == 3) = false := by rw [beq_eq_false_iff_ne]; omega
        go_wp2_with (first
          | (at_builtin; refine wpList_push rfl _ _ 124 rfl (w.heap.size + 1) 5 i0 (.int .u8 0) 1 1 Try.underlying124 hi0 hz0 hz1 hz2 rfl (by decide) (by decide) _ _ _ rfl hown #[.int .u8 (53 + f k)] _ 1 1 rfl rfl (by kernel_rfl) (by omega) (by omega) ?_; intro v3 w3 hown3 hb3 _ _))
        go_roundw
        case rel => exact ⟨k + 1, by omega, by go_num, by simpa [pl, h3] using hown3, (hb3.block _ (by omega)).trans hn, hgr.more (hb3.mono (by omega))⟩
        case measure => simp [intOf]; omega
    · obtain rfl : k = 6 := by omega
      have hp : 0 < (pl f 6).length := by simp [pl]
      obtain ⟨g, cap, rfl, hg, hgl⟩ := hown.form hp
      have hcv := string_of hown
      go_wp2
      go_ret2
      exact ⟨rfl, hgr.below⟩
theorem rprint_no (f : Nat → Int) (w : World) (h : ¬ Good f) :
    Calls Try.prog 63 #[.agg #[.int .i8 (f 0), .int .i8 (f 1), .int .i8 (f 2), .int .i8 (f 3), .int .i8 (f 4), .int .i8 (f 5)]] w fun e w' => e = .returned (.tuple #[.string ⟨#[]⟩, .int .i64 210]) ∧ Below w.heap.size w w' := by
  have HK := hide_ (fun wx => rcheck_no f wx h)
  clear h
  go_enter Try.func63, Try.ntmps63
  go_wp2_with (go_at_call 56; (with_reducible refine (HK.out _).mono ?_); rintro e w1 ⟨rfl, hb1⟩)
  go_ret2
  exact ⟨rfl, by exact Grew.below (by repeat (first | exact Grew.refl _ | assumption | refine Grew.alloc ?_ _ | refine Grew.drewN ?_ _ | refine Grew.drew ?_ | refine Grew.setRow ?_ (by first | assumption | (simp; done) | (simp; omega) | omega) _ | refine Grew.setCell ?_ (by first | assumption | (simp; done) | (simp; omega) | omega) _ | refine Grew.step ?_ (by assumption)))⟩
theorem print_alike (f : Nat → Int) : ∃ (s : ByteArray) (e1 : Int), AlikeV 62 63 #[.agg #[.int .i8 (f 0), .int .i8 (f 1), .int .i8 (f 2), .int .i8 (f 3), .int .i8 (f 4), .int .i8 (f 5)]] (.tuple #[.string s, .int .i64 e1]) := by
  by_cases hf : Good f
  · exact ⟨_, 0, fun wx => dprint_ok f wx hf, fun wx => rprint_ok f wx hf⟩
  · exact ⟨_, 210, fun wx => dprint_no f wx hf, fun wx => rprint_no f wx hf⟩
end Go.Proofs.Ytklhdpkofpkmjaa
