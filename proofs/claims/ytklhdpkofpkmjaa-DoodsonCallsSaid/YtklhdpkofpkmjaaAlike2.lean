/- Chapter 11: Times, Over and Conj, of any arguments, answer alike in the program and in the reference; so do Phase, Speed, Check. -/
import Derived.Test.YtklhdpkofpkmjaaAlike
namespace Go.Proofs.Ytklhdpkofpkmjaa
open Go.RowKit
set_option maxHeartbeats 800000
set_option maxRecDepth 100000
set_option linter.unusedVariables false
theorem times_alike (f g : Nat → Int) : Alike 41 57 #[.agg #[.int .i8 (f 0), .int .i8 (f 1), .int .i8 (f 2), .int .i8 (f 3), .int .i8 (f 4), .int .i8 (f 5)], .agg #[.int .i8 (g 0), .int .i8 (g 1), .int .i8 (g 2), .int .i8 (g 3), .int .i8 (g 4), .int .i8 (g 5)]] #[.agg #[.int .i8 (f 0), .int .i8 (f 1), .int .i8 (f 2), .int .i8 (f 3), .int .i8 (f 4), .int .i8 (f 5)], .agg #[.int .i8 (g 0), .int .i8 (g 1), .int .i8 (g 2), .int .i8 (g 3), .int .i8 (g 4), .int .i8 (g 5)]] := by
  obtain ⟨h, e1, HA, HB⟩ := joined_alike f g
  have HA := hide_ HA
  have HB := hide_ HB
  refine ⟨h, e1, fun w => ?_, fun w => ?_⟩
  · clear HB
    go_enter Try.func41, Try.ntmps41
    go_wp2_with fail
    refine (HA.out _).mono ?_
    rintro e w1 ⟨rfl, hb1⟩
    have n1 : w1.heap[w.heap.size + 1 + 1]? = some (.cells #[.int .i8 0, .int .i8 0, .int .i8 0, .int .i8 0, .int .i8 0, .int .i8 0] 54) := by
      rw [hb1.block _ (by simp)]
      exact heap_at2 _ _ _ _
    have hg0 := ((((Grew.refl w).alloc (.cells #[.int .i8 (f 0), .int .i8 (f 1), .int .i8 (f 2), .int .i8 (f 3), .int .i8 (f 4), .int .i8 (f 5)] 54)).alloc (.cells #[.int .i8 (g 0), .int .i8 (g 1), .int .i8 (g 2), .int .i8 (g 3), .int .i8 (g 4), .int .i8 (g 5)] 54)).alloc (.cells #[.int .i8 0, .int .i8 0, .int .i8 0, .int .i8 0, .int .i8 0, .int .i8 0] 54)).step hb1
    go_wp2_with ((with_reducible apply wpList_store_blk); (with_reducible rfl); (with_reducible rfl); rfl; assumption; rfl; kernel_rfl; rfl; kernel_rfl)
    refine ret_ct rfl _ 54 _ _ rfl (setRow_heap _ _ _ _ _ _ n1) Try.underlying54 rfl (by kernel_rfl) rfl ⟨rfl, ?_⟩
    exact Grew.below (by repeat (first | exact Grew.refl _ | assumption | refine Grew.alloc ?_ _ | refine Grew.drewN ?_ _ | refine Grew.drew ?_ | refine Grew.setRow ?_ (by first | assumption | (simp; done) | (simp; omega) | omega) _ | refine Grew.setCell ?_ (by first | assumption | (simp; done) | (simp; omega) | omega) _ | refine Grew.step ?_ (by assumption)))
  · clear HA
    go_enter Try.func57, Try.ntmps57
    go_wp2_with fail
    refine (HB.out _).mono ?_
    rintro e w1 ⟨rfl, hb1⟩
    have n1 : w1.heap[w.heap.size + 1 + 1]? = some (.cells #[.int .i8 0, .int .i8 0, .int .i8 0, .int .i8 0, .int .i8 0, .int .i8 0] 54) := by
      rw [hb1.block _ (by simp)]
      exact heap_at2 _ _ _ _
    have hg0 := ((((Grew.refl w).alloc (.cells #[.int .i8 (f 0), .int .i8 (f 1), .int .i8 (f 2), .int .i8 (f 3), .int .i8 (f 4), .int .i8 (f 5)] 54)).alloc (.cells #[.int .i8 (g 0), .int .i8 (g 1), .int .i8 (g 2), .int .i8 (g 3), .int .i8 (g 4), .int .i8 (g 5)] 54)).alloc (.cells #[.int .i8 0, .int .i8 0, .int .i8 0, .int .i8 0, .int .i8 0, .int .i8 0] 54)).step hb1
    go_wp2_with ((with_reducible apply wpList_store_blk); (with_reducible rfl); (with_reducible rfl); rfl; assumption; rfl; kernel_rfl; rfl; kernel_rfl)
    refine ret_ct rfl _ 54 _ _ rfl (setRow_heap _ _ _ _ _ _ n1) Try.underlying54 rfl (by kernel_rfl) rfl ⟨rfl, ?_⟩
    exact Grew.below (by repeat (first | exact Grew.refl _ | assumption | refine Grew.alloc ?_ _ | refine Grew.drewN ?_ _ | refine Grew.drew ?_ | refine Grew.setRow ?_ (by first | assumption | (simp; done) | (simp; omega) | omega) _ | refine Grew.setCell ?_ (by first | assumption | (simp; done) | (simp; omega) | omega) _ | refine Grew.step ?_ (by assumption)))
theorem over_alike (f g : Nat → Int) : Alike 42 58 #[.agg #[.int .i8 (f 0), .int .i8 (f 1), .int .i8 (f 2), .int .i8 (f 3), .int .i8 (f 4), .int .i8 (f 5)], .agg #[.int .i8 (g 0), .int .i8 (g 1), .int .i8 (g 2), .int .i8 (g 3), .int .i8 (g 4), .int .i8 (g 5)]] #[.agg #[.int .i8 (f 0), .int .i8 (f 1), .int .i8 (f 2), .int .i8 (f 3), .int .i8 (f 4), .int .i8 (f 5)], .agg #[.int .i8 (g 0), .int .i8 (g 1), .int .i8 (g 2), .int .i8 (g 3), .int .i8 (g 4), .int .i8 (g 5)]] := by
  obtain ⟨h, e1, HA, HB⟩ := joined_alike2 f g
  have HA := hide_ HA
  have HB := hide_ HB
  refine ⟨h, e1, fun w => ?_, fun w => ?_⟩
  · clear HB
    go_enter Try.func42, Try.ntmps42
    go_wp2_with fail
    refine (HA.out _).mono ?_
    rintro e w1 ⟨rfl, hb1⟩
    have n1 : w1.heap[w.heap.size + 1 + 1]? = some (.cells #[.int .i8 0, .int .i8 0, .int .i8 0, .int .i8 0, .int .i8 0, .int .i8 0] 54) := by
      rw [hb1.block _ (by simp)]
      exact heap_at2 _ _ _ _
    have hg0 := ((((Grew.refl w).alloc (.cells #[.int .i8 (f 0), .int .i8 (f 1), .int .i8 (f 2), .int .i8 (f 3), .int .i8 (f 4), .int .i8 (f 5)] 54)).alloc (.cells #[.int .i8 (g 0), .int .i8 (g 1), .int .i8 (g 2), .int .i8 (g 3), .int .i8 (g 4), .int .i8 (g 5)] 54)).alloc (.cells #[.int .i8 0, .int .i8 0, .int .i8 0, .int .i8 0, .int .i8 0, .int .i8 0] 54)).step hb1
    go_wp2_with ((with_reducible apply wpList_store_blk); (with_reducible rfl); (with_reducible rfl); rfl; assumption; rfl; kernel_rfl; rfl; kernel_rfl)
    refine ret_ct rfl _ 54 _ _ rfl (setRow_heap _ _ _ _ _ _ n1) Try.underlying54 rfl (by kernel_rfl) rfl ⟨rfl, ?_⟩
    exact Grew.below (by repeat (first | exact Grew.refl _ | assumption | refine Grew.alloc ?_ _ | refine Grew.drewN ?_ _ | refine Grew.drew ?_ | refine Grew.setRow ?_ (by first | assumption | (simp; done) | (simp; omega) | omega) _ | refine Grew.setCell ?_ (by first | assumption | (simp; done) | (simp; omega) | omega) _ | refine Grew.step ?_ (by assumption)))
  · clear HA
    go_enter Try.func58, Try.ntmps58
    go_wp2_with fail
    refine (HB.out _).mono ?_
    rintro e w1 ⟨rfl, hb1⟩
    have n1 : w1.heap[w.heap.size + 1 + 1]? = some (.cells #[.int .i8 0, .int .i8 0, .int .i8 0, .int .i8 0, .int .i8 0, .int .i8 0] 54) := by
      rw [hb1.block _ (by simp)]
      exact heap_at2 _ _ _ _
    have hg0 := ((((Grew.refl w).alloc (.cells #[.int .i8 (f 0), .int .i8 (f 1), .int .i8 (f 2), .int .i8 (f 3), .int .i8 (f 4), .int .i8 (f 5)] 54)).alloc (.cells #[.int .i8 (g 0), .int .i8 (g 1), .int .i8 (g 2), .int .i8 (g 3), .int .i8 (g 4), .int .i8 (g 5)] 54)).alloc (.cells #[.int .i8 0, .int .i8 0, .int .i8 0, .int .i8 0, .int .i8 0, .int .i8 0] 54)).step hb1
    go_wp2_with ((with_reducible apply wpList_store_blk); (with_reducible rfl); (with_reducible rfl); rfl; assumption; rfl; kernel_rfl; rfl; kernel_rfl)
    refine ret_ct rfl _ 54 _ _ rfl (setRow_heap _ _ _ _ _ _ n1) Try.underlying54 rfl (by kernel_rfl) rfl ⟨rfl, ?_⟩
    exact Grew.below (by repeat (first | exact Grew.refl _ | assumption | refine Grew.alloc ?_ _ | refine Grew.drewN ?_ _ | refine Grew.drew ?_ | refine Grew.setRow ?_ (by first | assumption | (simp; done) | (simp; omega) | omega) _ | refine Grew.setCell ?_ (by first | assumption | (simp; done) | (simp; omega) | omega) _ | refine Grew.step ?_ (by assumption)))
theorem conj_alike (f : Nat → Int) : Alike 44 59 #[.agg #[.int .i8 (f 0), .int .i8 (f 1), .int .i8 (f 2), .int .i8 (f 3), .int .i8 (f 4), .int .i8 (f 5)]] #[.agg #[.int .i8 (f 0), .int .i8 (f 1), .int .i8 (f 2), .int .i8 (f 3), .int .i8 (f 4), .int .i8 (f 5)]] := by
  obtain ⟨h, e1, HA, HB⟩ := joined_alike3 f
  rw [zero_ar] at HB
  have HA := hide_ HA
  have HB := hide_ HB
  refine ⟨h, e1, fun w => ?_, fun w => ?_⟩
  · clear HB
    go_enter Try.func44, Try.ntmps44
    go_wp2_with fail
    refine (HA.out _).mono ?_
    rintro e w1 ⟨rfl, hb1⟩
    have n1 : w1.heap[w.heap.size + 1]? = some (.cells #[.int .i8 0, .int .i8 0, .int .i8 0, .int .i8 0, .int .i8 0, .int .i8 0] 54) := by
      rw [hb1.block _ (by simp)]
      exact heap_at1 _ _ _
    have hg0 := ((((Grew.refl w).alloc (.cells #[.int .i8 (f 0), .int .i8 (f 1), .int .i8 (f 2), .int .i8 (f 3), .int .i8 (f 4), .int .i8 (f 5)] 54))).alloc (.cells #[.int .i8 0, .int .i8 0, .int .i8 0, .int .i8 0, .int .i8 0, .int .i8 0] 54)).step hb1
    go_wp2_with ((with_reducible apply wpList_store_blk); (with_reducible rfl); (with_reducible rfl); rfl; assumption; rfl; kernel_rfl; rfl; kernel_rfl)
    refine ret_ct rfl _ 54 _ _ rfl (setRow_heap _ _ _ _ _ _ n1) Try.underlying54 rfl (by kernel_rfl) rfl ⟨rfl, ?_⟩
    exact Grew.below (by repeat (first | exact Grew.refl _ | assumption | refine Grew.alloc ?_ _ | refine Grew.drewN ?_ _ | refine Grew.drew ?_ | refine Grew.setRow ?_ (by first | assumption | (simp; done) | (simp; omega) | omega) _ | refine Grew.setCell ?_ (by first | assumption | (simp; done) | (simp; omega) | omega) _ | refine Grew.step ?_ (by assumption)))
  · clear HA
    go_enter Try.func59, Try.ntmps59
    go_wp2_with fail
    refine (HB.out _).mono ?_
    rintro e w1 ⟨rfl, hb1⟩
    have n1 : w1.heap[w.heap.size + 1]? = some (.cells #[.int .i8 0, .int .i8 0, .int .i8 0, .int .i8 0, .int .i8 0, .int .i8 0] 54) := by
      rw [hb1.block _ (by simp)]
      exact heap_at1 _ _ _
    have hg0 := ((((Grew.refl w).alloc (.cells #[.int .i8 (f 0), .int .i8 (f 1), .int .i8 (f 2), .int .i8 (f 3), .int .i8 (f 4), .int .i8 (f 5)] 54))).alloc (.cells #[.int .i8 0, .int .i8 0, .int .i8 0, .int .i8 0, .int .i8 0, .int .i8 0] 54)).step hb1
    go_wp2_with ((with_reducible apply wpList_store_blk); (with_reducible rfl); (with_reducible rfl); rfl; assumption; rfl; kernel_rfl; rfl; kernel_rfl)
    refine ret_ct rfl _ 54 _ _ rfl (setRow_heap _ _ _ _ _ _ n1) Try.underlying54 rfl (by kernel_rfl) rfl ⟨rfl, ?_⟩
    exact Grew.below (by repeat (first | exact Grew.refl _ | assumption | refine Grew.alloc ?_ _ | refine Grew.drewN ?_ _ | refine Grew.drew ?_ | refine Grew.setRow ?_ (by first | assumption | (simp; done) | (simp; omega) | omega) _ | refine Grew.setCell ?_ (by first | assumption | (simp; done) | (simp; omega) | omega) _ | refine Grew.step ?_ (by assumption)))
/-- Two functions answer alike: a turn and an error. -/
def AlikeT (n m : Nat) (a : Array Value) : Prop := ∃ x y e1 : Int,
  (∀ wx : World, Calls Try.prog n a wx fun e w' => e = .returned (.tuple #[.agg #[.int .i64 x, .int .i64 y], .int .i64 e1]) ∧ Below wx.heap.size wx w') ∧
  (∀ wx : World, Calls Try.prog m a wx fun e w' => e = .returned (.tuple #[.agg #[.int .i64 x, .int .i64 y], .int .i64 e1]) ∧ Below wx.heap.size wx w')
theorem phase_alike (f : Nat → Int) (t : Int) : AlikeT 40 54 #[.agg #[.int .i8 (f 0), .int .i8 (f 1), .int .i8 (f 2), .int .i8 (f 3), .int .i8 (f 4), .int .i8 (f 5)], .int .i64 t] := by
  by_cases h : Good f ∧ 0 ≤ t ∧ t ≤ 1048576
  · obtain ⟨hf, h0, h1⟩ := h
    have ha := fun wx => phase_du f t wx hf h0 h1
    have hb := fun wx => rphase_ok f t wx hf h0 h1
    obtain ⟨x, y, e1⟩ := turnV_two (du f (unitAt t)) 3600000000
    rw [e1] at ha hb
    exact ⟨x, y, 0, ha, hb⟩
  · by_cases hf : Good f
    · exact ⟨0, 0, 2, fun wx => (phase_no f t wx h).mono fun _ _ ⟨e1, he, hh, hb⟩ => ⟨by rw [he, hh.1 hf], hb⟩, fun wx => (rphase_no f t wx h).mono fun _ _ ⟨e1, he, hh, hb⟩ => ⟨by rw [he, hh.1 hf], hb⟩⟩
    · exact ⟨0, 0, 210, fun wx => (phase_no f t wx h).mono fun _ _ ⟨e1, he, hh, hb⟩ => ⟨by rw [he, hh.2 hf], hb⟩, fun wx => (rphase_no f t wx h).mono fun _ _ ⟨e1, he, hh, hb⟩ => ⟨by rw [he, hh.2 hf], hb⟩⟩
theorem speed_alike (f : Nat → Int) : AlikeT 46 53 #[.agg #[.int .i8 (f 0), .int .i8 (f 1), .int .i8 (f 2), .int .i8 (f 3), .int .i8 (f 4), .int .i8 (f 5)]] := by
  by_cases hf : Good f
  · have ha := fun wx => dspeed_ok f wx hf
    have hb := fun wx => rspeed11_ok f wx hf
    have hd : (dsum f rowAdds 6 % 3600000000).toNat = du f rowAdds := rfl
    rw [hd] at ha
    obtain ⟨x, y, e1⟩ := turnV_two (du f rowAdds) 3600000000
    rw [e1] at ha hb
    exact ⟨x, y, 0, ha, hb⟩
  · exact ⟨0, 0, 210, fun wx => dspeed_no f wx hf, fun wx => rspeed11_no f wx hf⟩
/-- Two functions answer alike. -/
def AlikeV (n m : Nat) (a : Array Value) (v : Value) : Prop :=
  (∀ wx : World, Calls Try.prog n a wx fun e w' => e = .returned v ∧ Below wx.heap.size wx w') ∧
  (∀ wx : World, Calls Try.prog m a wx fun e w' => e = .returned v ∧ Below wx.heap.size wx w')
theorem check_alike (f : Nat → Int) : ∃ e1 : Int, AlikeV 55 56 #[.agg #[.int .i8 (f 0), .int .i8 (f 1), .int .i8 (f 2), .int .i8 (f 3), .int .i8 (f 4), .int .i8 (f 5)]] (.int .i64 e1) := by
  by_cases hf : Good f
  · exact ⟨0, fun wx => dcheck_ok f wx hf, fun wx => rcheck_ok f wx hf⟩
  · exact ⟨210, fun wx => dcheck_no f wx hf, fun wx => rcheck_no f wx hf⟩
end Go.Proofs.Ytklhdpkofpkmjaa
