/- The law's own small functions: small, difference, example. -/
import Derived.Test.YtcibbnphkpaifaaSx
namespace Go.Proofs.Ytcibbnphkpaifaa
open Go.RowKit
set_option linter.unusedVariables false
set_option maxRecDepth 100000
set_option maxHeartbeats 3200000 in
theorem small_form (n k : Int) (x : Rat) (hx : (n : Rat) / (k : Rat) = x) (w : World) (h1 : -9223372036854775808 ≤ n) (h2 : n < 9223372036854775808) (g1 : -9223372036854775808 ≤ k) (g2 : k < 9223372036854775808) (hk : k ≠ 0) :
    Calls Try.prog 21 #[.int .i64 n, .int .i64 k] w fun e w' => (∃ s p k c q m d, e = .returned (.agg #[.bool s, .slice p k c, .slice q m d]) ∧ RO w' w.heap.size (.agg #[.bool s, .slice p k c, .slice q m d]) x ∧ Fits x) ∧ Below w.heap.size w w' := by
  have hf : Fits x := by rw [← hx]; exact fits_quo n k h1 h2 g1 g2 hk
  have HS := hide_ (fun W => ResR.yes hf (by have h := rsmall_any n k W h1 h2 g1 g2 hk; rw [hx] at h; exact h))
  have hb0 : Below w.heap.size w (w.alloc (.cells #[.bool false, .slice none 0 0, .slice none 0 0] 32)) := below_alloc _ _
  have hr0 := heap_alloc_last w (.cells #[.bool false, .slice none 0 0, .slice none 0 0] 32)
  have HF := hide_ hf
  clear h1 h2 g1 g2 hk hf
  go_enter Try.func21, Try.ntmps21
  go_wp2_with (first
    | (go_at_call 57; go_must (
        (with_reducible refine (HS.out _).mono ?_)
        rintro e w4 ⟨⟨s4, p4, n4, c4, q4, m4, d4, rfl, ho4⟩, hb4⟩
        have hr4 := (hb4.block _ (lt_of_heap hr0)).trans hr0
        have hr5 := heap_past (o' := .cells #[.bool s4, .slice p4 n4 c4, .slice q4 m4 d4] 32) hr4
        obtain ⟨x0, x1, x2⟩ := cells_three (heap_alloc_last w4 (.cells #[.bool s4, .slice p4 n4 c4, .slice q4 m4 d4] 32))
        clear hr4))
    | ((with_reducible apply wpList_store_new); (with_reducible rfl); (with_reducible rfl); rfl; rfl; kernel_rfl; rfl; kernel_rfl) | ((with_reducible apply wpList_store_blk); (with_reducible rfl); (with_reducible rfl); rfl; assumption; rfl; kernel_rfl; rfl; kernel_rfl))
  refine ret_c rfl w.heap.size 32 _ _ rfl (setRow_heap _ _ _ _ _ _ hr5) Try.underlying32 rfl (by kernel_rfl) rfl ?_
  have hb5 : Below w.heap.size w w4 := hb0.trans (hb4.mono hb0.size)
  refine ⟨⟨s4, p4, n4, c4, q4, m4, d4, rfl, ?_, HF.out⟩, below_setRow (hb5.alloc hb5.size _) (Nat.le_refl _) _⟩
  exact (RO.stored (W := w) (ho4.below (below_alloc _ _)) (by simp)).mono (by simp)
set_option maxHeartbeats 3200000 in
theorem difference_form (k : Int) (s1 s2 : Bool) (p1 q1 p2 q2 : Option Addr) (n1 c1 m1 d1 n2 c2 m2 d2 : Nat) (w : World) :
    Calls Try.prog 20 #[.int .i64 k, .agg #[.bool s1, .slice p1 n1 c1, .slice q1 m1 d1], .agg #[.bool s2, .slice p2 n2 c2, .slice q2 m2 d2]] w fun e w' => e = .returned (.agg #[.int .i64 k, .bool s1, .slice p1 n1 c1, .slice q1 m1 d1, .bool s2, .slice p2 n2 c2, .slice q2 m2 d2]) ∧ Below w.heap.size w w' := by
  have hb0 : Below w.heap.size w (((w.alloc (.cells #[.bool s1, .slice p1 n1 c1, .slice q1 m1 d1] 32)).alloc (.cells #[.bool s2, .slice p2 n2 c2, .slice q2 m2 d2] 32)).alloc (.cells #[.int .i64 0, .bool false, .slice none 0 0, .slice none 0 0, .bool false, .slice none 0 0, .slice none 0 0] 46)) := ((below_alloc _ _).alloc (by simp) _).alloc (by simp; omega) _
  have hr0 := heap_at2 w (.cells #[.bool s1, .slice p1 n1 c1, .slice q1 m1 d1] 32) (.cells #[.bool s2, .slice p2 n2 c2, .slice q2 m2 d2] 32) (.cells #[.int .i64 0, .bool false, .slice none 0 0, .slice none 0 0, .bool false, .slice none 0 0, .slice none 0 0] 46)
  obtain ⟨a0, a1, a2⟩ := cells_three (heap_past (o' := .cells #[.int .i64 0, .bool false, .slice none 0 0, .slice none 0 0, .bool false, .slice none 0 0, .slice none 0 0] 46) (heap_past (o' := .cells #[.bool s2, .slice p2 n2 c2, .slice q2 m2 d2] 32) (heap_alloc_last w (.cells #[.bool s1, .slice p1 n1 c1, .slice q1 m1 d1] 32))))
  obtain ⟨b0, b1, b2⟩ := cells_three (heap_past (o' := .cells #[.int .i64 0, .bool false, .slice none 0 0, .slice none 0 0, .bool false, .slice none 0 0, .slice none 0 0] 46) (heap_at1 w (.cells #[.bool s1, .slice p1 n1 c1, .slice q1 m1 d1] 32) (.cells #[.bool s2, .slice p2 n2 c2, .slice q2 m2 d2] 32)))
  go_enter Try.func20, Try.ntmps20
  go_wp2_with (first | ((with_reducible apply wpList_store_blk); (with_reducible rfl); (with_reducible rfl); rfl; assumption; rfl; kernel_rfl; rfl; kernel_rfl))
  refine ret_c rfl (w.heap.size + 1 + 1) 46 _ _ rfl (setRow_heap _ _ _ _ _ _ hr0) Try.underlying46 rfl (by kernel_rfl) rfl ?_
  exact ⟨rfl, below_setRow hb0 (by omega) _⟩
/-- The chapter's waters. -/
def exL : List Wt := [toWt (2, 2, false, 0), toWt (6, 7, true, 4), toWt (12, 12, false, 1)]
theorem fits_of (x : Rat) (n k : Int) (hx : (n : Rat) / (k : Rat) = x) (h1 : -9223372036854775808 ≤ n ∧ n < 9223372036854775808) (g1 : -9223372036854775808 ≤ k ∧ k < 9223372036854775808) (hk : k ≠ 0) : Fits x := by
  rw [← hx]; exact fits_quo n k h1.1 h1.2 g1.1 g1.2 hk
theorem toWt_h (a : Qw) : (toWt a).h = a.2.2.2 := ratG_rat _
theorem errN_wt (a : Qw) (hb : badW a.1 a.2.1 = false) (hf : Fits a.2.2.2) : errW none (toWt a) = 0 := by
  rw [errW_nil]; unfold wrongN toWt; rw [if_neg (by simp [hb])]; exact chkR_rat hf
theorem errS_wt (b a : Qw) (hb : badW a.1 a.2.1 = false) (hl : b.2.1 < a.1) (hf : Fits a.2.2.2) (ht : a.2.2.1 ≠ b.2.2.1) (hc : cmpQ a.2.2.2 b.2.2.2 = wantW a.2.2.1) : errW (some (toWt b)) (toWt a) = 0 := by
  rw [errW_some, toWt_h, toWt_h]
  unfold wrongS
  have h1 : (badW (toWt a).t (toWt a).l || decide ((toWt a).t ≤ (toWt b).l)) = false := by
    rw [Bool.or_eq_false_iff]; exact ⟨hb, decide_eq_false (by show ¬ a.1 ≤ b.2.1; omega)⟩
  have h2 : chkR (toWt a).neg (toWt a).A (toWt a).D = 0 := chkR_rat hf
  have h3 : ((toWt a).top == (toWt b).top || cmpQ a.2.2.2 b.2.2.2 != wantW (toWt a).top) = false := by
    rw [Bool.or_eq_false_iff]
    refine ⟨?_, ?_⟩
    · show (a.2.2.1 == b.2.2.1) = false; simpa using ht
    · show (cmpQ a.2.2.2 b.2.2.2 != wantW a.2.2.1) = false; simpa using hc
  rw [h1, h2, h3]; rfl
theorem ex_snd : Snd exL := by
  intro i hi
  have h0 : Fits 0 := fits_zero
  have h1 : Fits 1 := fits_of 1 1 1 (by decide +kernel) (by decide) (by decide) (by decide)
  have h4 : Fits 4 := fits_of 4 4 1 (by decide +kernel) (by decide) (by decide) (by decide)
  have e : i = 0 ∨ i = 1 ∨ i = 2 := by have : exL.length = 3 := rfl; omega
  rcases e with rfl | rfl | rfl
  · exact errN_wt (2, 2, false, 0) (by decide) h0
  · exact errS_wt (2, 2, false, 0) (6, 7, true, 4) (by decide) (by decide) h4 (by decide) (by decide +kernel)
  · exact errS_wt (6, 7, true, 4) (12, 12, false, 1) (by decide) (by decide) h1 (by decide) (by decide +kernel)
theorem ex_fit : StepsFit 0 4 (((3 - 2 : Int) : Rat) / ((6 - 2 : Int) : Rat)) := by
  have e : (((3 - 2 : Int) : Rat) / ((6 - 2 : Int) : Rat)) = 1 / 4 := by decide +kernel
  rw [e]
  exact ⟨fits_of _ 1 2 (by decide +kernel) (by decide) (by decide) (by decide), fits_of _ 5 2 (by decide +kernel) (by decide) (by decide) (by decide), fits_of _ 1 16 (by decide +kernel) (by decide) (by decide) (by decide), fits_of _ 5 32 (by decide +kernel) (by decide) (by decide) (by decide), fits_of _ 4 1 (by decide +kernel) (by decide) (by decide) (by decide), fits_of _ 5 8 (by decide +kernel) (by decide) (by decide) (by decide), fits_of _ 5 8 (by decide +kernel) (by decide) (by decide) (by decide)⟩
theorem curW_wt (a b : Qw) (t : Int) (hf : StepsFit a.2.2.2 b.2.2.2 (((t - a.2.1 : Int) : Rat) / ((b.1 - a.2.1 : Int) : Rat))) : curW (toWt a) (toWt b) t = (curveQ a.2.2.2 b.2.2.2 (((t - a.2.1 : Int) : Rat) / ((b.1 - a.2.1 : Int) : Rat)), 0) := by
  unfold curW
  rw [toWt_h, toWt_h]
  exact if_pos hf
theorem ex_at3 : atQ exL 3 = (5 / 8, 0) := by
  have h1 : (0 : Nat) + 1 < exL.length := by show 0 + 1 < 3; omega
  have h := atQ_in (k := 0) (t := 3) ex_snd h1 (show (2 : Int) < 3 by decide) (show (3 : Int) < 6 by decide)
  rw [h]
  show curW (toWt (2, 2, false, 0)) (toWt (6, 7, true, 4)) 3 = _
  rw [curW_wt _ _ _ ex_fit]
  have : curveQ 0 4 (((3 - 2 : Int) : Rat) / ((6 - 2 : Int) : Rat)) = 5 / 8 := by decide +kernel
  exact congrArg (fun r : Rat => (r, (0 : Int))) this
theorem ex_at7 : atQ exL 7 = (4, 0) := by
  have h1 : (1 : Nat) < exL.length := by show 1 < 3; omega
  rw [atQ_on (k := 1) (t := 7) ex_snd h1 (show (6 : Int) ≤ 7 by decide) (show (7 : Int) ≤ 7 by decide)]
  exact congrArg (fun r : Rat => (r, (0 : Int))) (toWt_h (6, 7, true, 4))
end Go.Proofs.Ytcibbnphkpaifaa
