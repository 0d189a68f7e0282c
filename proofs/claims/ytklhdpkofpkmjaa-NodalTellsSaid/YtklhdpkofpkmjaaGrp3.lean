/- DoodsonGroup: the plain law of sums of turns, and all its ways together. -/
import Derived.Test.YtklhdpkofpkmjaaGrp2
namespace Go.Proofs.Ytklhdpkofpkmjaa
open Go.RowKit
/-- The turn's units of numbers at some angles. -/
def du (f u : Nat → Int) : Nat := (dsum f u 6 % 3600000000).toNat
theorem du_lt (f u : Nat → Int) : du f u < 3600000000 := by unfold du; omega
theorem dsum_add (f g u : Nat → Int) (k : Nat) : dsum (op95 f g) u k = dsum f u k + dsum g u k := by
  induction k with
  | zero => rfl
  | succ k ih => simp only [dsum, op95, ih, Int.add_mul]; omega
theorem dsum_sub (f g u : Nat → Int) (k : Nat) : dsum (op96 f g) u k = dsum f u k - dsum g u k := by
  induction k with
  | zero => rfl
  | succ k ih => simp only [dsum, op96, ih, Int.sub_mul]; omega
theorem dsum_neg (f g u : Nat → Int) (k : Nat) : dsum (op97 f g) u k = - dsum f u k := by
  induction k with
  | zero => rfl
  | succ k ih => simp only [dsum, op97, ih, Int.neg_mul]; omega
theorem du_add (f g u : Nat → Int) : (du f u + du g u) % 3600000000 = du (op95 f g) u := by unfold du; rw [dsum_add]; omega
theorem du_sub (f g u : Nat → Int) : (du f u + (3600000000 - du g u) % 3600000000) % 3600000000 = du (op96 f g) u := by unfold du; rw [dsum_sub]; omega
theorem du_neg (f g u : Nat → Int) : (3600000000 - du f u) % 3600000000 = du (op97 f g) u := by unfold du; rw [dsum_neg]; omega
theorem dsum_next (f : Nat → Int) (t : Int) (k : Nat) : dsum f (unitAt (t + 1)) k % 3600000000 = (dsum f (unitAt t) k + dsum f rowAdds k) % 3600000000 := by
  induction k with
  | zero => rfl
  | succ k ih =>
    have h : unitAt (t + 1) k = (unitAt t k + rowAdds k) % 3600000000 := by
      have := unit_next k t 1
      rw [Int.mul_one] at this
      exact this
    simp only [dsum]
    rw [h, Int.add_emod, ih, ← Int.add_emod, Int.add_emod, Int.mul_emod, Int.emod_emod, ← Int.mul_emod, ← Int.add_emod, Int.mul_add]
    congr 1
    omega
theorem du_next (f : Nat → Int) (t : Int) : (du f (unitAt t) + du f rowAdds) % 3600000000 = du f (unitAt (t + 1)) := by
  have := dsum_next f t 6
  unfold du
  omega
theorem phase_du (f : Nat → Int) (t : Int) (w : World) (h : Good f) (h0 : 0 ≤ t) (h1 : t ≤ 1048576) :
    Calls Try.prog 40 #[.agg #[.int .i8 (f 0), .int .i8 (f 1), .int .i8 (f 2), .int .i8 (f 3), .int .i8 (f 4), .int .i8 (f 5)], .int .i64 t] w fun e w' => e = .returned (.tuple #[.agg (turnV (du f (unitAt t)) 3600000000), .int .i64 0]) ∧ Below w.heap.size w w' := phase_ok f t w h h0 h1
theorem phase_bad (f : Nat → Int) (t : Int) (h : ¬ (Good f ∧ 0 ≤ t ∧ t ≤ 1048576)) : ∃ e1 : Int, e1 ≠ 0 ∧ ∀ wx : World,
    Calls Try.prog 40 #[.agg #[.int .i8 (f 0), .int .i8 (f 1), .int .i8 (f 2), .int .i8 (f 3), .int .i8 (f 4), .int .i8 (f 5)], .int .i64 t] wx fun e w' => e = .returned (.tuple #[.agg #[.int .i64 0, .int .i64 0], .int .i64 e1]) ∧ Below wx.heap.size wx w' := by
  by_cases hf : Good f
  · exact ⟨2, by decide, fun wx => (phase_no f t wx h).mono fun e w' ⟨e1, he, ⟨hg, _⟩, hb⟩ => by rw [hg hf] at he; exact ⟨he, hb⟩⟩
  · exact ⟨210, by decide, fun wx => (phase_no f t wx h).mono fun e w' ⟨e1, he, ⟨_, hg⟩, hb⟩ => by rw [hg hf] at he; exact ⟨he, hb⟩⟩
theorem phase_some (f : Nat → Int) (t : Int) : ∃ x y e1 : Int, ∀ wx : World,
    Calls Try.prog 40 #[.agg #[.int .i8 (f 0), .int .i8 (f 1), .int .i8 (f 2), .int .i8 (f 3), .int .i8 (f 4), .int .i8 (f 5)], .int .i64 t] wx fun e w' => e = .returned (.tuple #[.agg #[.int .i64 x, .int .i64 y], .int .i64 e1]) ∧ Below wx.heap.size wx w' := by
  by_cases h : Good f ∧ 0 ≤ t ∧ t ≤ 1048576
  · obtain ⟨x, y, e1⟩ := turnV_two (du f (unitAt t)) 3600000000
    exact ⟨x, y, 0, fun wx => by have := phase_du f t wx h.1 h.2.1 h.2.2; rw [e1] at this; exact this⟩
  · obtain ⟨e1, _, hc⟩ := phase_bad f t h
    exact ⟨0, 0, e1, hc⟩
set_option maxHeartbeats 800000 in
set_option maxRecDepth 100000 in
theorem group_a (f g : Nat → Int) (t : Int) (w : World) (h : ¬ (Good f ∧ 0 ≤ t ∧ t ≤ 1048576)) :
    Calls Try.prog 8 #[.agg #[.int .i8 (f 0), .int .i8 (f 1), .int .i8 (f 2), .int .i8 (f 3), .int .i8 (f 4), .int .i8 (f 5)], .agg #[.int .i8 (g 0), .int .i8 (g 1), .int .i8 (g 2), .int .i8 (g 3), .int .i8 (g 4), .int .i8 (g 5)], .int .i64 t] w fun e w' => e = .returned (.bool true) ∧ Below w.heap.size w w' := by
  obtain ⟨e1, he, hp⟩ := phase_bad f t h
  obtain ⟨x2, y2, e2, hq⟩ := phase_some g t
  have HP := hide_ hp
  have HQ := hide_ hq
  have he1 : (e1 != 0) = true := by rw [bne_iff_ne]; exact he
  have M0 := (Mem.nil_ w).alloc #[.int .i8 (f 0), .int .i8 (f 1), .int .i8 (f 2), .int .i8 (f 3), .int .i8 (f 4), .int .i8 (f 5)] 54
  clear hp hq he h
  go_enter Try.func8, Try.ntmps8
  go_wp2_with (first
    | (go_at_call 39; (with_reducible refine (lives11 _).mono ?_); rintro e w1 ⟨rfl, hb1⟩; have M1 : Hid (Mem [(w.heap.size + 1, #[.int .i8 (g 0), .int .i8 (g 1), .int .i8 (g 2), .int .i8 (g 3), .int .i8 (g 4), .int .i8 (g 5)], 54), (w.heap.size, #[.int .i8 (f 0), .int .i8 (f 1), .int .i8 (f 2), .int .i8 (f 3), .int .i8 (f 4), .int .i8 (f 5)], 54)] w1) := hide_ (by have := M0.step hb1; simpa using this); have hF1 := M1.out.at_ 1 rfl)
    | (go_at_call 40; (with_reducible refine (HP.out _).mono ?_); rintro e w2 ⟨rfl, hb2⟩; have M2 := hide_ (M1.out.below hb2); have hG2 := M2.out.at_ 0 rfl)
    | (go_at_call 40; (with_reducible refine (HQ.out _).mono ?_); rintro e w3 ⟨rfl, hb3⟩; have M3 := hide_ (M2.out.step hb3); have hP3 := M3.out.at_ 0 rfl)
    | ((with_reducible apply wpList_load_row (hu := Try.underlying54)); (with_reducible rfl); (with_reducible rfl); rfl; (first | assumption | exact heap_alloc_last _ _ | exact heap_past (by assumption)); rfl; kernel_rfl)
    | ((with_reducible apply wpList_load_row (hu := Try.underlying35)); (with_reducible rfl); (with_reducible rfl); rfl; (first | assumption | exact heap_alloc_last _ _ | exact heap_past (by assumption)); rfl; kernel_rfl))
  go_ret
  refine ⟨rfl, ?_⟩
  have hg4 := (((((Grew.refl w).alloc (.cells #[.int .i8 (f 0), .int .i8 (f 1), .int .i8 (f 2), .int .i8 (f 3), .int .i8 (f 4), .int .i8 (f 5)] 54)).alloc (.cells #[.int .i8 (g 0), .int .i8 (g 1), .int .i8 (g 2), .int .i8 (g 3), .int .i8 (g 4), .int .i8 (g 5)] 54)).step hb1).step hb2).alloc (.cells #[.int .i64 0, .int .i64 0] 35)
  exact Grew.below (by repeat (first | exact Grew.refl _ | assumption | refine Grew.alloc ?_ _ | refine Grew.drewN ?_ _ | refine Grew.drew ?_ | refine Grew.setRow ?_ (by first | assumption | (simp; done) | (simp; omega) | omega) _ | refine Grew.setCell ?_ (by first | assumption | (simp; done) | (simp; omega) | omega) _ | refine Grew.step ?_ (by assumption)))
set_option maxHeartbeats 800000 in
set_option maxRecDepth 100000 in
theorem group_b (f g : Nat → Int) (t : Int) (w : World) (h : Good f ∧ 0 ≤ t ∧ t ≤ 1048576) (hg : ¬ Good g) :
    Calls Try.prog 8 #[.agg #[.int .i8 (f 0), .int .i8 (f 1), .int .i8 (f 2), .int .i8 (f 3), .int .i8 (f 4), .int .i8 (f 5)], .agg #[.int .i8 (g 0), .int .i8 (g 1), .int .i8 (g 2), .int .i8 (g 3), .int .i8 (g 4), .int .i8 (g 5)], .int .i64 t] w fun e w' => e = .returned (.bool true) ∧ Below w.heap.size w w' := by
  obtain ⟨e2, he, hq⟩ := phase_bad g t (fun hh => hg hh.1)
  have hp := fun wx => phase_du f t wx h.1 h.2.1 h.2.2
  obtain ⟨x1, y1, e1⟩ := turnV_two (du f (unitAt t)) 3600000000
  rw [e1] at hp
  have HP := hide_ hp
  have HQ := hide_ hq
  have he1 : (e2 != 0) = true := by rw [bne_iff_ne]; exact he
  have M0 := (Mem.nil_ w).alloc #[.int .i8 (f 0), .int .i8 (f 1), .int .i8 (f 2), .int .i8 (f 3), .int .i8 (f 4), .int .i8 (f 5)] 54
  clear hp hq he h hg e1
  go_enter Try.func8, Try.ntmps8
  go_wp2_with (first
    | (go_at_call 39; (with_reducible refine (lives11 _).mono ?_); rintro e w1 ⟨rfl, hb1⟩; have M1 : Hid (Mem [(w.heap.size + 1, #[.int .i8 (g 0), .int .i8 (g 1), .int .i8 (g 2), .int .i8 (g 3), .int .i8 (g 4), .int .i8 (g 5)], 54), (w.heap.size, #[.int .i8 (f 0), .int .i8 (f 1), .int .i8 (f 2), .int .i8 (f 3), .int .i8 (f 4), .int .i8 (f 5)], 54)] w1) := hide_ (by have := M0.step hb1; simpa using this); have hF1 := M1.out.at_ 1 rfl)
    | (go_at_call 40; (with_reducible refine (HP.out _).mono ?_); rintro e w2 ⟨rfl, hb2⟩; have M2 := hide_ (M1.out.below hb2); have hG2 := M2.out.at_ 0 rfl)
    | (go_at_call 40; (with_reducible refine (HQ.out _).mono ?_); rintro e w3 ⟨rfl, hb3⟩; have M3 := hide_ (M2.out.step hb3); have hP3 := M3.out.at_ 0 rfl)
    | ((with_reducible apply wpList_load_row (hu := Try.underlying54)); (with_reducible rfl); (with_reducible rfl); rfl; (first | assumption | exact heap_alloc_last _ _ | exact heap_past (by assumption)); rfl; kernel_rfl)
    | ((with_reducible apply wpList_load_row (hu := Try.underlying35)); (with_reducible rfl); (with_reducible rfl); rfl; (first | assumption | exact heap_alloc_last _ _ | exact heap_past (by assumption)); rfl; kernel_rfl))
  all_goals
    go_ret
    refine ⟨by simp, ?_⟩
    have hg4 := (((((Grew.refl w).alloc (.cells #[.int .i8 (f 0), .int .i8 (f 1), .int .i8 (f 2), .int .i8 (f 3), .int .i8 (f 4), .int .i8 (f 5)] 54)).alloc (.cells #[.int .i8 (g 0), .int .i8 (g 1), .int .i8 (g 2), .int .i8 (g 3), .int .i8 (g 4), .int .i8 (g 5)] 54)).step hb1).step hb2).alloc (.cells #[.int .i64 x1, .int .i64 y1] 35)
    exact Grew.below (by repeat (first | exact Grew.refl _ | assumption | refine Grew.alloc ?_ _ | refine Grew.drewN ?_ _ | refine Grew.drew ?_ | refine Grew.setRow ?_ (by first | assumption | (simp; done) | (simp; omega) | omega) _ | refine Grew.setCell ?_ (by first | assumption | (simp; done) | (simp; omega) | omega) _ | refine Grew.step ?_ (by assumption)))
end Go.Proofs.Ytklhdpkofpkmjaa
