/- AngleLunar: lunar time is the hour's fifteen degrees a tick, less the moon, and the sun: of every tick. -/
import Derived.Test.YtklhdpkofpkmjaaAng2
namespace Go.Proofs.Ytklhdpkofpkmjaa
open Go.RowKit

theorem turn_zero : turnV (unit 0 0).toNat 3600000000 = #[.int .i64 989, .int .i64 112500] := by kernel_rfl
theorem unit01 : unit 0 1 = 176568521 := by decide +kernel
theorem awake10 (w : World) : Calls Try.prog 16 #[] w fun e w' => e = .returned (.bool true) ∧ Below w.heap.size w w' := by
  have c1 := fun wx => units_ok 0 1 wx (by omega) (by omega) (by omega)
  have c2 := fun wx => angle_ok 0 0 wx (by omega) (by omega) (by omega)
  rw [turn_zero] at c2
  rw [unit01] at c1
  have C1 := hide_ c1
  have C2 := hide_ c2
  clear c1 c2
  go_enter Try.func16, Try.ntmps16
  go_wp2_with (first | (go_at_call 19; refine (C1.out _).mono ?_; rintro e w1 ⟨rfl, hb1⟩) | (go_at_call 22; refine (C2.out _).mono ?_; rintro e w2 ⟨rfl, hb2⟩))
  go_ret
  exact ⟨rfl, (hb1.trans (hb2.mono hb1.size)).trans ((Below.refl _ _).alloc (Nat.le_trans hb1.size hb2.size) _)⟩

theorem all_no (t : Int) (w : World) (h : t < 0 ∨ 1048576 < t) : Calls Try.prog 17 #[.int .i64 t] w fun e w' => e = .returned (.tuple #[.slice none 0 0, .int .i64 2]) ∧ w = w' := by
  have H := hide_ (show (0 : Int) < 0 ∨ (6 : Int) ≤ 0 ∨ t < 0 ∨ 1048576 < t by omega)
  clear h
  go_enter Try.func17, Try.ntmps17
  go_wp2_with (go_at_call 79; refine (asked_no _ _ _ H.out).mono ?_; rintro e w' ⟨rfl, rfl⟩)
  go_ret2
  exact ⟨rfl, rfl⟩

theorem lunar_no (t : Int) (w : World) (h : t < 0 ∨ 1048576 < t) : Calls Try.prog 3 #[.int .i64 t] w fun e w' => e = .returned (.bool true) ∧ Below w.heap.size w w' := by
  have H := hide_ h
  rcases h with h | h
  · go_enter Try.func3, Try.ntmps3
    go_wp2_with (first | (go_at_call 16; refine (awake10 _).mono ?_; rintro e w1 ⟨rfl, hb1⟩) | (go_at_call 17; refine (all_no _ _ H.out).mono ?_; rintro e w2 ⟨rfl, rfl⟩))
    go_ret
    exact ⟨rfl, hb1⟩
  · have h0 : 0 ≤ t := by omega
    go_enter Try.func3, Try.ntmps3
    go_wp2_with (first | (go_at_call 16; refine (awake10 _).mono ?_; rintro e w1 ⟨rfl, hb1⟩) | (go_at_call 17; refine (all_no _ _ H.out).mono ?_; rintro e w2 ⟨rfl, rfl⟩))
    go_ret
    exact ⟨rfl, hb1⟩
theorem lunar_law (t : Int) (_h0 : 0 ≤ t) : (0 ≤ (150000000 * t - unit 1 t + unit 2 t).tmod 3600000000 ∧ unit 0 t = (150000000 * t - unit 1 t + unit 2 t).tmod 3600000000) ∨
    ((150000000 * t - unit 1 t + unit 2 t).tmod 3600000000 < 0 ∧ unit 0 t = (150000000 * t - unit 1 t + unit 2 t).tmod 3600000000 + 3600000000) := by
  have e : unit 0 t = (150000000 * t - unit 1 t + unit 2 t) % 3600000000 := by simp only [unit, rowFirst, rowAdds]; omega
  have h1 := Int.tmod_add_mul_tdiv (150000000 * t - unit 1 t + unit 2 t) 3600000000
  have h2 := Int.lt_tmod_of_pos (150000000 * t - unit 1 t + unit 2 t) (show (0 : Int) < 3600000000 by omega)
  have h3 := Int.tmod_lt_of_pos (150000000 * t - unit 1 t + unit 2 t) (show (0 : Int) < 3600000000 by omega)
  omega
theorem cells6 {w : World} {base g cap : Nat} {f : Nat → Int} (h : w.ownsRow base 2 1 (.slice (some ⟨g, 0, none⟩) 6 cap) 6 ((List.range 6).map fun k => Value.int .i64 (f k))) (j : Nat) (hj : j < 6) :
    w.cell? ⟨g, j, none⟩ = some (.int .i64 (f j)) := by
  rw [h.cellAt j (by omega)]
  simp [hj]
set_option maxRecDepth 100000 in
theorem lunar_ok (t : Int) (w : World) (h0 : 0 ≤ t) (h1 : t ≤ 1048576) : Calls Try.prog 3 #[.int .i64 t] w fun e w' => e = .returned (.bool true) ∧ Below w.heap.size w w' := by
  have u0 := unit_bd 0 t
  have u1 := unit_bd 1 t
  have u2 := unit_bd 2 t
  rcases lunar_law t h0 with ⟨hx, he⟩ | ⟨hx, he⟩
  all_goals
    have he := beq_iff_eq.2 he
    go_enter Try.func3, Try.ntmps3
    go_wp2_with (first | (go_at_call 16; refine (awake10 _).mono ?_; rintro e w1 ⟨rfl, hb1⟩) | (go_at_call 17; refine (all_ok _ _ h0 h1).mono ?_; rintro e w2 ⟨v, rfl, hown, hb2⟩; obtain ⟨g, cap, rfl, _, _⟩ := hown.form (by decide); have hc0 := cells6 hown 0 (by decide); have hc1 := cells6 hown 1 (by decide); have hc2 := cells6 hown 2 (by decide)))
    go_quiet (fail)
    go_wp2
    go_ret
    exact ⟨rfl, below_drewN (hb1.trans (hb2.mono hb1.size)) _⟩
theorem lunar_walk (t : Int) (_wf : (Lit.int .i64 t).wf = true) (w : World) : Calls Try.prog 3 #[.int .i64 t] w fun e w' => e = .returned (.bool true) ∧ Below w.heap.size w w' := by
  by_cases h : t < 0 ∨ 1048576 < t
  · exact lunar_no t w h
  · exact lunar_ok t w (by omega) (by omega)
end Go.Proofs.Ytklhdpkofpkmjaa
