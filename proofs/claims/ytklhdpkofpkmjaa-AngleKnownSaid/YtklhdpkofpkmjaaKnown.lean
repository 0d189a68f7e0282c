/- AngleKnown: the document's table and examples of chapter 10. -/
import Derived.Test.YtklhdpkofpkmjaaLunar
import Derived.Test.YtklhdpkofpkmjaaAng3
import Derived.Deep.RegionHeld3
namespace Go.Proofs.Ytklhdpkofpkmjaa
open Go.RowKit
theorem speed5 : turnV (rowAdds 5).toNat 3600000000 = #[.int .i64 1, .int .i64 180000000] := by kernel_rfl
theorem speed1 : turnV (rowAdds 1).toNat 3600000000 = #[.int .i64 366011, .int .i64 240000000] := by kernel_rfl
theorem find_row (k : Nat) (hk : k < 6) : findFrom (rowName k) 0 = some k := by
  rcases (show k = 0 ∨ k = 1 ∨ k = 2 ∨ k = 3 ∨ k = 4 ∨ k = 5 by omega) with rfl | rfl | rfl | rfl | rfl | rfl <;> decide +kernel
theorem find_Sun : findFrom ⟨#[83, 117, 110]⟩ 0 = none := by decide +kernel
theorem find_at (k : Nat) (hk : k < 6) (w : World) : Calls Try.prog 18 #[.string (rowName k)] w fun e w' => e = .returned (.tuple #[.int .i64 (k : Int), .bool true]) ∧ Below w.heap.size w w' := by
  have h := find_ok (rowName k) w
  rw [find_row k hk] at h
  exact h
theorem find_sun (w : World) : Calls Try.prog 18 #[.string ⟨#[83, 117, 110]⟩] w fun e w' => e = .returned (.tuple #[.int .i64 0, .bool false]) ∧ Below w.heap.size w w' := by
  have h := find_ok ⟨#[83, 117, 110]⟩ w
  rw [find_Sun] at h
  exact h
theorem unit_zero (k : Nat) : unit k 0 = rowFirst k := by have := first_bd k; unfold unit; simp; omega
theorem unit_one (k : Nat) : unit k 1 = (rowFirst k + rowAdds k) % 3600000000 := by unfold unit; simp
theorem units_at0 (k : Nat) (hk : k < 6) (w : World) : Calls Try.prog 19 #[.int .i64 (k : Int), .int .i64 0] w fun e w' => e = .returned (.tuple #[.int .i64 (rowFirst k), .int .i64 0]) ∧ Below w.heap.size w w' := by
  have h := units_ok k 0 w hk (by omega) (by omega)
  rw [unit_zero] at h
  exact h
theorem units_at1 (k : Nat) (hk : k < 6) (w : World) : Calls Try.prog 19 #[.int .i64 (k : Int), .int .i64 1] w fun e w' => e = .returned (.tuple #[.int .i64 ((rowFirst k + rowAdds k) % 3600000000), .int .i64 0]) ∧ Below w.heap.size w w' := by
  have h := units_ok k 1 w hk (by omega) (by omega)
  rw [unit_one] at h
  exact h
theorem speed_at5 (w : World) : Calls Try.prog 21 #[.int .i64 5] w fun e w' => e = .returned (.tuple #[.agg #[.int .i64 1, .int .i64 180000000], .int .i64 0]) ∧ Below w.heap.size w w' := by
  have h := speed_ok 5 w (by omega)
  rw [speed5] at h
  exact h
theorem speed_at1 (w : World) : Calls Try.prog 21 #[.int .i64 1] w fun e w' => e = .returned (.tuple #[.agg #[.int .i64 366011, .int .i64 240000000], .int .i64 0]) ∧ Below w.heap.size w w' := by
  have h := speed_ok 1 w (by omega)
  rw [speed1] at h
  exact h
structure Tab (B : Nat) (w : World) : Prop where
  names : ∀ j, j < 6 → w.cell? ⟨B, j, none⟩ = some (.string (rowName j))
  firsts : ∀ j, j < 6 → w.cell? ⟨B + 1, j, none⟩ = some (.int .i64 (rowFirst j))
  adds : ∀ j, j < 6 → w.cell? ⟨B + 1 + 1, j, none⟩ = some (.int .i64 (rowAdds j))
  size : B + 3 ≤ w.heap.size
theorem Tab.below {B : Nat} {w w' : World} (h : Tab B w) (hb : Below w.heap.size w w') : Tab B w' :=
  ⟨fun j hj => (hb.cell (p := ⟨B, j, none⟩) (by have := h.size; simp; omega)).trans (h.names j hj), fun j hj => (hb.cell (p := ⟨B + 1, j, none⟩) (by have := h.size; simp; omega)).trans (h.firsts j hj),
   fun j hj => (hb.cell (p := ⟨B + 1 + 1, j, none⟩) (by have := h.size; simp; omega)).trans (h.adds j hj), Nat.le_trans h.size hb.size⟩
theorem six {P : Nat → Prop} (h0 : P 0) (h1 : P 1) (h2 : P 2) (h3 : P 3) (h4 : P 4) (h5 : P 5) : ∀ j, j < 6 → P j := by
  intro j hj
  rcases (show j = 0 ∨ j = 1 ∨ j = 2 ∨ j = 3 ∨ j = 4 ∨ j = 5 by omega) with rfl | rfl | rfl | rfl | rfl | rfl <;> assumption
set_option maxRecDepth 100000 in
set_option maxHeartbeats 4000000 in
theorem known (w : World) : Calls Try.prog 4 #[] w fun e w' => e = .returned (.bool true) ∧ Below w.heap.size w w' := by
  go_enter Try.func4, Try.ntmps4
  go_wp2
  go_loopw [4] (fun i wr => ∃ k : Nat, k ≤ 6 ∧ i = .int .i64 k ∧ Tab w.heap.size wr ∧ Below w.heap.size w wr) (fun i _ => 6 - (intOf i).toNat)
  case atStart =>
    refine ⟨0, by omega, rfl, ⟨?_, ?_, ?_, by simp⟩, by (repeat (first | exact Below.refl _ _ | assumption | refine Below.setCell ?_ (by first | assumption | (simp; done) | (simp; omega) | omega) _ | refine below_drewN ?_ _ | refine Below.drew ?_ | refine Below.alloc ?_ (by first | assumption | (simp; done) | (simp; omega) | omega) _))⟩
    · refine six ?_ ?_ ?_ ?_ ?_ ?_ <;> simp [go_sem, rowName]
    · refine six ?_ ?_ ?_ ?_ ?_ ?_ <;> simp [go_sem, rowFirst]
    · refine six ?_ ?_ ?_ ?_ ?_ ?_ <;> simp [go_sem, rowAdds]
  case round =>
    obtain ⟨k, hk, rfl, ht, hbl⟩ := hrel
    by_cases hlt : k < 6
    · have hc1 := ht.names k hlt
      have hsz := hbl.size
      have f1 := first_bd k
      have a1 := adds_bd k
      go_wp2_with (first
        | (go_at_call 18; refine (find_at k hlt _).mono ?_; rintro e w1 ⟨rfl, hb1⟩)
        | (go_at_call 19; (with_reducible refine (units_at0 k hlt _).mono ?_); rintro e w2 ⟨rfl, hb2⟩)
        | (go_at_call 19; (with_reducible refine (units_at1 k hlt _).mono ?_); rintro e w3 ⟨rfl, hb3⟩))
      have ht3 := ((ht.below hb1).below hb2).below hb3
      have hs3 := ht3.size
      have hcN := ht3.names k hlt
      have hcF := ht3.firsts k hlt
      have hcA := ht3.adds k hlt
      have hk0 : (0 : Int) ≤ (k : Int) := by omega
      have hk6 : (k : Int) < 6 := by omega
      have e1 : IntKind.i64.wrap (rowFirst k + rowAdds k) = rowFirst k + rowAdds k := IntWalk.i64_in _ (by omega)
      have e2 : (rowFirst k + rowAdds k).tmod 3600000000 = (rowFirst k + rowAdds k) % 3600000000 := Int.tmod_eq_emod_of_nonneg (by omega)
      have e3 : IntKind.i64.wrap ((rowFirst k + rowAdds k) % 3600000000) = (rowFirst k + rowAdds k) % 3600000000 := IntWalk.i64_in _ (by omega)
      go_region_held3 (fun w' => w'.cell? ⟨w.heap.size, k, none⟩ = some (.string (rowName k)) ∧ w'.cell? ⟨w.heap.size + 1, k, none⟩ = some (.int .i64 (rowFirst k)) ∧ w'.cell? ⟨w.heap.size + 1 + 1, k, none⟩ = some (.int .i64 (rowAdds k)))
        (first | go_keep | (go_split_ands; refine ⟨?_, ?_, ?_⟩ <;> (rw [(bcell hb4).1 _ _ (by simp; omega)]; assumption)))
        ((go_at_call 20; refine (name_ok k _ hlt).mono ?_; rintro e w4 ⟨rfl, hb4⟩))
      go_wp2
      have hb5 : Below w3.heap.size w3 w4 := ⟨hb4.os, hb4.tape, hb4.output, hb4.size, hb4.block⟩
      have hs1 := hb1.size
      have hs2 := hb2.size
      go_roundw
      case rel => exact ⟨k + 1, by omega, by go_num, ht3.below hb5, ((hbl.trans (hb1.mono hsz)).trans (hb2.mono (by omega))).trans ((hb3.mono (by omega)).trans (hb5.mono (by omega)))⟩
      case measure => simp [intOf]; omega
    · obtain rfl : k = 6 := by omega
      clear ht
      have hsz := hbl.size
      go_wp2_with (first
        | (go_at_call 21; (with_reducible refine (speed_at5 _).mono ?_); rintro e w1 ⟨rfl, hb1⟩)
        | (go_at_call 21; (with_reducible refine (speed_at1 _).mono ?_); rintro e w2 ⟨rfl, hb2⟩; obtain ⟨c0, c1, cl⟩ := blk2 hb2)
        | (go_at_call 19; (with_reducible refine (units_no 6 0 _ (by omega)).mono ?_); rintro e w' ⟨rfl, rfl⟩)
        | (go_at_call 19; (with_reducible refine (units_no 0 (-1) _ (by omega)).mono ?_); rintro e w' ⟨rfl, rfl⟩)
        | (go_at_call 19; (with_reducible refine (units_no 0 1048577 _ (by omega)).mono ?_); rintro e w' ⟨rfl, rfl⟩)
        | (go_at_call 22; (with_reducible refine (angle_no (-1) 0 _ (by omega)).mono ?_); rintro e w3 ⟨rfl, hb3⟩)
        | (go_at_call 21; (with_reducible refine (speed_no 6 _ (by omega)).mono ?_); rintro e w4 ⟨rfl, hb4⟩)
        | (go_at_call 18; (with_reducible refine (find_sun _).mono ?_); rintro e w5 ⟨rfl, hb5⟩)
        | (go_at_call 16; (with_reducible refine (awake10 _).mono ?_); rintro e w6 ⟨rfl, hb6⟩)
        | (go_at_call 20; (with_reducible refine (name_no 6 _ (by omega)).mono ?_); rintro e w' ⟨rfl, rfl⟩)
        | (go_at_call 20; (with_reducible refine (name_no (-1) _ (by omega)).mono ?_); rintro e w' ⟨rfl, rfl⟩))
      go_ret
      refine ⟨rfl, ?_⟩
      have hg0 : Grew w.heap.size w wr := ⟨hbl, hsz⟩
      exact Grew.below (by repeat (first | exact Grew.refl _ | assumption | refine Grew.alloc ?_ _ | refine Grew.drewN ?_ _ | refine Grew.drew ?_ | refine Grew.setRow ?_ (by first | assumption | (simp; done) | (simp; omega) | omega) _ | refine Grew.setCell ?_ (by first | assumption | (simp; done) | (simp; omega) | omega) _ | refine Grew.step ?_ (by assumption)))
end Go.Proofs.Ytklhdpkofpkmjaa
