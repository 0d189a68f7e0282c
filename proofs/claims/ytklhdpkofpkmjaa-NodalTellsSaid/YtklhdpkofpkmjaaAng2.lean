/- Contracts of package argument: Angle, Speed, All; the examples of chapter 10. -/
import Derived.Test.YtklhdpkofpkmjaaAng
import Derived.Test.YtklhdpkofpkmjaaFrac
namespace Go.Proofs.Ytklhdpkofpkmjaa
open Go.RowKit

theorem of_circle (part : Int) (w : World) : Calls Try.prog 32 #[.int .i64 part, .int .i64 3600000000] w fun e w' => e = .returned (.tuple #[.agg (turnV (part % 3600000000).toNat 3600000000), .int .i64 0]) ∧ Below w.heap.size w w' :=
  of_ok part (part % 3600000000).toNat 3600000000 w (by omega) (by omega) (by omega)
theorem turnV_two (p q : Nat) : ∃ x y : Int, turnV p q = #[.int .i64 x, .int .i64 y] := ⟨_, _, rfl⟩
theorem turnV_size (p q : Nat) : (turnV p q).size = 2 := rfl

theorem angle_ok (k : Nat) (t : Int) (w : World) (hk : k < 6) (h0 : 0 ≤ t) (h1 : t ≤ 1048576) :
    Calls Try.prog 22 #[.int .i64 (k : Int), .int .i64 t] w fun e w' => e = .returned (.tuple #[.agg (turnV (unit k t).toNat 3600000000), .int .i64 0]) ∧ Below w.heap.size w w' := by
  have hu : (unit k t % 3600000000).toNat = (unit k t).toNat := by have := unit_bd k t; omega
  have hc := fun wx => of_circle (unit k t) wx
  rw [hu] at hc
  have Hc := hide_ hc
  clear hc hu
  go_enter Try.func22, Try.ntmps22
  go_wp2_with (first | (go_at_call 19; refine (units_ok _ _ _ hk h0 h1).mono ?_; rintro e w1 ⟨rfl, hb1⟩) | (go_at_call 32; refine (Hc.out _).mono ?_; rintro e w2 ⟨rfl, hb2⟩; have hg1 := (hb2.block _ (Nat.lt_of_lt_of_le (by simp) hb1.size)).trans (blk_below hb1)) | ((with_reducible apply wpList_store_blk); (with_reducible rfl); (with_reducible rfl); rfl; assumption; rfl; kernel_rfl; rfl; kernel_rfl))
  refine ret_ct rfl _ 35 _ _ rfl (setRow_heap _ _ _ _ _ _ hg1) Try.underlying35 rfl (by kernel_rfl) rfl ⟨?_, ?_⟩
  · simp
  · refine below_setRow (Below.trans (Below.trans ?_ (hb1.mono (by simp))) (hb2.mono (Nat.le_trans (by simp) hb1.size))) (Nat.le_refl _) _
    (repeat (first | exact Below.refl _ _ | assumption | refine Below.setCell ?_ (by first | assumption | (simp; done) | (simp; omega) | omega) _ | refine below_drewN ?_ _ | refine Below.drew ?_ | refine Below.alloc ?_ (by first | assumption | (simp; done) | (simp; omega) | omega) _))

theorem info2 : (Try.prog.info? 2).map (fun i => (i.zero, i.size, i.bytes)) = some (some (.int .i64 0), 1, 8) := by kernel_rfl
set_option maxRecDepth 100000 in
theorem all_ok (t : Int) (w : World) (h0 : 0 ≤ t) (h1 : t ≤ 1048576) :
    Calls Try.prog 17 #[.int .i64 t] w fun e w' => ∃ v, e = .returned (.tuple #[v, .int .i64 0]) ∧ w'.ownsRow w.heap.size 2 1 v 6 ((List.range 6).map fun k => Value.int .i64 (unit k t)) ∧ Below w.heap.size w w' := by
  obtain ⟨i0, hi0, hz0, hz1, hz2⟩ := info_parts info2
  go_enter Try.func17, Try.ntmps17
  go_wp2_with (first | (go_at_call 79; refine (asked_ok _ _ _ (by omega) (by omega) h0 h1).mono ?_; rintro e w' ⟨rfl, rfl⟩) | (go_at_call 80; refine (rows_any _).mono ?_; rintro e w1 ⟨rfl, hb⟩))
  go_loopw [5, 15] (fun v i wr => ∃ k : Nat, k ≤ 6 ∧ i = .int .i64 k ∧ wr.ownsRow w.heap.size 2 1 v k ((List.range k).map fun k => Value.int .i64 (unit k t)) ∧ Below w.heap.size w wr) (fun _ i _ => 6 - (intOf i).toNat)
  case atStart => exact ⟨0, by omega, rfl, World.ownsRow_nil _ _ _ _, hb⟩
  case round =>
    obtain ⟨k, hk, rfl, hown, hbl⟩ := hrel
    by_cases hlt : k < 6
    · have hsz := hbl.size
      go_wp2_with (first
        | (go_at_call 19; refine (units_ok _ _ _ hlt h0 h1).mono ?_; rintro e w2 ⟨rfl, hb2⟩; have hown2 := own_below hown hb2)
        | (at_builtin; refine wpList_push rfl _ _ 23 rfl w.heap.size 2 i0 (.int .i64 0) 1 8 Try.underlying23 hi0 hz0 hz1 hz2 rfl (by decide) (by decide) _ _ _ rfl hown2 _ _ 1 1 rfl rfl (by kernel_rfl) (by omega) (by have := hb2.size; omega) ?_; intro v3 w3 hown3 hb3 _ _))
      go_roundw
      case rel => exact ⟨k + 1, by omega, by go_num, by simpa [List.range_succ] using hown3, (hbl.trans (hb2.mono hsz)).trans hb3⟩
      case measure => simp [intOf]; omega
    · obtain rfl : k = 6 := by omega
      go_wp2
      go_ret2
      exact ⟨_, rfl, hown, hbl⟩
end Go.Proofs.Ytklhdpkofpkmjaa
