/- Contracts of package doodson: Check, sum, Phase. -/
import Derived.Test.YtklhdpkofpkmjaaGoes
import Derived.Deep.RegionWith
namespace Go.Proofs.Ytklhdpkofpkmjaa
open Go.RowKit
theorem six_cases {P : Nat → Prop} (h0 : P 0) (h1 : P 1) (h2 : P 2) (h3 : P 3) (h4 : P 4) (h5 : P 5) (j : Nat) (hj : j < 6) : P j := by
  rcases (show j = 0 ∨ j = 1 ∨ j = 2 ∨ j = 3 ∨ j = 4 ∨ j = 5 by omega) with rfl | rfl | rfl | rfl | rfl | rfl <;> assumption
theorem ar_index (f : Nat → Int) (k : Nat) (hk : k < 6) (w : World) : (Instr.index 54 (.agg #[.int .i8 (f 0), .int .i8 (f 1), .int .i8 (f 2), .int .i8 (f 3), .int .i8 (f 4), .int .i8 (f 5)]) (.int .i64 (k : Int))).run Try.prog w = .ok (.int .i8 (f k)) w := by
  rcases (show k = 0 ∨ k = 1 ∨ k = 2 ∨ k = 3 ∨ k = 4 ∨ k = 5 by omega) with rfl | rfl | rfl | rfl | rfl | rfl <;> kernel_rfl
/-- Numbers that may be. -/
def Good (f : Nat → Int) : Prop := ∀ j, j < 6 → -4 ≤ f j ∧ f j ≤ 4
theorem dcheck_ok (f : Nat → Int) (w : World) (h : Good f) :
    Calls Try.prog 55 #[.agg #[.int .i8 (f 0), .int .i8 (f 1), .int .i8 (f 2), .int .i8 (f 3), .int .i8 (f 4), .int .i8 (f 5)]] w fun e w' => e = .returned (.int .i64 0) ∧ Below w.heap.size w w' := by
  have H := hide_ h
  clear h
  go_enter Try.func55, Try.ntmps55
  go_wp2
  go_loop [6] (fun i => ∃ k : Nat, k ≤ 6 ∧ i = .int .i64 k) (fun i => 6 - (intOf i).toNat)
  case atStart => exact ⟨0, by omega, rfl⟩
  case round =>
    obtain ⟨k, hk, rfl⟩ := hrel
    by_cases hlt : k < 6
    · have hi := ar_index f k hlt
      have h1 := (H.out k hlt).1
      have h2 := (H.out k hlt).2
      go_wp2
      go_round
      case rel => exact ⟨k + 1, by omega, by go_num⟩
      case measure => simp [intOf]; omega
    · obtain rfl : k = 6 := by omega
      go_wp2
      go_ret
      exact ⟨rfl, by (repeat (first | exact Below.refl _ _ | assumption | refine Below.setCell ?_ (by first | assumption | (simp; done) | (simp; omega) | omega) _ | refine below_drewN ?_ _ | refine Below.drew ?_ | refine Below.alloc ?_ (by first | assumption | (simp; done) | (simp; omega) | omega) _))⟩
theorem dcheck_no (f : Nat → Int) (w : World) (h : ¬ Good f) :
    Calls Try.prog 55 #[.agg #[.int .i8 (f 0), .int .i8 (f 1), .int .i8 (f 2), .int .i8 (f 3), .int .i8 (f 4), .int .i8 (f 5)]] w fun e w' => e = .returned (.int .i64 210) ∧ Below w.heap.size w w' := by
  have H := hide_ h
  clear h
  go_enter Try.func55, Try.ntmps55
  go_wp2
  go_loop [6] (fun i => ∃ k : Nat, k ≤ 6 ∧ i = .int .i64 k ∧ Hid (∀ j, j < k → -4 ≤ f j ∧ f j ≤ 4)) (fun i => 6 - (intOf i).toNat)
  case atStart => exact ⟨0, by omega, rfl, hide_ (fun j hj => by omega)⟩
  case round =>
    obtain ⟨k, hk, rfl, hgd⟩ := hrel
    by_cases hlt : k < 6
    · have hi := ar_index f k hlt
      by_cases h1 : f k < -4
      · go_wp2
        go_ret
        exact ⟨rfl, by (repeat (first | exact Below.refl _ _ | assumption | refine Below.setCell ?_ (by first | assumption | (simp; done) | (simp; omega) | omega) _ | refine below_drewN ?_ _ | refine Below.drew ?_ | refine Below.alloc ?_ (by first | assumption | (simp; done) | (simp; omega) | omega) _))⟩
      · have h1 : -4 ≤ f k := by omega
        by_cases h2 : 4 < f k
        · go_wp2
          go_ret
          exact ⟨rfl, by (repeat (first | exact Below.refl _ _ | assumption | refine Below.setCell ?_ (by first | assumption | (simp; done) | (simp; omega) | omega) _ | refine below_drewN ?_ _ | refine Below.drew ?_ | refine Below.alloc ?_ (by first | assumption | (simp; done) | (simp; omega) | omega) _))⟩
        · have h2 : f k ≤ 4 := by omega
          have hgd2 : Hid (∀ j, j < k + 1 → -4 ≤ f j ∧ f j ≤ 4) := hide_ (fun j hj => by
            rcases Nat.lt_succ_iff_lt_or_eq.1 hj with hj | rfl
            · exact hgd.out j hj
            · exact ⟨h1, h2⟩)
          go_wp2
          go_round
          case rel => exact ⟨k + 1, by omega, by go_num, hgd2⟩
          case measure => simp [intOf]; omega
    · obtain rfl : k = 6 := by omega
      exact absurd hgd.out H.out
/-- The sum of the numbers' angles, the first k of them. -/
def dsum (f u : Nat → Int) : Nat → Int
  | 0 => 0
  | k + 1 => dsum f u k + f k * u k
theorem dmul_bd (x u : Int) (h : -4 ≤ x ∧ x ≤ 4) (hu : 0 ≤ u ∧ u ≤ 3600000000) : -14400000000 ≤ x * u ∧ x * u ≤ 14400000000 := by
  rcases (show x = -4 ∨ x = -3 ∨ x = -2 ∨ x = -1 ∨ x = 0 ∨ x = 1 ∨ x = 2 ∨ x = 3 ∨ x = 4 by omega) with rfl | rfl | rfl | rfl | rfl | rfl | rfl | rfl | rfl <;> omega
theorem dsum_bd (f u : Nat → Int) (h : Good f) (hu : ∀ j, j < 6 → 0 ≤ u j ∧ u j ≤ 3600000000) (k : Nat) (hk : k ≤ 6) : -14400000000 * k ≤ dsum f u k ∧ dsum f u k ≤ 14400000000 * k := by
  induction k with
  | zero => simp [dsum]
  | succ k ih =>
    have h1 := ih (by omega)
    have h2 := dmul_bd (f k) (u k) (h k (by omega)) (hu k (by omega))
    simp only [dsum]
    omega
theorem heap_at2 (w : World) (o1 o2 o3 : Obj) : (((w.alloc o1).alloc o2).alloc o3).heap[w.heap.size + 1 + 1]? = some o3 := by
  have e : ((w.alloc o1).alloc o2).heap.size = w.heap.size + 1 + 1 := by simp
  rw [← e]
  exact heap_alloc_last _ _
theorem lt_of_heap {w : World} {g : Nat} {o : Obj} (h : w.heap[g]? = some o) : g < w.heap.size := by
  rcases Nat.lt_or_ge g w.heap.size with hlt | hge
  · exact hlt
  · rw [Array.getElem?_eq_none hge] at h; cases h
/-- Six whole numbers in a block. -/
def U6 (g : Nat) (u : Nat → Int) (w : World) : Prop := ∀ j, j < 6 → w.cell? ⟨g, j, none⟩ = some (.int .i64 (u j))
theorem dsum_ok (f u : Nat → Int) (w : World) (h : Good f) (hu : ∀ j, j < 6 → 0 ≤ u j ∧ u j ≤ 3600000000) :
    Calls Try.prog 93 #[.agg #[.int .i8 (f 0), .int .i8 (f 1), .int .i8 (f 2), .int .i8 (f 3), .int .i8 (f 4), .int .i8 (f 5)], .agg #[.int .i64 (u 0), .int .i64 (u 1), .int .i64 (u 2), .int .i64 (u 3), .int .i64 (u 4), .int .i64 (u 5)]] w fun e w' => e = .returned (.tuple #[.agg (turnV (dsum f u 6 % 3600000000).toNat 3600000000), .int .i64 0]) ∧ Below w.heap.size w w' := by
  have hc := fun wx => of_circle (dsum f u 6) wx
  obtain ⟨x, y, e1⟩ := turnV_two (dsum f u 6 % 3600000000).toNat 3600000000
  rw [e1] at hc ⊢
  have HC := hide_ hc
  have H := hide_ h
  have HU := hide_ hu
  clear hc e1 h hu
  go_enter Try.func93, Try.ntmps93
  go_wp2
  go_loopw [10, 6] (fun i s wr => ∃ k : Nat, k ≤ 6 ∧ i = .int .i64 k ∧ s = .int .i64 (dsum f u k) ∧ U6 (w.heap.size + 1) u wr ∧ wr.heap[w.heap.size + 1 + 1]? = some (.cells #[.int .i64 0, .int .i64 0] 35) ∧ Grew w.heap.size w wr) (fun i _ _ => 6 - (intOf i).toNat)
  case atStart =>
    refine ⟨0, by omega, rfl, rfl, fun j hj => ?_, ?_, ((Grew.refl w).alloc _).alloc _ |>.alloc _⟩
    · refine six_cases (P := fun j => World.cell? _ ⟨w.heap.size + 1, j, none⟩ = some (.int .i64 (u j))) ?_ ?_ ?_ ?_ ?_ ?_ j hj <;> simp [go_sem]
    · exact heap_at2 _ _ _ _
  case round =>
    obtain ⟨k, hk, rfl, rfl, hu6, hg, hgr⟩ := hrel
    have hb1 := dsum_bd f u H.out HU.out k (by omega)
    by_cases hlt : k < 6
    · have hi := ar_index f k hlt
      have hcell := hu6 k hlt
      have h1 := H.out k hlt
      have h2 := HU.out k hlt
      have h3 := dmul_bd (f k) (u k) h1 h2
      have hk0 : (0 : Int) ≤ (k : Int) := by omega
      have hk6 : (k : Int) < 6 := by omega
      have hg' := hide_ hg
      have hu' := hide_ hu6
      clear hg hu6
      go_wp2
      go_roundw
      case rel => exact ⟨k + 1, by omega, by go_num, rfl, hu'.out, hg'.out, hgr⟩
      case measure => simp [intOf]; omega
    · obtain rfl : k = 6 := by omega
      clear hu6
      go_wp2_with (first | (go_at_call 32; (with_reducible refine (HC.out _).mono ?_); rintro e w3 ⟨rfl, hb3⟩; have hg3 := (hb3.block _ (lt_of_heap hg)).trans hg) | ((with_reducible apply wpList_store_blk); (with_reducible rfl); (with_reducible rfl); rfl; assumption; rfl; kernel_rfl; rfl; kernel_rfl))
      refine ret_ct rfl _ 35 _ _ rfl (setRow_heap _ _ _ _ _ _ hg3) Try.underlying35 rfl (by kernel_rfl) rfl ⟨?_, ?_⟩
      · simp
      · exact Grew.below (by repeat (first | exact Grew.refl _ | assumption | refine Grew.alloc ?_ _ | refine Grew.drewN ?_ _ | refine Grew.drew ?_ | refine Grew.setRow ?_ (by first | assumption | (simp; done) | (simp; omega) | omega) _ | refine Grew.setCell ?_ (by first | assumption | (simp; done) | (simp; omega) | omega) _ | refine Grew.step ?_ (by assumption)))
end Go.Proofs.Ytklhdpkofpkmjaa
