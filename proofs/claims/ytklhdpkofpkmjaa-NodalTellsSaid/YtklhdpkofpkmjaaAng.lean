/- Contracts of package argument: the six angles' units, the turns, the list of all six. -/
import Derived.Test.YtklhdpkofpkmjaaTurn
namespace Go.Proofs.Ytklhdpkofpkmjaa
open Go.RowKit

theorem check_ok (t : Int) (w : World) (h0 : 0 ≤ t) (h1 : t ≤ 1048576) : Calls Try.prog 112 #[.int .i64 t] w fun e w' => e = .returned (.int .i64 0) ∧ w = w' := by
  go_enter Try.func112, Try.ntmps112
  go_wp2
  go_ret
  exact ⟨rfl, rfl⟩
theorem check_no (t : Int) (w : World) (h : t < 0 ∨ 1048576 < t) : Calls Try.prog 112 #[.int .i64 t] w fun e w' => e = .returned (.int .i64 2) ∧ w = w' := by
  rcases h with h | h
  · go_enter Try.func112, Try.ntmps112
    go_wp2
    go_ret
    exact ⟨rfl, rfl⟩
  · have h' : 0 ≤ t := by omega
    go_enter Try.func112, Try.ntmps112
    go_wp2
    go_ret
    exact ⟨rfl, rfl⟩

theorem asked_ok (k t : Int) (w : World) (hk : 0 ≤ k) (hk' : k < 6) (h0 : 0 ≤ t) (h1 : t ≤ 1048576) : Calls Try.prog 79 #[.int .i64 k, .int .i64 t] w fun e w' => e = .returned (.int .i64 0) ∧ w = w' := by
  go_enter Try.func79, Try.ntmps79
  go_wp2_with (go_at_call 112; refine (check_ok _ _ h0 h1).mono ?_; rintro e w' ⟨rfl, rfl⟩)
  go_ret
  exact ⟨rfl, rfl⟩
theorem asked_no (k t : Int) (w : World) (h : k < 0 ∨ 6 ≤ k ∨ t < 0 ∨ 1048576 < t) : Calls Try.prog 79 #[.int .i64 k, .int .i64 t] w fun e w' => e = .returned (.int .i64 2) ∧ w = w' := by
  by_cases h1 : k < 0
  · go_enter Try.func79, Try.ntmps79
    go_wp2
    go_ret
    exact ⟨rfl, rfl⟩
  by_cases h2 : 6 ≤ k
  · have h1 : 0 ≤ k := by omega
    go_enter Try.func79, Try.ntmps79
    go_wp2
    go_ret
    exact ⟨rfl, rfl⟩
  have h3 : 0 ≤ k := by omega
  have h4 : k < 6 := by omega
  have h5 : t < 0 ∨ 1048576 < t := by omega
  have H5 := hide_ h5
  clear h h1 h2 h5
  go_enter Try.func79, Try.ntmps79
  go_wp2_with (go_at_call 112; refine (check_no _ _ H5.out).mono ?_; rintro e w' ⟨rfl, rfl⟩)
  go_ret
  exact ⟨rfl, rfl⟩

def rowName : Nat → ByteArray
  | 0 => ⟨#[108, 117, 110, 97, 114]⟩
  | 1 => ⟨#[109, 111, 111, 110]⟩
  | 2 => ⟨#[115, 117, 110]⟩
  | 3 => ⟨#[112, 101, 114, 105, 103, 101, 101]⟩
  | 4 => ⟨#[110, 111, 100, 101]⟩
  | _ => ⟨#[112, 101, 114, 105, 104, 101, 108, 105, 111, 110]⟩
def rowFirst : Nat → Int
  | 0 => 31648000
  | 1 => 2770247000
  | 2 => 2801895000
  | 3 => 3343853000
  | 4 => 1008432000
  | _ => 2812209000
def rowAdds : Nat → Int
  | 0 => 144920521
  | 1 => 5490165
  | 2 => 410686
  | 3 => 46418
  | 4 => 22064
  | _ => 20
def rowV (k : Nat) : List Value := [.string (rowName k), .int .i64 (rowFirst k), .int .i64 (rowAdds k)]
def rowsV : Array Value := ((List.range 6).flatMap rowV).toArray
theorem rows_any (w : World) : Calls Try.prog 80 #[] w fun e w' => e = .returned (.agg rowsV) ∧ Below w.heap.size w w' := by
  go_enter Try.func80, Try.ntmps80
  go_wp2_with ((with_reducible apply wpList_store_new); (with_reducible rfl); (with_reducible rfl); rfl; rfl; kernel_rfl; rfl; kernel_rfl)
  refine ret_c rfl _ 94 _ _ rfl (heap_alloc_last _ _) Try.underlying94 rfl (by kernel_rfl) rfl ⟨by kernel_rfl, ?_⟩
  (repeat (first | exact Below.refl _ _ | assumption | refine Below.setCell ?_ (by first | assumption | (simp; done) | (simp; omega) | omega) _ | refine below_drewN ?_ _ | refine Below.drew ?_ | refine Below.alloc ?_ (by first | assumption | (simp; done) | (simp; omega) | omega) _))
theorem rows_at (k : Nat) (hk : k < 6) (w : World) : (Instr.index 94 (.agg rowsV) (.int .i64 k)).run Try.prog w = .ok (.agg #[.string (rowName k), .int .i64 (rowFirst k), .int .i64 (rowAdds k)]) w := by
  rcases (show k = 0 ∨ k = 1 ∨ k = 2 ∨ k = 3 ∨ k = 4 ∨ k = 5 by omega) with rfl | rfl | rfl | rfl | rfl | rfl <;> kernel_rfl
theorem first_bd (k : Nat) : 0 ≤ rowFirst k ∧ rowFirst k < 3600000000 := by unfold rowFirst; split <;> omega
theorem adds_bd (k : Nat) : 0 ≤ rowAdds k ∧ rowAdds k ≤ 144920521 := by unfold rowAdds; split <;> omega
/-- An angle's units at a tick. -/
def unit (k : Nat) (t : Int) : Int := (rowFirst k + rowAdds k * t) % 3600000000
theorem unit_bd (k : Nat) (t : Int) : 0 ≤ unit k t ∧ unit k t < 3600000000 := by unfold unit; omega
theorem adds_mul (k : Nat) (t : Int) (h0 : 0 ≤ t) (h1 : t ≤ 1048576) : 0 ≤ rowAdds k * t ∧ rowAdds k * t ≤ 151960180228096 := by
  have h := adds_bd k
  have := Int.mul_le_mul h.2 h1 h0 (by omega)
  exact ⟨Int.mul_nonneg h.1 h0, by omega⟩

theorem units_ok (k : Nat) (t : Int) (w : World) (hk : k < 6) (h0 : 0 ≤ t) (h1 : t ≤ 1048576) :
    Calls Try.prog 19 #[.int .i64 (k : Int), .int .i64 t] w fun e w' => e = .returned (.tuple #[.int .i64 (unit k t), .int .i64 0]) ∧ Below w.heap.size w w' := by
  have hat := rows_at k hk
  have f1 := (first_bd k).1
  have f2 := (first_bd k).2
  have a1 := (adds_mul k t h0 h1).1
  have a2 := (adds_mul k t h0 h1).2
  go_enter Try.func19, Try.ntmps19
  go_wp2_with (first | (go_at_call 79; refine (asked_ok _ _ _ (by omega) (by omega) h0 h1).mono ?_; rintro e w' ⟨rfl, rfl⟩) | (go_at_call 80; refine (rows_any _).mono ?_; rintro e w1 ⟨rfl, hb⟩))
  go_ret2
  refine ⟨rfl, Below.trans hb ?_⟩
  have := hb.size
  exact (Below.refl _ _).alloc this _
theorem units_no (k t : Int) (w : World) (h : k < 0 ∨ 6 ≤ k ∨ t < 0 ∨ 1048576 < t) :
    Calls Try.prog 19 #[.int .i64 k, .int .i64 t] w fun e w' => e = .returned (.tuple #[.int .i64 0, .int .i64 2]) ∧ w = w' := by
  have H := hide_ h
  clear h
  go_enter Try.func19, Try.ntmps19
  go_wp2_with (go_at_call 79; refine (asked_no _ _ _ H.out).mono ?_; rintro e w' ⟨rfl, rfl⟩)
  go_ret2
  exact ⟨rfl, rfl⟩
end Go.Proofs.Ytklhdpkofpkmjaa
