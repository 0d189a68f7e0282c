/- SecondLevel: the early ends. -/
import Derived.Test.YtcibbnphkpaifaaTh
namespace Go.Proofs.Ytcibbnphkpaifaa
open Go.RowKit
set_option linter.unusedVariables false
set_option maxRecDepth 100000
set_option maxHeartbeats 6400000 in
theorem level_size (p : Option Addr) (n c : Nat) (x y : Int) (w : World) (h : 200 < n ∨ n < 2) :
    Calls Try.prog 3 #[.slice p n c, .int .i64 x, .int .i64 y] w fun e w' => e = .returned (.bool true) ∧ Below w.heap.size w w' := by
  have HA := hide_ (fun W => awake_any W)
  have hc : decide ((200 : Int) < (n : Int)) = true ∨ (decide ((200 : Int) < (n : Int)) = false ∧ decide ((n : Int) < (2 : Int)) = true) := by
    rcases h with h | h
    · exact .inl (decide_eq_true (by omega))
    · exact .inr ⟨decide_eq_false (by omega), decide_eq_true (by omega)⟩
  clear h
  rcases hc with z1 | ⟨z1, z2⟩
  all_goals
    go_enter Try.func3, Try.ntmps3
    go_wp2_with (first | (go_at_call 11; go_must ((with_reducible refine (HA.out _).mono ?_); rintro e w1 ⟨rfl, hb1⟩)))
    go_ret
    exact ⟨by simp, hb1⟩
set_option maxHeartbeats 6400000 in
theorem level_long (p : Option Addr) (n c : Nat) (x y : Int) (L : List Wt) (w : World) (hn : n = L.length) (h1 : 2 ≤ n) (h2 : n ≤ 200) (hp : WSr w p L) (hlo : longW L = true) :
    Calls Try.prog 3 #[.slice p n c, .int .i64 x, .int .i64 y] w fun e w' => e = .returned (.bool true) ∧ Below w.heap.size w w' := by
  have HA := hide_ (fun W => awake_any W)
  have HL := hide_ (fun W (h : Below w.heap.size w W) => LongWaters_any p n c L W hn (hp.below h) (by omega))
  rw [hlo] at HL
  have z1 : decide ((200 : Int) < (n : Int)) = false := decide_eq_false (by omega)
  have z2 : decide ((n : Int) < (2 : Int)) = false := decide_eq_false (by omega)
  clear hp hn h1 h2 hlo
  go_enter Try.func3, Try.ntmps3
  go_wp2_with (first
    | (go_at_call 11; go_must ((with_reducible refine (HA.out _).mono ?_); rintro e w1 ⟨rfl, hb1⟩))
    | (go_at_call 12; go_must ((with_reducible refine (HL.out _ hb1).mono ?_); rintro e w2 ⟨rfl, hb2⟩)))
  go_ret
  exact ⟨by simp, hb1.trans (hb2.mono hb1.size)⟩
set_option maxHeartbeats 6400000 in
theorem level_unsound (p : Option Addr) (n c : Nat) (x y a b : Int) (L : List Wt) (w : World) (hn : n = L.length) (h1 : 2 ≤ n) (h2 : n ≤ 200) (hp : WSr w p L) (hlo : longW L = false) (hc : checkW none 0 L = (a, b)) (ha : a ≠ 0) :
    Calls Try.prog 3 #[.slice p n c, .int .i64 x, .int .i64 y] w fun e w' => e = .returned (.bool true) ∧ Below w.heap.size w w' := by
  have HA := hide_ (fun W => awake_any W)
  have HL := hide_ (fun W (h : Below w.heap.size w W) => LongWaters_any p n c L W hn (hp.below h) (by omega))
  rw [hlo] at HL
  have HK := hide_ (fun W (h : Below w.heap.size w W) => checkW_any p n c L W hn ((hp.below h).wsl (by omega) hlo) (by omega))
  rw [hc] at HK
  have z1 : decide ((200 : Int) < (n : Int)) = false := decide_eq_false (by omega)
  have z2 : decide ((n : Int) < (2 : Int)) = false := decide_eq_false (by omega)
  have z3 : (a == 0) = false := by simpa using ha
  have z4 : (a != 0) = true := by simpa using ha
  clear hp hn h1 h2 hlo hc
  go_enter Try.func3, Try.ntmps3
  go_wp2_with (first
    | (go_at_call 11; go_must ((with_reducible refine (HA.out _).mono ?_); rintro e w1 ⟨rfl, hb1⟩))
    | (go_at_call 12; go_must ((with_reducible refine (HL.out _ hb1).mono ?_); rintro e w2 ⟨rfl, hb2⟩; have hb3 := hb1.trans (hb2.mono hb1.size)))
    | (go_at_call 13; go_must ((with_reducible refine (HK.out _ hb3).mono ?_); rintro e w4 ⟨rfl, hb4⟩)))
  go_ret
  exact ⟨by simp, hb3.trans (hb4.mono hb3.size)⟩
end Go.Proofs.Ytcibbnphkpaifaa
