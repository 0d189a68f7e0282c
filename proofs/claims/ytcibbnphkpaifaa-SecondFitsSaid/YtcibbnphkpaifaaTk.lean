/- SecondLevel in one contract. -/
import Derived.Test.YtcibbnphkpaifaaTj
namespace Go.Proofs.Ytcibbnphkpaifaa
open Go.RowKit
set_option linter.unusedVariables false
set_option maxRecDepth 100000
theorem level_walk (a : Option Addr) (len cap : Nat) (L : List Wt) (x y : Int) (W : World) (hS : len = L.length ∧ len ≤ cap ∧ cap ≤ maxLen ∧ WSr W a L ∧ ∀ x ∈ L, (-9223372036854775808 ≤ x.t ∧ x.t < 9223372036854775808) ∧ -9223372036854775808 ≤ x.l ∧ x.l < 9223372036854775808) (hx : (Lit.int .i64 x).wf = true) (hy : (Lit.int .i64 y).wf = true) :
    Calls Try.prog 3 #[.slice a len cap, .int .i64 x, .int .i64 y] W fun e w' => e = .returned (.bool true) ∧ Below W.heap.size W w' := by
  obtain ⟨hl, _, _, hp, _⟩ := hS
  have hx' := i64_of hx
  have hy' := i64_of hy
  by_cases h1 : 200 < len ∨ len < 2
  · exact level_size a len cap x y W h1
  · subst hl
    by_cases hlo : longW L = true
    · exact level_long a _ cap x y L W rfl (by omega) (by omega) hp hlo
    · rw [Bool.not_eq_true] at hlo
      rcases checkW_cases L with hc | hc
      · exact level_main a cap x y L W (by omega) (by omega) hp hlo (snd_of (by rw [hc])) hx'.1 hx'.2 hy'.1 hy'.2
      · exact level_unsound a _ cap x y _ _ L W rfl (by omega) (by omega) hp hlo rfl hc
end Go.Proofs.Ytcibbnphkpaifaa
