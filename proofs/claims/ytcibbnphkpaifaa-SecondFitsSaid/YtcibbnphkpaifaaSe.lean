/- second.between. -/
import Derived.Test.YtcibbnphkpaifaaSd4
import Derived.Test.YtcibbnphkpaifaaTa
namespace Go.Proofs.Ytcibbnphkpaifaa
open Go.RowKit
set_option linter.unusedVariables false
set_option maxRecDepth 100000
/-- A whole number, whatever its words. -/
theorem whole_form (n : Int) (x : Rat) (hx : (n : Rat) = x) (w : World) (h1 : -9223372036854775808 ≤ n) (h2 : n < 9223372036854775808) :
    Calls Try.prog 85 #[.int .i64 n] w fun e w' => (∃ s p k c q m d, e = .returned (.agg #[.bool s, .slice p k c, .slice q m d]) ∧ RO w' w.heap.size (.agg #[.bool s, .slice p k c, .slice q m d]) x) ∧ Below w.heap.size w w' := by
  refine (whole_any n w h1 h2).mono ?_
  rintro e w' ⟨⟨v, rfl, ho⟩, hb⟩
  rw [hx] at ho
  have ho' := ho
  obtain ⟨p, c, q, d, rfl, _⟩ := ho
  exact ⟨⟨_, _, _, _, _, _, _, rfl, ho'⟩, hb⟩
theorem fits_two : Fits 2 := by have := fits_int 2 (by decide) (by decide); simpa using this
theorem fits_three : Fits 3 := by have := fits_int 3 (by decide) (by decide); simpa using this
theorem rows_later {w : World} {g : Nat} {a b c : Value} {T : TypeId} (g0 : Nat) (h : w.heap[g]? = some (.cells #[a, b, c] T)) (hne : g ≠ g0) : ∀ W, w.grownBy W (some g0) → W.cell? ⟨g, 0, none⟩ = some a ∧ W.cell? ⟨g, 1, none⟩ = some b ∧ W.cell? ⟨g, 2, none⟩ = some c :=
  fun W hG => cells_three ((hG.block g (lt_of_heap h) (fun e => hne (by injection e))).trans h)
theorem row_later {w : World} {g : Nat} {o : Obj} (g0 : Nat) (h : w.heap[g]? = some o) (hne : g ≠ g0) : ∀ W, w.grownBy W (some g0) → W.heap[g]? = some o :=
  fun W hG => (hG.block g (lt_of_heap h) (fun e => hne (by injection e))).trans h
theorem below_grown {B g : Nat} {a b c : World} (h : Below B a b) (hB : B ≤ b.heap.size) (hG : b.grownBy c (some g)) (hg : B ≤ g) : Below B a c := h.grown hG hB (fun k hk => by cases hk; exact hg)
theorem grown_new {a b : World} {row : Option Nat} (h : a.grownBy b row) (o : Obj) : a.grownBy (b.alloc o) row := h.trans (grown_below (below_alloc _ _) _)
theorem RV.grown {a b : World} {base g : Nat} {v : Value} {x : Rat} (h : RO a base v x) (hf : Fits x) (hG : a.grownBy b (some g)) (hg : g < base) : RV b v x := (h.grown hG hg).rv hf
end Go.Proofs.Ytcibbnphkpaifaa
