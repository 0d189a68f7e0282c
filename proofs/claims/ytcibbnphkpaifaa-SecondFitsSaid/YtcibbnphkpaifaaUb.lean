/- A difference's block: seven cells. -/
import Derived.Test.YtcibbnphkpaifaaUa
namespace Go.Proofs.Ytcibbnphkpaifaa
open Go.RowKit
set_option linter.unusedVariables false
set_option maxRecDepth 100000
theorem free_seven {w : World} {g : Nat} {a b c d e f h : Value} {T : TypeId} (hh : w.heap[g]? = some (.cells #[a, b, c, d, e, f, h] T)) : w.frozen? ⟨g, 0, none⟩ = false ∧ w.frozen? ⟨g, 1, none⟩ = false ∧ w.frozen? ⟨g, 2, none⟩ = false ∧ w.frozen? ⟨g, 3, none⟩ = false ∧ w.frozen? ⟨g, 4, none⟩ = false ∧ w.frozen? ⟨g, 5, none⟩ = false ∧ w.frozen? ⟨g, 6, none⟩ = false :=
  ⟨blk_free hh 0, blk_free hh 1, blk_free hh 2, blk_free hh 3, blk_free hh 4, blk_free hh 5, blk_free hh 6⟩
theorem set7_row {w : World} {B : Nat} {a b c d e f g x0 x1 x2 x3 x4 x5 x6 : Value} {S : TypeId} (h0 : w.heap[B]? = some (.cells #[a, b, c, d, e, f, g] S)) :
    ((((((w.setCell ⟨B, 0, none⟩ x0).setCell ⟨B, 1, none⟩ x1).setCell ⟨B, 2, none⟩ x2).setCell ⟨B, 3, none⟩ x3).setCell ⟨B, 4, none⟩ x4).setCell ⟨B, 5, none⟩ x5).setCell ⟨B, 6, none⟩ x6 = w.setRow B #[x0, x1, x2, x3, x4, x5, x6] := by
  rw [setCell_row h0]
  have h1 := setRow_heap _ _ _ (#[a, b, c, d, e, f, g].setIfInBounds 0 x0) _ _ h0
  rw [setCell_row h1, setRow_setRow]
  have h2 := setRow_heap _ _ _ ((#[a, b, c, d, e, f, g].setIfInBounds 0 x0).setIfInBounds 1 x1) _ _ h0
  rw [setCell_row h2, setRow_setRow]
  have h3 := setRow_heap _ _ _ (((#[a, b, c, d, e, f, g].setIfInBounds 0 x0).setIfInBounds 1 x1).setIfInBounds 2 x2) _ _ h0
  rw [setCell_row h3, setRow_setRow]
  have h4 := setRow_heap _ _ _ ((((#[a, b, c, d, e, f, g].setIfInBounds 0 x0).setIfInBounds 1 x1).setIfInBounds 2 x2).setIfInBounds 3 x3) _ _ h0
  rw [setCell_row h4, setRow_setRow]
  have h5 := setRow_heap _ _ _ (((((#[a, b, c, d, e, f, g].setIfInBounds 0 x0).setIfInBounds 1 x1).setIfInBounds 2 x2).setIfInBounds 3 x3).setIfInBounds 4 x4) _ _ h0
  rw [setCell_row h5, setRow_setRow]
  have h6 := setRow_heap _ _ _ ((((((#[a, b, c, d, e, f, g].setIfInBounds 0 x0).setIfInBounds 1 x1).setIfInBounds 2 x2).setIfInBounds 3 x3).setIfInBounds 4 x4).setIfInBounds 5 x5) _ _ h0
  rw [setCell_row h6, setRow_setRow]
  rfl
theorem set3_at1 {w : World} {B : Nat} {a b c d e f g x y z : Value} {S : TypeId} (h0 : w.heap[B]? = some (.cells #[a, b, c, d, e, f, g] S)) : ((w.setCell ⟨B, 1, none⟩ x).setCell ⟨B, 2, none⟩ y).setCell ⟨B, 3, none⟩ z = w.setRow B #[a, x, y, z, e, f, g] := by
  rw [setCell_row h0]
  have h1 := setRow_heap _ _ _ (#[a, b, c, d, e, f, g].setIfInBounds 1 x) _ _ h0
  rw [setCell_row h1, setRow_setRow]
  have h2 := setRow_heap _ _ _ ((#[a, b, c, d, e, f, g].setIfInBounds 1 x).setIfInBounds 2 y) _ _ h0
  rw [setCell_row h2, setRow_setRow]
  rfl
theorem set3_at4 {w : World} {B : Nat} {a b c d e f g x y z : Value} {S : TypeId} (h0 : w.heap[B]? = some (.cells #[a, b, c, d, e, f, g] S)) : ((w.setCell ⟨B, 4, none⟩ x).setCell ⟨B, 5, none⟩ y).setCell ⟨B, 6, none⟩ z = w.setRow B #[a, b, c, d, x, y, z] := by
  rw [setCell_row h0]
  have h1 := setRow_heap _ _ _ (#[a, b, c, d, e, f, g].setIfInBounds 4 x) _ _ h0
  rw [setCell_row h1, setRow_setRow]
  have h2 := setRow_heap _ _ _ ((#[a, b, c, d, e, f, g].setIfInBounds 4 x).setIfInBounds 5 y) _ _ h0
  rw [setCell_row h2, setRow_setRow]
  rfl
/-- One's own words stay where a block of another kind changes. -/
theorem RO.past {w w' : World} {base g : Nat} {v : Value} {x : Rat} {cs : Array Value} {T : TypeId} (h : RO w base v x) (hG : w.grownBy w' (some g)) (hg : w.heap[g]? = some (.cells cs T)) (hT : T ≠ 88) : RO w' base v x :=
  h.kept hG (fun g' e cs' T' hc => by cases e; rw [hg] at hc; cases hc; exact hT) (fun g' e => by cases e; exact ⟨_, _, hg⟩)
theorem RO.row {w : World} {base g : Nat} {v : Value} {x : Rat} {cs : Array Value} {T : TypeId} (h : RO w base v x) (hg : w.heap[g]? = some (.cells cs T)) (hT : T ≠ 88) (ds : Array Value) : RO (w.setRow g ds) base v x :=
  h.past (grown_setRow _ _ _) hg hT
end Go.Proofs.Ytcibbnphkpaifaa
