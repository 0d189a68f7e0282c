/- Differences' block: fourteen cells. -/
import Derived.Test.YtcibbnphkpaifaaUd
namespace Go.Proofs.Ytcibbnphkpaifaa
open Go.RowKit
set_option linter.unusedVariables false
set_option maxRecDepth 100000
theorem free_14 {w : World} {g : Nat} {a0 a1 a2 a3 a4 a5 a6 a7 a8 a9 a10 a11 a12 a13 : Value} {T : TypeId} (h : w.heap[g]? = some (.cells #[a0, a1, a2, a3, a4, a5, a6, a7, a8, a9, a10, a11, a12, a13] T)) : w.frozen? ⟨g, 0, none⟩ = false ∧ w.frozen? ⟨g, 1, none⟩ = false ∧ w.frozen? ⟨g, 2, none⟩ = false ∧ w.frozen? ⟨g, 3, none⟩ = false ∧ w.frozen? ⟨g, 4, none⟩ = false ∧ w.frozen? ⟨g, 5, none⟩ = false ∧ w.frozen? ⟨g, 6, none⟩ = false ∧ w.frozen? ⟨g, 7, none⟩ = false ∧ w.frozen? ⟨g, 8, none⟩ = false ∧ w.frozen? ⟨g, 9, none⟩ = false ∧ w.frozen? ⟨g, 10, none⟩ = false ∧ w.frozen? ⟨g, 11, none⟩ = false ∧ w.frozen? ⟨g, 12, none⟩ = false ∧ w.frozen? ⟨g, 13, none⟩ = false :=
  ⟨blk_free h 0, blk_free h 1, blk_free h 2, blk_free h 3, blk_free h 4, blk_free h 5, blk_free h 6, blk_free h 7, blk_free h 8, blk_free h 9, blk_free h 10, blk_free h 11, blk_free h 12, blk_free h 13⟩
set_option maxHeartbeats 3200000 in
theorem set14_lo {w : World} {B : Nat} {a0 a1 a2 a3 a4 a5 a6 a7 a8 a9 a10 a11 a12 a13 x0 x1 x2 x3 x4 x5 x6 : Value} {S : TypeId} (h0 : w.heap[B]? = some (.cells #[a0, a1, a2, a3, a4, a5, a6, a7, a8, a9, a10, a11, a12, a13] S)) : (((((((w.setCell ⟨B, 0, none⟩ x0).setCell ⟨B, 1, none⟩ x1).setCell ⟨B, 2, none⟩ x2).setCell ⟨B, 3, none⟩ x3).setCell ⟨B, 4, none⟩ x4).setCell ⟨B, 5, none⟩ x5).setCell ⟨B, 6, none⟩ x6) = w.setRow B #[x0, x1, x2, x3, x4, x5, x6, a7, a8, a9, a10, a11, a12, a13] := by
  rw [setCell_row h0]
  have h1 := setRow_heap _ _ _ (#[a0, a1, a2, a3, a4, a5, a6, a7, a8, a9, a10, a11, a12, a13].setIfInBounds 0 x0) _ _ h0
  rw [setCell_row h1, setRow_setRow]
  have h2 := setRow_heap _ _ _ ((#[a0, a1, a2, a3, a4, a5, a6, a7, a8, a9, a10, a11, a12, a13].setIfInBounds 0 x0).setIfInBounds 1 x1) _ _ h0
  rw [setCell_row h2, setRow_setRow]
  have h3 := setRow_heap _ _ _ (((#[a0, a1, a2, a3, a4, a5, a6, a7, a8, a9, a10, a11, a12, a13].setIfInBounds 0 x0).setIfInBounds 1 x1).setIfInBounds 2 x2) _ _ h0
  rw [setCell_row h3, setRow_setRow]
  have h4 := setRow_heap _ _ _ ((((#[a0, a1, a2, a3, a4, a5, a6, a7, a8, a9, a10, a11, a12, a13].setIfInBounds 0 x0).setIfInBounds 1 x1).setIfInBounds 2 x2).setIfInBounds 3 x3) _ _ h0
  rw [setCell_row h4, setRow_setRow]
  have h5 := setRow_heap _ _ _ (((((#[a0, a1, a2, a3, a4, a5, a6, a7, a8, a9, a10, a11, a12, a13].setIfInBounds 0 x0).setIfInBounds 1 x1).setIfInBounds 2 x2).setIfInBounds 3 x3).setIfInBounds 4 x4) _ _ h0
  rw [setCell_row h5, setRow_setRow]
  have h6 := setRow_heap _ _ _ ((((((#[a0, a1, a2, a3, a4, a5, a6, a7, a8, a9, a10, a11, a12, a13].setIfInBounds 0 x0).setIfInBounds 1 x1).setIfInBounds 2 x2).setIfInBounds 3 x3).setIfInBounds 4 x4).setIfInBounds 5 x5) _ _ h0
  rw [setCell_row h6, setRow_setRow]
  rfl
theorem keep14_lo {w : World} {B g o : Nat} {x0 x1 x2 x3 x4 x5 x6 : Value} (h : g ≠ B) : ((((((((w.setCell ⟨B, 0, none⟩ x0).setCell ⟨B, 1, none⟩ x1).setCell ⟨B, 2, none⟩ x2).setCell ⟨B, 3, none⟩ x3).setCell ⟨B, 4, none⟩ x4).setCell ⟨B, 5, none⟩ x5).setCell ⟨B, 6, none⟩ x6)).cell? ⟨g, o, none⟩ = w.cell? ⟨g, o, none⟩ := by
  unfold World.cell?
  rw [set_other (fun e => h e.symm), set_other (fun e => h e.symm), set_other (fun e => h e.symm), set_other (fun e => h e.symm), set_other (fun e => h e.symm), set_other (fun e => h e.symm), set_other (fun e => h e.symm)]
set_option maxHeartbeats 3200000 in
theorem set14_hi {w : World} {B : Nat} {a0 a1 a2 a3 a4 a5 a6 a7 a8 a9 a10 a11 a12 a13 x0 x1 x2 x3 x4 x5 x6 : Value} {S : TypeId} (h0 : w.heap[B]? = some (.cells #[a0, a1, a2, a3, a4, a5, a6, a7, a8, a9, a10, a11, a12, a13] S)) : (((((((w.setCell ⟨B, 7, none⟩ x0).setCell ⟨B, 8, none⟩ x1).setCell ⟨B, 9, none⟩ x2).setCell ⟨B, 10, none⟩ x3).setCell ⟨B, 11, none⟩ x4).setCell ⟨B, 12, none⟩ x5).setCell ⟨B, 13, none⟩ x6) = w.setRow B #[a0, a1, a2, a3, a4, a5, a6, x0, x1, x2, x3, x4, x5, x6] := by
  rw [setCell_row h0]
  have h1 := setRow_heap _ _ _ (#[a0, a1, a2, a3, a4, a5, a6, a7, a8, a9, a10, a11, a12, a13].setIfInBounds 7 x0) _ _ h0
  rw [setCell_row h1, setRow_setRow]
  have h2 := setRow_heap _ _ _ ((#[a0, a1, a2, a3, a4, a5, a6, a7, a8, a9, a10, a11, a12, a13].setIfInBounds 7 x0).setIfInBounds 8 x1) _ _ h0
  rw [setCell_row h2, setRow_setRow]
  have h3 := setRow_heap _ _ _ (((#[a0, a1, a2, a3, a4, a5, a6, a7, a8, a9, a10, a11, a12, a13].setIfInBounds 7 x0).setIfInBounds 8 x1).setIfInBounds 9 x2) _ _ h0
  rw [setCell_row h3, setRow_setRow]
  have h4 := setRow_heap _ _ _ ((((#[a0, a1, a2, a3, a4, a5, a6, a7, a8, a9, a10, a11, a12, a13].setIfInBounds 7 x0).setIfInBounds 8 x1).setIfInBounds 9 x2).setIfInBounds 10 x3) _ _ h0
  rw [setCell_row h4, setRow_setRow]
  have h5 := setRow_heap _ _ _ (((((#[a0, a1, a2, a3, a4, a5, a6, a7, a8, a9, a10, a11, a12, a13].setIfInBounds 7 x0).setIfInBounds 8 x1).setIfInBounds 9 x2).setIfInBounds 10 x3).setIfInBounds 11 x4) _ _ h0
  rw [setCell_row h5, setRow_setRow]
  have h6 := setRow_heap _ _ _ ((((((#[a0, a1, a2, a3, a4, a5, a6, a7, a8, a9, a10, a11, a12, a13].setIfInBounds 7 x0).setIfInBounds 8 x1).setIfInBounds 9 x2).setIfInBounds 10 x3).setIfInBounds 11 x4).setIfInBounds 12 x5) _ _ h0
  rw [setCell_row h6, setRow_setRow]
  rfl
theorem keep14_hi {w : World} {B g o : Nat} {x0 x1 x2 x3 x4 x5 x6 : Value} (h : g ≠ B) : ((((((((w.setCell ⟨B, 7, none⟩ x0).setCell ⟨B, 8, none⟩ x1).setCell ⟨B, 9, none⟩ x2).setCell ⟨B, 10, none⟩ x3).setCell ⟨B, 11, none⟩ x4).setCell ⟨B, 12, none⟩ x5).setCell ⟨B, 13, none⟩ x6)).cell? ⟨g, o, none⟩ = w.cell? ⟨g, o, none⟩ := by
  unfold World.cell?
  rw [set_other (fun e => h e.symm), set_other (fun e => h e.symm), set_other (fun e => h e.symm), set_other (fun e => h e.symm), set_other (fun e => h e.symm), set_other (fun e => h e.symm), set_other (fun e => h e.symm)]
end Go.Proofs.Ytcibbnphkpaifaa
