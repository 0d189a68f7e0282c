/- A region that draws its order and holds calls that make memory: one walk, in the class of the worlds in which what was there stands. -/
import Derived.Test.YtklhdpkofpkmjaaGrp
import Derived.BigQuiet
namespace Go.Proofs.Ytklhdpkofpkmjaa
open Go.RowKit
/-- A world behind W, in which what stood in W stands. -/
structure After (W : World) where
  w : World
  h : Below W.heap.size W w
instance (W : World) : Nonempty (After W) := ⟨⟨W, Below.refl _ _⟩⟩
theorem wp_region_after {P : Program} {id : Nat} {Q : Exit → Act → World → Prop} {a : Act} {w : World} {l : List Oper} (hm : P.follows .mixedOrders = true) (hB : Region.lexB .any l.toArray = true)
    (h : wpQuiet P l.toArray (fun w' => ∃ x : After w, w' = x.w) (fun a' => ∀ w', (∃ x : After w, w' = x.w) → Q .normal a' w') l a) : (Code.region id l.toArray true).wp P Q a w :=
  wp_region_quiet (C := fun w' => ∃ x : After w, w' = x.w) hm hB ⟨⟨{ w with drawn := w.drawn + 1 }, ⟨rfl, rfl, rfl, Nat.le_refl _, fun _ _ => rfl⟩⟩, rfl⟩ (by simpa using h)
theorem q_below {f : FuncId} {args : Array Value} {W : World} {v : Value} (H : ∀ wx : World, Calls Try.prog f args wx fun e w' => e = .returned v ∧ Below wx.heap.size wx w') (x : After W) :
    Calls Try.prog f args x.w fun e w'' => e = .returned v ∧ ∃ y : After W, w'' = y.w :=
  (H x.w).mono fun _ w' ⟨he, hb⟩ => ⟨he, ⟨⟨w', x.h.trans (hb.mono x.h.size)⟩, rfl⟩⟩
theorem cells_aft {W : World} {g : Nat} {a b : Value} {T : TypeId} (h : W.heap[g]? = some (.cells #[a, b] T)) : (∀ x : After W, x.w.cell? ⟨g, 0, none⟩ = some a) ∧ (∀ x : After W, x.w.cell? ⟨g, 1, none⟩ = some b) :=
  ⟨fun x => (cells_two ((x.h.block g (lt_of_heap h)).trans h)).1, fun x => (cells_two ((x.h.block g (lt_of_heap h)).trans h)).2⟩
end Go.Proofs.Ytklhdpkofpkmjaa
