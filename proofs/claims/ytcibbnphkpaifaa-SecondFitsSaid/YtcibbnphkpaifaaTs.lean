/- fractions: those of differences. -/
import Derived.Test.YtcibbnphkpaifaaTq
namespace Go.Proofs.Ytcibbnphkpaifaa
open Go.RowKit
set_option linter.unusedVariables false
set_option maxRecDepth 100000
set_option maxHeartbeats 6400000 in
theorem fractions_any (ka kb : Int) (s1 s2 s3 s4 : Bool) (p1 q1 p2 q2 p3 q3 p4 q4 : Option Addr) (n1 c1 m1 d1 n2 c2 m2 d2 n3 c3 m3 d3 n4 c4 m4 d4 : Nat) (x1 x2 x3 x4 : Rat) (w : World)
    (h1 : RV w (.agg #[.bool s1, .slice p1 n1 c1, .slice q1 m1 d1]) x1) (h2 : RV w (.agg #[.bool s2, .slice p2 n2 c2, .slice q2 m2 d2]) x2) (h3 : RV w (.agg #[.bool s3, .slice p3 n3 c3, .slice q3 m3 d3]) x3) (h4 : RV w (.agg #[.bool s4, .slice p4 n4 c4, .slice q4 m4 d4]) x4) :
    Calls Try.prog 26 #[.agg #[.int .i64 ka, .bool s1, .slice p1 n1 c1, .slice q1 m1 d1, .bool s2, .slice p2 n2 c2, .slice q2 m2 d2, .int .i64 kb, .bool s3, .slice p3 n3 c3, .slice q3 m3 d3, .bool s4, .slice p4 n4 c4, .slice q4 m4 d4]] w
      fun e w' => (∃ g, e = .returned (.slice (some ⟨g, 0, none⟩) 4 4) ∧ FRs w' (some ⟨g, 0, none⟩) [x1, x2, x3, x4]) ∧ Below w.heap.size w w' := by
  obtain ⟨⟨e0, e1, e2, e3, e4, e5, e6⟩, e7, e8, e9, f0, f1, f2, f3⟩ := cells_14 (heap_alloc_last w (.cells #[.int .i64 ka, .bool s1, .slice p1 n1 c1, .slice q1 m1 d1, .bool s2, .slice p2 n2 c2, .slice q2 m2 d2, .int .i64 kb, .bool s3, .slice p3 n3 c3, .slice q3 m3 d3, .bool s4, .slice p4 n4 c4, .slice q4 m4 d4] 48))
  have HH := hide_ (⟨h1, h2, h3, h4⟩ : _ ∧ _ ∧ _ ∧ _)
  clear h1 h2 h3 h4
  go_enter Try.func26, Try.ntmps26
  go_wp2
  go_ret
  obtain ⟨h1, h2, h3, h4⟩ := HH.out
  obtain ⟨⟨rfl, rfl, rfl⟩, _⟩ := RV.fr h1
  obtain ⟨⟨rfl, rfl, rfl⟩, _⟩ := RV.fr h2
  obtain ⟨⟨rfl, rfl, rfl⟩, _⟩ := RV.fr h3
  obtain ⟨⟨rfl, rfl, rfl⟩, _⟩ := RV.fr h4
  refine ⟨⟨w.heap.size + 1, by simp, ?_⟩, (below_alloc _ _).alloc (by simp) _⟩
  have hb := (below_alloc w (.cells #[.int .i64 ka, .bool (rneg x1), .slice p1 (rn x1).length c1, .slice q1 (rd x1).length d1, .bool (rneg x2), .slice p2 (rn x2).length c2, .slice q2 (rd x2).length d2, .int .i64 kb, .bool (rneg x3), .slice p3 (rn x3).length c3, .slice q3 (rd x3).length d3, .bool (rneg x4), .slice p4 (rn x4).length c4, .slice q4 (rd x4).length d4] 48)).alloc (by simp) (.cells #[.bool (rneg x1), .slice p1 (rn x1).length c1, .slice q1 (rd x1).length d1, .bool (rneg x2), .slice p2 (rn x2).length c2, .slice q2 (rd x2).length d2, .bool (rneg x3), .slice p3 (rn x3).length c3, .slice q3 (rd x3).length d3, .bool (rneg x4), .slice p4 (rn x4).length c4, .slice q4 (rd x4).length d4] 32)
  have hh := heap_at1 w (.cells #[.int .i64 ka, .bool (rneg x1), .slice p1 (rn x1).length c1, .slice q1 (rd x1).length d1, .bool (rneg x2), .slice p2 (rn x2).length c2, .slice q2 (rd x2).length d2, .int .i64 kb, .bool (rneg x3), .slice p3 (rn x3).length c3, .slice q3 (rd x3).length d3, .bool (rneg x4), .slice p4 (rn x4).length c4, .slice q4 (rd x4).length d4] 48) (.cells #[.bool (rneg x1), .slice p1 (rn x1).length c1, .slice q1 (rd x1).length d1, .bool (rneg x2), .slice p2 (rn x2).length c2, .slice q2 (rd x2).length d2, .bool (rneg x3), .slice p3 (rn x3).length c3, .slice q3 (rd x3).length d3, .bool (rneg x4), .slice p4 (rn x4).length c4, .slice q4 (rd x4).length d4] 32)
  refine .inr ⟨w.heap.size + 1, 0, rfl, lt_of_heap hh, fun i hi => ?_⟩
  have e : i = 0 ∨ i = 1 ∨ i = 2 ∨ i = 3 := by simp at hi; omega
  rcases e with rfl | rfl | rfl | rfl
  · exact ⟨p1, c1, q1, d1, ⟨cell_of_row _ _ _ _ _ _ hh, cell_of_row _ _ _ _ _ _ hh, cell_of_row _ _ _ _ _ _ hh⟩, h1.below hb⟩
  · exact ⟨p2, c2, q2, d2, ⟨cell_of_row _ _ _ _ _ _ hh, cell_of_row _ _ _ _ _ _ hh, cell_of_row _ _ _ _ _ _ hh⟩, h2.below hb⟩
  · exact ⟨p3, c3, q3, d3, ⟨cell_of_row _ _ _ _ _ _ hh, cell_of_row _ _ _ _ _ _ hh, cell_of_row _ _ _ _ _ _ hh⟩, h3.below hb⟩
  · exact ⟨p4, c4, q4, d4, ⟨cell_of_row _ _ _ _ _ _ hh, cell_of_row _ _ _ _ _ _ hh, cell_of_row _ _ _ _ _ _ hh⟩, h4.below hb⟩
end Go.Proofs.Ytcibbnphkpaifaa
