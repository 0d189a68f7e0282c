/- Chapter 19: lists, of the samples. -/
import Derived.Test.YtlgnidjkilbdfaaLi
import Derived.Deep.RegionLaw
namespace Go.Proofs.Ytlgnidjkilbdfaa
open Go.RowKit
set_option linter.unusedVariables false
set_option maxRecDepth 100000
set_option maxHeartbeats 4000000 in
theorem lists_3 {w : World} {rb mb qb : Nat} {vq : Value} {L : Rc} {k o a b : Int} {n : Nat} (hr : Rec w rb mb L) (hq : RRec w qb vq L) (h3 : k = 3) :
    Calls Try.prog 78 #[.agg #[.pointer (some ⟨rb, 0, none⟩), .pointer (some ⟨qb, 0, none⟩)], .agg #[.int .i64 k, .int .i64 o, .int .i64 a, .int .i64 b, .int .u64 n]] w fun e w' => e = .returned (.bool true) ∧ Below w.heap.size w w' := by
  have g0 := ((Grew.refl w).alloc (.cells #[.pointer (some ⟨rb, 0, none⟩), .pointer (some ⟨qb, 0, none⟩)] 55)).alloc (.cells #[.int .i64 k, .int .i64 o, .int .i64 a, .int .i64 b, .int .u64 n] 58)
  have p0 := heap_past (o' := .cells #[.int .i64 k, .int .i64 o, .int .i64 a, .int .i64 b, .int .u64 n] 58) (heap_alloc_last w (.cells #[.pointer (some ⟨rb, 0, none⟩), .pointer (some ⟨qb, 0, none⟩)] 55))
  have q0 := heap_at1 w (.cells #[.pointer (some ⟨rb, 0, none⟩), .pointer (some ⟨qb, 0, none⟩)] 55) (.cells #[.int .i64 k, .int .i64 o, .int .i64 a, .int .i64 b, .int .u64 n] 58)
  obtain ⟨c0, c1⟩ := cells_two p0
  obtain ⟨d0, d1, d2, d3, d4⟩ := cells_five q0
  have HR := hide_ hr
  have HQ := hide_ hq
  have hlen : (ones L).length ≤ 5000 := Nat.le_trans (List.length_filter_le _ _) (by have := hr.ok.len; omega)
  have tok1 : True := trivial
  have tok2 : True := trivial
  have tok3 : True := trivial
  have tok4 : True := trivial
  have tok5 : True := trivial
  have g0s := g0.2
  clear hr hq
  subst h3
  go_enter Try.func78, Try.ntmps78
  go_wp2_with (first
    | ((with_reducible apply wpList_store_new); (with_reducible rfl); (with_reducible rfl); rfl; rfl; kernel_rfl; rfl; kernel_rfl))
  go_region_law (first
    | (have _t := tok1; refine step_in rfl ?_; go_simp; go_at_call 21; go_must (
        (with_reducible refine (samples_rec (HR.out.below g0.drew.below)).mono ?_)
        rintro e w1 ⟨v1, rfl, l1, _, hb1⟩
        have g1 := g0.drew.step hb1
        have p1 := (hb1.block _ (lt_of_heap p0)).trans p0
        have q1 := (hb1.block _ (lt_of_heap q0)).trans q0
        obtain ⟨c0, c1⟩ := cells_two p1
        obtain ⟨d0, d1, d2, d3, d4⟩ := cells_five q1
        clear tok1 p0 q0 hb1))
    | (have _t := tok2; refine step_in rfl ?_; go_simp; go_at_call 21; go_must (
        (with_reducible refine (samples_rec (HR.out.below g1.below)).mono ?_)
        rintro e w2 ⟨v2, rfl, l2, _, hb2⟩
        have hne := row_ne l1 l2 (Nat.le_refl _)
        have g2 := g1.step hb2
        have p2 := (hb2.block _ (lt_of_heap p1)).trans p1
        have q2 := (hb2.block _ (lt_of_heap q1)).trans q1
        obtain ⟨c0, c1⟩ := cells_two p2
        obtain ⟨d0, d1, d2, d3, d4⟩ := cells_five q2
        have l12 := own_below l1 hb2
        clear tok2 p1 q1 hb2 l1)))
  all_goals (go_wp2_with (first
    | (go_at_call 22; have _t := tok3; go_must (
        (with_reducible refine (rsamples_rec (HQ.out.below g2.below)).mono ?_)
        rintro e w3 ⟨v3, rfl, l3, _, hb3⟩
        have g3 := g2.step hb3
        have l13 := own_below l12 hb3
        have l23 := own_below l2 hb3
        have p3 := (hb3.block _ (lt_of_heap p2)).trans p2
        obtain ⟨c0, c1⟩ := cells_two p3
        clear tok3 p2 q2 hb3 l12 l2))
    | (go_at_call 19; have _t := tok4; go_must (
        (with_reducible refine (same_row l13 l3 hlen).mono ?_)
        rintro e w4 ⟨rfl, hb4⟩
        have g4 := g3.step hb4
        have l14 := own_below l13 hb4
        have l24 := own_below l23 hb4
        have p4 := (hb4.block _ (lt_of_heap p3)).trans p3
        obtain ⟨c0, c1⟩ := cells_two p4
        clear tok4 hb4 l13 l23 l3 p3))
    | (go_at_call 19; have _t := tok5; go_must (
        (with_reducible refine (same_row l24 l14 hlen).mono ?_)
        rintro e w5 ⟨rfl, hb5⟩
        have g5 := g4.step hb5
        have l15 := own_below l14 hb5
        have l25 := own_below l24 hb5
        have p5 := (hb5.block _ (lt_of_heap p4)).trans p4
        obtain ⟨c0, c1⟩ := cells_two p5
        clear tok5 hb5 l14 l24 p4))
    | (go_at_call 20; go_must (
        (with_reducible refine (over_row l15 hlen).mono ?_)
        rintro e w6 ⟨rfl, hb6⟩
        have g6 := g5.row hb6 l15 g0s
        have l26 := l25.kept hb6 hne
        have p6 := (hb6.block _ (lt_of_heap p5) (fun e => row_type l15 p5 (by decide) e.symm)).trans p5
        obtain ⟨c0, c1⟩ := cells_two p6
        clear hb6 l15 l25 p5))
    | (go_at_call 22; go_must (
        (with_reducible refine (rsamples_rec (HQ.out.below g6.below)).mono ?_)
        rintro e w7 ⟨v7, rfl, l7, _, hb7⟩
        have g7 := g6.step hb7
        have l27 := own_below l26 hb7
        clear hb7 l26))
    | (go_at_call 19; go_must (
        (with_reducible refine (same_row l27 l7 hlen).mono ?_)
        rintro e w8 ⟨rfl, hb8⟩
        have g8 := g7.step hb8))))
  all_goals go_ret
  all_goals exact ⟨rfl, g8.below⟩
theorem lists_any {w : World} {rb mb qb : Nat} {vq : Value} {L : Rc} {k o a b : Int} {n : Nat} (hr : Rec w rb mb L) (hq : RRec w qb vq L) :
    Calls Try.prog 78 #[.agg #[.pointer (some ⟨rb, 0, none⟩), .pointer (some ⟨qb, 0, none⟩)], .agg #[.int .i64 k, .int .i64 o, .int .i64 a, .int .i64 b, .int .u64 n]] w fun e w' => e = .returned (.bool true) ∧ Below w.heap.size w w' := by
  by_cases h3 : k = 3
  · exact lists_3 hr hq h3
  · by_cases h5 : k = 5
    · exact lists_5 hr hq h5
    · exact lists_6 hr hq h3 h5
end Go.Proofs.Ytlgnidjkilbdfaa
