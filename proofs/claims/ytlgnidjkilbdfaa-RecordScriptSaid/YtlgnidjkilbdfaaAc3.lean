/- Chapter 19: act: what is lost. -/
import Derived.Test.YtlgnidjkilbdfaaAc2
namespace Go.Proofs.Ytlgnidjkilbdfaa
open Go.RowKit
set_option linter.unusedVariables false
set_option maxRecDepth 100000
set_option maxHeartbeats 8000000 in
theorem act_2 {w : World} {rb mb qb : Nat} {vq : Value} {L : Rc} {k o a b : Int} {n : Nat} (hr : Rec w rb mb L) (hq : RRec w qb vq L) (h1 : k = 2) :
    Calls Try.prog 32 #[.agg #[.pointer (some ⟨rb, 0, none⟩), .pointer (some ⟨qb, 0, none⟩)], .agg #[.int .i64 k, .int .i64 o, .int .i64 a, .int .i64 b, .int .u64 n]] w (PostA w rb mb qb) := by
  subst h1
  have g0 := ((Grew.refl w).alloc (.cells #[.pointer (some ⟨rb, 0, none⟩), .pointer (some ⟨qb, 0, none⟩)] 55)).alloc (.cells #[.int .i64 2, .int .i64 o, .int .i64 a, .int .i64 b, .int .u64 n] 58)
  have p0 := heap_past (o' := .cells #[.int .i64 2, .int .i64 o, .int .i64 a, .int .i64 b, .int .u64 n] 58) (heap_alloc_last w (.cells #[.pointer (some ⟨rb, 0, none⟩), .pointer (some ⟨qb, 0, none⟩)] 55))
  have q0 := heap_at1 w (.cells #[.pointer (some ⟨rb, 0, none⟩), .pointer (some ⟨qb, 0, none⟩)] 55) (.cells #[.int .i64 2, .int .i64 o, .int .i64 a, .int .i64 b, .int .u64 n] 58)
  obtain ⟨c0, c1⟩ := cells_two p0
  obtain ⟨d0, d1, d2, d3, d4⟩ := cells_five q0
  have HR := hide_ hr
  have HQ := hide_ hq
  have hlen : (lost L).length ≤ 5000 := by unfold lost; rw [List.length_map]; exact Nat.le_trans (List.length_filter_le _ _) (by have := hr.ok.len; omega)
  have tok1 : True := trivial
  have tok2 : True := trivial
  have tok3 : True := trivial
  have g0s := g0.2
  have g0d := g0.drew
  clear hr hq
  go_enter Try.func32, Try.ntmps32
  go_wp2_with (first
    | ((with_reducible apply wpList_store_new); (with_reducible rfl); (with_reducible rfl); rfl; rfl; kernel_rfl; rfl; kernel_rfl))
  go_region_law (first
    | (have _t := tok1; refine step_in rfl ?_; go_simp; go_at_call 24; go_must (
        (with_reducible refine (lost_rec (HR.out.below g0d.below)).mono ?_)
        rintro e w1 ⟨v1, rfl, l1, _, hb1⟩
        have g1 := g0d.step hb1
        have p1 := (hb1.block _ (lt_of_heap p0)).trans p0
        obtain ⟨c0, c1⟩ := cells_two p1
        clear tok1 p0 q0 hb1 d0 d1 d2 d3 d4))
    | (have _t := tok2; refine step_in rfl ?_; go_simp; go_at_call 24; go_must (
        (with_reducible refine (lost_rec (HR.out.below g1.below)).mono ?_)
        rintro e w2 ⟨v2, rfl, l2, _, hb2⟩
        obtain ⟨pp, cc, rfl⟩ := row_slice l2
        have hne := row_ne l1 l2 (Nat.le_refl _)
        have g2 := g1.step hb2
        have p2 := (hb2.block _ (lt_of_heap p1)).trans p1
        obtain ⟨c0, c1⟩ := cells_two p2
        have l12 := own_below l1 hb2
        clear tok2 p1 hb2 l1)))
  all_goals go_wp2
  all_goals (go_region_law (first
    | (refine step_in rfl ?_; go_simp; go_at_call 25; go_must (
        (with_reducible refine (rlost_rec (HQ.out.below g2.drew.below)).mono ?_)
        rintro e w3 ⟨v3, rfl, l3, _, hb3⟩
        have g3 := g2.drew.step hb3
        have p3 := (hb3.block _ (lt_of_heap p2)).trans p2
        obtain ⟨c0, c1⟩ := cells_two p3
        have l13 := own_below l12 ⟨hb3.os, hb3.tape, hb3.output, hb3.size, hb3.block⟩
        have l23 := own_below l2 ⟨hb3.os, hb3.tape, hb3.output, hb3.size, hb3.block⟩
        clear p2 hb3 l12 l2))
    | (have _t := tok3; refine step_in rfl ?_; go_simp; go_at_call 23; go_must (
        (with_reducible refine (sameInts_true l13 l3 hlen).mono ?_)
        rintro e w4 ⟨rfl, hb4⟩
        have g4 := g3.step hb4
        have p4 := (hb4.block _ (lt_of_heap p3)).trans p3
        obtain ⟨c0, c1⟩ := cells_two p4
        have l14 := own_below l13 hb4
        have l24 := own_below l23 hb4
        clear tok3 p3 hb4 l13 l23 l3))
    | (refine step_want (by rfl) ?_; go_simp; go_at_call 23; go_must (
        (with_reducible refine (sameInts_true l24 l14 hlen).mono ?_)
        rintro e w5 ⟨rfl, hb5⟩
        have g5 := g4.step hb5
        have p5 := (hb5.block _ (lt_of_heap p4)).trans p4
        obtain ⟨c0, c1⟩ := cells_two p5
        have l15 := own_below l14 hb5
        have l25 := own_below l24 hb5
        clear p4 hb5 l14 l24))
    | (refine step_want (by rfl) ?_; go_simp; go_at_call 29; go_must (
        (with_reducible refine (len_rec (HR.out.below g5.below)).mono ?_)
        rintro e w6 ⟨rfl, hb6⟩
        have g6 := g5.step hb6
        have p6 := (hb6.block _ (lt_of_heap p5)).trans p5
        obtain ⟨c0, c1⟩ := cells_two p6
        have l16 := own_below l15 hb6
        have l26 := own_below l25 hb6
        clear p5 hb6 l15 l25))
    | (refine step_want (by rfl) ?_; go_simp; go_at_call 75; go_must (
        (with_reducible refine (rlen_rec (HQ.out.below g6.below)).mono ?_)
        rintro e w7 ⟨rfl, hb7⟩
        have g7 := g6.step hb7
        have l17 := own_below l16 hb7
        have l27 := own_below l26 hb7
        clear p6 hb7 l16 l26))))
  all_goals (go_wp2_with (go_at_call 76; go_must (
        (with_reducible refine (apart_true (l17.alloc (.cells #[.slice pp (lost L).length cc] 44)) (l27.alloc (.cells #[.slice pp (lost L).length cc] 44)) hne (heap_alloc_last _ _) hlen hlen).mono ?_)
        rintro e w8 ⟨rfl, hb8⟩
        have g8 := (g7.alloc (.cells #[.slice pp (lost L).length cc] 44)).row hb8 l17 g0s)))
  all_goals go_ret
  all_goals exact post_same HR.out HQ.out ⟨rfl, g8.below⟩
theorem act_any {w : World} {rb mb qb : Nat} {vq : Value} {L : Rc} {k o a b : Int} {n : Nat} (hr : Rec w rb mb L) (hq : RRec w qb vq L) (ha : I64 a) (hn : n < 2 ^ 64) :
    Calls Try.prog 32 #[.agg #[.pointer (some ⟨rb, 0, none⟩), .pointer (some ⟨qb, 0, none⟩)], .agg #[.int .i64 k, .int .i64 o, .int .i64 a, .int .i64 b, .int .u64 n]] w (PostA w rb mb qb) := by
  by_cases h0 : k = 0
  · exact act_0 hr hq ha hn h0
  by_cases h1 : k = 1
  · exact act_1 hr hq ha h1
  by_cases h2 : k = 2
  · exact act_2 hr hq h2
  by_cases h4 : k = 4
  · exact act_4 hr hq ha h4
  by_cases h7 : k = 7
  · exact act_7 hr hq h7
  exact act_x hr hq h0 h1 h2 h4 h7
end Go.Proofs.Ytlgnidjkilbdfaa
