/- Chapter 19: act: the other calls. -/
import Derived.Test.YtlgnidjkilbdfaaAc
namespace Go.Proofs.Ytlgnidjkilbdfaa
open Go.RowKit
set_option linter.unusedVariables false
set_option maxRecDepth 100000
set_option maxHeartbeats 4000000 in
theorem act_7 {w : World} {rb mb qb : Nat} {vq : Value} {L : Rc} {k o a b : Int} {n : Nat} (hr : Rec w rb mb L) (hq : RRec w qb vq L) (h1 : k = 7) :
    Calls Try.prog 32 #[.agg #[.pointer (some ⟨rb, 0, none⟩), .pointer (some ⟨qb, 0, none⟩)], .agg #[.int .i64 k, .int .i64 o, .int .i64 a, .int .i64 b, .int .u64 n]] w (PostA w rb mb qb) := by
  subst h1
  have g0 := ((Grew.refl w).alloc (.cells #[.pointer (some ⟨rb, 0, none⟩), .pointer (some ⟨qb, 0, none⟩)] 55)).alloc (.cells #[.int .i64 7, .int .i64 o, .int .i64 a, .int .i64 b, .int .u64 n] 58)
  have p0 := heap_past (o' := .cells #[.int .i64 7, .int .i64 o, .int .i64 a, .int .i64 b, .int .u64 n] 58) (heap_alloc_last w (.cells #[.pointer (some ⟨rb, 0, none⟩), .pointer (some ⟨qb, 0, none⟩)] 55))
  have q0 := heap_at1 w (.cells #[.pointer (some ⟨rb, 0, none⟩), .pointer (some ⟨qb, 0, none⟩)] 55) (.cells #[.int .i64 7, .int .i64 o, .int .i64 a, .int .i64 b, .int .u64 n] 58)
  obtain ⟨c0, c1⟩ := cells_two p0
  obtain ⟨d0, d1, d2, d3, d4⟩ := cells_five q0
  have HR := hide_ hr
  have HQ := hide_ hq
  clear hr hq
  have tok1 : True := trivial
  go_enter Try.func32, Try.ntmps32
  go_wp2_with (first
    | ((with_reducible apply wpList_store_new); (with_reducible rfl); (with_reducible rfl); rfl; rfl; kernel_rfl; rfl; kernel_rfl)
    | (go_at_call 33; have _t := tok1; go_must (
        (with_reducible refine (gone_rec (HR.out.below g0.below) (HQ.out.below g0.below)).mono ?_)
        rintro e w1 ⟨rfl, hb1⟩
        have g1 := g0.step hb1
        have p1 := (hb1.block _ (lt_of_heap p0)).trans p0
        obtain ⟨c0, c1⟩ := cells_two p1
        clear tok1))
    | (go_at_call 33; go_must (
        (with_reducible refine (gone_rec (HR.out.below g1.below) (HQ.out.below g1.below)).mono ?_)
        rintro e w2 ⟨rfl, hb2⟩
        have g2 := g1.step hb2)))
  go_ret
  exact post_same HR.out HQ.out ⟨rfl, g2.below⟩
set_option maxHeartbeats 4000000 in
theorem act_x {w : World} {rb mb qb : Nat} {vq : Value} {L : Rc} {k o a b : Int} {n : Nat} (hr : Rec w rb mb L) (hq : RRec w qb vq L) (h0 : k ≠ 0) (h1 : k ≠ 1) (h2 : k ≠ 2) (h4 : k ≠ 4) (h7 : k ≠ 7) :
    Calls Try.prog 32 #[.agg #[.pointer (some ⟨rb, 0, none⟩), .pointer (some ⟨qb, 0, none⟩)], .agg #[.int .i64 k, .int .i64 o, .int .i64 a, .int .i64 b, .int .u64 n]] w (PostA w rb mb qb) := by
  have g0 := ((Grew.refl w).alloc (.cells #[.pointer (some ⟨rb, 0, none⟩), .pointer (some ⟨qb, 0, none⟩)] 55)).alloc (.cells #[.int .i64 k, .int .i64 o, .int .i64 a, .int .i64 b, .int .u64 n] 58)
  have p0 := heap_past (o' := .cells #[.int .i64 k, .int .i64 o, .int .i64 a, .int .i64 b, .int .u64 n] 58) (heap_alloc_last w (.cells #[.pointer (some ⟨rb, 0, none⟩), .pointer (some ⟨qb, 0, none⟩)] 55))
  have q0 := heap_at1 w (.cells #[.pointer (some ⟨rb, 0, none⟩), .pointer (some ⟨qb, 0, none⟩)] 55) (.cells #[.int .i64 k, .int .i64 o, .int .i64 a, .int .i64 b, .int .u64 n] 58)
  obtain ⟨c0, c1⟩ := cells_two p0
  obtain ⟨d0, d1, d2, d3, d4⟩ := cells_five q0
  have HR := hide_ hr
  have HQ := hide_ hq
  clear hr hq
  go_enter Try.func32, Try.ntmps32
  go_wp2_with (first
    | ((with_reducible apply wpList_store_new); (with_reducible rfl); (with_reducible rfl); rfl; rfl; kernel_rfl; rfl; kernel_rfl)
    | (go_at_call 78; go_must (
        (with_reducible refine (lists_any (HR.out.below g0.below) (HQ.out.below g0.below)).mono ?_)
        rintro e w1 ⟨rfl, hb1⟩
        have g1 := g0.step hb1))
    | ((with_reducible apply wpList_load_row (hu := Try.underlying55)); (with_reducible rfl); (with_reducible rfl); rfl; (first | assumption | exact heap_alloc_last _ _ | exact heap_past (by assumption)); rfl; kernel_rfl)
    | ((with_reducible apply wpList_load_row (hu := Try.underlying58)); (with_reducible rfl); (with_reducible rfl); rfl; (first | assumption | exact heap_alloc_last _ _ | exact heap_past (by assumption)); rfl; kernel_rfl))
  all_goals go_ret
  all_goals first
    | exact post_same HR.out HQ.out ⟨rfl, g1.below⟩
    | exact post_same HR.out HQ.out ⟨rfl, g0.below⟩
end Go.Proofs.Ytlgnidjkilbdfaa
