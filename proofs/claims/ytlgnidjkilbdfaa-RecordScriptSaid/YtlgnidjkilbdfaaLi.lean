/- Chapter 19: lists: Samples, Gaps, Between of two records; what was told is written over. -/
import Derived.Test.YtlgnidjkilbdfaaRg2
import Derived.Test.YtlgnidjkilbdfaaNw
namespace Go.Proofs.Ytlgnidjkilbdfaa
open Go.RowKit
set_option linter.unusedVariables false
set_option maxRecDepth 100000
theorem row_ne {w1 w2 : World} {b1 b2 : Nat} {e1 e2 : TypeId} {s1 s2 n1 n2 : Nat} {v1 v2 : Value} {x1 x2 : List Value} (h1 : w1.ownsRow b1 e1 s1 v1 n1 x1) (h2 : w2.ownsRow b2 e2 s2 v2 n2 x2) (h : w1.heap.size ≤ b2) : v2.ownBlock = none ∨ v2.ownBlock ≠ v1.ownBlock := by
  cases e : v2.ownBlock with
  | none => exact .inl rfl
  | some b => exact .inr (fun e' => by have := (h2.lt b e).1; have := (h1.lt b e'.symm).2; omega)
theorem Grew.row {B : Nat} {w w1 w2 : World} {b e s n : Nat} {v : Value} {x : List Value} {W : World} (h : Grew B w w1) (hg : w1.grownBy w2 v.ownBlock) (ho : W.ownsRow b e s v n x) (hb : B ≤ b) : Grew B w w2 := by
  cases e' : v.ownBlock with
  | none => rw [e'] at hg; exact ⟨h.1.trans ⟨hg.os, hg.tape, hg.output, hg.size, fun i hi => hg.block i (by have := h.2; omega) (by simp)⟩, Nat.le_trans h.2 hg.size⟩
  | some k => rw [e'] at hg; exact h.grown hg (by have := (ho.lt k e').1; omega)
theorem same_row {w : World} {b1 b2 : Nat} {v1 v2 : Value} {S : Rc} (h1 : w.ownsRow b1 26 2 v1 S.length (flat S)) (h2 : w.ownsRow b2 26 2 v2 S.length (flat S)) (hn : S.length ≤ 5000) : Calls Try.prog 19 #[v1, v2] w fun e w' => e = .returned (.bool true) ∧ Below w.heap.size w w' := same_true h1 h2 hn
theorem over_row {w : World} {b1 : Nat} {v1 : Value} {S : Rc} (h1 : w.ownsRow b1 26 2 v1 S.length (flat S)) (hn : S.length ≤ 5000) : Calls Try.prog 20 #[v1] w fun e w' => e = .returned (.tuple #[]) ∧ w.grownBy w' v1.ownBlock := over_any h1 hn
def actA (k o t e : Int) (n : Nat) : Value := .agg #[.int .i64 k, .int .i64 o, .int .i64 t, .int .i64 e, .int .u64 n]
set_option maxHeartbeats 4000000 in
theorem lists_6 {w : World} {rb mb qb : Nat} {vq : Value} {L : Rc} {k o a b : Int} {n : Nat} (hr : Rec w rb mb L) (hq : RRec w qb vq L) (h3 : k ≠ 3) (h5 : k ≠ 5) :
    Calls Try.prog 78 #[.agg #[.pointer (some ⟨rb, 0, none⟩), .pointer (some ⟨qb, 0, none⟩)], .agg #[.int .i64 k, .int .i64 o, .int .i64 a, .int .i64 b, .int .u64 n]] w fun e w' => e = .returned (.bool true) ∧ Below w.heap.size w w' := by
  have g0 := ((Grew.refl w).alloc (.cells #[.pointer (some ⟨rb, 0, none⟩), .pointer (some ⟨qb, 0, none⟩)] 55)).alloc (.cells #[.int .i64 k, .int .i64 o, .int .i64 a, .int .i64 b, .int .u64 n] 58)
  have p0 := heap_past (o' := .cells #[.int .i64 k, .int .i64 o, .int .i64 a, .int .i64 b, .int .u64 n] 58) (heap_alloc_last w (.cells #[.pointer (some ⟨rb, 0, none⟩), .pointer (some ⟨qb, 0, none⟩)] 55))
  have q0 := heap_at1 w (.cells #[.pointer (some ⟨rb, 0, none⟩), .pointer (some ⟨qb, 0, none⟩)] 55) (.cells #[.int .i64 k, .int .i64 o, .int .i64 a, .int .i64 b, .int .u64 n] 58)
  obtain ⟨c0, c1⟩ := cells_two p0
  obtain ⟨d0, d1, d2, d3, d4⟩ := cells_five q0
  have HR := hide_ hr
  have HQ := hide_ hq
  have hlen : (bt L a b).length ≤ 5000 := by have := bt_len L a b; have := hr.ok.len; omega
  have tok1 : True := trivial
  have tok2 : True := trivial
  have tok3 : True := trivial
  have tok4 : True := trivial
  have g0s := g0.2
  clear hr hq
  go_enter Try.func78, Try.ntmps78
  go_wp2_with (first
    | ((with_reducible apply wpList_store_new); (with_reducible rfl); (with_reducible rfl); rfl; rfl; kernel_rfl; rfl; kernel_rfl)
    | (go_at_call 36; have _t := tok1; go_must (
        (with_reducible refine (between_rec (a := a) (b := b) (HR.out.below g0.below)).mono ?_)
        rintro e w1 ⟨v1, rfl, l1, _, hb1⟩
        have g1 := g0.step hb1
        have p1 := (hb1.block _ (lt_of_heap p0)).trans p0
        have q1 := (hb1.block _ (lt_of_heap q0)).trans q0
        obtain ⟨c0, c1⟩ := cells_two p1
        obtain ⟨d0, d1, d2, d3, d4⟩ := cells_five q1
        clear tok1 p0 q0 hb1))
    | (go_at_call 36; have _t := tok2; go_must (
        (with_reducible refine (between_rec (a := a) (b := b) (HR.out.below g1.below)).mono ?_)
        rintro e w2 ⟨v2, rfl, l2, _, hb2⟩
        have hne := row_ne l1 l2 (Nat.le_refl _)
        have g2 := g1.step hb2
        have p2 := (hb2.block _ (lt_of_heap p1)).trans p1
        have q2 := (hb2.block _ (lt_of_heap q1)).trans q1
        obtain ⟨c0, c1⟩ := cells_two p2
        obtain ⟨d0, d1, d2, d3, d4⟩ := cells_five q2
        have l12 := own_below l1 hb2
        clear tok2 p1 q1 hb2 l1))
    | (go_at_call 107; go_must (
        (with_reducible refine (rbetween_rec (a := a) (b := b) (HQ.out.below g2.below)).mono ?_)
        rintro e w3 ⟨v3, rfl, l3, _, hb3⟩
        have hne3 := row_ne l12 l3 (Nat.le_refl _)
        have g3 := g2.step hb3
        have l13 := own_below l12 hb3
        have l23 := own_below l2 hb3
        clear p2 q2 hb3 l12 l2))
    | (go_at_call 19; have _t := tok3; go_must (
        (with_reducible refine (same_row l13 l3 hlen).mono ?_)
        rintro e w4 ⟨rfl, hb4⟩
        have g4 := g3.step hb4
        have l14 := own_below l13 hb4
        have l24 := own_below l23 hb4
        have l34 := own_below l3 hb4
        clear tok3 hb4 l13 l23 l3))
    | (go_at_call 19; have _t := tok4; go_must (
        (with_reducible refine (same_row l24 l34 hlen).mono ?_)
        rintro e w5 ⟨rfl, hb5⟩
        have g5 := g4.step hb5
        have l15 := own_below l14 hb5
        have l25 := own_below l24 hb5
        have l35 := own_below l34 hb5
        clear tok4 hb5 l14 l24 l34))
    | (go_at_call 20; go_must (
        (with_reducible refine (over_row l15 hlen).mono ?_)
        rintro e w6 ⟨rfl, hb6⟩
        have g6 := g5.row hb6 l15 g0s
        have l26 := l25.kept hb6 hne
        have l36 := l35.kept hb6 hne3
        clear hb6 l15 l25 l35))
    | (go_at_call 19; go_must (
        (with_reducible refine (same_row l26 l36 hlen).mono ?_)
        rintro e w7 ⟨rfl, hb7⟩
        have g7 := g6.step hb7)))
  go_ret
  exact ⟨rfl, g7.below⟩
theorem gaps_len {w : World} {rb mb : Nat} {L : Rc} (h : Rec w rb mb L) (a b : Int) : (gapsOf L a b).length ≤ 5000 := by
  have h1 := bt_len L a b
  have h2 := h.ok.len
  unfold gapsOf
  split
  · have := gst_len a (bt L a b ++ [(b, 0)]) (bt L a b ++ [(b, 0)]).length
    simp at this ⊢
    omega
  · simp
set_option maxHeartbeats 4000000 in
theorem lists_5 {w : World} {rb mb qb : Nat} {vq : Value} {L : Rc} {k o a b : Int} {n : Nat} (hr : Rec w rb mb L) (hq : RRec w qb vq L) (h5 : k = 5) :
    Calls Try.prog 78 #[.agg #[.pointer (some ⟨rb, 0, none⟩), .pointer (some ⟨qb, 0, none⟩)], .agg #[.int .i64 k, .int .i64 o, .int .i64 a, .int .i64 b, .int .u64 n]] w fun e w' => e = .returned (.bool true) ∧ Below w.heap.size w w' := by
  have g0 := ((Grew.refl w).alloc (.cells #[.pointer (some ⟨rb, 0, none⟩), .pointer (some ⟨qb, 0, none⟩)] 55)).alloc (.cells #[.int .i64 k, .int .i64 o, .int .i64 a, .int .i64 b, .int .u64 n] 58)
  have p0 := heap_past (o' := .cells #[.int .i64 k, .int .i64 o, .int .i64 a, .int .i64 b, .int .u64 n] 58) (heap_alloc_last w (.cells #[.pointer (some ⟨rb, 0, none⟩), .pointer (some ⟨qb, 0, none⟩)] 55))
  have q0 := heap_at1 w (.cells #[.pointer (some ⟨rb, 0, none⟩), .pointer (some ⟨qb, 0, none⟩)] 55) (.cells #[.int .i64 k, .int .i64 o, .int .i64 a, .int .i64 b, .int .u64 n] 58)
  obtain ⟨c0, c1⟩ := cells_two p0
  obtain ⟨d0, d1, d2, d3, d4⟩ := cells_five q0
  have HR := hide_ hr
  have HQ := hide_ hq
  have hlen := gaps_len hr a b
  have tok1 : True := trivial
  have tok2 : True := trivial
  have tok3 : True := trivial
  have tok4 : True := trivial
  have g0s := g0.2
  clear hr hq
  subst h5
  go_enter Try.func78, Try.ntmps78
  go_wp2_with (first
    | ((with_reducible apply wpList_store_new); (with_reducible rfl); (with_reducible rfl); rfl; rfl; kernel_rfl; rfl; kernel_rfl)
    | (go_at_call 35; have _t := tok1; go_must (
        (with_reducible refine (gaps_rec (a := a) (b := b) (HR.out.below g0.below)).mono ?_)
        rintro e w1 ⟨v1, rfl, l1, _, hb1⟩
        have g1 := g0.step hb1
        have p1 := (hb1.block _ (lt_of_heap p0)).trans p0
        have q1 := (hb1.block _ (lt_of_heap q0)).trans q0
        obtain ⟨c0, c1⟩ := cells_two p1
        obtain ⟨d0, d1, d2, d3, d4⟩ := cells_five q1
        clear tok1 p0 q0 hb1))
    | (go_at_call 35; have _t := tok2; go_must (
        (with_reducible refine (gaps_rec (a := a) (b := b) (HR.out.below g1.below)).mono ?_)
        rintro e w2 ⟨v2, rfl, l2, _, hb2⟩
        have hne := row_ne l1 l2 (Nat.le_refl _)
        have g2 := g1.step hb2
        have p2 := (hb2.block _ (lt_of_heap p1)).trans p1
        have q2 := (hb2.block _ (lt_of_heap q1)).trans q1
        obtain ⟨c0, c1⟩ := cells_two p2
        obtain ⟨d0, d1, d2, d3, d4⟩ := cells_five q2
        have l12 := own_below l1 hb2
        clear tok2 p1 q1 hb2 l1))
    | (go_at_call 106; go_must (
        (with_reducible refine (rgaps_rec (a := a) (b := b) (HQ.out.below g2.below)).mono ?_)
        rintro e w3 ⟨v3, rfl, l3, _, hb3⟩
        have hne3 := row_ne l12 l3 (Nat.le_refl _)
        have g3 := g2.step hb3
        have l13 := own_below l12 hb3
        have l23 := own_below l2 hb3
        clear p2 q2 hb3 l12 l2))
    | (go_at_call 72; have _t := tok3; go_must (
        (with_reducible refine (pairs_true l13 l3 hlen).mono ?_)
        rintro e w4 ⟨rfl, hb4⟩
        have g4 := g3.step hb4
        have l14 := own_below l13 hb4
        have l24 := own_below l23 hb4
        have l34 := own_below l3 hb4
        clear tok3 hb4 l13 l23 l3))
    | (go_at_call 72; have _t := tok4; go_must (
        (with_reducible refine (pairs_true l24 l34 hlen).mono ?_)
        rintro e w5 ⟨rfl, hb5⟩
        have g5 := g4.step hb5
        have l15 := own_below l14 hb5
        have l25 := own_below l24 hb5
        have l35 := own_below l34 hb5
        clear tok4 hb5 l14 l24 l34)))
  have hneN := hide_ hne
  have hne3N := hide_ hne3
  have hbase := (Grew.refl w).2
  rcases row_block l15 with ⟨rfl, hz⟩ | ⟨g, c, cur, rfl, _, hg, hsz⟩
  · have HL2 := hide_ l25
    have HL3 := hide_ l35
    clear l15 l25 l35 hne hne3
    go_loopw [15] (fun i wr => i = .int .i64 0 ∧ w5 = wr) (fun i _ => 0)
    case atStart => exact ⟨rfl, rfl⟩
    case round =>
      obtain ⟨rfl, rfl⟩ := hrel
      go_wp2_with (go_at_call 72; go_must (
        (with_reducible refine (pairs_true HL2.out HL3.out hlen).mono ?_)
        rintro e w7 ⟨rfl, hb7⟩
        have g7 := g5.step hb7))
      go_ret
      exact ⟨rfl, g7.below⟩
  · have HL2 := hide_ l25
    have HL3 := hide_ l35
    have HL1 := hide_ l15
    generalize hN : (gapsOf L a b).length = N at *
    clear l15 l25 l35 hne hne3
    go_loopw [15] (fun i wr => ∃ k : Nat, k ≤ N ∧ i = .int .i64 k ∧ Hid (∃ cur', wr.heap[g]? = some (.cells cur' 76) ∧ cur'.size = cur.size) ∧ w5.grownBy wr (some g)) (fun i _ => N - (intOf i).toNat)
    case atStart => exact ⟨0, by omega, rfl, hide_ ⟨_, hg, rfl⟩, ⟨rfl, rfl, rfl, Nat.le_refl _, fun _ _ _ => rfl⟩⟩
    case round =>
      obtain ⟨k, hk, rfl, hc, hgr⟩ := hrel
      by_cases hlt : k < N
      · obtain ⟨cur', hg', hs'⟩ := hc.out
        obtain ⟨x0, hx0⟩ := blk_cell hg' (j := k * 2) (by omega)
        obtain ⟨x1, hx1⟩ := blk_cell hg' (j := k * 2 + 1) (by omega)
        have f0 := blk_free hg' (k * 2)
        have f1 := blk_free hg' (k * 2 + 1)
        have HG := hide_ hg'
        clear hg'
        go_wp2
        go_roundw
        case rel =>
          refine ⟨k + 1, by omega, by go_num, hide_ ?_, (hgr.trans (setCell_grown _ _ _)).trans (setCell_grown _ _ _)⟩
          obtain ⟨c1, e1, z1⟩ := set_blk (j := k * 2) HG.out (.int .i64 (-7))
          obtain ⟨c2, e2, z2⟩ := set_blk (j := k * 2 + 1) e1 (.int .i64 (-7))
          exact ⟨c2, e2, by omega⟩
        case measure => simp [intOf]; omega
      · obtain rfl : k = N := by omega
        have hge : ¬ k < k := by omega
        have g6 := g5.row (v := .slice (some ⟨g, 0, none⟩) k c) hgr HL1.out g0s
        have l26 := HL2.out.kept hgr hneN.out
        have l36 := HL3.out.kept hgr hne3N.out
        go_wp2_with (go_at_call 72; go_must (
          (with_reducible refine (pairs_true (G := gapsOf L a b) (by rw [hN]; exact l26) (by rw [hN]; exact l36) (by rw [hN]; exact hlen)).mono ?_)
          rintro e w7 ⟨rfl, hb7⟩
          have g7 := g6.step hb7))
        go_ret
        exact ⟨rfl, g7.below⟩
end Go.Proofs.Ytlgnidjkilbdfaa
