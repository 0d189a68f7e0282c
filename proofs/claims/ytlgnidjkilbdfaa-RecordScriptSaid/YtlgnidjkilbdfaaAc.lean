/- Chapter 19: act: one call on two records. -/
import Derived.Test.YtlgnidjkilbdfaaLi2
import Derived.Test.YtlgnidjkilbdfaaGn
import Derived.Test.YtlgnidjkilbdfaaAp
namespace Go.Proofs.Ytlgnidjkilbdfaa
open Go.RowKit
set_option linter.unusedVariables false
set_option maxRecDepth 100000
theorem step_want {P : Program} {ops : Array Oper} {o : Oper} {a : Act} {w : World} {K : Act → World → Prop} {Q : Exit → Act → World → Prop} {E : Prop} (hw : Region.wanted o (yielded ops a.tmps) = true) (h : Oper.wp P o a w K Q) :
    if Region.wanted o (yielded ops a.tmps) = true then Oper.wp P o a w K Q else E := by
  rw [if_pos hw]
  exact h
/-- What one call on a pair of records does. -/
def Chg (w w' : World) (mb qb : Nat) : Prop := ∃ wm, w.grownBy wm (some mb) ∧ wm.grownBy w' (some qb)
def PostA (w : World) (rb mb qb : Nat) (e : Ending) (w' : World) : Prop := e = .returned (.bool true) ∧ ∃ L', (Rec w' rb mb L' ∧ ∃ v, RRec w' qb v L') ∧ Chg w w' mb qb
theorem post_same {w w' : World} {rb mb qb : Nat} {vq : Value} {L : Rc} {e : Ending} (hr : Rec w rb mb L) (hq : RRec w qb vq L) (h : e = .returned (.bool true) ∧ Below w.heap.size w w') : PostA w rb mb qb e w' :=
  ⟨h.1, L, ⟨hr.below h.2, vq, hq.below h.2⟩, w', grown_of_below h.2 _, ⟨rfl, rfl, rfl, Nat.le_refl _, fun _ _ _ => rfl⟩⟩
theorem Rec.off {w w' : World} {rb mb qb : Nat} {v : Value} {L M : Rc} (h : Rec w rb mb L) (hq : RRec w qb v M) (hg : w.grownBy w' (some qb)) : Rec w' rb mb L :=
  h.kept hg (fun e => by cases e; have := hq.box; rw [h.box] at this; cases this) (fun e => by
    cases e
    obtain ⟨es, clock, hb, _⟩ := h.own
    rw [hq.box] at hb
    cases hb)
theorem RRec.off {w w' : World} {rb mb qb : Nat} {v : Value} {L M : Rc} (h : RRec w qb v L) (hr : Rec w rb mb M) (hg : w.grownBy w' (some mb)) : RRec w' qb v L := by
  obtain ⟨es, clock, hb, _⟩ := hr.own
  refine h.kept hg (fun e => by cases e; rw [h.box] at hb; cases hb) ?_
  rcases h.own.2 with ⟨e, _⟩ | ⟨g, cap, cur, e, _, hg', _⟩
  · exact .inl (by rw [e]; rfl)
  · refine .inr (fun e' => ?_)
    rw [e] at e'
    simp [Value.ownBlock] at e'
    subst e'
    rw [hg'] at hb
    cases hb
set_option maxHeartbeats 4000000 in
theorem act_0 {w : World} {rb mb qb : Nat} {vq : Value} {L : Rc} {k o a b : Int} {n : Nat} (hr : Rec w rb mb L) (hq : RRec w qb vq L) (ha : I64 a) (hn : n < 2 ^ 64) (h0 : k = 0) :
    Calls Try.prog 32 #[.agg #[.pointer (some ⟨rb, 0, none⟩), .pointer (some ⟨qb, 0, none⟩)], .agg #[.int .i64 k, .int .i64 o, .int .i64 a, .int .i64 b, .int .u64 n]] w (PostA w rb mb qb) := by
  subst h0
  have g0 := ((Grew.refl w).alloc (.cells #[.pointer (some ⟨rb, 0, none⟩), .pointer (some ⟨qb, 0, none⟩)] 55)).alloc (.cells #[.int .i64 0, .int .i64 o, .int .i64 a, .int .i64 b, .int .u64 n] 58)
  have p0 := heap_past (o' := .cells #[.int .i64 0, .int .i64 o, .int .i64 a, .int .i64 b, .int .u64 n] 58) (heap_alloc_last w (.cells #[.pointer (some ⟨rb, 0, none⟩), .pointer (some ⟨qb, 0, none⟩)] 55))
  have q0 := heap_at1 w (.cells #[.pointer (some ⟨rb, 0, none⟩), .pointer (some ⟨qb, 0, none⟩)] 55) (.cells #[.int .i64 0, .int .i64 o, .int .i64 a, .int .i64 b, .int .u64 n] 58)
  obtain ⟨c0, c1⟩ := cells_two p0
  obtain ⟨d0, d1, d2, d3, d4⟩ := cells_five q0
  have HR := hide_ hr
  have HQ := hide_ hq
  have HA := hide_ ha
  have HN := hide_ hn
  clear hr hq ha hn
  go_enter Try.func32, Try.ntmps32
  go_wp2_with (first
    | ((with_reducible apply wpList_store_new); (with_reducible rfl); (with_reducible rfl); rfl; rfl; kernel_rfl; rfl; kernel_rfl)
    | (go_at_call 16; go_must (
        (with_reducible refine (sample_nat a n _).mono ?_)
        rintro e w1 ⟨rfl, hb1⟩
        have g1 := g0.step hb1
        have p1 := heap_past (o' := .cells #[.int .i64 a, .float .f64 n] 26) ((hb1.block _ (lt_of_heap p0)).trans p0)
        have q1 := heap_alloc_last w1 (.cells #[.int .i64 a, .float .f64 n] 26)
        obtain ⟨c0, c1⟩ := cells_two p1
        obtain ⟨d0, d1⟩ := cells_two q1
        have g2 := g1.alloc (.cells #[.int .i64 a, .float .f64 n] 26)
        have g1s := g1.2
        clear p0 q0 hb1 g1)))
  have hmb := HR.out.lt.2
  have g2s := g2.2
  have g2d := g2.drew
  have tok1 : True := trivial
  go_region_law (first
    | (have _t := tok1; refine step_in rfl ?_; go_simp; go_at_call 28; go_must (
        (with_reducible refine (add_rec (HR.out.below g2d.below) HA.out HN.out).mono ?_)
        rintro e w3 ⟨rfl, hr3, hg3⟩
        have hq3 := (HQ.out.below g2d.below).off (HR.out.below g2d.below) hg3
        have p3 := (hg3.block _ (lt_of_heap p1) (fun e => by have := Option.some.inj e; omega)).trans p1
        have q3 := (hg3.block _ (lt_of_heap q1) (fun e => by have := Option.some.inj e; simp only [World.size_alloc] at g2s; have := g1s; omega)).trans q1
        obtain ⟨c0, c1⟩ := cells_two p3
        obtain ⟨d0, d1⟩ := cells_two q3
        clear tok1 p1 q1))
    | (refine step_in rfl ?_; go_simp; go_at_call 67; go_must (
        (with_reducible refine (radd_rec hq3 HN.out).mono ?_)
        rintro e w4 ⟨rfl, hq4, hg4⟩
        have hr4 := hr3.off hq3 hg4)))
  all_goals go_wp2
  all_goals go_ret
  all_goals exact ⟨rfl, _, ⟨hr4, hq4⟩, w3, (grown_of_below g2d.below _).trans hg3, hg4⟩
set_option maxHeartbeats 4000000 in
theorem act_1 {w : World} {rb mb qb : Nat} {vq : Value} {L : Rc} {k o a b : Int} {n : Nat} (hr : Rec w rb mb L) (hq : RRec w qb vq L) (ha : I64 a) (h1 : k = 1) :
    Calls Try.prog 32 #[.agg #[.pointer (some ⟨rb, 0, none⟩), .pointer (some ⟨qb, 0, none⟩)], .agg #[.int .i64 k, .int .i64 o, .int .i64 a, .int .i64 b, .int .u64 n]] w (PostA w rb mb qb) := by
  subst h1
  have g0 := ((Grew.refl w).alloc (.cells #[.pointer (some ⟨rb, 0, none⟩), .pointer (some ⟨qb, 0, none⟩)] 55)).alloc (.cells #[.int .i64 1, .int .i64 o, .int .i64 a, .int .i64 b, .int .u64 n] 58)
  have p0 := heap_past (o' := .cells #[.int .i64 1, .int .i64 o, .int .i64 a, .int .i64 b, .int .u64 n] 58) (heap_alloc_last w (.cells #[.pointer (some ⟨rb, 0, none⟩), .pointer (some ⟨qb, 0, none⟩)] 55))
  have q0 := heap_at1 w (.cells #[.pointer (some ⟨rb, 0, none⟩), .pointer (some ⟨qb, 0, none⟩)] 55) (.cells #[.int .i64 1, .int .i64 o, .int .i64 a, .int .i64 b, .int .u64 n] 58)
  obtain ⟨c0, c1⟩ := cells_two p0
  obtain ⟨d0, d1, d2, d3, d4⟩ := cells_five q0
  have HR := hide_ hr
  have HQ := hide_ hq
  have HA := hide_ ha
  clear hr hq ha
  have hmb := HR.out.lt.2
  have g0s := g0.2
  have g2d := g0.drew
  have tok1 : True := trivial
  go_enter Try.func32, Try.ntmps32
  go_wp2_with (first
    | ((with_reducible apply wpList_store_new); (with_reducible rfl); (with_reducible rfl); rfl; rfl; kernel_rfl; rfl; kernel_rfl))
  go_region_law (first
    | (have _t := tok1; refine step_in rfl ?_; go_simp; go_at_call 30; go_must (
        (with_reducible refine (take_rec (HR.out.below g2d.below) HA.out).mono ?_)
        rintro e w3 ⟨rfl, hr3, hg3⟩
        have hq3 := (HQ.out.below g2d.below).off (HR.out.below g2d.below) hg3
        have p3 := (hg3.block _ (lt_of_heap p0) (fun e => by have := Option.some.inj e; omega)).trans p0
        have q3 := (hg3.block _ (lt_of_heap q0) (fun e => by have := Option.some.inj e; omega)).trans q0
        obtain ⟨c0, c1⟩ := cells_two p3
        obtain ⟨d0, d1, d2, d3, d4⟩ := cells_five q3
        clear tok1 p0 q0))
    | (refine step_in rfl ?_; go_simp; go_at_call 74; go_must (
        (with_reducible refine (rtake_rec hq3 HA.out).mono ?_)
        rintro e w4 ⟨rfl, hq4, hg4⟩
        have hr4 := hr3.off hq3 hg4)))
  all_goals go_wp2
  all_goals go_ret
  all_goals exact ⟨rfl, _, ⟨hr4, hq4⟩, w3, (grown_of_below g2d.below _).trans hg3, hg4⟩
set_option maxHeartbeats 4000000 in
theorem act_4 {w : World} {rb mb qb : Nat} {vq : Value} {L : Rc} {k o a b : Int} {n : Nat} (hr : Rec w rb mb L) (hq : RRec w qb vq L) (ha : I64 a) (h1 : k = 4) :
    Calls Try.prog 32 #[.agg #[.pointer (some ⟨rb, 0, none⟩), .pointer (some ⟨qb, 0, none⟩)], .agg #[.int .i64 k, .int .i64 o, .int .i64 a, .int .i64 b, .int .u64 n]] w (PostA w rb mb qb) := by
  subst h1
  have g0 := ((Grew.refl w).alloc (.cells #[.pointer (some ⟨rb, 0, none⟩), .pointer (some ⟨qb, 0, none⟩)] 55)).alloc (.cells #[.int .i64 4, .int .i64 o, .int .i64 a, .int .i64 b, .int .u64 n] 58)
  have p0 := heap_past (o' := .cells #[.int .i64 4, .int .i64 o, .int .i64 a, .int .i64 b, .int .u64 n] 58) (heap_alloc_last w (.cells #[.pointer (some ⟨rb, 0, none⟩), .pointer (some ⟨qb, 0, none⟩)] 55))
  have q0 := heap_at1 w (.cells #[.pointer (some ⟨rb, 0, none⟩), .pointer (some ⟨qb, 0, none⟩)] 55) (.cells #[.int .i64 4, .int .i64 o, .int .i64 a, .int .i64 b, .int .u64 n] 58)
  obtain ⟨c0, c1⟩ := cells_two p0
  obtain ⟨d0, d1, d2, d3, d4⟩ := cells_five q0
  have HR := hide_ hr
  have HQ := hide_ hq
  have HA := hide_ ha
  clear hr hq ha
  have H1 := hide_ (at_rec (HR.out.below g0.below) HA.out)
  have H2 := hide_ (fun (W : World) (hb : Below w.heap.size w W) => rat_rec (t := a) (HQ.out.below hb))
  generalize (if (hasT L a && oneB (atT L a)) = true then atT L a else 0) = F at H1 H2
  generalize (hasT L a && oneB (atT L a)) = G at H1 H2
  have H3 := hide_ (fun W => by have h := same_any F F W; rw [sameB_self] at h; exact h)
  go_enter Try.func32, Try.ntmps32
  go_wp2_with (first
    | ((with_reducible apply wpList_store_new); (with_reducible rfl); (with_reducible rfl); rfl; rfl; kernel_rfl; rfl; kernel_rfl)
    | (go_at_call 37; go_must (
        (with_reducible refine H1.out.mono ?_)
        rintro e w1 ⟨rfl, n1, rfl⟩
        have g1 := g0.drewN n1))
    | (go_at_call 77; go_must (
        (with_reducible refine (H2.out _ g1.below).mono ?_)
        rintro e w2 ⟨rfl, hb2⟩
        have g2 := g1.step hb2))
    | (go_at_call 38; go_must (
        (with_reducible refine (H3.out _).mono ?_)
        rintro e w3 ⟨rfl, rfl⟩)))
  go_ret
  exact post_same HR.out HQ.out ⟨rfl, g2.below⟩
end Go.Proofs.Ytlgnidjkilbdfaa
