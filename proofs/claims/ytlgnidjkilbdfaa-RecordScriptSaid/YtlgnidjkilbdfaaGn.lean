/- Chapter 19: gone: the samples gone over. -/
import Derived.Test.YtlgnidjkilbdfaaAwk
import Derived.RangeFuncNested
import Derived.RangeFuncCalls
namespace Go.Proofs.Ytlgnidjkilbdfaa
open Go.RowKit Go.Shelf
set_option linter.unusedVariables false
set_option maxRecDepth 100000
attribute [local go_sem] Oper.semAt_some
theorem run_func_nil2 (f : Fn) (a b : Array Value) (w : World) : (binOp .eql 111 (.func f a b) .nilFunc).run Try.prog w = .ok (.bool false) w := by kernel_rfl
theorem wide_fn2 (f : Nat) : Fence.wide.fn f = True := eq_true trivial
theorem wide_in (l f : Nat) : (Fence.wide.inRound l).fn f = True := eq_true trivial
attribute [local go_sem] run_func_nil2 wide_fn2 wide_in
theorem below_below {B B' : Nat} {w w' : World} (h : Below B' w w') (hB : B ≤ B') : Below B w w' := h.mono hB
set_option maxHeartbeats 4000000 in
theorem gone_rec {w : World} {rb mb qb : Nat} {vq : Value} {L : Rc} {stop : Int} (hr : Rec w rb mb L) (hq : RRec w qb vq L) : Calls Try.prog 33 #[.agg #[.pointer (some ⟨rb, 0, none⟩), .pointer (some ⟨qb, 0, none⟩)], .int .i64 stop] w fun e w' =>
    e = .returned (.bool true) ∧ Below w.heap.size w w' := by
  refine (callsIn_wide (n := 6)).1 ?_
  obtain ⟨w0, hw0⟩ : ∃ w0, w0 = ((w.alloc (.cells #[.pointer (some ⟨rb, 0, none⟩), .pointer (some ⟨qb, 0, none⟩)] 55)).alloc (.cells #[.int .i64 stop] 3)).alloc (.cells #[.bool false] 4) := ⟨_, rfl⟩
  have hb0 : Below w.heap.size w w0 := by rw [hw0]; exact (((Below.refl _ w).alloc (Nat.le_refl _) _).alloc (by first | assumption | (simp; done) | (simp; omega) | omega) _).alloc (by first | assumption | (simp; done) | (simp; omega) | omega) _
  have hA : w0.heap[w.heap.size]? = some (.cells #[.pointer (some ⟨rb, 0, none⟩), .pointer (some ⟨qb, 0, none⟩)] 55) := by rw [hw0]; exact heap_past (heap_past (heap_alloc_last _ _))
  have hSt : Boxed w0 (w.heap.size + 1) 3 (.int .i64 stop) := by rw [hw0]; exact heap_past (heap_at1 w _ _)
  have hRs : Boxed w0 (w.heap.size + 1 + 1) 4 (.bool false) := by rw [hw0]; exact heap_at2 w _ _ _
  have hz0 : w0.heap.size = w.heap.size + 3 := by rw [hw0]; simp
  have HL := hide_ (fun n => callsIn_wide (n := n).2 (rsamples_rec (hq.below hb0)))
  have hr0 := hide_ (hr.below hb0)
  have hol : (ones L).length ≤ 5000 := Nat.le_trans (List.length_filter_le _ _) (by have := hr.ok.len; omega)
  obtain ⟨cA0, cA1⟩ := cells_two hA
  have hz0 := hide_ hz0
  have hb0 := hide_ hb0
  have HA := hide_ hA
  have HSt := hide_ hSt
  have HRs := hide_ hRs
  have HW0 := hide_ hw0
  clear hr hq hA hSt hRs
  refine callsIn_of_wp_marks Try.func33 rfl trivial ?_ rfl
  simp only [Try.ntmps33, List.size_toArray, List.length_cons, List.length_nil, Nat.reduceAdd, Nat.reduceSub, Array.replicate_succ, Array.replicate_zero, List.push_toArray, List.append_toArray, List.nil_append, List.cons_append]
  rw [hw0] at cA0 cA1
  gi_wp2_with (first
    | ((with_reducible apply wpList_store_new); (with_reducible rfl); (with_reducible rfl); rfl; rfl; kernel_rfl; rfl; kernel_rfl)
    | (gi_at_call 22; go_must (rw [← HW0.out]; refine (HL.out _).mono ?_; rintro e w1 ⟨v, rfl, hv, _, hb1⟩; have HAll := hide_ (fun n => callsIn_wide (n := n).2 (all_rec ((hr0.out.below hb1).below (below_alloc w1 (.cells #[v] 23))))); have hA1 := heap_past (o' := .cells #[v] 23) ((hb1.block _ (by have := hz0.out; omega)).trans HA.out); obtain ⟨d0, d1⟩ := cells_two hA1; obtain ⟨p, c, rfl⟩ := row_slice hv))
    | (gi_at_call 79; go_must (refine (HAll.out _).mono ?_; rintro e w2 ⟨B, vB, rfl, hB, hvB, hBs, hb2⟩)))
  have hz := hz0.out
  have s1 := hb1.size
  have s2 := hb2.size
  simp only [World.size_alloc] at s2 hBs
  have hW2 : Grew w.heap.size w w2 := ⟨(hb0.out.trans (hb1.mono (by omega))).trans ((((Below.refl _ w1).alloc (Nat.le_refl _) (.cells #[.slice p (ones L).length c] 23)).mono (by omega)).trans (hb2.mono (by simp; omega))), by omega⟩
  have bSt : Boxed w2 (w.heap.size + 1) 3 (.int .i64 stop) := (hb2.block _ (by simp; omega)).trans (heap_past ((hb1.block _ (by omega)).trans HSt.out))
  have bRs : Boxed w2 (w.heap.size + 1 + 1) 4 (.bool false) := (hb2.block _ (by simp; omega)).trans (heap_past ((hb1.block _ (by omega)).trans HRs.out))
  have bV : Boxed w2 w1.heap.size 23 (.slice p (ones L).length c) := (hb2.block _ (by simp)).trans (heap_alloc_last _ _)
  have hSL : SL w2 w0.heap.size (.slice p (ones L).length c) (ones L) := own_below (hv.alloc _) hb2
  obtain ⟨g, hgl, hSG⟩ := SG.of hvB (by omega)
  have hSG := hSG
  have HB := hide_ hB
  have HSG := hide_ hSG
  have HSL := hide_ hSL
  have HbSt := hide_ bSt
  have HbRs := hide_ bRs
  have HbV := hide_ bV
  have HBl := lt_of_heap hB
  clear hb1 hb2 hv hvB hA1 d0 d1 cA0 cA1 hB hSG hSL bSt bRs bV HL HAll
  generalize ones L = S at *
  refine wpIn_rangeFunc_ownG rfl (by omega) (gf := 108) (lb := #[.pointer (some ⟨B, 0, none⟩)]) rfl trivial (enters_of Try.func108 (by kernel_rfl) rfl)
    (all_stops Fence.wide 5 trivial rfl (by omega) B g vB S hol w2 HBl hgl (cells_one HB.out) HSG.out) kpB_t (kpB_b (by simp; omega)) (below_alloc w2 (.cells #[.int .i64 0] 3)) (fun _ => rfl)
    (fun pre W => Boxed W w2.heap.size 3 (.int .i64 (pre.length : Int)) ∧ Below w2.heap.size w2 W)
    (fun c pre W => ∃ b, (Boxed W (w.heap.size + 1 + 1) 4 (.bool b) ∧ Below w.heap.size w W) ∧ c = .ret ∧ (b = true ∨ ¬ pre <+: S))
    (OwnFrom.and (Own.from (boxed_own _ _ _) _) (ownFrom_below (Nat.le_refl _) (by simp)))
    (fun c s W W' row ⟨b, hs, h2, h3⟩ hg hr => ⟨b, (OwnFrom.and (Own.from (boxed_own _ _ (fun _ : Unit => .bool b)) _) (ownFrom_below (Nat.le_refl _) (by simp; omega))) () W W' row hs hg hr, h2, h3⟩)
    ⟨heap_alloc_last _ _, below_alloc _ _⟩
    ?a1 ?assign ?body ?done ?stop
  case assign =>
    intro l x W K hK
    dsimp only [encS]
    gi_wp2
    exact hK
  case body =>
    rintro l pre x W ⟨hN, hW⟩ hlt
    have hcN := hN.cell
    have hfN := hN.frozen
    have hS1 : Boxed W (w.heap.size + 1) 3 (.int .i64 stop) := (hW.block _ (by omega)).trans HbSt.out
    have hR1 : Boxed W (w.heap.size + 1 + 1) 4 (.bool false) := (hW.block _ (by omega)).trans HbRs.out
    have hV1 : Boxed W w1.heap.size 23 (.slice p S.length c) := (hW.block _ (by omega)).trans HbV.out
    have cS := hS1.cell
    have cR := hR1.cell
    have fR := hR1.frozen
    have cV := hV1.cell
    obtain ⟨g2, rfl, hgl2, hc0, hc1⟩ := (HSL.out.below hW).cells hlt
    obtain ⟨t, ht⟩ : ∃ t, t = (S.getD pre.length (0, 0)).1 := ⟨_, rfl⟩
    obtain ⟨b, hb⟩ : ∃ b, b = (S.getD pre.length (0, 0)).2 := ⟨_, rfl⟩
    rw [← ht] at hc0
    rw [← hb] at hc1
    have hpre : pre ++ [x] <+: S → x = (t, b) := by
      intro h
      have : x = S.getD pre.length (0, 0) := by
        obtain ⟨r, hr⟩ := h
        rw [← hr]
        simp [List.getD_eq_getElem?_getD]
      rw [this, ht, hb]
    have HP := hide_ hpre
    clear hpre ht hb
    have H38 := hide_ (fun n => CallsIn.inRound (F := Fence.wide) l (callsIn_wide (n := n).2 (same_any x.2 b W)))
    have hn5 : pre.length < 5000 := by omega
    have hBW : Below w.heap.size w W := hW2.1.trans (hW.mono hW2.2)
    have hBR : ∀ u, Below w.heap.size w (W.setCell ⟨w.heap.size + 1 + 1, 0, none⟩ u) := fun u => hBW.setCell (by simp; omega) u
    have HBR := hide_ hBR
    clear hBR
    obtain ⟨y, z⟩ := x
    simp only at H38 ⊢
    by_cases hx : y = t
    · cases hsb : sameB z b
      · rw [hsb] at H38
        gi_wp2_with (gi_at_call 38; go_must (refine (H38.out _).mono ?_; rintro e w' ⟨rfl, rfl⟩))
        exact ⟨(KeepsOthers.setCell _ _ _).from _, false, ⟨hR1.set _, HBR.out _⟩, rfl, .inr (fun h => by have := HP.out h; simp only [Prod.mk.injEq] at this; rw [this.2, sameB_self] at hsb; cases hsb)⟩
      · rw [hsb] at H38
        have hk1 : Below w2.heap.size w2 (W.setCell ⟨w2.heap.size, 0, none⟩ (.int .i64 ((pre.length : Int) + 1))) := hW.setCell (Nat.le_refl _) _
        by_cases hst : (pre.length : Int) + 1 = stop
        · gi_wp2_with (gi_at_call 38; go_must (refine (H38.out _).mono ?_; rintro e w' ⟨rfl, rfl⟩))
          exact ⟨((KeepsOthers.setCell _ _ _).trans (KeepsOthers.setCell _ _ _)).from _, true, ⟨(hR1.other (by omega) _).set _, (hBW.setCell (by simp; omega) _).setCell (by simp; omega) _⟩, rfl, .inl rfl⟩
        · gi_wp2_with (gi_at_call 38; go_must (refine (H38.out _).mono ?_; rintro e w' ⟨rfl, rfl⟩))
          exact ⟨(KeepsOthers.setCell _ _ _).from _, set_other (fun e => by simp at e; omega), by have h := hN.set (.int .i64 ((pre.length : Int) + 1)); rw [show ((pre ++ [(y, z)]).length : Int) = (pre.length : Int) + 1 by simp]; exact h, hk1⟩
    · gi_wp2_with (gi_at_call 38; go_must (refine (H38.out _).mono ?_; rintro e w' ⟨rfl, rfl⟩))
      exact ⟨(KeepsOthers.setCell _ _ _).from _, false, ⟨hR1.set _, HBR.out _⟩, rfl, .inr (fun h => hx (by have := HP.out h; simp only [Prod.mk.injEq] at this; exact this.1))⟩
  case done =>
    rintro D ys W hD rfl ⟨hN, hW⟩ hK
    have hcN := hN.cell
    have hR1 : Boxed W (w.heap.size + 1 + 1) 4 (.bool false) := (hW.block _ (by omega)).trans HbRs.out
    have hV1 : Boxed W w1.heap.size 23 (.slice p ys.length c) := (hW.block _ (by omega)).trans HbV.out
    have cR := hR1.cell
    have fR := hR1.frozen
    have cV := hV1.cell
    gi_wp2
    simp only [World.size_alloc] at hD
    have hK2 : (W.setCell ⟨w.heap.size + 1 + 1, 0, none⟩ (.bool true)).heap[D]? = some (.deferred (some [])) := (set_other (by simp; omega)).trans hK
    have hR3 : Boxed ((W.setCell ⟨w.heap.size + 1 + 1, 0, none⟩ (.bool true)).putObj D (.deferred none)) (w.heap.size + 1 + 1) 4 (.bool true) := (hR1.set (.bool true)).kept (grownBy_putObj' _ D _) (by simp; omega)
    have cR3 := hR3.cell
    have hfin : Below w.heap.size w (W.setCell ⟨w.heap.size + 1 + 1, 0, none⟩ (.bool true)) := (hW2.1.trans (hW.mono hW2.2)).setCell (by simp; omega) _
    refine ⟨by simp, .inl ⟨_, _, rfl, run_takeDeferred hK2, ?_⟩⟩
    refine ⟨_, by simp [results, Try.results33, go_sem, cR3], rfl, ?_⟩
    exact hfin.trans (belowK_b (w := w) (Nat.le_refl _) _ D _ _ (by omega) hK2 rfl rfl)
  case stop =>
    rintro D c pre W hD hpre ⟨b, ⟨hR, hb⟩, rfl, hor⟩ hK
    have hbt : b = true := hor.resolve_right (fun h => h hpre)
    subst hbt
    have cR := hR.cell
    gi_wp2
    simp only [World.size_alloc] at hD
    have hR3 : Boxed (W.putObj D (.deferred none)) (w.heap.size + 1 + 1) 4 (.bool true) := hR.kept (grownBy_putObj' _ D _) (by simp; omega)
    have cR3 := hR3.cell
    refine ⟨by simp, .inl ⟨_, _, rfl, run_takeDeferred hK, ?_⟩⟩
    refine ⟨_, by simp [results, Try.results33, go_sem, cR3], rfl, ?_⟩
    exact hb.trans (belowK_b (w := w) (Nat.le_refl _) _ D _ _ (by omega) hK rfl rfl)
end Go.Proofs.Ytlgnidjkilbdfaa
