/- Chapter 19: RecordNone. -/
import Derived.Test.YtlgnidjkilbdfaaNon
import Derived.RangeFuncNested
namespace Go.Proofs.Ytlgnidjkilbdfaa
open Go.RowKit Go.Shelf
set_option linter.unusedVariables false
set_option maxRecDepth 100000
attribute [local go_sem] Oper.semAt_some
theorem run_func_nil (f : Fn) (a b : Array Value) (w : World) : (binOp .eql 111 (.func f a b) .nilFunc).run Try.prog w = .ok (.bool false) w := by kernel_rfl
theorem run_zero_zero (w : World) : (binOp .eql 24 (.float .f64 0) (.float .f64 0)).run Try.prog w = .ok (.bool true) w := by kernel_rfl
theorem cells_five {w : World} {g : Nat} {a b c d e : Value} {T : TypeId} (h : w.heap[g]? = some (.cells #[a, b, c, d, e] T)) : w.cell? ⟨g, 0, none⟩ = some a ∧ w.cell? ⟨g, 1, none⟩ = some b ∧ w.cell? ⟨g, 2, none⟩ = some c ∧ w.cell? ⟨g, 3, none⟩ = some d ∧ w.cell? ⟨g, 4, none⟩ = some e :=
  ⟨cell_of_row _ _ _ _ _ _ h, cell_of_row _ _ _ _ _ _ h, cell_of_row _ _ _ _ _ _ h, cell_of_row _ _ _ _ _ _ h, cell_of_row _ _ _ _ _ _ h⟩
theorem wide_fn (f : Nat) : Fence.wide.fn f = True := eq_true trivial
attribute [local go_sem] run_func_nil run_zero_zero wide_fn
set_option maxHeartbeats 4000000 in
theorem none_law {w : World} {v : Value} {k o t e : Int} {n : Nat} (h : No w v) : Calls Try.prog 34 #[v, .agg #[.int .i64 k, .int .i64 o, .int .i64 t, .int .i64 e, .int .u64 n]] w fun e w' => e = .returned (.bool true) ∧ Below w.heap.size w w' := by
  refine (callsIn_wide (n := 6)).1 ?_
  have hA := heap_alloc_last w (.cells #[.int .i64 k, .int .i64 o, .int .i64 t, .int .i64 e, .int .u64 n] 58)
  have hbA := below_alloc w (.cells #[.int .i64 k, .int .i64 o, .int .i64 t, .int .i64 e, .int .u64 n] 58)
  have hNA := hide_ (h.alloc (.cells #[.int .i64 k, .int .i64 o, .int .i64 t, .int .i64 e, .int .u64 n] 58))
  have hAA := hide_ hA
  have hbA := hide_ hbA
  obtain ⟨c0, c1, c2, c3, c4⟩ := cells_five hA
  have HAt := hide_ (fun t n => callsIn_wide (n := n).2 (at_no (t := t) hNA.out))
  have HGap := hide_ (fun a b n => callsIn_wide (n := n).2 (gaps_no (a := a) (b := b) hNA.out))
  have HBet := hide_ (fun a b n => callsIn_wide (n := n).2 (between_no (a := a) (b := b) hNA.out))
  clear h hA
  have hf1 : Fence.wide.fn 37 := trivial
  have hf2 : Fence.wide.fn 35 := trivial
  have hf3 : Fence.wide.fn 36 := trivial
  have hf4 : Fence.wide.fn 79 := trivial
  refine callsIn_of_wp_marks Try.func34 rfl trivial ?_ rfl
  simp only [Try.ntmps34, List.size_toArray, List.length_cons, List.length_nil, Nat.reduceAdd, Nat.reduceSub, Array.replicate_succ, Array.replicate_zero, List.push_toArray, List.append_toArray, List.nil_append, List.cons_append]
  gi_wp2_with (first
    | ((with_reducible apply wpList_store_new); (with_reducible rfl); (with_reducible rfl); rfl; rfl; kernel_rfl; rfl; kernel_rfl)
    | (gi_at_call 37; refine (HAt.out _ _).mono ?_; rintro e w' ⟨rfl, rfl⟩)
    | (gi_at_call 35; refine (HGap.out _ _ _).mono ?_; rintro e w' ⟨rfl, rfl⟩)
    | (gi_at_call 36; refine (HBet.out _ _ _).mono ?_; rintro e w1 ⟨rfl, hb⟩; have hN1 := hNA.out.below hb; have h1 := (hb.block _ (by simp)).trans hAA.out; have HAll := hide_ (fun n => callsIn_wide (n := n).2 (all_no hN1)); obtain ⟨c0, c1, c2, c3, c4⟩ := cells_five h1; have hN1 := hide_ hN1; have h1 := hide_ h1; have hb := hide_ hb)
    | (gi_at_call 79; refine (HAll.out _).mono ?_; rintro e w2 ⟨B, rfl, hB, hBs, hb2⟩))

  gi_wp2
  have hB1 : Below w.heap.size w w2 := (hbA.out.trans (hb.out.mono (by first | assumption | (simp; done) | (simp; omega) | omega))).trans (hb2.mono (by have := hb.out.size; simp at this; omega))
  have hsz := hB1.size
  have hsA := hb.out.size
  have hsB := hb2.size
  simp only [World.size_alloc] at hsA
  have hBl := lt_of_heap hB
  have h2 := hide_ ((hb2.block _ (by have := lt_of_heap h1.out; omega)).trans h1.out)
  refine wpIn_rangeFunc_ownG rfl (by omega) (gf := 108) (lb := #[.pointer (some ⟨B, 0, none⟩)]) rfl trivial (enters_of Try.func108 (by kernel_rfl) rfl)
    (all_stops Fence.wide 5 trivial rfl (by omega) B 0 (.slice none 0 0) [] (by simp) (w2.alloc (.cells #[.int .i64 0] 3)) (by simp; omega) (by simp) (cells_one (heap_past hB)) (.inl ⟨rfl, rfl⟩)) kpB_t (kpB_b (by simp)) (Below.refl _ _) (fun _ => rfl)
    (fun pre W => Below (w2.alloc (.cells #[.int .i64 0] 3)).heap.size (w2.alloc (.cells #[.int .i64 0] 3)) W)
    (fun _ _ _ => False)
    (ownFrom_below (Nat.le_refl _) (Nat.le_refl _))
    (fun _ _ _ _ _ hs _ _ => hs)
    (Below.refl _ _)
    ?a1 ?assign ?body ?done ?stop
  case assign =>
    intro l x W K hK
    dsimp only [encS]
    gi_wp2
    exact hK
  case body =>
    intro l pre x W _ hlt
    exact absurd hlt (by simp)
  case done =>
    rintro D ys W hD rfl hW hK
    have hsW := hW.size
    simp only [World.size_alloc] at hsW hD
    have h3 := (hW.block _ (by have := lt_of_heap h2.out; simp; omega)).trans (heap_past h2.out)
    obtain ⟨c0, c1, c2, c3, c4⟩ := cells_five h3
    have hn3 := (hW.block _ (by simp)).trans (heap_alloc_last w2 (.cells #[.int .i64 0] 3))
    have hNW := hide_ (((hN1.out.below hb2).alloc (.cells #[.int .i64 0] 3)).below hW)
    have cn := cells_one hn3
    gi_wp2
    clear HAt HGap HBet HAll hb2
    clear hB
    have HS := hide_ (fun t m W n => callsIn_wide (n := n).2 (sample_any t m W))
    have hf5 : Fence.wide.fn 16 := trivial
    have hf6 : Fence.wide.fn 28 := trivial
    have hf7 : Fence.wide.fn 30 := trivial
    have hf8 : Fence.wide.fn 29 := trivial
    have hf9 : Fence.wide.fn 24 := trivial
    have hf10 : Fence.wide.fn 21 := trivial
    have hK := hide_ hK
    have hW := hide_ hW
    gi_wp2_with (first
      | (gi_at_call 16; go_must (refine (HS.out _ _ _ _).mono ?_; rintro e w3 ⟨rfl, hb3⟩; have hN3 := hide_ (hNW.out.below hb3)))
      | (gi_at_call 28; go_must (refine (callsIn_wide.2 (add_no hN3.out)).mono ?_; rintro e w4 ⟨rfl, hb4⟩; have hN4 := hide_ (hN3.out.below hb4); have h4 := (hb4.block _ (by have := lt_of_heap h3; have := hb3.size; omega)).trans ((hb3.block _ (by have := lt_of_heap h3; omega)).trans h3); obtain ⟨c0, c1, c2, c3, c4⟩ := cells_five h4; have n4 := (hb4.block _ (by have := lt_of_heap hn3; have := hb3.size; omega)).trans ((hb3.block _ (by have := lt_of_heap hn3; omega)).trans hn3); have cn := cells_one n4))
      | (gi_at_call 30; go_must (refine (callsIn_wide.2 (take_no hN4.out)).mono ?_; rintro e w5 ⟨rfl, rfl⟩))
      | (gi_at_call 29; go_must (refine (callsIn_wide.2 (len_no hN4.out)).mono ?_; rintro e w5 ⟨rfl, rfl⟩))
      | (gi_at_call 24; go_must (refine (callsIn_wide.2 (lost_no hN4.out)).mono ?_; rintro e w5 ⟨rfl, rfl⟩))
      | (gi_at_call 21; go_must (refine (callsIn_wide.2 (samples_no hN4.out)).mono ?_; rintro e w5 ⟨rfl, rfl⟩)))
    have hK4 := (hb4.block D (by have := lt_of_heap hK.out; have := hb3.size; omega)).trans ((hb3.block D (lt_of_heap hK.out)).trans hK.out)
    refine ⟨by simp, .inl ⟨_, _, rfl, run_takeDeferred hK4, ?_⟩⟩
    refine ⟨_, by simp [results, Try.results34, go_sem], rfl, ?_⟩
    have hfin : Below w.heap.size w w4 := (((hB1.alloc hB1.size _).trans (hW.out.mono (by simp; omega))).trans (hb3.mono (by omega))).trans (hb4.mono (by have := hb3.size; omega))
    exact hfin.trans (belowK_b (w := w) (Nat.le_refl _) w4 D _ _ (by omega) hK4 rfl rfl)
  case stop =>
    rintro D c pre W _ _ h _
    exact h.elim
set_option maxHeartbeats 2000000 in
theorem none_walk (k o t e : Int) (n : Nat) (w : World) : Calls Try.prog 6 #[.agg #[.int .i64 k, .int .i64 o, .int .i64 t, .int .i64 e, .int .u64 n]] w fun e w' => e = .returned (.bool true) ∧ Below w.heap.size w w' := by
  have hA := heap_alloc_last w (.cells #[.int .i64 k, .int .i64 o, .int .i64 t, .int .i64 e, .int .u64 n] 58)
  have hbA := hide_ (below_alloc w (.cells #[.int .i64 k, .int .i64 o, .int .i64 t, .int .i64 e, .int .u64 n] 58))
  have hAA := hide_ hA
  have H1 := hide_ (none_law (k := k) (o := o) (t := t) (e := e) (n := n) (v := .pointer none) (w := w.alloc (.cells #[.int .i64 k, .int .i64 o, .int .i64 t, .int .i64 e, .int .u64 n] 58)) (.inl rfl))
  have H3 := hide_ awake_any
  have tok1 : True := trivial
  go_enter Try.func6, Try.ntmps6
  go_wp2_with (first
    | ((with_reducible apply wpList_store_new); (with_reducible rfl); (with_reducible rfl); rfl; rfl; kernel_rfl; rfl; kernel_rfl)
    | ((with_reducible apply wpList_load_row (hu := Try.underlying58)); (with_reducible rfl); (with_reducible rfl); rfl; (first | assumption | exact heap_alloc_last _ _ | exact heap_past (by assumption)); rfl; kernel_rfl)
    | (go_at_call 34; have _t := tok1; ((with_reducible refine (H1.out).mono ?_); rintro e w1 ⟨rfl, hb1⟩; obtain ⟨c0, c1, c2, c3, c4⟩ := cells_five (heap_past (o' := .cells #[.map none] 65) ((hb1.block _ (by simp)).trans hAA.out)); have H2 := hide_ (none_law (k := k) (o := o) (t := t) (e := e) (n := n) (v := .pointer (some ⟨w1.heap.size, 0, none⟩)) (w := w1.alloc (.cells #[.map none] 65)) (.inr ⟨_, rfl, heap_alloc_last _ _⟩)); clear tok1))
    | (go_at_call 34; ((with_reducible refine (H2.out).mono ?_); rintro e w2 ⟨rfl, hb2⟩))
    | (go_at_call 26; ((with_reducible refine (H3.out _).mono ?_); rintro e w3 ⟨rfl, hb3⟩)))
  go_ret
  exact ⟨rfl, (((hbA.out.trans (hb1.mono (by simp))).alloc (by have := hb1.size; simp at this; omega) _).trans (hb2.mono (by have := hb1.size; simp at this ⊢; omega))).trans (hb3.mono (by have := hb1.size; have := hb2.size; simp at *; omega))⟩
end Go.Proofs.Ytlgnidjkilbdfaa
