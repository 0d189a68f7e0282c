/- Chapter 19: what is no record: nil, and a box that holds no map. -/
import Derived.Test.YtlgnidjkilbdfaaAwk
namespace Go.Proofs.Ytlgnidjkilbdfaa
open Go.RowKit Go.Shelf
set_option linter.unusedVariables false
set_option maxRecDepth 100000
def No (w : World) (v : Value) : Prop := v = .pointer none ∨ ∃ rb, v = .pointer (some ⟨rb, 0, none⟩) ∧ w.heap[rb]? = some (.cells #[.map none] 65)
theorem No.below {w w' : World} {v : Value} (h : No w v) (hb : Below w.heap.size w w') : No w' v := by
  rcases h with rfl | ⟨rb, rfl, h⟩
  · exact .inl rfl
  · exact .inr ⟨rb, rfl, (hb.block rb (lt_of_heap h)).trans h⟩
theorem No.alloc {w : World} {v : Value} (h : No w v) (o : Obj) : No (w.alloc o) v := h.below (below_alloc w o)
theorem none_no {w : World} {v : Value} (h : No w v) : Calls Try.prog 73 #[v] w fun e w' => e = .returned (.bool true) ∧ w = w' := by
  rcases h with rfl | ⟨rb, rfl, h⟩
  · exact none_nil w
  · exact none_box h
theorem at_no {w : World} {v t : Value} (h : No w v) : Calls Try.prog 37 #[v, t] w fun e w' => e = .returned (.tuple #[.float .f64 0, .bool false]) ∧ w = w' := by
  have hn := hide_ (none_no h)
  clear h
  go_enter Try.func37, Try.ntmps37
  go_wp2_with (go_at_call 73; (with_reducible refine (hn.out).mono ?_); rintro e w1 ⟨rfl, rfl⟩)
  go_ret2
  exact ⟨rfl, rfl⟩
theorem ask_no {w : World} {v : Value} {a b : Int} (h : No w v) : Calls Try.prog 80 #[v, .int .i64 a, .int .i64 b] w fun e w' => e = .returned (.int .i64 1) ∧ w = w' := by
  have hn := hide_ (none_no h)
  clear h
  go_enter Try.func80, Try.ntmps80
  go_wp2_with (go_at_call 73; (with_reducible refine (hn.out).mono ?_); rintro e w1 ⟨rfl, rfl⟩)
  go_ret
  exact ⟨rfl, rfl⟩
theorem gaps_no {w : World} {v : Value} {a b : Int} (h : No w v) : Calls Try.prog 35 #[v, .int .i64 a, .int .i64 b] w fun e w' => e = .returned (.tuple #[.slice none 0 0, .int .i64 1]) ∧ w = w' := by
  have hn := hide_ (ask_no (a := a) (b := b) h)
  clear h
  go_enter Try.func35, Try.ntmps35
  go_wp2_with (go_at_call 80; (with_reducible refine (hn.out).mono ?_); rintro e w1 ⟨rfl, rfl⟩)
  go_ret2
  exact ⟨rfl, rfl⟩
theorem between_no {w : World} {v : Value} {a b : Int} (h : No w v) : Calls Try.prog 36 #[v, .int .i64 a, .int .i64 b] w fun e w' => e = .returned (.tuple #[.slice none 0 0, .int .i64 1]) ∧ Below w.heap.size w w' := by
  have hn := hide_ (ask_no (a := a) (b := b) ((h.alloc (.cells #[.int .i64 a] 3)).alloc (.cells #[.int .i64 b] 3)))
  clear h
  go_enter Try.func36, Try.ntmps36
  go_wp2_with (go_at_call 80; (with_reducible refine (hn.out).mono ?_); rintro e w1 ⟨rfl, rfl⟩)
  go_ret2
  exact ⟨rfl, ((Below.refl _ _).alloc (Nat.le_refl _) _).alloc (by simp) _⟩
theorem ticks_no {w : World} {v : Value} (h : No w v) : Calls Try.prog 68 #[v] w fun e w' => e = .returned (.slice none 0 0) ∧ w = w' := by
  have hn := hide_ (none_no h)
  clear h
  go_enter Try.func68, Try.ntmps68
  go_wp2_with (go_at_call 73; (with_reducible refine (hn.out).mono ?_); rintro e w1 ⟨rfl, rfl⟩)
  go_ret
  exact ⟨rfl, rfl⟩
theorem samples_no {w : World} {v : Value} (h : No w v) : Calls Try.prog 21 #[v] w fun e w' => e = .returned (.slice none 0 0) ∧ w = w' := by
  have hn := hide_ (ticks_no h)
  clear h
  go_enter Try.func21, Try.ntmps21
  go_wp2_with (go_at_call 68; (with_reducible refine (hn.out).mono ?_); rintro e w1 ⟨rfl, rfl⟩)
  go_loopw [9, 3] (fun i s wr => i = .int .i64 0 ∧ s = .slice none 0 0 ∧ w = wr) (fun i s _ => 0)
  case atStart => exact ⟨rfl, rfl, rfl⟩
  case round =>
    obtain ⟨rfl, rfl, rfl⟩ := hrel
    go_wp2
    go_ret
    exact ⟨rfl, rfl⟩
theorem lost_no {w : World} {v : Value} (h : No w v) : Calls Try.prog 24 #[v] w fun e w' => e = .returned (.slice none 0 0) ∧ w = w' := by
  have hn := hide_ (ticks_no h)
  clear h
  go_enter Try.func24, Try.ntmps24
  go_wp2_with (go_at_call 68; (with_reducible refine (hn.out).mono ?_); rintro e w1 ⟨rfl, rfl⟩)
  go_loopw [9, 3] (fun i s wr => i = .int .i64 0 ∧ s = .slice none 0 0 ∧ w = wr) (fun i s _ => 0)
  case atStart => exact ⟨rfl, rfl, rfl⟩
  case round =>
    obtain ⟨rfl, rfl, rfl⟩ := hrel
    go_wp2
    go_ret
    exact ⟨rfl, rfl⟩
theorem len_no {w : World} {v : Value} (h : No w v) : Calls Try.prog 29 #[v] w fun e w' => e = .returned (.int .i64 0) ∧ w = w' := by
  have hn := hide_ (samples_no h)
  clear h
  go_enter Try.func29, Try.ntmps29
  go_wp2_with (go_at_call 21; (with_reducible refine (hn.out).mono ?_); rintro e w1 ⟨rfl, rfl⟩)
  go_ret
  exact ⟨rfl, rfl⟩
theorem take_no {w : World} {v t : Value} (h : No w v) : Calls Try.prog 30 #[v, t] w fun e w' => e = .returned (.int .i64 1) ∧ w = w' := by
  have hn := hide_ (none_no h)
  clear h
  go_enter Try.func30, Try.ntmps30
  go_wp2_with (go_at_call 73; (with_reducible refine (hn.out).mono ?_); rintro e w1 ⟨rfl, rfl⟩)
  go_ret
  exact ⟨rfl, rfl⟩
theorem add_no {w : World} {v : Value} {t : Int} {b : Nat} (h : No w v) : Calls Try.prog 28 #[v, .agg #[.int .i64 t, .float .f64 b]] w fun e w' => e = .returned (.int .i64 1) ∧ Below w.heap.size w w' := by
  have hn := hide_ (none_no (h.alloc (.cells #[.int .i64 t, .float .f64 b] 26)))
  clear h
  go_enter Try.func28, Try.ntmps28
  go_wp2_with (first
    | ((with_reducible apply wpList_store_new); (with_reducible rfl); (with_reducible rfl); rfl; rfl; kernel_rfl; rfl; kernel_rfl)
    | (go_at_call 73; (with_reducible refine (hn.out).mono ?_); rintro e w1 ⟨rfl, rfl⟩))
  go_ret
  exact ⟨rfl, (Below.refl _ _).alloc (Nat.le_refl _) _⟩
theorem all_no {w : World} {v : Value} (h : No w v) : Calls Try.prog 79 #[v] w fun e w' =>
    ∃ B, e = .returned (.func (.func 108) #[] #[.pointer (some ⟨B, 0, none⟩)]) ∧ w'.heap[B]? = some (.cells #[.slice none 0 0] 23) ∧ w.heap.size ≤ B ∧ Below w.heap.size w w' := by
  have HS := hide_ (samples_no h)
  clear h
  go_enter Try.func79, Try.ntmps79
  go_wp2_with (go_at_call 21; (with_reducible refine (HS.out).mono ?_); rintro e w1 ⟨rfl, rfl⟩)
  go_ret
  exact ⟨w.heap.size, rfl, heap_alloc_last _ _, Nat.le_refl _, (Below.refl _ _).alloc (Nat.le_refl _) _⟩
end Go.Proofs.Ytlgnidjkilbdfaa
