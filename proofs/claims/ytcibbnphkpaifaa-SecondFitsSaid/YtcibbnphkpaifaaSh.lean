/- second.at, outside of the waters. -/
import Derived.Test.YtcibbnphkpaifaaSg
namespace Go.Proofs.Ytcibbnphkpaifaa
open Go.RowKit
set_option linter.unusedVariables false
set_option maxRecDepth 100000
/-- The end of a function whose two results lie in blocks. -/
theorem ret_cc {P : Program} {fn : Func} {R : Ending → World → Prop} {a : Act} {w : World} {p q : Tmp} {ty ty2 : TypeId} (h : fn.results = #[.cell p ty, .cell q ty2]) (g : Nat) (T : TypeId) (cs : Array Value) (d : TypeDesc) (g2 : Nat) (T2 : TypeId) (cs2 : Array Value) (d2 : TypeDesc)
    (hp : a.tmps.getD p undef = .pointer (some ⟨g, 0, none⟩)) (hg : w.heap[g]? = some (.cells cs T (0, 0))) (hu : P.underlying ty = some d) (hd : (match d with | .struct _ | .array _ _ => true | _ => false) = true) (hi : (P.info? ty).map (·.size) = some cs.size)
    (hp2 : a.tmps.getD q undef = .pointer (some ⟨g2, 0, none⟩)) (hg2 : w.heap[g2]? = some (.cells cs2 T2 (0, 0))) (hu2 : P.underlying ty2 = some d2) (hd2 : (match d2 with | .struct _ | .array _ _ => true | _ => false) = true) (hi2 : (P.info? ty2).map (·.size) = some cs2.size)
    (hdf : a.defers = []) (hR : R (.returned (.tuple #[.agg cs, .agg cs2])) w) : bodyPost P fn R .ret a w := by
  refine bodyPost_ret (v := .tuple #[.agg cs, .agg cs2]) ?_ hdf hR
  have hp' : a.tmps[p]?.getD undef = .pointer (some ⟨g, 0, none⟩) := by simpa using hp
  have hp2' : a.tmps[q]?.getD undef = .pointer (some ⟨g2, 0, none⟩) := by simpa using hp2
  simp [results, h, hp', hp2', asAddr, run_loadVar_row w g T ty cs (0, 0) d hg hu hd hi, run_loadVar_row w g2 T2 ty2 cs2 (0, 0) d2 hg2 hu2 hd2 hi2]
/-- What second.at tells. -/
def ResA (w : World) (r : Rat × Int) (e : Ending) (w' : World) : Prop := ((r.2 = 0 ∧ ∃ s p n c q m d, e = .returned (.tuple #[.agg #[.bool s, .slice p n c, .slice q m d], .agg #[.int .i64 0, .int .i64 0]]) ∧ RO w' w.heap.size (.agg #[.bool s, .slice p n c, .slice q m d]) r.1 ∧ Fits r.1) ∨
  (r.2 ≠ 0 ∧ e = .returned (.tuple #[zeroR, .agg #[.int .i64 r.2, .int .i64 (-1)]]))) ∧ Below w.heap.size w w'
theorem boxA (w : World) (p : Option Addr) (n c : Nat) (t : Int) : ∀ W, Below ((((w.alloc (.cells #[.slice p n c] 22)).alloc (.cells #[.int .i64 t] 3)).alloc (.cells #[.bool false, .slice none 0 0, .slice none 0 0] 32)).alloc (.cells #[.int .i64 0, .int .i64 0] 27)).heap.size ((((w.alloc (.cells #[.slice p n c] 22)).alloc (.cells #[.int .i64 t] 3)).alloc (.cells #[.bool false, .slice none 0 0, .slice none 0 0] 32)).alloc (.cells #[.int .i64 0, .int .i64 0] 27)) W →
    W.cell? ⟨w.heap.size, 0, none⟩ = some (.slice p n c) ∧ W.cell? ⟨w.heap.size + 1, 0, none⟩ = some (.int .i64 t) ∧ W.heap[w.heap.size + 1 + 1]? = some (.cells #[.bool false, .slice none 0 0, .slice none 0 0] 32) ∧ W.heap[w.heap.size + 1 + 1 + 1]? = some (.cells #[.int .i64 0, .int .i64 0] 27) := by
  intro W h
  have h1 := heap_past (o' := .cells #[.int .i64 0, .int .i64 0] 27) (heap_past (o' := .cells #[.bool false, .slice none 0 0, .slice none 0 0] 32) (heap_past (o' := .cells #[.int .i64 t] 3) (heap_alloc_last w (.cells #[.slice p n c] 22))))
  have h2 := heap_past (o' := .cells #[.int .i64 0, .int .i64 0] 27) (heap_past (o' := .cells #[.bool false, .slice none 0 0, .slice none 0 0] 32) (heap_at1 w (.cells #[.slice p n c] 22) (.cells #[.int .i64 t] 3)))
  have h3 := heap_past (o' := .cells #[.int .i64 0, .int .i64 0] 27) (heap_at2 w (.cells #[.slice p n c] 22) (.cells #[.int .i64 t] 3) (.cells #[.bool false, .slice none 0 0, .slice none 0 0] 32))
  have h4 : ((((w.alloc (.cells #[.slice p n c] 22)).alloc (.cells #[.int .i64 t] 3)).alloc (.cells #[.bool false, .slice none 0 0, .slice none 0 0] 32)).alloc (.cells #[.int .i64 0, .int .i64 0] 27)).heap[w.heap.size + 1 + 1 + 1]? = some (.cells #[.int .i64 0, .int .i64 0] 27) := by
    have e : (((w.alloc (.cells #[.slice p n c] 22)).alloc (.cells #[.int .i64 t] 3)).alloc (.cells #[.bool false, .slice none 0 0, .slice none 0 0] 32)).heap.size = w.heap.size + 1 + 1 + 1 := by simp
    rw [← e]
    exact heap_alloc_last _ _
  exact ⟨cells_one ((h.block _ (lt_of_heap h1)).trans h1), cells_one ((h.block _ (lt_of_heap h2)).trans h2), (h.block _ (lt_of_heap h3)).trans h3, (h.block _ (lt_of_heap h4)).trans h4⟩
theorem belowA (w : World) (p : Option Addr) (n c : Nat) (t : Int) : Below w.heap.size w ((((w.alloc (.cells #[.slice p n c] 22)).alloc (.cells #[.int .i64 t] 3)).alloc (.cells #[.bool false, .slice none 0 0, .slice none 0 0] 32)).alloc (.cells #[.int .i64 0, .int .i64 0] 27)) :=
  (((below_alloc _ _).alloc (by simp) _).alloc (by simp; omega) _).alloc (by simp; omega) _
theorem boxAq (w : World) (p : Option Addr) (n c : Nat) (t : Int) (k : Nat) : ∀ W, Below (((((w.alloc (.cells #[.slice p n c] 22)).alloc (.cells #[.int .i64 t] 3)).alloc (.cells #[.bool false, .slice none 0 0, .slice none 0 0] 32)).alloc (.cells #[.int .i64 0, .int .i64 0] 27)).drewN k).heap.size (((((w.alloc (.cells #[.slice p n c] 22)).alloc (.cells #[.int .i64 t] 3)).alloc (.cells #[.bool false, .slice none 0 0, .slice none 0 0] 32)).alloc (.cells #[.int .i64 0, .int .i64 0] 27)).drewN k) W →
    (W.cell? ⟨w.heap.size, 0, none⟩ = some (.slice p n c) ∧ W.cell? ⟨w.heap.size + 1, 0, none⟩ = some (.int .i64 t) ∧ W.heap[w.heap.size + 1 + 1]? = some (.cells #[.bool false, .slice none 0 0, .slice none 0 0] 32) ∧ W.heap[w.heap.size + 1 + 1 + 1]? = some (.cells #[.int .i64 0, .int .i64 0] 27)) ∧ Below w.heap.size w W := by
  intro W h
  have hb := below_drewN (belowA w p n c t) k
  exact ⟨boxA w p n c t W ((below_drewN (Below.refl _ _) k).trans h), hb.trans (h.mono hb.size)⟩
/-- One water's cells. -/
theorem WSl.at {w : World} {g o : Nat} {L : List Wt} (h : WSl w (some ⟨g, o, none⟩) L) {i : Nat} (hi : i < L.length) : g < w.heap.size ∧ ∃ p1 c1 q1 d1,
    (w.cell? ⟨g, o + i * 6, none⟩ = some (.int .i64 (L[i]).t) ∧ w.cell? ⟨g, o + i * 6 + 1, none⟩ = some (.int .i64 (L[i]).l) ∧ w.cell? ⟨g, o + i * 6 + 2, none⟩ = some (.bool (L[i]).top) ∧ w.cell? ⟨g, o + i * 6 + 3, none⟩ = some (.bool (L[i]).neg) ∧ w.cell? ⟨g, o + i * 6 + 4, none⟩ = some (.slice p1 (L[i]).A.length c1) ∧ w.cell? ⟨g, o + i * 6 + 5, none⟩ = some (.slice q1 (L[i]).D.length d1)) ∧
    RG w (.agg #[.bool (L[i]).neg, .slice p1 (L[i]).A.length c1, .slice q1 (L[i]).D.length d1]) (L[i]).neg (L[i]).A (L[i]).D := by
  rcases h with ⟨h, _⟩ | ⟨g', o', e, hg, h⟩
  · cases h
  · cases e
    obtain ⟨p1, c1, q1, d1, h0, h1, h2, h3, h4, h5, hr⟩ := h i hi
    rw [Nat.mul_comm 6 i] at h0 h1 h2 h3 h4 h5
    exact ⟨hg, p1, c1, q1, d1, ⟨h0, h1, h2, h3, h4, h5⟩, hr⟩
/-- A sound water's height can be read. -/
theorem RG.rv {w : World} {p q : Option Addr} {neg : Bool} {A D : List Nat} {c d : Nat} (h : RG w (.agg #[.bool neg, .slice p A.length c, .slice q D.length d]) neg A D) (hs : chkR neg A D = 0) : RV w (.agg #[.bool neg, .slice p A.length c, .slice q D.length d]) (ratG neg A D) := by
  obtain ⟨p', c', q', d', e', w1, w2, l1, l2, dA, dD, _⟩ := h
  obtain ⟨hf, e1, e2, e3⟩ := ratG_ok dA dD hs
  simp only [Value.agg.injEq, Array.mk.injEq, List.cons.injEq, Value.slice.injEq] at e'
  obtain ⟨_, ⟨rfl, _, rfl⟩, ⟨rfl, _, rfl⟩, _⟩ := e'
  refine ⟨hf, p, c, q, d, ?_, e1 ▸ w1, e2 ▸ w2, e1 ▸ l1, e2 ▸ l2⟩
  rw [← e1, ← e2, ← e3]
set_option maxHeartbeats 6400000 in
theorem at_nil (p : Option Addr) (c : Nat) (t : Int) (w : World) :
    Calls Try.prog 54 #[.slice p 0 c, .int .i64 t] w fun e w' => e = .returned (.tuple #[zeroR, .agg #[.int .i64 6, .int .i64 (-1)]]) ∧ Below w.heap.size w w' := by
  have HB := hide_ (boxA w p 0 c t)
  have hb0 := belowA w p 0 c t
  obtain ⟨e0, e1, e2, e3⟩ := HB.out _ (Below.refl _ _)
  have HQ := hide_ (boxAq w p 0 c t)
  have HF := hide_ (fun W => fault_any 6 (-1) W)
  go_enter Try.func54, Try.ntmps54
  go_wp2
  go_quiet (fail)
  go_wp2_with (first
    | (go_at_call 55; go_must (
        (with_reducible refine (HF.out _).mono ?_)
        rintro e w1 ⟨rfl, hb1⟩
        obtain ⟨⟨_, _, f2, f3⟩, hb2⟩ := HQ.out nq _ hb1
        have f4 := row_other (cs := #[.bool false, .slice none 0 0, .slice none 0 0]) f3 (show w.heap.size + 1 + 1 + 1 ≠ w.heap.size + 1 + 1 by omega)
        clear f3 e2 e3))
    | ((with_reducible apply wpList_store_blk); (with_reducible rfl); (with_reducible rfl); rfl; assumption; rfl; kernel_rfl; rfl; kernel_rfl))
  refine ret_cc rfl (w.heap.size + 1 + 1) 32 _ _ (w.heap.size + 1 + 1 + 1) 27 _ _ rfl (row_other (setRow_heap _ _ _ _ _ _ f2) (by omega)) Try.underlying32 rfl (by kernel_rfl) rfl (setRow_heap _ _ _ _ _ _ f4) Try.underlying27 rfl (by kernel_rfl) rfl ?_
  exact ⟨rfl, below_setRow (below_setRow hb2 (by omega) _) (by omega) _⟩
set_option maxHeartbeats 6400000 in
theorem at_low (g o n c : Nat) (t t0 : Int) (w : World) (hn : 0 < n) (hg : g < w.heap.size) (hc : w.cell? ⟨g, o, none⟩ = some (.int .i64 t0)) (h : t < t0) :
    Calls Try.prog 54 #[.slice (some ⟨g, o, none⟩) n c, .int .i64 t] w fun e w' => e = .returned (.tuple #[zeroR, .agg #[.int .i64 6, .int .i64 (-1)]]) ∧ Below w.heap.size w w' := by
  have HB := hide_ (boxA w (some ⟨g, o, none⟩) n c t)
  have hb0 := belowA w (some ⟨g, o, none⟩) n c t
  obtain ⟨e0, e1, e2, e3⟩ := HB.out _ (Below.refl _ _)
  have HQ := hide_ (boxAq w (some ⟨g, o, none⟩) n c t)
  have HF := hide_ (fun W => fault_any 6 (-1) W)
  have d0 : ((n : Int) == 0) = false := by simp; omega
  have d1 : decide (t < t0) = true := decide_eq_true h
  have i5 : (0 : Int) < (n : Int) := by omega
  have hc0 := (hb0.cell (p := ⟨g, o, none⟩) hg).trans hc
  clear hn
  go_enter Try.func54, Try.ntmps54
  go_wp2
  go_quiet (fail)
  go_wp2_with (first
    | (go_at_call 55; go_must (
        (with_reducible refine (HF.out _).mono ?_)
        rintro e w1 ⟨rfl, hb1⟩
        obtain ⟨⟨_, _, f2, f3⟩, hb2⟩ := HQ.out nq _ hb1
        have f4 := row_other (cs := #[.bool false, .slice none 0 0, .slice none 0 0]) f3 (show w.heap.size + 1 + 1 + 1 ≠ w.heap.size + 1 + 1 by omega)
        clear f3 e2 e3))
    | ((with_reducible apply wpList_store_blk); (with_reducible rfl); (with_reducible rfl); rfl; assumption; rfl; kernel_rfl; rfl; kernel_rfl))
  refine ret_cc rfl (w.heap.size + 1 + 1) 32 _ _ (w.heap.size + 1 + 1 + 1) 27 _ _ rfl (row_other (setRow_heap _ _ _ _ _ _ f2) (by omega)) Try.underlying32 rfl (by kernel_rfl) rfl (setRow_heap _ _ _ _ _ _ f4) Try.underlying27 rfl (by kernel_rfl) rfl ?_
  exact ⟨rfl, below_setRow (below_setRow hb2 (by omega) _) (by omega) _⟩
set_option maxHeartbeats 6400000 in
theorem at_high (g o m c : Nat) (t t0 l1 : Int) (w : World) (hg : g < w.heap.size) (hm : m < 4611686018427387904) (hc : w.cell? ⟨g, o, none⟩ = some (.int .i64 t0)) (hcl : w.cell? ⟨g, o + m * 6 + 1, none⟩ = some (.int .i64 l1)) (h : ¬ t < t0) (h1 : l1 < t) :
    Calls Try.prog 54 #[.slice (some ⟨g, o, none⟩) (m + 1) c, .int .i64 t] w fun e w' => e = .returned (.tuple #[zeroR, .agg #[.int .i64 6, .int .i64 (-1)]]) ∧ Below w.heap.size w w' := by
  have HB := hide_ (boxA w (some ⟨g, o, none⟩) (m + 1) c t)
  have hb0 := belowA w (some ⟨g, o, none⟩) (m + 1) c t
  obtain ⟨e0, e1, e2, e3⟩ := HB.out _ (Below.refl _ _)
  have HQ := hide_ (boxAq w (some ⟨g, o, none⟩) (m + 1) c t)
  have HF := hide_ (fun W => fault_any 6 (-1) W)
  have d0 : (((m + 1 : Nat) : Int) == 0) = false := by simp; omega
  have d1 : decide (t < t0) = false := decide_eq_false h
  have d2 : decide (l1 < t) = true := decide_eq_true h1
  have i5 : (0 : Int) < ((m + 1 : Nat) : Int) := by omega
  have i6 : (0 : Int) ≤ (m : Int) := by omega
  have i7 : (m : Int) < ((m + 1 : Nat) : Int) := by omega
  have hw : IntKind.i64.wrap (((m + 1 : Nat) : Int) - 1) = (m : Int) := by rw [IntWalk.i64_in _ (by omega)]; omega
  have hc0 := (hb0.cell (p := ⟨g, o, none⟩) hg).trans hc
  have hc1 := (hb0.cell (p := ⟨g, o + m * 6 + 1, none⟩) hg).trans hcl
  clear hm
  generalize m + 1 = n at *
  go_enter Try.func54, Try.ntmps54
  go_wp2
  go_quiet (fail)
  go_wp2_with (first
    | (go_at_call 55; go_must (
        (with_reducible refine (HF.out _).mono ?_)
        rintro e w1 ⟨rfl, hb1⟩
        obtain ⟨⟨_, _, f2, f3⟩, hb2⟩ := HQ.out nq _ hb1
        have f4 := row_other (cs := #[.bool false, .slice none 0 0, .slice none 0 0]) f3 (show w.heap.size + 1 + 1 + 1 ≠ w.heap.size + 1 + 1 by omega)
        clear f3 e2 e3))
    | ((with_reducible apply wpList_store_blk); (with_reducible rfl); (with_reducible rfl); rfl; assumption; rfl; kernel_rfl; rfl; kernel_rfl))
  refine ret_cc rfl (w.heap.size + 1 + 1) 32 _ _ (w.heap.size + 1 + 1 + 1) 27 _ _ rfl (row_other (setRow_heap _ _ _ _ _ _ f2) (by omega)) Try.underlying32 rfl (by kernel_rfl) rfl (setRow_heap _ _ _ _ _ _ f4) Try.underlying27 rfl (by kernel_rfl) rfl ?_
  exact ⟨rfl, below_setRow (below_setRow hb2 (by omega) _) (by omega) _⟩
end Go.Proofs.Ytcibbnphkpaifaa
