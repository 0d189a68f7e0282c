/- second.Curve. -/
import Derived.Test.YtcibbnphkpaifaaSo
namespace Go.Proofs.Ytcibbnphkpaifaa
open Go.RowKit
set_option linter.unusedVariables false
set_option maxRecDepth 100000
/-- The end of a function whose first result lies in a slot, the second in a block. -/
theorem ret_tc {P : Program} {fn : Func} {R : Ending → World → Prop} {a : Act} {w : World} {p t : Tmp} {ty : TypeId} (h : fn.results = #[.tmp t, .cell p ty]) (g : Nat) (T : TypeId) (cs : Array Value) (d : TypeDesc)
    (hp : a.tmps.getD p undef = .pointer (some ⟨g, 0, none⟩)) (hg : w.heap[g]? = some (.cells cs T (0, 0))) (hu : P.underlying ty = some d) (hd : (match d with | .struct _ | .array _ _ => true | _ => false) = true)
    (hi : (P.info? ty).map (·.size) = some cs.size) (hdf : a.defers = []) (hR : R (.returned (.tuple #[a.tmps.getD t undef, .agg cs])) w) : bodyPost P fn R .ret a w := by
  refine bodyPost_ret (v := .tuple #[a.tmps.getD t undef, .agg cs]) ?_ hdf hR
  have hp' : a.tmps[p]?.getD undef = .pointer (some ⟨g, 0, none⟩) := by simpa using hp
  simp [results, h, hp', asAddr, run_loadVar_row w g T ty cs (0, 0) d hg hu hd hi]
theorem info_R : (Try.prog.info? 32).map (fun i => (i.zero, i.size, i.bytes)) = some (some (.agg #[.bool false, .slice none 0 0, .slice none 0 0]), 3, 56) := by kernel_rfl
theorem info_W : (Try.prog.info? 34).map (fun i => (i.zero, i.size, i.bytes)) = some (some (.agg #[.int .i64 0, .int .i64 0, .bool false, .bool false, .slice none 0 0, .slice none 0 0]), 6, 80) := by kernel_rfl
/-- A list that ends with a fault: nothing is told. -/
def ResN (w : World) (a b : Int) (e : Ending) (w' : World) : Prop := e = .returned (.tuple #[.slice none 0 0, .agg #[.int .i64 a, .int .i64 b]]) ∧ Below w.heap.size w w'
set_option maxHeartbeats 6400000 in
theorem curve_err (p : Option Addr) (n c : Nat) (t1 t2 a b : Int) (L : List Wt) (w : World) (hn : n = L.length) (hp : WSl w p L) (hl : n ≤ 4096) (hc : checkW none 0 L = (a, b)) (ha : a ≠ 0) :
    Calls Try.prog 17 #[.slice p n c, .int .i64 t1, .int .i64 t2] w (ResN w a b) := by
  have HK := hide_ (fun W (h : Below w.heap.size w W) => checkW_any p n c L W hn (hp.below h) hl)
  rw [hc] at HK
  have b1 : (a != 0) = true := by simpa using ha
  clear hp hn hl hc
  have hb0 : Below w.heap.size w (w.alloc (.cells #[.int .i64 0, .int .i64 0] 27)) := below_alloc _ _
  have HR2 := hide_ (heap_alloc_last w (.cells #[.int .i64 0, .int .i64 0] 27))
  go_enter Try.func17, Try.ntmps17
  go_wp2_with (first
    | (go_at_call 13; go_must (
        (with_reducible refine (HK.out _ hb0).mono ?_)
        rintro e w1 ⟨rfl, hb1⟩
        have r2 := heap_past (o' := .cells #[.int .i64 a, .int .i64 b] 27) ((hb1.block _ (lt_of_heap HR2.out)).trans HR2.out)
        obtain ⟨x0, x1⟩ := cells_two (heap_alloc_last w1 (.cells #[.int .i64 a, .int .i64 b] 27))))
    | ((with_reducible apply wpList_store_new); (with_reducible rfl); (with_reducible rfl); rfl; rfl; kernel_rfl; rfl; kernel_rfl) | ((with_reducible apply wpList_store_blk); (with_reducible rfl); (with_reducible rfl); rfl; assumption; rfl; kernel_rfl; rfl; kernel_rfl))
  have hl1 := lt_of_heap HR2.out
  have hl2 := hb1.size
  have hb2 : Below w.heap.size w (w1.alloc (.cells #[.int .i64 a, .int .i64 b] 27)) := (hb0.trans (hb1.mono hb0.size)).alloc (hb0.trans (hb1.mono hb0.size)).size _
  generalize hB : w1.heap.size = B at *
  have hne2 : B ≠ w.heap.size := by omega
  obtain ⟨m0, m1⟩ := cells_two r2
  obtain ⟨m3, m4⟩ := free_two r2
  go_region_held3 (fun w' => w'.cell? ⟨B, 0, none⟩ = some (.int .i64 a) ∧ w'.cell? ⟨B, 1, none⟩ = some (.int .i64 b))
    (first | (with_reducible exact ⟨(keep_set2d hne2).trans x0, (keep_set2d hne2).trans x1⟩) | (with_reducible exact ⟨(keep_set2 hne2).trans x0, (keep_set2 hne2).trans x1⟩) | (with_reducible exact ⟨x0, x1⟩) | go_keep)
    (fail)
  go_wp2
  rw [set2_row r2]
  refine ret_tc rfl w.heap.size 27 #[.int .i64 a, .int .i64 b] _ rfl (show ((w1.alloc (.cells #[.int .i64 a, .int .i64 b] 27)).setRow w.heap.size #[.int .i64 a, .int .i64 b]).heap[w.heap.size]? = _ from setRow_heap _ _ _ _ _ _ r2) Try.underlying27 rfl (by kernel_rfl) rfl ?_
  exact ⟨rfl, (below_setRow hb2 (Nat.le_refl _) _).drew⟩
set_option maxHeartbeats 6400000 in
theorem curve_bad (p : Option Addr) (n c : Nat) (t1 t2 : Int) (L : List Wt) (w : World) (hn : n = L.length) (hp : WSl w p L) (hl : n ≤ 4096) (hs : Snd L) (b1 : -9223372036854775808 ≤ t1 ∧ t1 < 9223372036854775808) (b2 : -9223372036854775808 ≤ t2 ∧ t2 < 9223372036854775808) (hb : t2 < t1 ∨ (t1 ≤ t2 ∧ 4096 < t2 - t1)) :
    Calls Try.prog 17 #[.slice p n c, .int .i64 t1, .int .i64 t2] w (ResN w (if t2 < t1 then 2 else 3) (-1)) := by
  have HK := hide_ (fun W (h : Below w.heap.size w W) => checkW_any p n c L W hn (hp.below h) hl)
  rw [hs.zero] at HK
  clear hp hn hl hs
  have hb0 : Below w.heap.size w (w.alloc (.cells #[.int .i64 0, .int .i64 0] 27)) := below_alloc _ _
  have HR2 := hide_ (heap_alloc_last w (.cells #[.int .i64 0, .int .i64 0] 27))
  have hcase : (decide (t2 < t1) = true) ∨ (decide (t2 < t1) = false ∧ decide (4096 < IntKind.u64.wrap (IntKind.u64.wrap t2 - IntKind.u64.wrap t1)) = true) := by
    rcases hb with h | ⟨h, h'⟩
    · exact .inl (decide_eq_true h)
    · refine .inr ⟨decide_eq_false (by omega), decide_eq_true ?_⟩
      rw [w64, w64, w64]
      omega
  rcases hcase with z1 | ⟨z1, z2⟩
  · have e2 : (if t2 < t1 then (2 : Int) else 3) = 2 := if_pos (of_decide_eq_true z1)
    rw [e2]
    have HF := hide_ (fun W => fault_any 2 (-1) W)
    clear b1 b2 hb e2
    go_enter Try.func17, Try.ntmps17
    go_wp2_with (first
      | (go_at_call 13; go_must (
          (with_reducible refine (HK.out _ hb0).mono ?_)
          rintro e w1 ⟨rfl, hb1⟩
          have r2 := heap_past (o' := .cells #[.int .i64 0, .int .i64 0] 27) ((hb1.block _ (lt_of_heap HR2.out)).trans HR2.out)
          have hb2 : Below w.heap.size w (w1.alloc (.cells #[.int .i64 0, .int .i64 0] 27)) := (hb0.trans (hb1.mono hb0.size)).alloc (hb0.trans (hb1.mono hb0.size)).size _
          obtain ⟨x0, x1⟩ := cells_two (heap_alloc_last w1 (.cells #[.int .i64 0, .int .i64 0] 27))))
      | (go_at_call 55; go_must (
          (with_reducible refine (HF.out _).mono ?_)
          rintro e w3 ⟨rfl, hb3⟩
          have r3 := (hb3.block _ (lt_of_heap r2)).trans r2
          clear r2))
      | ((with_reducible apply wpList_store_new); (with_reducible rfl); (with_reducible rfl); rfl; rfl; kernel_rfl; rfl; kernel_rfl) | ((with_reducible apply wpList_store_blk); (with_reducible rfl); (with_reducible rfl); rfl; assumption; rfl; kernel_rfl; rfl; kernel_rfl))
    refine ret_tc rfl w.heap.size 27 _ _ rfl (setRow_heap _ _ _ _ _ _ r3) Try.underlying27 rfl (by kernel_rfl) rfl ?_
    exact ⟨rfl, below_setRow (hb2.trans (hb3.mono hb2.size)) (Nat.le_refl _) _⟩
  · have e2 : (if t2 < t1 then (2 : Int) else 3) = 3 := if_neg (of_decide_eq_false z1)
    rw [e2]
    have HF := hide_ (fun W => fault_any 3 (-1) W)
    clear b1 b2 hb e2
    go_enter Try.func17, Try.ntmps17
    go_wp2_with (first
      | (go_at_call 13; go_must (
          (with_reducible refine (HK.out _ hb0).mono ?_)
          rintro e w1 ⟨rfl, hb1⟩
          have r2 := heap_past (o' := .cells #[.int .i64 0, .int .i64 0] 27) ((hb1.block _ (lt_of_heap HR2.out)).trans HR2.out)
          have hb2 : Below w.heap.size w (w1.alloc (.cells #[.int .i64 0, .int .i64 0] 27)) := (hb0.trans (hb1.mono hb0.size)).alloc (hb0.trans (hb1.mono hb0.size)).size _
          obtain ⟨x0, x1⟩ := cells_two (heap_alloc_last w1 (.cells #[.int .i64 0, .int .i64 0] 27))))
      | (go_at_call 55; go_must (
          (with_reducible refine (HF.out _).mono ?_)
          rintro e w3 ⟨rfl, hb3⟩
          have r3 := (hb3.block _ (lt_of_heap r2)).trans r2
          clear r2))
      | ((with_reducible apply wpList_store_new); (with_reducible rfl); (with_reducible rfl); rfl; rfl; kernel_rfl; rfl; kernel_rfl) | ((with_reducible apply wpList_store_blk); (with_reducible rfl); (with_reducible rfl); rfl; assumption; rfl; kernel_rfl; rfl; kernel_rfl))
    refine ret_tc rfl w.heap.size 27 _ _ rfl (setRow_heap _ _ _ _ _ _ r3) Try.underlying27 rfl (by kernel_rfl) rfl ?_
    exact ⟨rfl, below_setRow (hb2.trans (hb3.mono hb2.size)) (Nat.le_refl _) _⟩
end Go.Proofs.Ytcibbnphkpaifaa
