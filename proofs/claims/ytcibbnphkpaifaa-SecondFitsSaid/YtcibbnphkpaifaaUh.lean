/- Apply, parted, SameWaters of no waters, whatever pointer. -/
import Derived.Test.YtcibbnphkpaifaaUg
import Derived.Test.YtcibbnphkpaifaaTs
namespace Go.Proofs.Ytcibbnphkpaifaa
open Go.RowKit
set_option linter.unusedVariables false
set_option maxRecDepth 100000
set_option maxHeartbeats 6400000 in
theorem apply_nil1 (p : Option Addr) (c : Nat) (d : Df) (p1 q1 p2 q2 p3 q3 p4 q4 : Option Addr) (c1 d1 c2 d2 c3 d3 c4 d4 : Nat) (w : World) (hd : DfV w d p1 c1 q1 d1 p2 c2 q2 d2 p3 c3 q3 d3 p4 c4 q4 d4) (ha : d.chk ≠ 0) :
    Calls Try.prog 22 #[.slice p 0 c, .agg #[.int .i64 d.ka, .bool d.x1.neg, .slice p1 d.x1.A.length c1, .slice q1 d.x1.D.length d1, .bool d.x2.neg, .slice p2 d.x2.A.length c2, .slice q2 d.x2.D.length d2, .int .i64 d.kb, .bool d.x3.neg, .slice p3 d.x3.A.length c3, .slice q3 d.x3.D.length d3, .bool d.x4.neg, .slice p4 d.x4.A.length c4, .slice q4 d.x4.D.length d4]] w (ResN w d.chk (-1)) := by
  have HK := hide_ (fun W (h : Below w.heap.size w W) => check_nil p c W)
  have HD := hide_ (fun W (h : Below w.heap.size w W) => (show Calls Try.prog 29 #[.agg #[.int .i64 d.ka, .bool d.x1.neg, .slice p1 d.x1.A.length c1, .slice q1 d.x1.D.length d1, .bool d.x2.neg, .slice p2 d.x2.A.length c2, .slice q2 d.x2.D.length d2, .int .i64 d.kb, .bool d.x3.neg, .slice p3 d.x3.A.length c3, .slice q3 d.x3.D.length d3, .bool d.x4.neg, .slice p4 d.x4.A.length c4, .slice q4 d.x4.D.length d4]] W fun e w' => e = .returned (.int .i64 d.chk) ∧ Below W.heap.size W w' from dcheck_any d.ka d.kb d.x1 d.x2 d.x3 d.x4 p1 q1 p2 q2 p3 q3 p4 q4 c1 d1 c2 d2 c3 d3 c4 d4 W (RG.below hd.1 h) (RG.below hd.2.1 h) (RG.below hd.2.2.1 h) (RG.below hd.2.2.2 h)))
  have HF := hide_ (fun W => fault_any d.chk (-1) W)
  have b1 : (d.chk != 0) = true := by simpa using ha
  clear hd ha
  generalize d.chk = E at *
  have hb0 : Below w.heap.size w ((w.alloc (.cells #[.int .i64 d.ka, .bool d.x1.neg, .slice p1 d.x1.A.length c1, .slice q1 d.x1.D.length d1, .bool d.x2.neg, .slice p2 d.x2.A.length c2, .slice q2 d.x2.D.length d2, .int .i64 d.kb, .bool d.x3.neg, .slice p3 d.x3.A.length c3, .slice q3 d.x3.D.length d3, .bool d.x4.neg, .slice p4 d.x4.A.length c4, .slice q4 d.x4.D.length d4] 48)).alloc (.cells #[.int .i64 0, .int .i64 0] 27)) := (below_alloc _ _).alloc (by simp) _
  have HR1 := hide_ (heap_past (o' := (.cells #[.int .i64 0, .int .i64 0] 27)) (heap_alloc_last w (.cells #[.int .i64 d.ka, .bool d.x1.neg, .slice p1 d.x1.A.length c1, .slice q1 d.x1.D.length d1, .bool d.x2.neg, .slice p2 d.x2.A.length c2, .slice q2 d.x2.D.length d2, .int .i64 d.kb, .bool d.x3.neg, .slice p3 d.x3.A.length c3, .slice q3 d.x3.D.length d3, .bool d.x4.neg, .slice p4 d.x4.A.length c4, .slice q4 d.x4.D.length d4] 48)))
  have HR2 := hide_ (heap_at1 w (.cells #[.int .i64 d.ka, .bool d.x1.neg, .slice p1 d.x1.A.length c1, .slice q1 d.x1.D.length d1, .bool d.x2.neg, .slice p2 d.x2.A.length c2, .slice q2 d.x2.D.length d2, .int .i64 d.kb, .bool d.x3.neg, .slice p3 d.x3.A.length c3, .slice q3 d.x3.D.length d3, .bool d.x4.neg, .slice p4 d.x4.A.length c4, .slice q4 d.x4.D.length d4] 48) (.cells #[.int .i64 0, .int .i64 0] 27))
  go_enter Try.func22, Try.ntmps22
  go_wp2_with (first
    | (go_at_call 13; go_must (
        (with_reducible refine (HK.out _ hb0).mono ?_)
        rintro e w1 ⟨rfl, hb1⟩
        have r1 := heap_past (o' := .cells #[.int .i64 0, .int .i64 0] 27) ((hb1.block _ (lt_of_heap HR1.out)).trans HR1.out)
        have r2 := heap_past (o' := .cells #[.int .i64 0, .int .i64 0] 27) ((hb1.block _ (lt_of_heap HR2.out)).trans HR2.out)
        have hb2 : Below w.heap.size w (w1.alloc (.cells #[.int .i64 0, .int .i64 0] 27)) := (hb0.trans (hb1.mono hb0.size)).alloc (hb0.trans (hb1.mono hb0.size)).size _
        obtain ⟨x0, x1⟩ := cells_two (heap_alloc_last w1 (.cells #[.int .i64 0, .int .i64 0] 27))
        obtain ⟨⟨e0, e1, e2, e3, e4, e5, e6⟩, e7, e8, e9, f0, f1, f2, f3⟩ := cells_14 r1))
    | (go_at_call 29; go_must (
        (with_reducible refine (HD.out _ hb2).mono ?_)
        rintro e w3 ⟨rfl, hb3⟩
        have hb4 := hb2.trans (hb3.mono hb2.size)
        have r4 := (hb3.block _ (lt_of_heap r2)).trans r2
        clear r2 r1))
    | (go_at_call 55; go_must (
        (with_reducible refine (HF.out _).mono ?_)
        rintro e w5 ⟨rfl, hb5⟩
        have r5 := (hb5.block _ (lt_of_heap r4)).trans r4
        clear r4))
    | ((with_reducible apply wpList_store_new); (with_reducible rfl); (with_reducible rfl); rfl; rfl; kernel_rfl; rfl; kernel_rfl) | ((with_reducible apply wpList_store_blk); (with_reducible rfl); (with_reducible rfl); rfl; assumption; rfl; kernel_rfl; rfl; kernel_rfl))
  refine ret_tc rfl (w.heap.size + 1) 27 _ _ rfl (setRow_heap _ _ _ _ _ _ r5) Try.underlying27 rfl (by kernel_rfl) rfl ?_
  exact ⟨rfl, below_setRow (hb4.trans (hb5.mono hb4.size)) (by omega) _⟩
set_option maxHeartbeats 12800000 in
theorem apply_nil0 (p : Option Addr) (c : Nat) (d : Df) (p1 q1 p2 q2 p3 q3 p4 q4 : Option Addr) (c1 d1 c2 d2 c3 d3 c4 d4 : Nat) (w : World) (hd : DfV w d p1 c1 q1 d1 p2 c2 q2 d2 p3 c3 q3 d3 p4 c4 q4 d4) (hc : d.chk = 0) :
    Calls Try.prog 22 #[.slice p 0 c, .agg #[.int .i64 d.ka, .bool d.x1.neg, .slice p1 d.x1.A.length c1, .slice q1 d.x1.D.length d1, .bool d.x2.neg, .slice p2 d.x2.A.length c2, .slice q2 d.x2.D.length d2, .int .i64 d.kb, .bool d.x3.neg, .slice p3 d.x3.A.length c3, .slice q3 d.x3.D.length d3, .bool d.x4.neg, .slice p4 d.x4.A.length c4, .slice q4 d.x4.D.length d4]] w (ResW w [] (0, 0)) := by
  have HK := hide_ (fun W (h : Below w.heap.size w W) => check_nil p c W)
  have HD := hide_ (fun W (h : Below w.heap.size w W) => (show Calls Try.prog 29 #[.agg #[.int .i64 d.ka, .bool d.x1.neg, .slice p1 d.x1.A.length c1, .slice q1 d.x1.D.length d1, .bool d.x2.neg, .slice p2 d.x2.A.length c2, .slice q2 d.x2.D.length d2, .int .i64 d.kb, .bool d.x3.neg, .slice p3 d.x3.A.length c3, .slice q3 d.x3.D.length d3, .bool d.x4.neg, .slice p4 d.x4.A.length c4, .slice q4 d.x4.D.length d4]] W fun e w' => e = .returned (.int .i64 d.chk) ∧ Below W.heap.size W w' from dcheck_any d.ka d.kb d.x1 d.x2 d.x3 d.x4 p1 q1 p2 q2 p3 q3 p4 q4 c1 d1 c2 d2 c3 d3 c4 d4 W (RG.below hd.1 h) (RG.below hd.2.1 h) (RG.below hd.2.2.1 h) (RG.below hd.2.2.2 h)))
  rw [hc] at HD
  have HK0 := hide_ (fun W => check_nil none 0 W)
  clear hd hc
  have hb0 : Below w.heap.size w ((w.alloc (.cells #[.int .i64 d.ka, .bool d.x1.neg, .slice p1 d.x1.A.length c1, .slice q1 d.x1.D.length d1, .bool d.x2.neg, .slice p2 d.x2.A.length c2, .slice q2 d.x2.D.length d2, .int .i64 d.kb, .bool d.x3.neg, .slice p3 d.x3.A.length c3, .slice q3 d.x3.D.length d3, .bool d.x4.neg, .slice p4 d.x4.A.length c4, .slice q4 d.x4.D.length d4] 48)).alloc (.cells #[.int .i64 0, .int .i64 0] 27)) := (below_alloc _ _).alloc (by simp) _
  have HR1 := hide_ (heap_past (o' := (.cells #[.int .i64 0, .int .i64 0] 27)) (heap_alloc_last w (.cells #[.int .i64 d.ka, .bool d.x1.neg, .slice p1 d.x1.A.length c1, .slice q1 d.x1.D.length d1, .bool d.x2.neg, .slice p2 d.x2.A.length c2, .slice q2 d.x2.D.length d2, .int .i64 d.kb, .bool d.x3.neg, .slice p3 d.x3.A.length c3, .slice q3 d.x3.D.length d3, .bool d.x4.neg, .slice p4 d.x4.A.length c4, .slice q4 d.x4.D.length d4] 48)))
  have HR2 := hide_ (heap_at1 w (.cells #[.int .i64 d.ka, .bool d.x1.neg, .slice p1 d.x1.A.length c1, .slice q1 d.x1.D.length d1, .bool d.x2.neg, .slice p2 d.x2.A.length c2, .slice q2 d.x2.D.length d2, .int .i64 d.kb, .bool d.x3.neg, .slice p3 d.x3.A.length c3, .slice q3 d.x3.D.length d3, .bool d.x4.neg, .slice p4 d.x4.A.length c4, .slice q4 d.x4.D.length d4] 48) (.cells #[.int .i64 0, .int .i64 0] 27))
  obtain ⟨i0, hi, hz0, hz1, hz2⟩ := info_parts info_W
  go_enter Try.func22, Try.ntmps22
  go_wp2_with (first
    | (go_at_call 13; go_must (
        (with_reducible refine (HK.out _ hb0).mono ?_)
        rintro e w1 ⟨rfl, hb1⟩
        have r1 := heap_past (o' := .cells #[.int .i64 0, .int .i64 0] 27) ((hb1.block _ (lt_of_heap HR1.out)).trans HR1.out)
        have r2 := heap_past (o' := .cells #[.int .i64 0, .int .i64 0] 27) ((hb1.block _ (lt_of_heap HR2.out)).trans HR2.out)
        have hb2 : Below w.heap.size w (w1.alloc (.cells #[.int .i64 0, .int .i64 0] 27)) := (hb0.trans (hb1.mono hb0.size)).alloc (hb0.trans (hb1.mono hb0.size)).size _
        obtain ⟨x0, x1⟩ := cells_two (heap_alloc_last w1 (.cells #[.int .i64 0, .int .i64 0] 27))
        obtain ⟨⟨e0, e1, e2, e3, e4, e5, e6⟩, e7, e8, e9, f0, f1, f2, f3⟩ := cells_14 r1))
    | (go_at_call 29; go_must (
        (with_reducible refine (HD.out _ hb2).mono ?_)
        rintro e w2 ⟨rfl, hb3⟩
        have hb4 := hb2.trans (hb3.mono hb2.size)
        have r4 := (hb3.block _ (lt_of_heap r2)).trans r2
        have r3 := (hb3.block _ (lt_of_heap r1)).trans r1
        clear r2 r1 e0 e1 e2 e3 e4 e5 e6 e7 e8 e9 f0 f1 f2 f3 x0 x1 hb0))
    | ((with_reducible apply wpList_store_new); (with_reducible rfl); (with_reducible rfl); rfl; rfl; kernel_rfl; rfl; kernel_rfl) | ((with_reducible apply wpList_store_blk); (with_reducible rfl); (with_reducible rfl); rfl; assumption; rfl; kernel_rfl; rfl; kernel_rfl))
  have HRD := hide_ r3
  have HRF := hide_ r4
  have hlt : w.heap.size + 1 < w2.heap.size := lt_of_heap r4
  have HB2 := hide_ hb4
  clear r3 hb3 hb2 hb1 HR1 HR2 HD HRD HB2
  go_loopw [8, 28] (fun ov kv wr => ov = .slice none 0 0 ∧ kv = .int .i64 0 ∧ wr = w2) (fun _ _ _ => 0)
  case atStart => exact ⟨rfl, rfl, rfl⟩
  case round =>
    obtain ⟨rfl, rfl, rfl⟩ := hrel
    have hl2 : w.heap.size + 1 < wr.heap.size := hlt
    go_wp2_with (first
      | (go_at_call 13; go_must (
          (with_reducible refine (HK0.out _).mono ?_)
          rintro e w7 ⟨rfl, hb7⟩
          have r7 := heap_past (o' := .cells #[.int .i64 0, .int .i64 0] 27) ((hb7.block _ hl2).trans HRF.out)
          obtain ⟨x0, x1⟩ := cells_two (heap_alloc_last w7 (.cells #[.int .i64 0, .int .i64 0] 27))))
      | ((with_reducible apply wpList_store_new); (with_reducible rfl); (with_reducible rfl); rfl; rfl; kernel_rfl; rfl; kernel_rfl) | ((with_reducible apply wpList_store_blk); (with_reducible rfl); (with_reducible rfl); rfl; assumption; rfl; kernel_rfl; rfl; kernel_rfl))
    refine ret_tc rfl (w.heap.size + 1) 27 _ _ rfl (setRow_heap _ _ _ _ _ _ r7) Try.underlying27 rfl (by kernel_rfl) rfl ?_
    have hb8 := hb4.trans (hb7.mono hb4.size)
    exact ⟨.inl ⟨rfl, _, [], rfl, OWs.nil _ _, rfl⟩, below_setRow (hb8.alloc hb8.size _) (by omega) _⟩
set_option maxHeartbeats 3200000 in
theorem parted_nil (p : Option Addr) (c : Nat) (top : Bool) (w : World) :
    Calls Try.prog 24 #[.slice p 0 c, .bool top] w fun e w' => e = .returned (.bool false) ∧ Below w.heap.size w w' := by
  go_enter Try.func24, Try.ntmps24
  go_wp2
  go_loopw [5, 6, 7] (fun u v i wr => u = .int .i64 (-1) ∧ v = .int .i64 (-1) ∧ i = .int .i64 0 ∧ wr = w) (fun _ _ _ _ => 0)
  case atStart => exact ⟨rfl, rfl, rfl, rfl⟩
  case round =>
    obtain ⟨rfl, rfl, rfl, rfl⟩ := hrel
    go_wp2
    go_quiet (fail)
    go_wp2
    go_ret
    exact ⟨rfl, below_drewN (Below.refl _ _) _⟩
set_option maxHeartbeats 3200000 in
theorem ksamews_nil (p q : Option Addr) (c d : Nat) (w : World) :
    Calls Try.prog 23 #[.slice p 0 c, .slice q 0 d] w fun e w' => e = .returned (.bool true) ∧ Below w.heap.size w w' := by
  go_enter Try.func23, Try.ntmps23
  go_wp2
  go_loopw [5] (fun i wr => i = .int .i64 0 ∧ wr = w) (fun _ _ => 0)
  case atStart => exact ⟨rfl, rfl⟩
  case round =>
    obtain ⟨rfl, rfl⟩ := hrel
    go_wp2
    go_ret
    exact ⟨rfl, Below.refl _ _⟩
end Go.Proofs.Ytcibbnphkpaifaa
