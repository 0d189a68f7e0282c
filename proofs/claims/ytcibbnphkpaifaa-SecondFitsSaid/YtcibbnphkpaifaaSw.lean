/- second.Apply: what is refused at once. -/
import Derived.Test.YtcibbnphkpaifaaSv
namespace Go.Proofs.Ytcibbnphkpaifaa
open Go.RowKit
set_option linter.unusedVariables false
set_option maxRecDepth 100000
set_option maxHeartbeats 6400000 in
theorem apply_err (p : Option Addr) (n c : Nat) (a b : Int) (L : List Wt) (d : Df) (p1 q1 p2 q2 p3 q3 p4 q4 : Option Addr) (c1 d1 c2 d2 c3 d3 c4 d4 : Nat) (w : World) (hn : n = L.length) (hp : WSl w p L) (hl : n ≤ 4096) (hc : checkW none 0 L = (a, b)) (ha : a ≠ 0) :
    Calls Try.prog 22 #[.slice p n c, .agg #[.int .i64 d.ka, .bool d.x1.neg, .slice p1 d.x1.A.length c1, .slice q1 d.x1.D.length d1, .bool d.x2.neg, .slice p2 d.x2.A.length c2, .slice q2 d.x2.D.length d2, .int .i64 d.kb, .bool d.x3.neg, .slice p3 d.x3.A.length c3, .slice q3 d.x3.D.length d3, .bool d.x4.neg, .slice p4 d.x4.A.length c4, .slice q4 d.x4.D.length d4]] w (ResN w a b) := by
  have HK := hide_ (fun W (h : Below w.heap.size w W) => checkW_any p n c L W hn (hp.below h) hl)
  rw [hc] at HK
  have b1 : (a != 0) = true := by simpa using ha
  clear hp hn hl hc
  have hb0 : Below w.heap.size w ((w.alloc (.cells #[.int .i64 d.ka, .bool d.x1.neg, .slice p1 d.x1.A.length c1, .slice q1 d.x1.D.length d1, .bool d.x2.neg, .slice p2 d.x2.A.length c2, .slice q2 d.x2.D.length d2, .int .i64 d.kb, .bool d.x3.neg, .slice p3 d.x3.A.length c3, .slice q3 d.x3.D.length d3, .bool d.x4.neg, .slice p4 d.x4.A.length c4, .slice q4 d.x4.D.length d4] 48)).alloc (.cells #[.int .i64 0, .int .i64 0] 27)) := (below_alloc _ _).alloc (by simp) _
  have HR2 := hide_ (heap_at1 w (.cells #[.int .i64 d.ka, .bool d.x1.neg, .slice p1 d.x1.A.length c1, .slice q1 d.x1.D.length d1, .bool d.x2.neg, .slice p2 d.x2.A.length c2, .slice q2 d.x2.D.length d2, .int .i64 d.kb, .bool d.x3.neg, .slice p3 d.x3.A.length c3, .slice q3 d.x3.D.length d3, .bool d.x4.neg, .slice p4 d.x4.A.length c4, .slice q4 d.x4.D.length d4] 48) (.cells #[.int .i64 0, .int .i64 0] 27))
  go_enter Try.func22, Try.ntmps22
  go_wp2_with (first
    | (go_at_call 13; go_must (
        (with_reducible refine (HK.out _ hb0).mono ?_)
        rintro e w1 ⟨rfl, hb1⟩
        have r2 := heap_past (o' := .cells #[.int .i64 a, .int .i64 b] 27) ((hb1.block _ (lt_of_heap HR2.out)).trans HR2.out)
        obtain ⟨x0, x1⟩ := cells_two (heap_alloc_last w1 (.cells #[.int .i64 a, .int .i64 b] 27))))
    | ((with_reducible apply wpList_store_new); (with_reducible rfl); (with_reducible rfl); rfl; rfl; kernel_rfl; rfl; kernel_rfl) | ((with_reducible apply wpList_store_blk); (with_reducible rfl); (with_reducible rfl); rfl; assumption; rfl; kernel_rfl; rfl; kernel_rfl))
  have hl1 := lt_of_heap HR2.out
  have hl2 := hb1.size
  have hb2 : Below w.heap.size w (w1.alloc (.cells #[.int .i64 a, .int .i64 b] 27)) := (hb0.trans (hb1.mono hb0.size)).alloc (hb0.trans (hb1.mono hb0.size)).size _
  generalize hB : w1.heap.size = B at *
  have hne2 : B ≠ w.heap.size + 1 := by omega
  obtain ⟨m0, m1⟩ := cells_two r2
  obtain ⟨m3, m4⟩ := free_two r2
  go_region_held3 (fun w' => w'.cell? ⟨B, 0, none⟩ = some (.int .i64 a) ∧ w'.cell? ⟨B, 1, none⟩ = some (.int .i64 b))
    (first | (with_reducible exact ⟨(keep_set2d hne2).trans x0, (keep_set2d hne2).trans x1⟩) | (with_reducible exact ⟨(keep_set2 hne2).trans x0, (keep_set2 hne2).trans x1⟩) | (with_reducible exact ⟨x0, x1⟩) | go_keep)
    (fail)
  go_wp2
  rw [set2_row r2]
  refine ret_tc rfl (w.heap.size + 1) 27 #[.int .i64 a, .int .i64 b] _ rfl (heap_drew (setRow_heap _ _ _ _ _ _ r2)) Try.underlying27 rfl (by kernel_rfl) rfl ?_
  exact ⟨rfl, (below_setRow hb2 (by omega) _).drew⟩
set_option maxHeartbeats 6400000 in
theorem apply_dif (p : Option Addr) (n c : Nat) (L : List Wt) (d : Df) (p1 q1 p2 q2 p3 q3 p4 q4 : Option Addr) (c1 d1 c2 d2 c3 d3 c4 d4 : Nat) (w : World) (hn : n = L.length) (hp : WSl w p L) (hl : n ≤ 4096) (hs : Snd L) (hd : DfV w d p1 c1 q1 d1 p2 c2 q2 d2 p3 c3 q3 d3 p4 c4 q4 d4) (ha : d.chk ≠ 0) :
    Calls Try.prog 22 #[.slice p n c, .agg #[.int .i64 d.ka, .bool d.x1.neg, .slice p1 d.x1.A.length c1, .slice q1 d.x1.D.length d1, .bool d.x2.neg, .slice p2 d.x2.A.length c2, .slice q2 d.x2.D.length d2, .int .i64 d.kb, .bool d.x3.neg, .slice p3 d.x3.A.length c3, .slice q3 d.x3.D.length d3, .bool d.x4.neg, .slice p4 d.x4.A.length c4, .slice q4 d.x4.D.length d4]] w (ResN w d.chk (-1)) := by
  have HK := hide_ (fun W (h : Below w.heap.size w W) => checkW_any p n c L W hn (hp.below h) hl)
  rw [hs.zero] at HK
  have HD := hide_ (fun W (h : Below w.heap.size w W) => (show Calls Try.prog 29 #[.agg #[.int .i64 d.ka, .bool d.x1.neg, .slice p1 d.x1.A.length c1, .slice q1 d.x1.D.length d1, .bool d.x2.neg, .slice p2 d.x2.A.length c2, .slice q2 d.x2.D.length d2, .int .i64 d.kb, .bool d.x3.neg, .slice p3 d.x3.A.length c3, .slice q3 d.x3.D.length d3, .bool d.x4.neg, .slice p4 d.x4.A.length c4, .slice q4 d.x4.D.length d4]] W fun e w' => e = .returned (.int .i64 d.chk) ∧ Below W.heap.size W w' from dcheck_any d.ka d.kb d.x1 d.x2 d.x3 d.x4 p1 q1 p2 q2 p3 q3 p4 q4 c1 d1 c2 d2 c3 d3 c4 d4 W (RG.below hd.1 h) (RG.below hd.2.1 h) (RG.below hd.2.2.1 h) (RG.below hd.2.2.2 h)))
  have HF := hide_ (fun W => fault_any d.chk (-1) W)
  have b1 : (d.chk != 0) = true := by simpa using ha
  clear hp hn hl hs hd ha
  generalize d.chk = E at *
  have hb0 : Below w.heap.size w ((w.alloc (.cells #[.int .i64 d.ka, .bool d.x1.neg, .slice p1 d.x1.A.length c1, .slice q1 d.x1.D.length d1, .bool d.x2.neg, .slice p2 d.x2.A.length c2, .slice q2 d.x2.D.length d2, .int .i64 d.kb, .bool d.x3.neg, .slice p3 d.x3.A.length c3, .slice q3 d.x3.D.length d3, .bool d.x4.neg, .slice p4 d.x4.A.length c4, .slice q4 d.x4.D.length d4] 48)).alloc (.cells #[.int .i64 0, .int .i64 0] 27)) := (below_alloc _ _).alloc (by simp) _
  have HR1 := hide_ (heap_past (o' := (.cells #[.int .i64 0, .int .i64 0] 27)) (heap_alloc_last w (.cells #[.int .i64 d.ka, .bool d.x1.neg, .slice p1 d.x1.A.length c1, .slice q1 d.x1.D.length d1, .bool d.x2.neg, .slice p2 d.x2.A.length c2, .slice q2 d.x2.D.length d2, .int .i64 d.kb, .bool d.x3.neg, .slice p3 d.x3.A.length c3, .slice q3 d.x3.D.length d3, .bool d.x4.neg, .slice p4 d.x4.A.length c4, .slice q4 d.x4.D.length d4] 48)))
  have HR2 := hide_ (heap_at1 w (.cells #[.int .i64 d.ka, .bool d.x1.neg, .slice p1 d.x1.A.length c1, .slice q1 d.x1.D.length d1, .bool d.x2.neg, .slice p2 d.x2.A.length c2, .slice q2 d.x2.D.length d2, .int .i64 d.kb, .bool d.x3.neg, .slice p3 d.x3.A.length c3, .slice q3 d.x3.D.length d3, .bool d.x4.neg, .slice p4 d.x4.A.length c4, .slice q4 d.x4.D.length d4] 48) (.cells #[.int .i64 0, .int .i64 0] 27))
  go_enter Try.func22, Try.ntmps22
  go_wp2_with (first
    | (go_at_call 13; go_must (
        (with_reducible refine (HK.out _ hb0).mono ?_)
        rintro e w1 ⟨rfl, hb1⟩
        have r1 := heap_past (o' := .cells #[.int .i64 0, .int .i64 0] 27) ((hb1.block _ (lt_of_heap HR1.out)).trans HR1.out)
        have r2 := heap_past (o' := .cells #[.int .i64 0, .int .i64 0] 27) ((hb1.block _ (lt_of_heap HR2.out)).trans HR2.out)
        have hb2 : Below w.heap.size w (w1.alloc (.cells #[.int .i64 0, .int .i64 0] 27)) := (hb0.trans (hb1.mono hb0.size)).alloc (hb0.trans (hb1.mono hb0.size)).size _
        obtain ⟨x0, x1⟩ := cells_two (heap_alloc_last w1 (.cells #[.int .i64 0, .int .i64 0] 27))
        obtain ⟨⟨e0, e1, e2, e3, e4, e5, e6⟩, e7, e8, e9, f0, f1, f2, f3⟩ := cells_14 r1))
    | (go_at_call 29; go_must (
        (with_reducible refine (HD.out _ hb2).mono ?_)
        rintro e w3 ⟨rfl, hb3⟩
        have hb4 := hb2.trans (hb3.mono hb2.size)
        have r4 := (hb3.block _ (lt_of_heap r2)).trans r2
        clear r2 r1))
    | (go_at_call 55; go_must (
        (with_reducible refine (HF.out _).mono ?_)
        rintro e w5 ⟨rfl, hb5⟩
        have r5 := (hb5.block _ (lt_of_heap r4)).trans r4
        clear r4))
    | ((with_reducible apply wpList_store_new); (with_reducible rfl); (with_reducible rfl); rfl; rfl; kernel_rfl; rfl; kernel_rfl) | ((with_reducible apply wpList_store_blk); (with_reducible rfl); (with_reducible rfl); rfl; assumption; rfl; kernel_rfl; rfl; kernel_rfl))
  refine ret_tc rfl (w.heap.size + 1) 27 _ _ rfl (setRow_heap _ _ _ _ _ _ r5) Try.underlying27 rfl (by kernel_rfl) rfl ?_
  exact ⟨rfl, below_setRow (hb4.trans (hb5.mono hb4.size)) (by omega) _⟩
end Go.Proofs.Ytcibbnphkpaifaa
