/- second.told. -/
import Derived.Test.YtcibbnphkpaifaaSl
import Derived.Deep.DeepCutAuto
namespace Go.Proofs.Ytcibbnphkpaifaa
open Go.RowKit
set_option linter.unusedVariables false
set_option maxRecDepth 100000
theorem cells_seven {w : World} {g : Nat} {a b c d e f h : Value} {T : TypeId} (hh : w.heap[g]? = some (.cells #[a, b, c, d, e, f, h] T)) : w.cell? ⟨g, 0, none⟩ = some a ∧ w.cell? ⟨g, 1, none⟩ = some b ∧ w.cell? ⟨g, 2, none⟩ = some c ∧ w.cell? ⟨g, 3, none⟩ = some d ∧ w.cell? ⟨g, 4, none⟩ = some e ∧ w.cell? ⟨g, 5, none⟩ = some f ∧ w.cell? ⟨g, 6, none⟩ = some h :=
  ⟨cell_of_row _ _ _ _ _ _ hh, cell_of_row _ _ _ _ _ _ hh, cell_of_row _ _ _ _ _ _ hh, cell_of_row _ _ _ _ _ _ hh, cell_of_row _ _ _ _ _ _ hh, cell_of_row _ _ _ _ _ _ hh, cell_of_row _ _ _ _ _ _ hh⟩
/-- What second.told tells. -/
def toldE (T L : Int) (y z : Rat) : Int := if T < 0 ∨ 1048576 < L then 2 else if Fits y ∧ Fits z then 0 else 3
theorem ResR.yes {f : FuncId} {args : Array Value} {W : World} {x : Rat} (hf : Fits x) (h : Calls Try.prog f args W (ResR W x)) : Calls Try.prog f args W fun e w' => (∃ s p n c q m d, e = .returned (.tuple #[.agg #[.bool s, .slice p n c, .slice q m d], .int .i64 0]) ∧ RO w' W.heap.size (.agg #[.bool s, .slice p n c, .slice q m d]) x) ∧ Below W.heap.size W w' :=
  h.mono fun e w' h1 => ⟨by
    rcases h1.1 with ⟨_, v, rfl, ho⟩ | ⟨h2, _⟩
    · have ho' := ho
      obtain ⟨p, c, q, d, rfl, _⟩ := ho
      exact ⟨_, _, _, _, _, _, _, rfl, ho'⟩
    · exact absurd hf h2, h1.2⟩
theorem ResR.no {f : FuncId} {args : Array Value} {W : World} {x : Rat} (hf : ¬ Fits x) (h : Calls Try.prog f args W (ResR W x)) : Calls Try.prog f args W fun e w' => e = .returned (.tuple #[.agg #[.bool false, .slice none 0 0, .slice none 0 0], .int .i64 3]) ∧ Below W.heap.size W w' :=
  h.mono fun e w' h1 => ⟨by
    rcases h1.1 with ⟨h2, _⟩ | ⟨_, h2⟩
    · exact absurd h2 hf
    · exact h2, h1.2⟩
theorem set3_at3 {w : World} {B : Nat} {a b c d e f x y z : Value} {S : TypeId} (h0 : w.heap[B]? = some (.cells #[a, b, c, d, e, f] S)) : ((w.setCell ⟨B, 3, none⟩ x).setCell ⟨B, 4, none⟩ y).setCell ⟨B, 5, none⟩ z = w.setRow B #[a, b, c, x, y, z] := by
  unfold World.setCell World.setRow
  simp only
  congr 1
  apply Array.ext_getElem?
  intro i
  by_cases hi : B = i
  · subst hi
    simp [Array.getElem?_modify, h0]
  · simp [Array.getElem?_modify, hi]
set_option maxHeartbeats 12800000 in
theorem told_any (t l k : Int) (top s1 s2 s3 : Bool) (p1 q1 p2 q2 p3 q3 : Option Addr) (n1 c1 m1 d1 n2 c2 m2 d2 n3 c3 m3 d3 : Nat) (x f z : Rat) (w : World) (ht : 0 ≤ t ∧ t ≤ 1048576) (hl : 0 ≤ l ∧ l ≤ 1048576) (hk : -1000 ≤ k ∧ k ≤ 1000)
    (hx : RV w (.agg #[.bool s1, .slice p1 n1 c1, .slice q1 m1 d1]) x) (hf : RV w (.agg #[.bool s2, .slice p2 n2 c2, .slice q2 m2 d2]) f) (hz : RV w (.agg #[.bool s3, .slice p3 n3 c3, .slice q3 m3 d3]) z) :
    Calls Try.prog 58 #[.agg #[.int .i64 t, .int .i64 l, .bool top, .bool s1, .slice p1 n1 c1, .slice q1 m1 d1], .agg #[.int .i64 k, .bool s2, .slice p2 n2 c2, .slice q2 m2 d2, .bool s3, .slice p3 n3 c3, .slice q3 m3 d3]] w
      fun e w' => (∃ t' l' top' s p n c q m d, e = .returned (.tuple #[.agg #[.int .i64 t', .int .i64 l', .bool top', .bool s, .slice p n c, .slice q m d], .int .i64 (toldE (t + k) (l + k) (f * x) (f * x + z))]) ∧ (toldE (t + k) (l + k) (f * x) (f * x + z) = 0 → t' = t + k ∧ l' = l + k ∧ top' = top ∧ RO w' w.heap.size (.agg #[.bool s, .slice p n c, .slice q m d]) (f * x + z))) ∧ Below w.heap.size w w' := by
  have hw1 : IntKind.i64.wrap (t + k) = t + k := IntWalk.i64_in _ (by omega)
  have hw2 : IntKind.i64.wrap (l + k) = l + k := IntWalk.i64_in _ (by omega)
  clear ht hl hk
  have HX := hide_ (fun W (h : Below w.heap.size w W) => hx.below h)
  have HF := hide_ (fun W (h : Below w.heap.size w W) => hf.below h)
  have HZ := hide_ (fun W (h : Below w.heap.size w W) => hz.below h)
  clear hx hf hz
  have hA := heap_past (o' := .cells #[.int .i64 0, .int .i64 0, .bool false, .bool false, .slice none 0 0, .slice none 0 0] 34) (heap_past (o' := .cells #[.int .i64 k, .bool s2, .slice p2 n2 c2, .slice q2 m2 d2, .bool s3, .slice p3 n3 c3, .slice q3 m3 d3] 46) (heap_alloc_last w (.cells #[.int .i64 t, .int .i64 l, .bool top, .bool s1, .slice p1 n1 c1, .slice q1 m1 d1] 34)))
  have hB := heap_past (o' := .cells #[.int .i64 0, .int .i64 0, .bool false, .bool false, .slice none 0 0, .slice none 0 0] 34) (heap_at1 w (.cells #[.int .i64 t, .int .i64 l, .bool top, .bool s1, .slice p1 n1 c1, .slice q1 m1 d1] 34) (.cells #[.int .i64 k, .bool s2, .slice p2 n2 c2, .slice q2 m2 d2, .bool s3, .slice p3 n3 c3, .slice q3 m3 d3] 46))
  obtain ⟨a0, a1, a2, a3, a4, a5⟩ := cells_six hA
  obtain ⟨b0, b1, b2, b3, b4, b5, b6⟩ := cells_seven hB
  have f0 := blk_free hA 0
  have f1 := blk_free hA 1
  have hA' := heap_past (o' := .cells #[.int .i64 0, .int .i64 0, .bool false, .bool false, .slice none 0 0, .slice none 0 0] 34) (heap_past (o' := .cells #[.int .i64 k, .bool s2, .slice p2 n2 c2, .slice q2 m2 d2, .bool s3, .slice p3 n3 c3, .slice q3 m3 d3] 46) (heap_alloc_last w (.cells #[.int .i64 (t + k), .int .i64 (l + k), .bool top, .bool s1, .slice p1 n1 c1, .slice q1 m1 d1] 34)))
  have hB' := heap_past (o' := .cells #[.int .i64 0, .int .i64 0, .bool false, .bool false, .slice none 0 0, .slice none 0 0] 34) (heap_at1 w (.cells #[.int .i64 (t + k), .int .i64 (l + k), .bool top, .bool s1, .slice p1 n1 c1, .slice q1 m1 d1] 34) (.cells #[.int .i64 k, .bool s2, .slice p2 n2 c2, .slice q2 m2 d2, .bool s3, .slice p3 n3 c3, .slice q3 m3 d3] 46))
  have hC' := heap_at2 w (.cells #[.int .i64 (t + k), .int .i64 (l + k), .bool top, .bool s1, .slice p1 n1 c1, .slice q1 m1 d1] 34) (.cells #[.int .i64 k, .bool s2, .slice p2 n2 c2, .slice q2 m2 d2, .bool s3, .slice p3 n3 c3, .slice q3 m3 d3] 46) (.cells #[.int .i64 0, .int .i64 0, .bool false, .bool false, .slice none 0 0, .slice none 0 0] 34)
  have hbl : Below w.heap.size w (((w.alloc (.cells #[.int .i64 (t + k), .int .i64 (l + k), .bool top, .bool s1, .slice p1 n1 c1, .slice q1 m1 d1] 34)).alloc (.cells #[.int .i64 k, .bool s2, .slice p2 n2 c2, .slice q2 m2 d2, .bool s3, .slice p3 n3 c3, .slice q3 m3 d3] 46)).alloc (.cells #[.int .i64 0, .int .i64 0, .bool false, .bool false, .slice none 0 0, .slice none 0 0] 34)).drew := (((below_alloc _ _).alloc (by simp) _).alloc (by simp; omega) _).drew
  have HFIN := hide_ (⟨hA', hB', hC', hbl⟩ : _ ∧ _ ∧ _ ∧ _)
  clear hA hB hA' hB' hC' hbl
  go_enter Try.func58, Try.ntmps58
  go_upto_region 1 with fail
  go_cut [12] (fun s wx => wx.heap[w.heap.size]? = some (.cells #[.int .i64 (t + k), .int .i64 (l + k), .bool top, .bool s1, .slice p1 n1 c1, .slice q1 m1 d1] 34) ∧ wx.heap[w.heap.size + 1]? = some (.cells #[.int .i64 k, .bool s2, .slice p2 n2 c2, .slice q2 m2 d2, .bool s3, .slice p3 n3 c3, .slice q3 m3 d3] 46) ∧ wx.heap[w.heap.size + 1 + 1]? = some (.cells #[.int .i64 0, .int .i64 0, .bool false, .bool false, .slice none 0 0, .slice none 0 0] 34) ∧ Below w.heap.size w wx)
  case first =>
    go_region_law (fail)
    all_goals (go_wp2_with fail; go_meet; exact HFIN.out)
  case rest =>
    obtain ⟨hA, hB, hC, hb⟩ := hcut
    obtain ⟨a0, a1, a2, a3, a4, a5⟩ := cells_six hA
    obtain ⟨b0, b1, b2, b3, b4, b5, b6⟩ := cells_seven hB
    have hb1 : decide (t + k < 0) = true ∨ (decide (t + k < 0) = false ∧ decide (1048576 < l + k) = true) ∨ (decide (t + k < 0) = false ∧ decide (1048576 < l + k) = false) := by
      cases decide (t + k < 0) <;> cases decide (1048576 < l + k) <;> simp
    have hE1 : Hid (decide (t + k < 0) = true → toldE (t + k) (l + k) (f * x) (f * x + z) = 2) := hide_ fun h => by unfold toldE; rw [if_pos (.inl (of_decide_eq_true h))]
    have hE2 : Hid (decide (1048576 < l + k) = true → toldE (t + k) (l + k) (f * x) (f * x + z) = 2) := hide_ fun h => by unfold toldE; rw [if_pos (.inr (of_decide_eq_true h))]
    have hE3 : Hid (decide (t + k < 0) = false → decide (1048576 < l + k) = false → toldE (t + k) (l + k) (f * x) (f * x + z) = if Fits (f * x) ∧ Fits (f * x + z) then 0 else 3) := hide_ fun h h' => by
      have h1 := of_decide_eq_false h
      have h2 := of_decide_eq_false h'
      unfold toldE
      rw [if_neg (by omega)]
    rcases hb1 with z1 | ⟨z1, z2⟩ | ⟨z1, z2⟩
    · have HE := hide_ (hE1.out z1)
      clear hE1 hE2 hE3
      go_wp2_with ((with_reducible apply wpList_store_blk); (with_reducible rfl); (with_reducible rfl); rfl; assumption; rfl; kernel_rfl; rfl; kernel_rfl)
      refine ret_ct rfl (w.heap.size + 1 + 1) 34 _ _ rfl (setRow_heap _ _ _ _ _ _ hC) Try.underlying34 rfl (by kernel_rfl) rfl ?_
      rw [HE.out]
      exact ⟨⟨_, _, _, _, _, _, _, _, _, _, rfl, fun h => absurd h (by decide)⟩, below_setRow hb (by omega) _⟩
    · have HE := hide_ (hE2.out z2)
      clear hE1 hE2 hE3
      go_wp2_with ((with_reducible apply wpList_store_blk); (with_reducible rfl); (with_reducible rfl); rfl; assumption; rfl; kernel_rfl; rfl; kernel_rfl)
      refine ret_ct rfl (w.heap.size + 1 + 1) 34 _ _ rfl (setRow_heap _ _ _ _ _ _ hC) Try.underlying34 rfl (by kernel_rfl) rfl ?_
      rw [HE.out]
      exact ⟨⟨_, _, _, _, _, _, _, _, _, _, rfl, fun h => absurd h (by decide)⟩, below_setRow hb (by omega) _⟩
    · have HE := hide_ (hE3.out z1 z2)
      clear hE1 hE2 hE3
      have hlt := lt_of_heap hC
      have HA := hide_ hA
      have HBB := hide_ hB
      have HC := hide_ hC
      clear hA hB hC
      by_cases f1 : Fits (f * x)
      · have HM := hide_ (ResR.yes f1 (rmul_any _ _ f x wc (HF.out wc hb) (HX.out wc hb)))
        by_cases f2 : Fits (f * x + z)
        · have HE2 := hide_ (HE.out.trans (if_pos ⟨f1, f2⟩))
          go_wp2_with (first
            | (go_at_call 74; go_must (
                (with_reducible refine (HM.out).mono ?_)
                rintro e w2 ⟨⟨s4, p4, n4, c4, q4, m4, d4, rfl, ho2⟩, hb2⟩
                have hA2 := heap_past (o' := .cells #[.bool s4, .slice p4 n4 c4, .slice q4 m4 d4] 32) ((hb2.block _ (lt_of_heap HA.out)).trans HA.out)
                have hB2 := heap_past (o' := .cells #[.bool s4, .slice p4 n4 c4, .slice q4 m4 d4] 32) ((hb2.block _ (lt_of_heap HBB.out)).trans HBB.out)
                obtain ⟨v0, v1, v2, v3, v4, v5, v6⟩ := cells_seven hB2
                obtain ⟨x0, x1, x2⟩ := cells_three (heap_alloc_last w2 (.cells #[.bool s4, .slice p4 n4 c4, .slice q4 m4 d4] 32))
                have hb3 : Below w.heap.size w (w2.alloc (.cells #[.bool s4, .slice p4 n4 c4, .slice q4 m4 d4] 32)) := (hb.trans (hb2.mono hb.size)).alloc (hb.trans (hb2.mono hb.size)).size _
                have HRM := hide_ ((ho2.below (below_alloc _ (.cells #[.bool s4, .slice p4 n4 c4, .slice q4 m4 d4] 32))).rv f1)
                have HMA := hide_ (ResR.yes f2 (radd_any _ _ (f * x) z _ HRM.out (HZ.out _ hb3)))
                clear a0 a1 a2 a3 a4 a5 b0 b1 b2 b3 b4 b5 b6))
            | (go_at_call 84; go_must (
                (with_reducible refine (HMA.out).mono ?_)
                rintro e w5 ⟨⟨s5, p5, n5, c5, q5, m5, d5, rfl, ho5⟩, hb5⟩
                have hr5 := (hb5.block _ (lt_of_heap (heap_alloc_last w2 (.cells #[.bool s4, .slice p4 n4 c4, .slice q4 m4 d4] 32)))).trans (heap_alloc_last w2 _)
                have hl2 := hb2.size
                have hgA : w.heap.size ≠ w2.heap.size := by omega
                have hgC : w.heap.size + 1 + 1 ≠ w2.heap.size := by omega
                have hA5 := row_other (cs := #[.bool s5, .slice p5 n5 c5, .slice q5 m5 d5]) ((hb5.block _ (lt_of_heap hA2)).trans hA2) hgA
                have hr6 := setRow_heap _ _ _ #[.bool s5, .slice p5 n5 c5, .slice q5 m5 d5] _ _ hr5
                obtain ⟨y0, y1, y2⟩ := cells_three hr6
                obtain ⟨g0, g1, g2, g3, g4, g5⟩ := cells_six hA5
                have k3 := blk_free hA5 3
                have k4 := blk_free hA5 4
                have k5 := blk_free hA5 5
                have hA6 := setRow_heap _ _ _ #[.int .i64 (t + k), .int .i64 (l + k), .bool top, .bool s5, .slice p5 n5 c5, .slice q5 m5 d5] _ _ hA5
                rw [← set3_at3 hA5] at hA6
                obtain ⟨j0, j1, j2, j3, j4, j5⟩ := cells_six hA6
                have hC5 := row_other (cs := #[.int .i64 (t + k), .int .i64 (l + k), .bool top, .bool s5, .slice p5 n5 c5, .slice q5 m5 d5]) (row_other (cs := #[.bool s5, .slice p5 n5 c5, .slice q5 m5 d5]) ((hb5.block _ (lt_of_heap (heap_past ((hb2.block _ (lt_of_heap HC.out)).trans HC.out)))).trans (heap_past ((hb2.block _ (lt_of_heap HC.out)).trans HC.out))) hgC) (show w.heap.size + 1 + 1 ≠ w.heap.size by omega)
                rw [← set3_at3 hA5] at hC5
                clear v0 v1 v2 v3 v4 v5 v6 x0 x1 x2))
            | ((with_reducible apply wpList_store_new); (with_reducible rfl); (with_reducible rfl); rfl; rfl; kernel_rfl; rfl; kernel_rfl) | ((with_reducible apply wpList_store_blk); (with_reducible rfl); (with_reducible rfl); rfl; assumption; rfl; kernel_rfl; rfl; kernel_rfl))
          refine ret_ct rfl (w.heap.size + 1 + 1) 34 _ _ rfl (setRow_heap _ _ _ _ _ _ hC5) Try.underlying34 rfl (by kernel_rfl) rfl ?_
          rw [HE2.out, set3_at3 hA5]
          have hl6 : w.heap.size + 1 + 1 < w2.heap.size := by omega
          have hb6 : Below w.heap.size w w5 := hb3.trans (hb5.mono hb3.size)
          exact ⟨⟨_, _, _, _, _, _, _, _, _, _, rfl, fun _ => ⟨rfl, rfl, rfl, (((ho5.stored (W := w) (by simp)).stored (W := w) (by simp; omega)).stored (W := w) (by simp; omega)).mono (by simp; omega)⟩⟩, below_setRow (below_setRow (below_setRow hb6 (by omega) _) (Nat.le_refl _) _) (by omega) _⟩
        · have HE2 := hide_ (HE.out.trans (if_neg (fun h => f2 h.2)))
          go_wp2_with (first
            | (go_at_call 74; go_must (
                (with_reducible refine (HM.out).mono ?_)
                rintro e w2 ⟨⟨s4, p4, n4, c4, q4, m4, d4, rfl, ho2⟩, hb2⟩
                have hA2 := heap_past (o' := .cells #[.bool s4, .slice p4 n4 c4, .slice q4 m4 d4] 32) ((hb2.block _ (lt_of_heap HA.out)).trans HA.out)
                have hB2 := heap_past (o' := .cells #[.bool s4, .slice p4 n4 c4, .slice q4 m4 d4] 32) ((hb2.block _ (lt_of_heap HBB.out)).trans HBB.out)
                obtain ⟨v0, v1, v2, v3, v4, v5, v6⟩ := cells_seven hB2
                obtain ⟨x0, x1, x2⟩ := cells_three (heap_alloc_last w2 (.cells #[.bool s4, .slice p4 n4 c4, .slice q4 m4 d4] 32))
                have hb3 : Below w.heap.size w (w2.alloc (.cells #[.bool s4, .slice p4 n4 c4, .slice q4 m4 d4] 32)) := (hb.trans (hb2.mono hb.size)).alloc (hb.trans (hb2.mono hb.size)).size _
                have HRM := hide_ ((ho2.below (below_alloc _ (.cells #[.bool s4, .slice p4 n4 c4, .slice q4 m4 d4] 32))).rv f1)
                have HMA := hide_ (ResR.no f2 (radd_any _ _ (f * x) z _ HRM.out (HZ.out _ hb3)))
                clear a0 a1 a2 a3 a4 a5 b0 b1 b2 b3 b4 b5 b6))
            | (go_at_call 84; go_must (
                (with_reducible refine (HMA.out).mono ?_)
                rintro e w5 ⟨rfl, hb5⟩
                have hr5 := (hb5.block _ (lt_of_heap (heap_alloc_last w2 (.cells #[.bool s4, .slice p4 n4 c4, .slice q4 m4 d4] 32)))).trans (heap_alloc_last w2 _)
                have hl2 := hb2.size
                have hgA : w.heap.size ≠ w2.heap.size := by omega
                have hgC : w.heap.size + 1 + 1 ≠ w2.heap.size := by omega
                have hA5 := row_other (cs := #[.bool false, .slice none 0 0, .slice none 0 0]) ((hb5.block _ (lt_of_heap hA2)).trans hA2) hgA
                have hr6 := setRow_heap _ _ _ #[.bool false, .slice none 0 0, .slice none 0 0] _ _ hr5
                obtain ⟨y0, y1, y2⟩ := cells_three hr6
                obtain ⟨g0, g1, g2, g3, g4, g5⟩ := cells_six hA5
                have k3 := blk_free hA5 3
                have k4 := blk_free hA5 4
                have k5 := blk_free hA5 5
                have hA6 := setRow_heap _ _ _ #[.int .i64 (t + k), .int .i64 (l + k), .bool top, .bool false, .slice none 0 0, .slice none 0 0] _ _ hA5
                rw [← set3_at3 hA5] at hA6
                obtain ⟨j0, j1, j2, j3, j4, j5⟩ := cells_six hA6
                have hC5 := row_other (cs := #[.int .i64 (t + k), .int .i64 (l + k), .bool top, .bool false, .slice none 0 0, .slice none 0 0]) (row_other (cs := #[.bool false, .slice none 0 0, .slice none 0 0]) ((hb5.block _ (lt_of_heap (heap_past ((hb2.block _ (lt_of_heap HC.out)).trans HC.out)))).trans (heap_past ((hb2.block _ (lt_of_heap HC.out)).trans HC.out))) hgC) (show w.heap.size + 1 + 1 ≠ w.heap.size by omega)
                rw [← set3_at3 hA5] at hC5
                clear v0 v1 v2 v3 v4 v5 v6 x0 x1 x2))
            | ((with_reducible apply wpList_store_new); (with_reducible rfl); (with_reducible rfl); rfl; rfl; kernel_rfl; rfl; kernel_rfl) | ((with_reducible apply wpList_store_blk); (with_reducible rfl); (with_reducible rfl); rfl; assumption; rfl; kernel_rfl; rfl; kernel_rfl))
          refine ret_ct rfl (w.heap.size + 1 + 1) 34 _ _ rfl (setRow_heap _ _ _ _ _ _ hC5) Try.underlying34 rfl (by kernel_rfl) rfl ?_
          rw [HE2.out, set3_at3 hA5]
          have hl6 : w.heap.size + 1 + 1 < w2.heap.size := by omega
          have hb6 : Below w.heap.size w w5 := hb3.trans (hb5.mono hb3.size)
          exact ⟨⟨_, _, _, _, _, _, _, _, _, _, rfl, fun h => absurd h (by decide)⟩, below_setRow (below_setRow (below_setRow hb6 (by omega) _) (Nat.le_refl _) _) (by omega) _⟩
      · have HM := hide_ (ResR.no f1 (rmul_any _ _ f x wc (HF.out wc hb) (HX.out wc hb)))
        have HE2 := hide_ (HE.out.trans (if_neg (fun h => f1 h.1)))
        go_wp2_with (first
          | (go_at_call 74; go_must (
              (with_reducible refine (HM.out).mono ?_)
              rintro e w2 ⟨rfl, hb2⟩
              have hA5 := heap_past (o' := (.cells #[.bool false, .slice none 0 0, .slice none 0 0] 32)) ((hb2.block _ (lt_of_heap HA.out)).trans HA.out)
              obtain ⟨y0, y1, y2⟩ := cells_three (heap_alloc_last w2 (.cells #[.bool false, .slice none 0 0, .slice none 0 0] 32))
              have hb3 : Below w.heap.size w (w2.alloc (.cells #[.bool false, .slice none 0 0, .slice none 0 0] 32)) := (hb.trans (hb2.mono hb.size)).alloc (hb.trans (hb2.mono hb.size)).size _
              obtain ⟨g0, g1, g2, g3, g4, g5⟩ := cells_six hA5
              have k3 := blk_free hA5 3
              have k4 := blk_free hA5 4
              have k5 := blk_free hA5 5
              have hA6 := setRow_heap _ _ _ #[.int .i64 (t + k), .int .i64 (l + k), .bool top, .bool false, .slice none 0 0, .slice none 0 0] _ _ hA5
              rw [← set3_at3 hA5] at hA6
              obtain ⟨j0, j1, j2, j3, j4, j5⟩ := cells_six hA6
              have hC5 := row_other (cs := #[.int .i64 (t + k), .int .i64 (l + k), .bool top, .bool false, .slice none 0 0, .slice none 0 0]) (heap_past (o' := (.cells #[.bool false, .slice none 0 0, .slice none 0 0] 32)) ((hb2.block _ (lt_of_heap HC.out)).trans HC.out)) (show w.heap.size + 1 + 1 ≠ w.heap.size by omega)
              rw [← set3_at3 hA5] at hC5
              clear a0 a1 a2 a3 a4 a5 b0 b1 b2 b3 b4 b5 b6))
          | ((with_reducible apply wpList_store_new); (with_reducible rfl); (with_reducible rfl); rfl; rfl; kernel_rfl; rfl; kernel_rfl) | ((with_reducible apply wpList_store_blk); (with_reducible rfl); (with_reducible rfl); rfl; assumption; rfl; kernel_rfl; rfl; kernel_rfl))
        refine ret_ct rfl (w.heap.size + 1 + 1) 34 _ _ rfl (setRow_heap _ _ _ _ _ _ hC5) Try.underlying34 rfl (by kernel_rfl) rfl ?_
        rw [HE2.out, set3_at3 hA5]
        exact ⟨⟨_, _, _, _, _, _, _, _, _, _, rfl, fun h => absurd h (by decide)⟩, below_setRow (below_setRow hb3 (Nat.le_refl _) _) (by omega) _⟩
end Go.Proofs.Ytcibbnphkpaifaa
