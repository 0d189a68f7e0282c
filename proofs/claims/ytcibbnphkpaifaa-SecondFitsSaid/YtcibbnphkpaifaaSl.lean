/- second.Between. -/
import Derived.Test.YtcibbnphkpaifaaSk
namespace Go.Proofs.Ytcibbnphkpaifaa
open Go.RowKit
set_option linter.unusedVariables false
set_option maxRecDepth 100000
/-- The curve of any waters at a tick. -/
def btw (L : List Wt) (t : Int) : Rat × Int × Int := if (checkW none 0 L).1 = 0 then ((atQ L t).1, (atQ L t).2, if (atQ L t).2 = 0 then 0 else -1) else (0, (checkW none 0 L).1, (checkW none 0 L).2)
def ResF (w : World) (r : Rat × Int × Int) (e : Ending) (w' : World) : Prop := (∃ s p n c q m d, e = .returned (.tuple #[.agg #[.bool s, .slice p n c, .slice q m d], .agg #[.int .i64 r.2.1, .int .i64 r.2.2]]) ∧ (r.2.1 = 0 → r.2.2 = 0 ∧ Fits r.1 ∧ RO w' w.heap.size (.agg #[.bool s, .slice p n c, .slice q m d]) r.1) ∧ (r.2.1 ≠ 0 → Value.agg #[.bool s, .slice p n c, .slice q m d] = zeroR)) ∧ Below w.heap.size w w'
theorem resA_f {w w' : World} {r : Rat × Int} {e : Ending} (h : ResA w r e w') : ResF w (r.1, r.2, if r.2 = 0 then 0 else -1) e w' := by
  obtain ⟨s, p, n, c, q, m, d, a, rfl, h1, h2⟩ := h.form
  have ea : a = if r.2 = 0 then 0 else -1 := by
    by_cases h0 : r.2 = 0
    · rw [if_pos h0]; exact (h1 h0).1
    · rw [if_neg h0]; exact (h2 h0).1
  refine ⟨⟨s, p, n, c, q, m, d, by rw [ea], fun h0 => ⟨?_, (h1 h0).2⟩, fun h0 => (h2 h0).2⟩, h.2⟩
  show (if r.2 = 0 then (0 : Int) else -1) = 0
  rw [if_pos h0]
theorem set2_row {w : World} {B : Nat} {a b x y : Value} {S : TypeId} (h0 : w.heap[B]? = some (.cells #[a, b] S)) : (w.setCell ⟨B, 0, none⟩ x).setCell ⟨B, 1, none⟩ y = w.setRow B #[x, y] := by
  unfold World.setCell World.setRow
  simp only
  congr 1
  apply Array.ext_getElem?
  intro i
  by_cases hi : B = i
  · subst hi
    simp [Array.getElem?_modify, h0]
  · simp [Array.getElem?_modify, hi]
theorem keep_set2 {w : World} {B g o : Nat} {x y : Value} (h : g ≠ B) : ((w.setCell ⟨B, 0, none⟩ x).setCell ⟨B, 1, none⟩ y).cell? ⟨g, o, none⟩ = w.cell? ⟨g, o, none⟩ := by
  unfold World.cell?
  rw [set_other (fun e => h e.symm), set_other (fun e => h e.symm)]
theorem keep_set2d {w : World} {B g o : Nat} {x y : Value} (h : g ≠ B) : (((w.setCell ⟨B, 0, none⟩ x).setCell ⟨B, 1, none⟩ y).drew).cell? ⟨g, o, none⟩ = w.cell? ⟨g, o, none⟩ := keep_set2 h
set_option maxHeartbeats 6400000 in
theorem between_err (p : Option Addr) (n c : Nat) (t a b : Int) (L : List Wt) (w : World) (hn : n = L.length) (hp : WSl w p L) (hl : n ≤ 4096) (hc : checkW none 0 L = (a, b)) (ha : a ≠ 0) :
    Calls Try.prog 15 #[.slice p n c, .int .i64 t] w fun e w' => e = .returned (.tuple #[zeroR, .agg #[.int .i64 a, .int .i64 b]]) ∧ Below w.heap.size w w' := by
  have HK := hide_ (fun W (h : Below w.heap.size w W) => checkW_any p n c L W hn (hp.below h) hl)
  rw [hc] at HK
  have b1 : (a != 0) = true := by simpa using ha
  clear hp hn hl hc
  have hb0 : Below w.heap.size w ((w.alloc (.cells #[.bool false, .slice none 0 0, .slice none 0 0] 32)).alloc (.cells #[.int .i64 0, .int .i64 0] 27)) := (below_alloc _ _).alloc (by simp) _
  have HR1 := hide_ (heap_past (o' := .cells #[.int .i64 0, .int .i64 0] 27) (heap_alloc_last w (.cells #[.bool false, .slice none 0 0, .slice none 0 0] 32)))
  have HR2 := hide_ (heap_at1 w (.cells #[.bool false, .slice none 0 0, .slice none 0 0] 32) (.cells #[.int .i64 0, .int .i64 0] 27))
  go_enter Try.func15, Try.ntmps15
  go_wp2_with (first
    | (go_at_call 13; go_must (
        (with_reducible refine (HK.out _ hb0).mono ?_)
        rintro e w1 ⟨rfl, hb1⟩
        have r1 := heap_past (o' := .cells #[.int .i64 a, .int .i64 b] 27) ((hb1.block _ (lt_of_heap HR1.out)).trans HR1.out)
        have r2 := heap_past (o' := .cells #[.int .i64 a, .int .i64 b] 27) ((hb1.block _ (lt_of_heap HR2.out)).trans HR2.out)
        obtain ⟨x0, x1⟩ := cells_two (heap_alloc_last w1 (.cells #[.int .i64 a, .int .i64 b] 27))))
    | ((with_reducible apply wpList_store_new); (with_reducible rfl); (with_reducible rfl); rfl; rfl; kernel_rfl; rfl; kernel_rfl) | ((with_reducible apply wpList_store_blk); (with_reducible rfl); (with_reducible rfl); rfl; assumption; rfl; kernel_rfl; rfl; kernel_rfl))
  have hl1 := lt_of_heap HR2.out
  have hl2 := hb1.size
  have hb2 : Below w.heap.size w (w1.alloc (.cells #[.int .i64 a, .int .i64 b] 27)) := (hb0.trans (hb1.mono hb0.size)).alloc (hb0.trans (hb1.mono hb0.size)).size _
  generalize hB : w1.heap.size = B at *
  have hne1 : B ≠ w.heap.size := by omega
  have hne2 : B ≠ w.heap.size + 1 := by omega
  obtain ⟨l0, l1, l2⟩ := cells_three r1
  obtain ⟨l3, l4, l5⟩ := free_three r1
  have hne3 : w.heap.size + 1 ≠ w.heap.size := by omega
  obtain ⟨m0, m1⟩ := cells_two r2
  obtain ⟨m3, m4⟩ := free_two r2
  have n0 := (keep_set3 (x := .bool false) (y := .slice none 0 0) (z := .slice none 0 0) (o := 0) hne3).trans m0
  have n1 := (keep_set3 (x := .bool false) (y := .slice none 0 0) (z := .slice none 0 0) (o := 1) hne3).trans m1
  have r2' := row_other (cs := #[.bool false, .slice none 0 0, .slice none 0 0]) r2 hne3
  rw [← set3_row r1] at r2'
  obtain ⟨n3, n4⟩ := free_two r2'
  go_region_held3 (fun w' => w'.cell? ⟨B, 0, none⟩ = some (.int .i64 a) ∧ w'.cell? ⟨B, 1, none⟩ = some (.int .i64 b))
    (first | (with_reducible exact ⟨(keep_set3d hne1).trans x0, (keep_set3d hne1).trans x1⟩) | (with_reducible exact ⟨(keep_set3 hne1).trans x0, (keep_set3 hne1).trans x1⟩) | (with_reducible exact ⟨(keep_set2d hne2).trans ((keep_set3 hne1).trans x0), (keep_set2d hne2).trans ((keep_set3 hne1).trans x1)⟩) | (with_reducible exact ⟨(keep_set2 hne2).trans ((keep_set3 hne1).trans x0), (keep_set2 hne2).trans ((keep_set3 hne1).trans x1)⟩) | (with_reducible exact ⟨x0, x1⟩) | go_keep)
    (fail)
  go_wp2
  rw [set3_row r1, set2_row (row_other r2 hne3)]
  refine ret_cc rfl w.heap.size 32 #[.bool false, .slice none 0 0, .slice none 0 0] _ (w.heap.size + 1) 27 #[.int .i64 a, .int .i64 b] _ rfl (show (((w1.alloc (.cells #[.int .i64 a, .int .i64 b] 27)).setRow w.heap.size #[.bool false, .slice none 0 0, .slice none 0 0]).setRow (w.heap.size + 1) #[.int .i64 a, .int .i64 b]).heap[w.heap.size]? = _ from row_other (setRow_heap _ _ _ _ _ _ r1) (by omega)) Try.underlying32 rfl (by kernel_rfl) rfl
    (show (((w1.alloc (.cells #[.int .i64 a, .int .i64 b] 27)).setRow w.heap.size #[.bool false, .slice none 0 0, .slice none 0 0]).setRow (w.heap.size + 1) #[.int .i64 a, .int .i64 b]).heap[w.heap.size + 1]? = _ from setRow_heap _ _ _ _ _ _ (row_other r2 hne3)) Try.underlying27 rfl (by kernel_rfl) rfl ?_
  exact ⟨rfl, (below_setRow (below_setRow hb2 (Nat.le_refl _) _) (by omega) _).drew⟩
theorem ResF.set {w W w1 : World} {r : Rat × Int × Int} {e : Ending} {g g2 : Nat} {cs cs2 : Array Value} (h : ResF W r e w1) (hw : Below w.heap.size w W) (hg : g < W.heap.size) (hg2 : g2 < W.heap.size) (h1 : w.heap.size ≤ g) (h2 : w.heap.size ≤ g2) : ResF w r e ((w1.setRow g cs).setRow g2 cs2) := by
  obtain ⟨⟨s, p, n, c, q, m, d, rfl, h3, h4⟩, hb⟩ := h
  refine ⟨⟨s, p, n, c, q, m, d, rfl, fun h0 => ?_, h4⟩, below_setRow (below_setRow (hw.trans (hb.mono hw.size)) h1 _) h2 _⟩
  obtain ⟨h5, h6, h7⟩ := h3 h0
  exact ⟨h5, h6, ((h7.stored (W := w) hg).stored (W := w) hg2).mono hw.size⟩
set_option maxHeartbeats 6400000 in
theorem between_ok (p : Option Addr) (n c : Nat) (t : Int) (L : List Wt) (w : World) (hn : n = L.length) (hp : WSl w p L) (hl : n ≤ 4096) (hs : Snd L) :
    Calls Try.prog 15 #[.slice p n c, .int .i64 t] w (ResF w ((atQ L t).1, (atQ L t).2, if (atQ L t).2 = 0 then 0 else -1)) := by
  have HK := hide_ (fun W (h : Below w.heap.size w W) => checkW_any p n c L W hn (hp.below h) hl)
  rw [hs.zero] at HK
  have HA := hide_ (fun W (h : Below w.heap.size w W) => (at_any p n c t L W hn hs (hp.below h) hl).mono fun _ _ h => resA_f h)
  generalize (((atQ L t).1, (atQ L t).2, if (atQ L t).2 = 0 then 0 else -1) : Rat × Int × Int) = r at *
  clear hp hn hl hs
  have hb0 : Below w.heap.size w ((w.alloc (.cells #[.bool false, .slice none 0 0, .slice none 0 0] 32)).alloc (.cells #[.int .i64 0, .int .i64 0] 27)) := (below_alloc _ _).alloc (by simp) _
  have HR1 := hide_ (heap_past (o' := .cells #[.int .i64 0, .int .i64 0] 27) (heap_alloc_last w (.cells #[.bool false, .slice none 0 0, .slice none 0 0] 32)))
  have HR2 := hide_ (heap_at1 w (.cells #[.bool false, .slice none 0 0, .slice none 0 0] 32) (.cells #[.int .i64 0, .int .i64 0] 27))
  go_enter Try.func15, Try.ntmps15
  go_wp2_with (first
    | (go_at_call 13; go_must (
        (with_reducible refine (HK.out _ hb0).mono ?_)
        rintro e w1 ⟨rfl, hb1⟩
        have r1 := heap_past (o' := .cells #[.int .i64 0, .int .i64 0] 27) ((hb1.block _ (lt_of_heap HR1.out)).trans HR1.out)
        have r2 := heap_past (o' := .cells #[.int .i64 0, .int .i64 0] 27) ((hb1.block _ (lt_of_heap HR2.out)).trans HR2.out)
        have hb2 : Below w.heap.size w (w1.alloc (.cells #[.int .i64 0, .int .i64 0] 27)) := (hb0.trans (hb1.mono hb0.size)).alloc (hb0.trans (hb1.mono hb0.size)).size _
        obtain ⟨x0, x1⟩ := cells_two (heap_alloc_last w1 (.cells #[.int .i64 0, .int .i64 0] 27))))
    | (go_at_call 54; go_must (
        (with_reducible refine (HA.out _ hb2).mono ?_)
        rintro e w3 h3
        have H3 := hide_ h3
        obtain ⟨⟨s, p3, n3, c3, q3, m3, d3, rfl, _, _⟩, hb3⟩ := h3
        have r3 := (hb3.block _ (lt_of_heap r1)).trans r1
        have r4 := row_other (cs := #[.bool s, .slice p3 n3 c3, .slice q3 m3 d3]) ((hb3.block _ (lt_of_heap r2)).trans r2) (show w.heap.size + 1 ≠ w.heap.size by omega)
        have hg1 := lt_of_heap r1
        have hg2 := lt_of_heap r2
        clear r1 r2))
    | ((with_reducible apply wpList_store_new); (with_reducible rfl); (with_reducible rfl); rfl; rfl; kernel_rfl; rfl; kernel_rfl) | ((with_reducible apply wpList_store_blk); (with_reducible rfl); (with_reducible rfl); rfl; assumption; rfl; kernel_rfl; rfl; kernel_rfl))
  refine ret_cc rfl w.heap.size 32 _ _ (w.heap.size + 1) 27 _ _ rfl (row_other (setRow_heap _ _ _ _ _ _ r3) (by omega)) Try.underlying32 rfl (by kernel_rfl) rfl (setRow_heap _ _ _ _ _ _ r4) Try.underlying27 rfl (by kernel_rfl) rfl ?_
  exact H3.out.set hb2 hg1 hg2 (Nat.le_refl _) (by omega)
/-- second.Between on any waters. -/
theorem Between_any (p : Option Addr) (n c : Nat) (t : Int) (L : List Wt) (w : World) (hn : n = L.length) (hp : WSl w p L) (hl : n ≤ 4096) :
    Calls Try.prog 15 #[.slice p n c, .int .i64 t] w (ResF w (btw L t)) := by
  unfold btw
  by_cases h0 : (checkW none 0 L).1 = 0
  · rw [if_pos h0]
    exact between_ok p n c t L w hn hp hl (snd_of h0)
  · rw [if_neg h0]
    refine (between_err p n c t _ _ L w hn hp hl rfl h0).mono ?_
    rintro e w' ⟨rfl, hb⟩
    exact ⟨⟨_, _, _, _, _, _, _, rfl, fun h => absurd h h0, fun _ => rfl⟩, hb⟩
end Go.Proofs.Ytcibbnphkpaifaa
