/- Chapter 12: Times in the reference, of any names. -/
import Derived.Test.YtklhdpkofpkmjaaTl2
namespace Go.Proofs.Ytklhdpkofpkmjaa
open Go.RowKit Ieee
set_option linter.unusedVariables false
set_option maxRecDepth 100000
theorem cell_kept {w w' : World} {a : Addr} {v : Value} (h : w.cell? a = some v) (hg : Grew w.heap.size w w') : w'.cell? a = some v := by
  have hl : a.block < w.heap.size := by
    rcases Nat.lt_or_ge a.block w.heap.size with h' | h'
    · exact h'
    · rw [World.cell?, Array.getElem?_eq_none h'] at h; cases h
  have hb := hg.1.block a.block hl
  rw [← h]
  simp only [World.cell?, hb]
theorem tY_facts (P : Nat) (hP : P < 3600000) : ∃ x y g : Nat, tX P = (x : Int) ∧ tY P = (y : Int) ∧ 1 ≤ y ∧ y ≤ 3600000 ∧ x < y ∧ g ≤ 3600000 ∧ ((3600000 : Int).tdiv (y : Int) = (g : Int)) ∧ (x : Int) * (g : Int) = (P : Int) := by
  have h := low_of P 3600000 hP
  refine ⟨P / Nat.gcd 3600000 P, 3600000 / Nat.gcd 3600000 P, Nat.gcd 3600000 P, rfl, rfl, ?_⟩
  generalize P / Nat.gcd 3600000 P = x at *
  generalize 3600000 / Nat.gcd 3600000 P = y at *
  generalize Nat.gcd 3600000 P = g at *
  have hx := h.hx
  have hw := h.hw
  have hl := h.lt
  have hg := h.hg
  clear h
  have hy : y ≤ 3600000 := by rw [← hw]; exact Nat.le_mul_of_pos_right _ hg
  have hgl : g ≤ 3600000 := by rw [← hw]; exact Nat.le_mul_of_pos_left _ (by omega)
  refine ⟨by omega, hy, hl, hgl, ?_, ?_⟩
  · rw [Int.tdiv_eq_ediv_of_nonneg (by omega), ← show ((y * g : Nat) : Int) = 3600000 by omega, Int.natCast_mul]
    exact Int.mul_ediv_cancel_left _ (by omega)
  · rw [← hx, Int.natCast_mul]
theorem sumQ_succ (T : Nat → Nat) (k : Nat) : sumQ T (k + 1) = sumQ T k + T k := rfl
theorem w_nat (n : Nat) (h : n ≤ 4000000000) : wrap64 (n : Int) = (n : Int) := IntWalk.wrap64_in _ (by omega)
theorem three_blocks {w : World} {a b c : Array Value} {S T U : TypeId} : (((w.alloc (.cells a S)).alloc (.cells b T)).alloc (.cells c U)).heap[w.heap.size]? = some (.cells a S) ∧ (((w.alloc (.cells a S)).alloc (.cells b T)).alloc (.cells c U)).heap[w.heap.size + 1]? = some (.cells b T) ∧ (((w.alloc (.cells a S)).alloc (.cells b T)).alloc (.cells c U)).heap[w.heap.size + 1 + 1]? = some (.cells c U) :=
  ⟨heap_past (heap_past (heap_alloc_last _ _)), heap_past (heap_at1 _ _ _), heap_at2 _ _ _ _⟩
set_option maxHeartbeats 3200000 in
theorem rtimes_node (v : Option Addr) (n c : Nat) (t e1 : Int) (w : World) (h : n ≤ 8) (he : e1 ≠ 0) (HN : Hid (∀ wx : World, Calls Try.prog 67 #[.int .i64 t] wx fun e w' => e = .returned (.tuple #[.complex .f64 0 0, .int .i64 e1]) ∧ Below wx.heap.size wx w')) :
    Calls Try.prog 71 #[.slice v n c, .int .i64 t] w fun e w' =>
    e = .returned (.tuple #[.float .f64 0, .agg #[.int .i64 0, .int .i64 0], .agg #[.int .i64 e1, .int .i64 (-1)]]) ∧ Below w.heap.size w w' := by
  have hb : (e1 != 0) = true := by simpa using he
  clear he
  obtain ⟨a0, a1, a2⟩ := @three_blocks w #[.int .i64 0, .int .i64 0] #[.int .i64 0, .int .i64 0] #[.int .i64 0, .int .i64 0] 35 79 35
  go_enter Try.func71, Try.ntmps71
  go_wp2_with (first
    | (go_at_call 67; (with_reducible refine (HN.out _).mono ?_); rintro e w1 ⟨rfl, hb1⟩; have b0 := (hb1.block _ (lt_of_heap a0)).trans a0; have b1 := (hb1.block _ (lt_of_heap a1)).trans a1; have b2 := (hb1.block _ (lt_of_heap a2)).trans a2)
    | ((with_reducible apply wpList_store_new); (with_reducible rfl); (with_reducible rfl); rfl; rfl; kernel_rfl; rfl; kernel_rfl))
  have hg := ((((Grew.refl w).alloc (.cells #[.int .i64 0, .int .i64 0] 35)).alloc (.cells #[.int .i64 0, .int .i64 0] 79)).alloc (.cells #[.int .i64 0, .int .i64 0] 35)).step hb1
  obtain ⟨p0, p1⟩ := cells_two b0
  obtain ⟨p2, p3⟩ := cells_two b1
  obtain ⟨p4, p5⟩ := cells_two b2
  obtain ⟨q0, q1⟩ := free_two b0
  obtain ⟨q2, q3⟩ := free_two b1
  obtain ⟨m0, m1⟩ := four_set (x := .int .i64 0) (y := .int .i64 0) (z := .int .i64 e1) (u := .int .i64 (-1)) b0 b1
  clear a0 a1 a2 hb1 HN
  go_region
  go_wp2
  refine ret_tcc rfl _ _ 35 79 _ _ _ _ rfl m0 Try.underlying35 rfl (by kernel_rfl) rfl m1 Try.underlying79 rfl (by kernel_rfl) rfl ⟨rfl, ?_⟩
  exact (((((hg.setCell (by simp) _).setCell (by simp) _).setCell (by simp) _).setCell (by simp) _).drew).below
set_option maxHeartbeats 8000000 in
theorem rtimes_ix (v : Option Addr) (n c : Nat) (S : Nat → ByteArray) (t : Int) (w : World) (h : n ≤ 8) (hnm : NamesAt v n S w.heap.size w) (h0 : 0 ≤ t) (h1 : t ≤ 1048576) :
    Calls Try.prog 71 #[.slice v n c, .int .i64 t] w fun e w' =>
      ((∃ i : Nat, i < n ∧ (∀ j, j < i → isN (S j) = true) ∧ isN (S i) = false ∧ e = .returned (.tuple #[.float .f64 0, .agg #[.int .i64 0, .int .i64 0], .agg #[.int .i64 6, .int .i64 (i : Int)]])) ∨
       ((∀ j, j < n → isN (S j) = true) ∧ e = .returned (.tuple #[.float .f64 (prodB (fun j => sF t (S j)) n), .agg #[.int .i64 (tX (sumP (fun j => sT t (S j)) n)), .int .i64 (tY (sumP (fun j => sT t (S j)) n))], .agg #[.int .i64 0, .int .i64 0]]))) ∧ Below w.heap.size w w' := by
  obtain ⟨a0, a1, a2⟩ := @three_blocks w #[.int .i64 0, .int .i64 0] #[.int .i64 0, .int .i64 0] #[.int .i64 0, .int .i64 0] 35 79 35
  have HNo := hide_ (fun wx => rnode_ok t wx h0 h1)
  have hN := hide_ hnm
  have HG := hide_ (fun s hb => rname_calls s t h0 h1 hb)
  have HX := hide_ (fun s hb => (rname_none s t h0 h1 hb).1)
  have HA := hide_ (fun s hb => name_calls s t h0 h1 hb)
  clear hnm
  go_enter Try.func71, Try.ntmps71
  go_wp2_with (first
    | (go_at_call 67; (with_reducible refine (HNo.out _).mono ?_); rintro e w1 ⟨rfl, hb1⟩; have b0 := (hb1.block _ (lt_of_heap a0)).trans a0; have b1 := (hb1.block _ (lt_of_heap a1)).trans a1; have b2 := (hb1.block _ (lt_of_heap a2)).trans a2)
    | ((with_reducible apply wpList_store_new); (with_reducible rfl); (with_reducible rfl); rfl; rfl; kernel_rfl; rfl; kernel_rfl))
  have hg1 := ((((Grew.refl w).alloc (.cells #[.int .i64 0, .int .i64 0] 35)).alloc (.cells #[.int .i64 0, .int .i64 0] 79)).alloc (.cells #[.int .i64 0, .int .i64 0] 35)).step hb1
  clear hb1 a0 a1 a2 HNo
  go_loopw [10, 11, 12] (fun f s i wr => ∃ k : Nat, k ≤ n ∧ i = .int .i64 k ∧ f = .float .f64 (prodB (fun j => sF t (S j)) k) ∧ s = .int .i64 ((sumQ (fun j => sT t (S j)) k : Nat) : Int) ∧
      wr.heap[w.heap.size]? = some (.cells #[.int .i64 0, .int .i64 0] 35) ∧ wr.heap[w.heap.size + 1]? = some (.cells #[.int .i64 0, .int .i64 0] 79) ∧ wr.heap[w.heap.size + 1 + 1]? = some (.cells #[.int .i64 0, .int .i64 0] 35) ∧
      Hid (∀ j, j < k → isN (S j) = true) ∧ Grew w.heap.size w wr) (fun _ _ i _ => n - (intOf i).toNat)
  case atStart => exact ⟨0, by omega, rfl, rfl, rfl, b0, b1, b2, hide_ (fun j hj => by omega), hg1⟩
  case round =>
    clear b0 b1 b2 hg1
    obtain ⟨k, hk, rfl, rfl, rfl, b0, b1, b2, hs, hgr⟩ := hrel
    by_cases hlt : k < n
    · have hnw := hN.out.grew hgr
      rcases hnw with hz | ⟨g, o, rfl, hg, hc⟩
      · omega
      have hck := hc k hlt
      clear hc
      have HB : Hid (isN (S k) = true ∨ isN (S k) = false) := hide_ (by cases isN (S k) <;> simp)
      rcases HB.out with hbk | hbk
      · have hall : ∀ j, j < k + 1 → isN (S j) = true := fun j hj => by
          rcases (show j < k ∨ j = k by omega) with h' | rfl
          · exact hs.out j h'
          · exact hbk
        have gm := fun wx => run_float_arith (P := Try.prog) wx .mul 46 .f64 _ _ _ (prodB_step (F := fun j => sF t (S j)) (n := k + 1) (fun j hj => (HA.out (S j) (hall j hj)).1) (by omega) k (by omega))
        have hql := sumQ_le (T := fun j => sT t (S j)) (n := k) (fun j hj => (HA.out (S j) (hs.out j hj)).2.1) k (Nat.le_refl _)
        have hT := (HA.out (S k) hbk).2.1
        obtain ⟨hH68, hH69⟩ := HG.out (S k) hbk
        obtain ⟨x, y, g1, hx, hy, y1, y2, y3, y4, y5, y6⟩ := tY_facts (sT t (S k)) hT
        rw [hx, hy] at hH69
        have H68 := hide_ hH68
        have H69 := hide_ hH69
        have HAl := hide_ hall
        have hsq : ((sumQ (fun j => sT t (S j)) (k + 1) : Nat) : Int) = ((sumQ (fun j => sT t (S j)) k : Nat) : Int) + ((sT t (S k) : Nat) : Int) := by
          have h : sumQ (fun j => sT t (S j)) (k + 1) = sumQ (fun j => sT t (S j)) k + sT t (S k) := sumQ_succ _ _
          rw [h, Int.natCast_add]
        have hql : sumQ (fun j => sT t (S j)) k ≤ 28800000 := Nat.le_trans hql (Nat.le_trans (Nat.mul_le_mul_left 3600000 (show k ≤ 8 by omega)) (by decide))
        generalize hP1 : prodB (fun j => sF t (S j)) (k + 1) = P1 at gm
        generalize hQ1 : sumQ (fun j => sT t (S j)) (k + 1) = Q1 at hsq
        generalize sumQ (fun j => sT t (S j)) k = Q0 at hql hsq ⊢
        generalize prodB (fun j => sF t (S j)) k = P0 at gm ⊢
        generalize sT t (S k) = N1 at hT hsq y6 hx hy
        have HE := hide_ (And.intro hP1 hQ1)
        clear hP1 hQ1 hx hy hbk hall hH68 hH69 HX HG HA hs HB
        have hk8 : k < 8 := by omega
        have yb : ((y : Int) == 0) = false := by rw [beq_eq_false_iff_ne]; omega
        have hw1 := w_nat g1 (Nat.le_trans y4 (by decide))
        have hw4 := w_nat N1 (Nat.le_trans (Nat.le_of_lt hT) (by decide))
        have hw2 : wrap64 ((x : Int) * (g1 : Int)) = (N1 : Int) := by rw [y6]; exact hw4
        have hw3 : wrap64 ((Q0 : Int) + (N1 : Int)) = (Q0 : Int) + (N1 : Int) := by
          rw [← Int.natCast_add]
          exact w_nat (Q0 + N1) (Nat.le_trans (Nat.add_le_add hql (Nat.le_of_lt hT)) (by decide))
        have ib1 : (1 : Int) ≤ (y : Int) := by omega
        have ib2 : (y : Int) ≤ 3600000 := by omega
        have ib3 : (x : Int) < (y : Int) := by omega
        have HW := hide_ (And.intro hw4 hw3)
        have HSQ := hide_ hsq
        clear hsq
        go_wp2_with (first
          | (go_at_call 68; (with_reducible refine (H68.out _).mono ?_); rintro e w3 ⟨rfl, hb3⟩; have hc3 := cell_kept (a := ⟨g, o + k, none⟩) hck (Grew.of hb3))
          | (go_at_call 69; (with_reducible refine (H69.out _).mono ?_); rintro e w4 ⟨rfl, hb4⟩; obtain ⟨c0, c1⟩ := cells_two (heap_alloc_last w4 (.cells #[.int .i64 (x : Int), .int .i64 (y : Int)] 35)))
          | ((with_reducible apply wpList_store_new); (with_reducible rfl); (with_reducible rfl); rfl; rfl; kernel_rfl; rfl; kernel_rfl))
        have d0 := heap_past (o' := .cells #[.int .i64 (x : Int), .int .i64 (y : Int)] 35) ((hb4.block _ (lt_of_heap ((hb3.block _ (lt_of_heap b0)).trans b0))).trans ((hb3.block _ (lt_of_heap b0)).trans b0))
        have d1 := heap_past (o' := .cells #[.int .i64 (x : Int), .int .i64 (y : Int)] 35) ((hb4.block _ (lt_of_heap ((hb3.block _ (lt_of_heap b1)).trans b1))).trans ((hb3.block _ (lt_of_heap b1)).trans b1))
        have d2 := heap_past (o' := .cells #[.int .i64 (x : Int), .int .i64 (y : Int)] 35) ((hb4.block _ (lt_of_heap ((hb3.block _ (lt_of_heap b2)).trans b2))).trans ((hb3.block _ (lt_of_heap b2)).trans b2))
        have hg4 := ((hgr.step hb3).step hb4).alloc (.cells #[.int .i64 (x : Int), .int .i64 (y : Int)] 35)
        generalize hwo : w4.alloc (.cells #[.int .i64 (x : Int), .int .i64 (y : Int)] 35) = wo at c0 c1 d0 d1 d2 hg4 ⊢
        generalize w4.heap.size = B4 at *
        clear hwo hb3 hb4 hgr b0 b1 b2 hck hc3
        clear hql hT y2 y3 y4 hw3 hw4 y1
        go_quiet (fail)
        go_wp2
        go_roundw
        case rel =>
          refine ⟨k + 1, by omega, by go_num, by rw [HE.out.1], ?_, d0, d1, d2, HAl, hg4.drewN _⟩
          rw [HE.out.2, HSQ.out]
          simp only [HW.out.1, HW.out.2]
        case measure => simp [intOf]; omega
      · have HBk := hide_ hbk
        have H68 := hide_ (HX.out (S k) hbk)
        clear hbk HX HG HA
        generalize hS : S k = s1 at *
        have HS := hide_ hS
        clear hS
        go_wp2_with (go_at_call 68; (with_reducible refine (H68.out _).mono ?_); rintro e w3 ⟨rfl, hb3⟩)
        have d0 := (hb3.block _ (lt_of_heap b0)).trans b0
        have d1 := (hb3.block _ (lt_of_heap b1)).trans b1
        have d2 := (hb3.block _ (lt_of_heap b2)).trans b2
        have hg3 := hgr.step hb3
        obtain ⟨p0, p1⟩ := cells_two d0
        obtain ⟨p2, p3⟩ := cells_two d1
        obtain ⟨p4, p5⟩ := cells_two d2
        obtain ⟨q0, q1⟩ := free_two d0
        obtain ⟨q2, q3⟩ := free_two d1
        obtain ⟨m0, m1⟩ := four_set (x := .int .i64 0) (y := .int .i64 0) (z := .int .i64 6) (u := .int .i64 (k : Int)) d0 d1
        clear b0 b1 b2 hb3 hgr hck
        go_region
        go_wp2
        refine ret_tcc rfl _ _ 35 79 _ _ _ _ rfl m0 Try.underlying35 rfl (by kernel_rfl) rfl m1 Try.underlying79 rfl (by kernel_rfl) rfl ⟨.inl ⟨k, hlt, hs.out, ?_, rfl⟩, ?_⟩
        · rw [HS.out]; exact HBk.out
        · exact (((((hg3.setCell (by simp) _).setCell (by simp) _).setCell (by simp) _).setCell (by simp) _).drew).below
    · obtain rfl : k = n := by omega
      have hAk := fun j hj => HA.out (S j) (hs.out j hj)
      have hql := sumQ_le (T := fun j => sT t (S j)) (n := k) (fun j hj => (hAk j hj).2.1) k (Nat.le_refl _)
      have hql : sumQ (fun j => sT t (S j)) k ≤ 28800000 := Nat.le_trans hql (Nat.le_trans (Nat.mul_le_mul_left 3600000 (show k ≤ 8 by omega)) (by decide))
      have hmq := sumQ_mod (fun j => sT t (S j)) k
      have hpl := sumP_lt (fun j => sT t (S j)) k
      generalize hPP : sumP (fun j => sT t (S j)) k = PP at hmq hpl ⊢
      have hT := hide_ (fun wx => show Calls Try.prog 107 #[.int .i64 ((sumQ (fun j => sT t (S j)) k : Nat) : Int), .int .i64 3600000] wx fun e w' => e = .returned (.agg #[.int .i64 (tX PP), .int .i64 (tY PP)]) ∧ Below wx.heap.size wx w' from
        turned_ok _ PP 3600000 wx (by omega) (by omega) (by omega) (by omega) (by clear hql; omega))
      generalize hX2 : tX PP = X2 at hT
      generalize hY2 : tY PP = Y2 at hT
      generalize hF2 : prodB (fun j => sF t (S j)) k = F2
      have HE := hide_ (And.intro hX2 (And.intro hY2 hF2))
      generalize sumQ (fun j => sT t (S j)) k = Q0 at hT ⊢
      have HPP := hide_ hPP
      clear hX2 hY2 hF2 hAk hql HX HG HA hPP hmq hpl
      go_wp2_with (first
        | (go_at_call 107; (with_reducible refine (hT.out _).mono ?_); rintro e w3 ⟨rfl, hb3⟩; have d0 := (hb3.block _ (lt_of_heap b0)).trans b0; have d1 := (hb3.block _ (lt_of_heap b1)).trans b1; obtain ⟨e0, e1, e2⟩ := rows_set (c := #[.int .i64 X2, .int .i64 Y2]) (d := #[.int .i64 0, .int .i64 0]) d0 d1)
        | ((with_reducible apply wpList_store_blk); (with_reducible rfl); (with_reducible rfl); rfl; assumption; rfl; kernel_rfl; rfl; kernel_rfl))
      refine ret_tcc rfl _ _ 35 79 _ _ _ _ rfl e1 Try.underlying35 rfl (by kernel_rfl) rfl e2 Try.underlying79 rfl (by kernel_rfl) rfl ⟨.inr ⟨hs.out, ?_⟩, ?_⟩
      · rw [HPP.out, HE.out.1, HE.out.2.1, HE.out.2.2]; rfl
      · exact Grew.below (by repeat (first | exact Grew.refl _ | assumption | refine Grew.alloc ?_ _ | refine Grew.drewN ?_ _ | refine Grew.drew ?_ | refine Grew.setRow ?_ (by first | assumption | (simp; done) | (simp; omega) | omega) _ | refine Grew.setCell ?_ (by first | assumption | (simp; done) | (simp; omega) | omega) _ | refine Grew.step ?_ (by assumption)))
end Go.Proofs.Ytklhdpkofpkmjaa
