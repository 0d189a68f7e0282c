/- Chapter 12: factor and turn of a product, in the program: the contract of Times, of any names. -/
import Derived.Test.YtklhdpkofpkmjaaTm
namespace Go.Proofs.Ytklhdpkofpkmjaa
open Go.RowKit Ieee
set_option linter.unusedVariables false
set_option maxRecDepth 100000
/-- Names in memory. -/
def NamesAt (v : Option Addr) (n : Nat) (S : Nat → ByteArray) (base : Nat) (w : World) : Prop :=
  n = 0 ∨ ∃ g o, v = some ⟨g, o, none⟩ ∧ g < base ∧ ∀ j, j < n → w.cell? ⟨g, o + j, none⟩ = some (.string (S j))
theorem NamesAt.below {v : Option Addr} {n : Nat} {S : Nat → ByteArray} {base : Nat} {w w' : World} (h : NamesAt v n S base w) (hs : base ≤ w.heap.size) (hb : ∀ b, b < base → w'.heap[b]? = w.heap[b]?) : NamesAt v n S base w' := by
  rcases h with h | ⟨g, o, hv, hg, hc⟩
  · exact .inl h
  · refine .inr ⟨g, o, hv, hg, fun j hj => ?_⟩
    rw [← hc j hj]
    simp only [World.cell?, hb g hg]
theorem NamesAt.grew {v : Option Addr} {n : Nat} {S : Nat → ByteArray} {w w' : World} (h : NamesAt v n S w.heap.size w) (hg : Grew w.heap.size w w') : NamesAt v n S w.heap.size w' :=
  h.below (Nat.le_refl _) (fun b hb => hg.1.block b hb)
theorem four_set {w : World} {B : Nat} {a b c d x y z u : Value} {S T : TypeId} (h0 : w.heap[B]? = some (.cells #[a, b] S)) (h1 : w.heap[B + 1]? = some (.cells #[c, d] T)) :
    ((((w.setCell ⟨B, 0, none⟩ x).setCell ⟨B, 1, none⟩ y).setCell ⟨B + 1, 0, none⟩ z).setCell ⟨B + 1, 1, none⟩ u).drew.heap[B]? = some (.cells #[x, y] S) ∧
    ((((w.setCell ⟨B, 0, none⟩ x).setCell ⟨B, 1, none⟩ y).setCell ⟨B + 1, 0, none⟩ z).setCell ⟨B + 1, 1, none⟩ u).drew.heap[B + 1]? = some (.cells #[z, u] T) := by
  constructor <;> simp [World.setCell, World.drew, Array.getElem?_modify, h0, h1]
set_option maxHeartbeats 3200000 in
theorem times_any (v : Option Addr) (n c : Nat) (S : Nat → ByteArray) (t : Int) (re im : Nat) (c0 c1 c2 : ByteArray → Nat) (b : ByteArray → Bool) (F T : ByteArray → Nat) (w : World) (h : n ≤ 8) (hnm : NamesAt v n S w.heap.size w)
    (HN : Hid (∀ wx : World, Calls Try.prog 66 #[.int .i64 t] wx fun e w' => e = .returned (.tuple #[.complex .f64 re im, .int .i64 0]) ∧ Below wx.heap.size wx w'))
    (HF : Hid (∀ s (wx : World), Calls Try.prog 90 #[.string s] wx fun e w' => e = .returned (.tuple #[.agg #[.float .f64 (c0 s), .float .f64 (c1 s), .float .f64 (c2 s)], .bool (b s)]) ∧ Below wx.heap.size wx w'))
    (HA : Hid (∀ s, b s = true → AbsN 4 (F s) ∧ T s < 3600000 ∧ (∀ wx : World, Calls Try.prog 49 #[.string s, .int .i64 t] wx fun e w' => e = .returned (.tuple #[.float .f64 (F s), .int .i64 0]) ∧ Below wx.heap.size wx w') ∧
      (∀ wx : World, Calls Try.prog 50 #[.string s, .int .i64 t] wx fun e w' => e = .returned (.tuple #[.agg #[.int .i64 (tX (T s)), .int .i64 (tY (T s))], .int .i64 0]) ∧ Below wx.heap.size wx w'))) :
    Calls Try.prog 70 #[.slice v n c, .int .i64 t] w fun e w' =>
      ((∃ i : Nat, i < n ∧ (∀ j, j < i → b (S j) = true) ∧ b (S i) = false ∧ e = .returned (.tuple #[.float .f64 0, .agg #[.int .i64 0, .int .i64 0], .agg #[.int .i64 6, .int .i64 (i : Int)]])) ∨
       ((∀ j, j < n → b (S j) = true) ∧ e = .returned (.tuple #[.float .f64 (prodB (fun j => F (S j)) n), .agg #[.int .i64 (tX (sumP (fun j => T (S j)) n)), .int .i64 (tY (sumP (fun j => T (S j)) n))], .agg #[.int .i64 0, .int .i64 0]]))) ∧ Below w.heap.size w w' := by
  obtain ⟨a0, a1⟩ := two_blocks w #[.int .i64 0, .int .i64 0] #[.int .i64 0, .int .i64 0] 35 79
  have hN := hide_ hnm
  clear hnm
  go_enter Try.func70, Try.ntmps70
  go_wp2_with (go_at_call 66; (with_reducible refine (HN.out _).mono ?_); rintro e w1 ⟨rfl, hb1⟩)
  have a2 := (hb1.block _ (lt_of_heap a0)).trans a0
  have a3 := (hb1.block _ (lt_of_heap a1)).trans a1
  have hg1 := (((Grew.refl w).alloc (.cells #[.int .i64 0, .int .i64 0] 35)).alloc (.cells #[.int .i64 0, .int .i64 0] 79)).step hb1
  clear hb1 a0 a1 HN
  go_loopw [38] (fun i wr => ∃ k : Nat, k ≤ n ∧ i = .int .i64 k ∧ wr.heap[w.heap.size]? = some (.cells #[.int .i64 0, .int .i64 0] 35) ∧ wr.heap[w.heap.size + 1]? = some (.cells #[.int .i64 0, .int .i64 0] 79) ∧ Hid (∀ j, j < k → b (S j) = true) ∧ Grew w.heap.size w wr) (fun i _ => n - (intOf i).toNat)
  case atStart => exact ⟨0, by omega, rfl, a2, a3, hide_ (fun j hj => by omega), hg1⟩
  case round =>
    clear a2 a3 hg1
    obtain ⟨k, hk, rfl, a2, a3, hs, hgr⟩ := hrel
    by_cases hlt : k < n
    · have hnw := hN.out.grew hgr
      rcases hnw with h0 | ⟨g, o, rfl, hg, hc⟩
      · omega
      have hck := hc k hlt
      clear hc
      cases hbk : b (S k) with
      | false =>
        have HB : Hid (b (S k) = false) := hide_ hbk
        have HFk := hide_ (HF.out (S k))
        rw [hbk] at HFk
        clear hbk
        generalize hS : S k = s at *
        go_wp2_with (first
          | (go_at_call 90; (with_reducible refine (HFk.out _).mono ?_); rintro e w2 ⟨rfl, hb2⟩; have a4 := heap_past (o' := .cells #[.float .f64 (c0 s), .float .f64 (c1 s), .float .f64 (c2 s)] 111) ((hb2.block _ (lt_of_heap a2)).trans a2); have a5 := heap_past (o' := .cells #[.float .f64 (c0 s), .float .f64 (c1 s), .float .f64 (c2 s)] 111) ((hb2.block _ (lt_of_heap a3)).trans a3); obtain ⟨b0, b1, b2⟩ := rows_set (c := #[.int .i64 0, .int .i64 0]) (d := #[.int .i64 6, .int .i64 (k : Int)]) a4 a5)
          | ((with_reducible apply wpList_store_new); (with_reducible rfl); (with_reducible rfl); rfl; rfl; kernel_rfl; rfl; kernel_rfl) | ((with_reducible apply wpList_store_blk); (with_reducible rfl); (with_reducible rfl); rfl; assumption; rfl; kernel_rfl; rfl; kernel_rfl))
        refine ret_tcc rfl _ _ 35 79 _ _ _ _ rfl b1 Try.underlying35 rfl (by kernel_rfl) rfl b2 Try.underlying79 rfl (by kernel_rfl) rfl ⟨.inl ⟨k, hlt, hs.out, ?_, rfl⟩, ?_⟩
        · rw [hS]; exact HB.out
        · exact Grew.below (by repeat (first | exact Grew.refl _ | assumption | refine Grew.alloc ?_ _ | refine Grew.drewN ?_ _ | refine Grew.drew ?_ | refine Grew.setRow ?_ (by first | assumption | (simp; done) | (simp; omega) | omega) _ | refine Grew.setCell ?_ (by first | assumption | (simp; done) | (simp; omega) | omega) _ | refine Grew.step ?_ (by assumption)))
      | true =>
        have HB : Hid (b (S k) = true) := hide_ hbk
        have HFk := hide_ (HF.out (S k))
        rw [hbk] at HFk
        clear hbk
        generalize hS : S k = s at *
        have HS := hide_ hS
        clear hS
        go_wp2_with (first
          | (go_at_call 90; (with_reducible refine (HFk.out _).mono ?_); rintro e w2 ⟨rfl, hb2⟩)
          | ((with_reducible apply wpList_store_new); (with_reducible rfl); (with_reducible rfl); rfl; rfl; kernel_rfl; rfl; kernel_rfl))
        have a4 := heap_past (o' := .cells #[.float .f64 (c0 s), .float .f64 (c1 s), .float .f64 (c2 s)] 111) ((hb2.block _ (lt_of_heap a2)).trans a2)
        have a5 := heap_past (o' := .cells #[.float .f64 (c0 s), .float .f64 (c1 s), .float .f64 (c2 s)] 111) ((hb2.block _ (lt_of_heap a3)).trans a3)
        go_roundw
        case rel =>
          refine ⟨k + 1, by omega, by go_num, a4, a5, hide_ (fun j hj => ?_), (hgr.step hb2).alloc _⟩
          rcases (show j < k ∨ j = k by omega) with h' | rfl
          · exact hs.out j h'
          · rw [HS.out]; exact HB.out
        case measure => simp [intOf]; omega
    · obtain rfl : k = n := by omega
      clear hlt hk HF
      have HA2 := hide_ (fun j hj => HA.out (S j) (hs.out j hj))
      have hFF : ∀ j, j < k → AbsN 4 (F (S j)) := fun j hj => (HA2.out j hj).1
      have hp := hide_ (fun j hj => prodB_step (F := fun j => F (S j)) (n := k) hFF h j hj)
      clear HA hFF
      go_wp2_with (first | ((with_reducible apply wpList_store_new); (with_reducible rfl); (with_reducible rfl); rfl; rfl; kernel_rfl; rfl; kernel_rfl))
      have hv0 : (#[.int .i64 0, .int .i64 1] : Array Value) = #[.int .i64 (tX (sumP (fun j => T (S j)) 0)), .int .i64 (tY (sumP (fun j => T (S j)) 0))] := by kernel_rfl
      have a4 := heap_past (o' := .cells #[.int .i64 0, .int .i64 1] 35) a2
      have a5 := heap_past (o' := .cells #[.int .i64 0, .int .i64 1] 35) a3
      have a6 := heap_alloc_last wr (.cells #[.int .i64 0, .int .i64 1] 35)
      have hg2 := hgr.alloc (.cells #[.int .i64 0, .int .i64 1] 35)
      generalize hw2 : wr.alloc (.cells #[.int .i64 0, .int .i64 1] 35) = w2 at a4 a5 a6 hg2 ⊢
      have hB2 : w.heap.size + 1 < wr.heap.size := lt_of_heap a3
      generalize wr.heap.size = B2 at *
      rw [hv0] at a6
      clear hw2 a2 a3 hgr hv0
      go_loopw [13, 57] (fun f i wq => ∃ j : Nat, j ≤ k ∧ f = .float .f64 (prodB (fun j => F (S j)) j) ∧ i = .int .i64 j ∧ wq.heap[w.heap.size]? = some (.cells #[.int .i64 0, .int .i64 0] 35) ∧ wq.heap[w.heap.size + 1]? = some (.cells #[.int .i64 0, .int .i64 0] 79) ∧
          wq.heap[B2]? = some (.cells #[.int .i64 (tX (sumP (fun j => T (S j)) j)), .int .i64 (tY (sumP (fun j => T (S j)) j))] 35) ∧ Grew w.heap.size w wq) (fun _ i _ => k - (intOf i).toNat)
      case atStart => exact ⟨0, by omega, rfl, rfl, a4, a5, a6, hg2⟩
      case round =>
        clear a4 a5 a6 hg2
        obtain ⟨j, hj, rfl, rfl, a4, a5, a6, hgr⟩ := hrel
        by_cases hlt : j < k
        · have hnw := hN.out.grew hgr
          rcases hnw with h0 | ⟨g, o, rfl, hg, hc⟩
          · omega
          have hck := hc j hlt
          clear hc
          obtain ⟨_, hT, h49, h50⟩ := HA2.out j hlt
          have hadd := fun wx => add_parts (sumP (fun j => T (S j)) j) (T (S j)) wx (sumP_lt _ _) hT
          have hsum : sumP (fun j => T (S j)) (j + 1) = (sumP (fun j => T (S j)) j + T (S j)) % 3600000 := rfl
          rw [← hsum] at hadd
          have gm := fun wx => run_float_arith (P := Try.prog) wx .mul 46 .f64 _ _ _ (hp.out j hlt)
          have H49 := hide_ h49
          have H50 := hide_ h50
          have H31 := hide_ hadd
          clear h49 h50 hadd hsum hT
          generalize tX (T (S j)) = X1 at *
          generalize tY (T (S j)) = Y1 at *
          generalize hX2 : tX (sumP (fun j => T (S j)) (j + 1)) = X2 at *
          generalize hY2 : tY (sumP (fun j => T (S j)) (j + 1)) = Y2 at *
          generalize hF2 : prodB (fun j => F (S j)) (j + 1) = F2 at *
          have HE := hide_ (And.intro hX2 (And.intro hY2 hF2))
          clear hX2 hY2 hF2
          generalize F (S j) = F1 at *
          generalize S j = s1 at *
          generalize tX (sumP (fun j => T (S j)) j) = X0 at *
          generalize tY (sumP (fun j => T (S j)) j) = Y0 at *
          generalize prodB (fun j => F (S j)) j = F0 at *
          have hB2' : w.heap.size ≠ B2 := by omega
          have hB3' : w.heap.size + 1 ≠ B2 := by omega
          go_wp2_with (first
            | (go_at_call 49; (with_reducible refine (H49.out _).mono ?_); rintro e w3 ⟨rfl, hb3⟩; have d4 := (hb3.block _ (lt_of_heap a4)).trans a4; have d5 := (hb3.block _ (lt_of_heap a5)).trans a5; have d6 := (hb3.block _ (lt_of_heap a6)).trans a6)
            | (go_at_call 50; (with_reducible refine (H50.out _).mono ?_); rintro e w4 ⟨rfl, hb4⟩; have e4 := heap_past (o' := .cells #[.int .i64 X1, .int .i64 Y1] 35) ((hb4.block _ (lt_of_heap d4)).trans d4); have e5 := heap_past (o' := .cells #[.int .i64 X1, .int .i64 Y1] 35) ((hb4.block _ (lt_of_heap d5)).trans d5); have e6 := heap_past (o' := .cells #[.int .i64 X1, .int .i64 Y1] 35) ((hb4.block _ (lt_of_heap d6)).trans d6))
            | (go_at_call 31; (with_reducible refine (H31.out _).mono ?_); rintro e w5 ⟨rfl, hb5⟩; have k4 := (hb5.block _ (lt_of_heap e4)).trans e4; have k5 := (hb5.block _ (lt_of_heap e5)).trans e5; have k6 := (hb5.block _ (lt_of_heap e6)).trans e6)
            | ((with_reducible apply wpList_load_row (hu := Try.underlying35)); (with_reducible rfl); (with_reducible rfl); rfl; (first | exact heap_alloc_last _ _ | exact e6); rfl; kernel_rfl)
            | ((with_reducible apply wpList_store_new); (with_reducible rfl); (with_reducible rfl); rfl; rfl; kernel_rfl; rfl; kernel_rfl) | ((with_reducible apply wpList_store_blk); (with_reducible rfl); (with_reducible rfl); rfl; assumption; rfl; kernel_rfl; rfl; kernel_rfl))
          go_roundw
          case rel =>
            refine ⟨j + 1, by omega, by rw [HE.out.2.2], by go_num, (setRow_other _ _ _ _ hB2').trans k4, (setRow_other _ _ _ _ hB3').trans k5, ?_, ?_⟩
            · rw [HE.out.1, HE.out.2.1]; exact setRow_heap _ _ _ _ _ _ k6
            · exact ((((hgr.step hb3).step hb4).alloc _).step hb5).setRow (by omega) _
          case measure => simp [intOf]; omega
        · obtain rfl : j = k := by omega
          clear hp HA2 hlt hj
          generalize hX2 : tX (sumP (fun j => T (S j)) j) = X2 at *
          generalize hY2 : tY (sumP (fun j => T (S j)) j) = Y2 at *
          generalize hF2 : prodB (fun j => F (S j)) j = F2 at *
          obtain ⟨q0, q1⟩ := cells_two a6
          obtain ⟨q2, q3⟩ := cells_two a4
          obtain ⟨q4, q5⟩ := cells_two a5
          obtain ⟨r2, r3⟩ := free_two a4
          obtain ⟨r4, r5⟩ := free_two a5
          go_wp2
          go_region
          go_wp2
          have HE := hide_ (And.intro hX2 (And.intro hY2 hF2))
          obtain ⟨m0, m1⟩ := four_set (x := .int .i64 X2) (y := .int .i64 Y2) (z := .int .i64 0) (u := .int .i64 0) a4 a5
          refine ret_tcc rfl _ _ 35 79 _ _ _ _ rfl m0 Try.underlying35 rfl (by kernel_rfl) rfl m1 Try.underlying79 rfl (by kernel_rfl) rfl ⟨.inr ⟨hs.out, ?_⟩, ?_⟩
          · rw [HE.out.1, HE.out.2.1, HE.out.2.2]; rfl
          · exact (((((hgr.setCell (by simp) _).setCell (by simp) _).setCell (by simp) _).setCell (by simp) _).drew).below
end Go.Proofs.Ytklhdpkofpkmjaa
