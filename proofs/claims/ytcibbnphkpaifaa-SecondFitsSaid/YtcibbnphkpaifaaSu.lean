/- second.Check. -/
import Derived.Test.YtcibbnphkpaifaaSs
namespace Go.Proofs.Ytcibbnphkpaifaa
open Go.RowKit
set_option linter.unusedVariables false
set_option maxRecDepth 100000
/-- Four fractions in a row. -/
theorem lit_four {w : World} {B : Nat} {x1 x2 x3 x4 : Fr} {p1 q1 p2 q2 p3 q3 p4 q4 : Option Addr} {c1 d1 c2 d2 c3 d3 c4 d4 : Nat} {T : TypeId} {w0 : World} (h : w.heap[B]? = some (.cells #[.bool x1.neg, .slice p1 x1.A.length c1, .slice q1 x1.D.length d1, .bool x2.neg, .slice p2 x2.A.length c2, .slice q2 x2.D.length d2, .bool x3.neg, .slice p3 x3.A.length c3, .slice q3 x3.D.length d3, .bool x4.neg, .slice p4 x4.A.length c4, .slice q4 x4.D.length d4] T))
    (h1 : FrV w0 x1 p1 c1 q1 d1) (h2 : FrV w0 x2 p2 c2 q2 d2) (h3 : FrV w0 x3 p3 c3 q3 d3) (h4 : FrV w0 x4 p4 c4 q4 d4) (k : Nat) (hk : k < 4) :
    ∃ x p c q d, [x1, x2, x3, x4][k]? = some x ∧ FrV w0 x p c q d ∧ w.cell? ⟨B, k * 3, none⟩ = some (.bool x.neg) ∧ w.cell? ⟨B, k * 3 + 1, none⟩ = some (.slice p x.A.length c) ∧ w.cell? ⟨B, k * 3 + 2, none⟩ = some (.slice q x.D.length d) := by
  have e : k = 0 ∨ k = 1 ∨ k = 2 ∨ k = 3 := by omega
  rcases e with rfl | rfl | rfl | rfl
  · exact ⟨x1, p1, c1, q1, d1, rfl, h1, cell_of_row _ _ _ _ _ _ h, cell_of_row _ _ _ _ _ _ h, cell_of_row _ _ _ _ _ _ h⟩
  · exact ⟨x2, p2, c2, q2, d2, rfl, h2, cell_of_row _ _ _ _ _ _ h, cell_of_row _ _ _ _ _ _ h, cell_of_row _ _ _ _ _ _ h⟩
  · exact ⟨x3, p3, c3, q3, d3, rfl, h3, cell_of_row _ _ _ _ _ _ h, cell_of_row _ _ _ _ _ _ h, cell_of_row _ _ _ _ _ _ h⟩
  · exact ⟨x4, p4, c4, q4, d4, rfl, h4, cell_of_row _ _ _ _ _ _ h, cell_of_row _ _ _ _ _ _ h, cell_of_row _ _ _ _ _ _ h⟩
theorem firstE_step {L : List Fr} {k : Nat} {x : Fr} (h : L[k]? = some x) : firstE (L.drop k) = if x.chk = 0 then firstE (L.drop (k + 1)) else x.chk := by
  obtain ⟨hk, rfl⟩ := List.getElem?_eq_some_iff.1 h
  rw [List.drop_eq_getElem_cons hk]; rfl
set_option maxHeartbeats 12800000 in
theorem dcheck_near (ka kb : Int) (x1 x2 x3 x4 : Fr) (p1 q1 p2 q2 p3 q3 p4 q4 : Option Addr) (c1 d1 c2 d2 c3 d3 c4 d4 : Nat) (w : World) (ha : farB ka = false) (hb : farB kb = false)
    (h1 : FrV w x1 p1 c1 q1 d1) (h2 : FrV w x2 p2 c2 q2 d2) (h3 : FrV w x3 p3 c3 q3 d3) (h4 : FrV w x4 p4 c4 q4 d4) :
    Calls Try.prog 29 #[.agg #[.int .i64 ka, .bool x1.neg, .slice p1 x1.A.length c1, .slice q1 x1.D.length d1, .bool x2.neg, .slice p2 x2.A.length c2, .slice q2 x2.D.length d2, .int .i64 kb, .bool x3.neg, .slice p3 x3.A.length c3, .slice q3 x3.D.length d3, .bool x4.neg, .slice p4 x4.A.length c4, .slice q4 x4.D.length d4]] w fun e w' => e = .returned (.int .i64 (firstE [x1, x2, x3, x4])) ∧ Below w.heap.size w w' := by
  have HA := hide_ (fun W => far_any ka W)
  have HB := hide_ (fun W => far_any kb W)
  rw [ha] at HA
  rw [hb] at HB
  have HF := hide_ (⟨h1, h2, h3, h4⟩ : _ ∧ _ ∧ _ ∧ _)
  clear h1 h2 h3 h4 ha hb
  have hb0 : Below w.heap.size w (w.alloc (.cells #[.int .i64 ka, .bool x1.neg, .slice p1 x1.A.length c1, .slice q1 x1.D.length d1, .bool x2.neg, .slice p2 x2.A.length c2, .slice q2 x2.D.length d2, .int .i64 kb, .bool x3.neg, .slice p3 x3.A.length c3, .slice q3 x3.D.length d3, .bool x4.neg, .slice p4 x4.A.length c4, .slice q4 x4.D.length d4] 48)) := below_alloc _ _
  obtain ⟨⟨e0, e1, e2, e3, e4, e5, e6⟩, e7, e8, e9, f0, f1, f2, f3⟩ := cells_14 (heap_alloc_last w (.cells #[.int .i64 ka, .bool x1.neg, .slice p1 x1.A.length c1, .slice q1 x1.D.length d1, .bool x2.neg, .slice p2 x2.A.length c2, .slice q2 x2.D.length d2, .int .i64 kb, .bool x3.neg, .slice p3 x3.A.length c3, .slice q3 x3.D.length d3, .bool x4.neg, .slice p4 x4.A.length c4, .slice q4 x4.D.length d4] 48))
  have tok : True := trivial
  go_enter Try.func29, Try.ntmps29
  go_wp2_with (first | (go_at_call 64; have _t := tok; go_must ((with_reducible refine (HA.out _).mono ?_); rintro e w1 ⟨rfl, k1, rfl⟩; clear tok)) | (go_at_call 64; go_must ((with_reducible refine (HB.out _).mono ?_); rintro e w1 ⟨rfl, k2, rfl⟩)))
  have hR : (((w.alloc (.cells #[.int .i64 ka, .bool x1.neg, .slice p1 x1.A.length c1, .slice q1 x1.D.length d1, .bool x2.neg, .slice p2 x2.A.length c2, .slice q2 x2.D.length d2, .int .i64 kb, .bool x3.neg, .slice p3 x3.A.length c3, .slice q3 x3.D.length d3, .bool x4.neg, .slice p4 x4.A.length c4, .slice q4 x4.D.length d4] 48)).drewN (k1 + k2)).alloc (.cells #[.bool x1.neg, .slice p1 x1.A.length c1, .slice q1 x1.D.length d1, .bool x2.neg, .slice p2 x2.A.length c2, .slice q2 x2.D.length d2, .bool x3.neg, .slice p3 x3.A.length c3, .slice q3 x3.D.length d3, .bool x4.neg, .slice p4 x4.A.length c4, .slice q4 x4.D.length d4] 32)).heap[w.heap.size + 1]? = some (.cells #[.bool x1.neg, .slice p1 x1.A.length c1, .slice q1 x1.D.length d1, .bool x2.neg, .slice p2 x2.A.length c2, .slice q2 x2.D.length d2, .bool x3.neg, .slice p3 x3.A.length c3, .slice q3 x3.D.length d3, .bool x4.neg, .slice p4 x4.A.length c4, .slice q4 x4.D.length d4] 32) := by
    have e : w.heap.size + 1 = ((w.alloc (.cells #[.int .i64 ka, .bool x1.neg, .slice p1 x1.A.length c1, .slice q1 x1.D.length d1, .bool x2.neg, .slice p2 x2.A.length c2, .slice q2 x2.D.length d2, .int .i64 kb, .bool x3.neg, .slice p3 x3.A.length c3, .slice q3 x3.D.length d3, .bool x4.neg, .slice p4 x4.A.length c4, .slice q4 x4.D.length d4] 48)).drewN (k1 + k2)).heap.size := by simp [World.drewN]
    rw [e]
    exact heap_alloc_last _ _
  have hb1 : Below w.heap.size w (((w.alloc (.cells #[.int .i64 ka, .bool x1.neg, .slice p1 x1.A.length c1, .slice q1 x1.D.length d1, .bool x2.neg, .slice p2 x2.A.length c2, .slice q2 x2.D.length d2, .int .i64 kb, .bool x3.neg, .slice p3 x3.A.length c3, .slice q3 x3.D.length d3, .bool x4.neg, .slice p4 x4.A.length c4, .slice q4 x4.D.length d4] 48)).drewN (k1 + k2)).alloc (.cells #[.bool x1.neg, .slice p1 x1.A.length c1, .slice q1 x1.D.length d1, .bool x2.neg, .slice p2 x2.A.length c2, .slice q2 x2.D.length d2, .bool x3.neg, .slice p3 x3.A.length c3, .slice q3 x3.D.length d3, .bool x4.neg, .slice p4 x4.A.length c4, .slice q4 x4.D.length d4] 32)) := (below_drewN hb0 _).alloc (below_drewN hb0 _).size _
  clear e0 e1 e2 e3 e4 e5 e6 e7 e8 e9 f0 f1 f2 f3 hb0
  generalize (((w.alloc (.cells #[.int .i64 ka, .bool x1.neg, .slice p1 x1.A.length c1, .slice q1 x1.D.length d1, .bool x2.neg, .slice p2 x2.A.length c2, .slice q2 x2.D.length d2, .int .i64 kb, .bool x3.neg, .slice p3 x3.A.length c3, .slice q3 x3.D.length d3, .bool x4.neg, .slice p4 x4.A.length c4, .slice q4 x4.D.length d4] 48)).drewN (k1 + k2)).alloc (.cells #[.bool x1.neg, .slice p1 x1.A.length c1, .slice q1 x1.D.length d1, .bool x2.neg, .slice p2 x2.A.length c2, .slice q2 x2.D.length d2, .bool x3.neg, .slice p3 x3.A.length c3, .slice q3 x3.D.length d3, .bool x4.neg, .slice p4 x4.A.length c4, .slice q4 x4.D.length d4] 32)) = w1 at *
  have HLT := hide_ (fun W (h : Below w1.heap.size w1 W) => lit_four ((h.block _ (lt_of_heap hR)).trans hR) HF.out.1 HF.out.2.1 HF.out.2.2.1 HF.out.2.2.2)
  have HB1 := hide_ hb1
  clear hR hb1 HF
  have hF4 : [x1, x2, x3, x4].length = 4 := rfl
  generalize hF : [x1, x2, x3, x4] = F at *
  have HFq := hide_ hF
  clear hF
  have HF4 := hide_ hF4
  clear hF4
  go_loopw [30] (fun kv wr => ∃ k : Nat, k ≤ 4 ∧ kv = .int .i64 (k : Int) ∧ Hid (firstE F = firstE (F.drop k)) ∧ Grew w1.heap.size w1 wr) (fun kv _ => 4 - (intOf kv).toNat)
  case atStart => exact ⟨0, by omega, rfl, hide_ rfl, Grew.refl _⟩
  case round =>
    obtain ⟨k, hk, rfl, HE, hgr⟩ := hrel
    have hbw : Below w.heap.size w wr := HB1.out.trans (hgr.below.mono HB1.out.size)
    have HW := hide_ hgr
    have HBW := hide_ hbw
    by_cases h0 : k = 4
    · subst h0
      have hE : firstE F = 0 := by rw [HE.out, List.drop_of_length_le (by rw [HF4.out]; omega)]; rfl
      have HE2 := hide_ hE
      clear hgr hbw hE
      go_wp2
      go_ret
      rw [HFq.out, HE2.out]
      exact ⟨rfl, HBW.out⟩
    · have hk1 : k < 4 := by omega
      obtain ⟨x, p, c, q, d, hx, hr, y0, y1, y2⟩ := HLT.out wr hgr.below k hk1
      have hr' := RG.below hr hbw
      have i4 : (0 : Int) ≤ (k : Int) := by omega
      have i5 : (k : Int) < 4 := by omega
      have d1 : decide ((k : Int) < 4) = true := decide_eq_true i5
      have hw : IntKind.i64.wrap ((k : Int) + 1) = ((k + 1 : Nat) : Int) := by rw [IntWalk.i64_in _ (by omega)]; omega
      have HCK := hide_ (checkR_any _ _ _ _ (wr.alloc (.cells #[.bool x.neg, .slice p x.A.length c, .slice q x.D.length d] 32)) (hr'.below (below_alloc _ _)))
      have hN := firstE_step hx
      rw [← HE.out] at hN
      have hb2 := below_alloc wr (.cells #[.bool x.neg, .slice p x.A.length c, .slice q x.D.length d] 32)
      obtain ⟨u0, u1, u2⟩ := cells_three (heap_alloc_last wr (.cells #[.bool x.neg, .slice p x.A.length c, .slice q x.D.length d] 32))
      have hkr : x.chk = chkR x.neg x.A x.D := rfl
      rw [hkr] at hN
      clear hr hr' hgr hbw hx hkr
      by_cases hE : chkR x.neg x.A x.D = 0
      · rw [if_pos hE] at hN
        rw [hE] at HCK
        have HN := hide_ hN
        clear hN hE
        go_wp2_with (first | (go_at_call 45; go_must ((with_reducible refine (HCK.out).mono ?_); rintro e w3 ⟨rfl, hb3⟩)) | ((with_reducible apply wpList_store_new); (with_reducible rfl); (with_reducible rfl); rfl; rfl; kernel_rfl; rfl; kernel_rfl))
        exact ⟨⟨k + 1, by omega, by simp, hide_ HN.out, (HW.out.step hb2).step hb3⟩, by simp [intOf]; omega⟩
      · rw [if_neg hE] at hN
        have b1 : (chkR x.neg x.A x.D != 0) = true := by simpa using hE
        generalize chkR x.neg x.A x.D = R at *
        have HN := hide_ hN
        clear hN
        go_wp2_with (first | (go_at_call 45; go_must ((with_reducible refine (HCK.out).mono ?_); rintro e w3 ⟨rfl, hb3⟩)) | ((with_reducible apply wpList_store_new); (with_reducible rfl); (with_reducible rfl); rfl; rfl; kernel_rfl; rfl; kernel_rfl))
        go_ret
        rw [HFq.out, HN.out]
        exact ⟨rfl, (HBW.out.trans (hb2.mono HBW.out.size)).trans (hb3.mono (by have := HBW.out.size; simp; omega))⟩
/-- second.Check on any differences. -/
theorem dcheck_any (ka kb : Int) (x1 x2 x3 x4 : Fr) (p1 q1 p2 q2 p3 q3 p4 q4 : Option Addr) (c1 d1 c2 d2 c3 d3 c4 d4 : Nat) (w : World)
    (h1 : FrV w x1 p1 c1 q1 d1) (h2 : FrV w x2 p2 c2 q2 d2) (h3 : FrV w x3 p3 c3 q3 d3) (h4 : FrV w x4 p4 c4 q4 d4) :
    Calls Try.prog 29 #[.agg #[.int .i64 ka, .bool x1.neg, .slice p1 x1.A.length c1, .slice q1 x1.D.length d1, .bool x2.neg, .slice p2 x2.A.length c2, .slice q2 x2.D.length d2, .int .i64 kb, .bool x3.neg, .slice p3 x3.A.length c3, .slice q3 x3.D.length d3, .bool x4.neg, .slice p4 x4.A.length c4, .slice q4 x4.D.length d4]] w fun e w' => e = .returned (.int .i64 (checkD ka kb [x1, x2, x3, x4])) ∧ Below w.heap.size w w' := by
  unfold checkD
  cases ha : farB ka
  · cases hb : farB kb
    · exact dcheck_near ka kb x1 x2 x3 x4 p1 q1 p2 q2 p3 q3 p4 q4 c1 d1 c2 d2 c3 d3 c4 d4 w ha hb h1 h2 h3 h4
    · exact dcheck_far ka kb _ _ _ _ _ _ _ _ _ _ _ _ _ _ _ _ _ _ _ _ _ _ _ _ _ _ _ _ w (.inr ⟨ha, hb⟩)
  · exact dcheck_far ka kb _ _ _ _ _ _ _ _ _ _ _ _ _ _ _ _ _ _ _ _ _ _ _ _ _ _ _ _ w (.inl ha)
end Go.Proofs.Ytcibbnphkpaifaa
