/- Chapter 19: RecordScript, the walk. -/
import Derived.Test.YtlgnidjkilbdfaaSc0
import Derived.Deep.RegionLaw
namespace Go.Proofs.Ytlgnidjkilbdfaa
open Go.RowKit
set_option linter.unusedVariables false
set_option maxRecDepth 100000
theorem and_one (o : Int) : bits .and .i64 o 1 = 0 ∨ bits .and .i64 o 1 = 1 := by
  unfold bits
  simp only []
  have h : (BitVec.ofInt IntKind.i64.bits o &&& BitVec.ofInt IntKind.i64.bits 1).toNat = (BitVec.ofInt IntKind.i64.bits o).toNat % 2 := by
    rw [BitVec.toNat_and, show (BitVec.ofInt IntKind.i64.bits 1).toNat = 1 from rfl, Nat.and_one_is_mod]
  rw [h]
  rcases Nat.mod_two_eq_zero_or_one (BitVec.ofInt IntKind.i64.bits o).toNat with e | e <;> rw [e]
  · exact .inl rfl
  · exact .inr rfl
theorem cells_four {w : World} {g : Nat} {a b c d : Value} {T : TypeId} (h : w.heap[g]? = some (.cells #[a, b, c, d] T)) : w.cell? ⟨g, 0, none⟩ = some a ∧ w.cell? ⟨g, 1, none⟩ = some b ∧ w.cell? ⟨g, 2, none⟩ = some c ∧ w.cell? ⟨g, 3, none⟩ = some d :=
  ⟨cell_of_row _ _ _ _ _ _ h, cell_of_row _ _ _ _ _ _ h, cell_of_row _ _ _ _ _ _ h, cell_of_row _ _ _ _ _ _ h⟩
theorem rnew_at (w : World) : Calls Try.prog 31 #[] w fun e w' => ∃ qb, e = .returned (.pointer (some ⟨qb, 0, none⟩)) ∧ RRec w' qb (.slice none 0 0) [] ∧ w.heap.size = qb ∧ Below w.heap.size w w' :=
  (rnew_any w).mono fun e w' ⟨h1, h2⟩ => ⟨w.heap.size, h1, by rw [h2]; exact rnew_rec w, rfl, by rw [h2]; exact below_alloc _ _⟩
theorem act_two {w : World} {rb mb qb : Nat} {vq : Value} {L : Rc} (hr : Rec w rb mb L) (hq : RRec w qb vq L) :
    Calls Try.prog 32 #[.agg #[.pointer (some ⟨rb, 0, none⟩), .pointer (some ⟨qb, 0, none⟩)], .agg #[.int .i64 2, .int .i64 0, .int .i64 0, .int .i64 0, .int .u64 0]] w (PostA w rb mb qb) := act_2 (k := 2) (o := 0) (a := 0) (b := 0) (n := 0) hr hq rfl
set_option maxHeartbeats 8000000 in
theorem script_walk (p : Option Addr) (N c : Nat) (f : Nat → Cl) (w : World) (h : AL w p N f) (hNc : N ≤ c) :
    Calls Try.prog 5 #[.slice p N c] w fun e w' => e = .returned (.bool true) ∧ Below w.heap.size w w' := by
  by_cases hlen : 300 < N
  · clear h
    go_enter Try.func5, Try.ntmps5
    go_wp2
    go_ret
    exact ⟨rfl, Below.refl _ _⟩
  · have HAL := hide_ h
    have hN : N ≤ 300 := by omega
    have tok1 : True := trivial
    have tok2 : True := trivial
    clear h hlen
    go_enter Try.func5, Try.ntmps5
    go_wp2_with (first
      | (go_at_call 27; have _t := tok1; go_must (
          (with_reducible refine (new_at _).mono ?_)
          rintro e w1 ⟨r0, m0, rfl, ha, hr0, hm0, hb1⟩
          have g1 := Grew.of hb1
          clear tok1 hb1))
      | (go_at_call 31; have _t := tok2; go_must (
          (with_reducible refine (rnew_at _).mono ?_)
          rintro e w2 ⟨q0, rfl, hb, hq0, hb2⟩
          have g2 := g1.step hb2
          have hqs0 := lt_of_heap hb.box
          have ha2 := ha.below hb2
          clear tok2 hb2))
      | (go_at_call 27; go_must (
          (with_reducible refine (new_at _).mono ?_)
          rintro e w3 ⟨r1, m1, rfl, hc, hr1, hm1, hb3⟩
          have g3 := g2.step hb3
          have ha3 := ha2.below hb3
          have hbb3 := hb.below hb3))
      | (go_at_call 31; go_must (
          (with_reducible refine (rnew_at _).mono ?_)
          rintro e w4 ⟨q1, rfl, hd, hq1, hb4⟩
          have g4 := g3.step hb4
          have ha4 := ha3.below hb4
          have hbb4 := hbb3.below hb4
          have hc4 := hc.below hb4
          have s1 := g1.2
          have s2 := g2.2
          have s3 := g3.2
          have z3 := hb3.size
          have z1 := ha.lt
          have hQ : Quad w4 w.heap.size r0 m0 q0 r1 m1 q1 [] [] := ⟨ha4, ⟨_, hbb4⟩, hc4, ⟨_, hd⟩, by have := ha2.lt; omega, by omega, by omega, by omega, by omega, by omega⟩
          have k4 := heap_alloc_last w4 (.cells #[.pointer (some ⟨r0, 0, none⟩), .pointer (some ⟨q0, 0, none⟩), .pointer (some ⟨r1, 0, none⟩), .pointer (some ⟨q1, 0, none⟩)] 56)
          obtain ⟨c0, c1, c2, c3⟩ := cells_four k4))
      | ((with_reducible apply wpList_store_new); (with_reducible rfl); (with_reducible rfl); rfl; rfl; kernel_rfl; rfl; kernel_rfl))
    have hQ5 := hide_ (hQ.below (below_alloc w4 (.cells #[.pointer (some ⟨r0, 0, none⟩), .pointer (some ⟨q0, 0, none⟩), .pointer (some ⟨r1, 0, none⟩), .pointer (some ⟨q1, 0, none⟩)] 56)))
    have g5 := hide_ (g4.alloc (.cells #[.pointer (some ⟨r0, 0, none⟩), .pointer (some ⟨q0, 0, none⟩), .pointer (some ⟨r1, 0, none⟩), .pointer (some ⟨q1, 0, none⟩)] 56))
    have k5 := hide_ k4
    have hlt : r0 < w4.heap.size ∧ m0 < w4.heap.size ∧ q0 < w4.heap.size ∧ r1 < w4.heap.size ∧ m1 < w4.heap.size ∧ q1 < w4.heap.size := ⟨hQ.a.lt.1, hQ.a.lt.2, by obtain ⟨v, h⟩ := hQ.b; exact lt_of_heap h.box, hQ.c.lt.1, hQ.c.lt.2, by obtain ⟨v, h⟩ := hQ.d; exact lt_of_heap h.box⟩
    have Hlt := hide_ hlt
    clear hQ g4 g3 g2 g1 k4 c0 c1 c2 c3 hlt ha ha2 ha3 ha4 hb hbb3 hbb4 hc hc4 hd hb3 hb4 hr0 hm0 hq0 hr1 hm1 hq1 s1 s2 s3 z1 z3 hqs0
    generalize w4.heap.size = X at *
    go_loopw [4] (fun i wr => ∃ j : Nat, j ≤ N ∧ i = .int .i64 j ∧ Hid (∃ L0 L1, Quad wr w.heap.size r0 m0 q0 r1 m1 q1 L0 L1) ∧ Hid (Grew w.heap.size w wr) ∧ wr.heap[X]? = some (.cells #[.pointer (some ⟨r0, 0, none⟩), .pointer (some ⟨q0, 0, none⟩), .pointer (some ⟨r1, 0, none⟩), .pointer (some ⟨q1, 0, none⟩)] 56))
      (fun i _ => N - (intOf i).toNat)
    case atStart => exact ⟨0, by omega, rfl, hide_ ⟨_, _, hQ5.out⟩, g5, k5.out⟩
    case round =>
      clear hQ5 g5 k5
      obtain ⟨j, hj, rfl, hQ, hg, hk⟩ := hrel
      obtain ⟨L0, L1, hQ⟩ := hQ.out
      obtain ⟨c0, c1, c2, c3⟩ := cells_four hk
      by_cases hlt : j < N
      · rcases HAL.out with h0 | ⟨g, o, rfl, hgl, hall⟩
        · omega
        · obtain ⟨⟨d0, d1, d2, d3, d4⟩, ht, hn⟩ := hall j hlt
          have hgl2 := hgl
          replace d0 := (hg.out.below.cell (p := ⟨g, _, none⟩) hgl).trans d0
          replace d1 := (hg.out.below.cell (p := ⟨g, _, none⟩) hgl).trans d1
          replace d2 := (hg.out.below.cell (p := ⟨g, _, none⟩) hgl).trans d2
          replace d3 := (hg.out.below.cell (p := ⟨g, _, none⟩) hgl).trans d3
          replace d4 := (hg.out.below.cell (p := ⟨g, _, none⟩) hgl).trans d4
          have HT := hide_ ht
          have HN := hide_ hn
          have HQ := hide_ hQ
          clear hall ht hn hQ hgl hgl2
          generalize f j = x at *
          have HQd := hide_ (HQ.out.below (Below.drew (Below.refl _ _)))
          have hgd := hide_ hg.out.drew
          obtain ⟨vb, hvb⟩ := HQd.out.b
          obtain ⟨vd, hvd⟩ := HQd.out.d
          have HVa := hide_ hvb
          have HVc := hide_ hvd
          clear hvb hvd
          rcases and_one x.o with e1 | e1
          · go_wp2
            go_region_law (refine step_in rfl ?_; go_simp; go_at_call 32; go_must (
              (with_reducible refine (act_any HQd.out.a HVa.out HT.out HN.out).mono ?_)
              rintro e w6 ⟨rfl, L', hp, hc⟩
              have hQ6 := hide_ (HQd.out.stepA hp hc)
              have hg6 := hide_ (hgd.out.chg hc HQd.out.h0 HQd.out.h1)
              obtain ⟨wm, y1, y2⟩ := hc
              have hk6 := (y2.block _ (Nat.lt_of_lt_of_le (lt_of_heap hk) y1.size) (fun e => by have := Option.some.inj e; have := Hlt.out; omega)).trans ((y1.block _ (lt_of_heap hk) (fun e => by have := Option.some.inj e; have := Hlt.out; omega)).trans hk)))
            all_goals go_wp2
            all_goals go_roundw
            all_goals first
              | (case rel => exact ⟨j + 1, by omega, by go_num, hide_ ⟨_, _, hQ6.out⟩, hg6, hk6⟩)
              | (case measure => simp [intOf]; omega)
          · go_wp2
            go_region_law (refine step_in rfl ?_; go_simp; go_at_call 32; go_must (
              (with_reducible refine (act_any HQd.out.c HVc.out HT.out HN.out).mono ?_)
              rintro e w6 ⟨rfl, L', hp, hc⟩
              have hQ6 := hide_ (HQd.out.stepC hp hc)
              have hg6 := hide_ (hgd.out.chg hc HQd.out.h2 HQd.out.h3)
              obtain ⟨wm, y1, y2⟩ := hc
              have hk6 := (y2.block _ (Nat.lt_of_lt_of_le (lt_of_heap hk) y1.size) (fun e => by have := Option.some.inj e; have := Hlt.out; omega)).trans ((y1.block _ (lt_of_heap hk) (fun e => by have := Option.some.inj e; have := Hlt.out; omega)).trans hk)))
            all_goals go_wp2
            all_goals go_roundw
            all_goals first
              | (case rel => exact ⟨j + 1, by omega, by go_num, hide_ ⟨_, _, hQ6.out⟩, hg6, hk6⟩)
              | (case measure => simp [intOf]; omega)
      · obtain rfl : j = N := by omega
        have hge : ¬ j < j := by omega
        have HQ := hide_ hQ
        clear hQ
        have Q0 := HQ.out
        have GQ0 := hg.out
        have KQ0 := hk
        obtain ⟨vbQ0, hvbQ0⟩ := Q0.b
        have tok5 : True := trivial
        have tok6 : True := trivial
        go_wp2_with (first
          | (go_at_call 33; have _t := tok5; go_must (
              (with_reducible refine (gone_rec Q0.a hvbQ0).mono ?_)
              rintro e Q1w ⟨rfl, hb⟩
              have Q1 := Q0.below hb
              have GQ1 := GQ0.step hb
              have KQ1 := (hb.block _ (lt_of_heap KQ0)).trans KQ0
              obtain ⟨c0, c1, c2, c3⟩ := cells_four KQ1
              obtain ⟨vbQ1, hvbQ1⟩ := Q1.b
              obtain ⟨vdQ1, hvdQ1⟩ := Q1.d
              clear tok5))
          | (go_at_call 33; go_must (
              (with_reducible refine (gone_rec Q1.c hvdQ1).mono ?_)
              rintro e Q2w ⟨rfl, hb⟩
              have Q2 := Q1.below hb
              have GQ2 := GQ1.step hb
              have KQ2 := (hb.block _ (lt_of_heap KQ1)).trans KQ1
              obtain ⟨c0, c1, c2, c3⟩ := cells_four KQ2
              obtain ⟨vbQ2, hvbQ2⟩ := Q2.b
              obtain ⟨vdQ2, hvdQ2⟩ := Q2.d))
          | (go_at_call 32; have _t := tok6; go_must (
              (with_reducible refine (act_two Q2.a hvbQ2).mono ?_)
              rintro e Q3w ⟨rfl, L', hp, hc⟩
              have Q3 := Q2.stepA hp hc
              have GQ3 := GQ2.chg hc HQ.out.h0 HQ.out.h1
              obtain ⟨wm, y1, y2⟩ := hc
              have KQ3 := (y2.block _ (Nat.lt_of_lt_of_le (lt_of_heap KQ2) y1.size) (fun e => by have := Option.some.inj e; have := Hlt.out; omega)).trans ((y1.block _ (lt_of_heap KQ2) (fun e => by have := Option.some.inj e; have := Hlt.out; omega)).trans KQ2)
              obtain ⟨c0, c1, c2, c3⟩ := cells_four KQ3
              obtain ⟨vbQ3, hvbQ3⟩ := Q3.b
              obtain ⟨vdQ3, hvdQ3⟩ := Q3.d
              clear tok6))
          | (go_at_call 32; go_must (
              (with_reducible refine (act_two Q3.c hvdQ3).mono ?_)
              rintro e Q4w ⟨rfl, L', hp, hc⟩
              have Q4 := Q3.stepC hp hc
              have GQ4 := GQ3.chg hc HQ.out.h2 HQ.out.h3
              obtain ⟨wm, y1, y2⟩ := hc
              have KQ4 := (y2.block _ (Nat.lt_of_lt_of_le (lt_of_heap KQ3) y1.size) (fun e => by have := Option.some.inj e; have := Hlt.out; omega)).trans ((y1.block _ (lt_of_heap KQ3) (fun e => by have := Option.some.inj e; have := Hlt.out; omega)).trans KQ3)
              obtain ⟨c0, c1, c2, c3⟩ := cells_four KQ4
              obtain ⟨vbQ4, hvbQ4⟩ := Q4.b
              obtain ⟨vdQ4, hvdQ4⟩ := Q4.d))
          | ((with_reducible apply wpList_store_new); (with_reducible rfl); (with_reducible rfl); rfl; rfl; kernel_rfl; rfl; kernel_rfl))
        go_ret
        exact ⟨rfl, GQ4.below⟩
end Go.Proofs.Ytlgnidjkilbdfaa
