/- SecondFits: the early ends. -/
import Derived.Test.YtcibbnphkpaifaaUk
import Derived.Test.YtcibbnphkpaifaaTk
namespace Go.Proofs.Ytcibbnphkpaifaa
open Go.RowKit
set_option linter.unusedVariables false
set_option maxRecDepth 100000
set_option maxHeartbeats 6400000 in
theorem fits_size (p : Option Addr) (n c : Nat) (d : Df) (p1 q1 p2 q2 p3 q3 p4 q4 : Option Addr) (c1 d1 c2 d2 c3 d3 c4 d4 : Nat) (L : List Wt) (w : World) (h : 200 < n) :
    Calls Try.prog 5 #[.slice p n c, .agg #[.int .i64 d.ka, .bool d.x1.neg, .slice p1 d.x1.A.length c1, .slice q1 d.x1.D.length d1, .bool d.x2.neg, .slice p2 d.x2.A.length c2, .slice q2 d.x2.D.length d2, .int .i64 d.kb, .bool d.x3.neg, .slice p3 d.x3.A.length c3, .slice q3 d.x3.D.length d3, .bool d.x4.neg, .slice p4 d.x4.A.length c4, .slice q4 d.x4.D.length d4]] w fun e w' => e = .returned (.bool true) ∧ Below w.heap.size w w' := by
  have HA := hide_ (fun W => awake_any W)
  have z1 : decide ((200 : Int) < (n : Int)) = true := decide_eq_true (by omega)
  have hb0 : Below w.heap.size w (w.alloc (.cells #[.int .i64 d.ka, .bool d.x1.neg, .slice p1 d.x1.A.length c1, .slice q1 d.x1.D.length d1, .bool d.x2.neg, .slice p2 d.x2.A.length c2, .slice q2 d.x2.D.length d2, .int .i64 d.kb, .bool d.x3.neg, .slice p3 d.x3.A.length c3, .slice q3 d.x3.D.length d3, .bool d.x4.neg, .slice p4 d.x4.A.length c4, .slice q4 d.x4.D.length d4] 48)) := below_alloc _ _
  clear h
  go_enter Try.func5, Try.ntmps5
  go_wp2_with (first | (go_at_call 11; go_must ((with_reducible refine (HA.out _).mono ?_); rintro e w1 ⟨rfl, hb1⟩)))
  go_ret
  exact ⟨by simp, hb0.trans (hb1.mono hb0.size)⟩
set_option maxHeartbeats 6400000 in
theorem fits_long (p : Option Addr) (n c : Nat) (d : Df) (p1 q1 p2 q2 p3 q3 p4 q4 : Option Addr) (c1 d1 c2 d2 c3 d3 c4 d4 : Nat) (L : List Wt) (w : World) (hn : n = L.length) (h2 : n ≤ 200) (hp : WSr w p L) (hlo : longW L = true) :
    Calls Try.prog 5 #[.slice p n c, .agg #[.int .i64 d.ka, .bool d.x1.neg, .slice p1 d.x1.A.length c1, .slice q1 d.x1.D.length d1, .bool d.x2.neg, .slice p2 d.x2.A.length c2, .slice q2 d.x2.D.length d2, .int .i64 d.kb, .bool d.x3.neg, .slice p3 d.x3.A.length c3, .slice q3 d.x3.D.length d3, .bool d.x4.neg, .slice p4 d.x4.A.length c4, .slice q4 d.x4.D.length d4]] w fun e w' => e = .returned (.bool true) ∧ Below w.heap.size w w' := by
  have HA := hide_ (fun W => awake_any W)
  have HL := hide_ (fun W (h : Below w.heap.size w W) => LongWaters_any p n c L W hn (hp.below h) (by omega))
  rw [hlo] at HL
  have z1 : decide ((200 : Int) < (n : Int)) = false := decide_eq_false (by omega)
  have hb0 : Below w.heap.size w (w.alloc (.cells #[.int .i64 d.ka, .bool d.x1.neg, .slice p1 d.x1.A.length c1, .slice q1 d.x1.D.length d1, .bool d.x2.neg, .slice p2 d.x2.A.length c2, .slice q2 d.x2.D.length d2, .int .i64 d.kb, .bool d.x3.neg, .slice p3 d.x3.A.length c3, .slice q3 d.x3.D.length d3, .bool d.x4.neg, .slice p4 d.x4.A.length c4, .slice q4 d.x4.D.length d4] 48)) := below_alloc _ _
  clear hp hn h2 hlo
  go_enter Try.func5, Try.ntmps5
  go_wp2_with (first
    | (go_at_call 11; go_must ((with_reducible refine (HA.out _).mono ?_); rintro e w1 ⟨rfl, hb1⟩; have hb01 := hb0.trans (hb1.mono hb0.size)))
    | (go_at_call 12; go_must ((with_reducible refine (HL.out _ hb01).mono ?_); rintro e w2 ⟨rfl, hb2⟩)))
  go_ret
  exact ⟨by simp, hb01.trans (hb2.mono hb01.size)⟩
set_option maxHeartbeats 6400000 in
theorem fits_long2 (p : Option Addr) (n c : Nat) (d : Df) (p1 q1 p2 q2 p3 q3 p4 q4 : Option Addr) (c1 d1 c2 d2 c3 d3 c4 d4 : Nat) (L : List Wt) (w : World) (hn : n = L.length) (h2 : n ≤ 200) (hp : WSr w p L) (hlo : longW L = false) (hlg : longs (dLens d) = true) :
    Calls Try.prog 5 #[.slice p n c, .agg #[.int .i64 d.ka, .bool d.x1.neg, .slice p1 d.x1.A.length c1, .slice q1 d.x1.D.length d1, .bool d.x2.neg, .slice p2 d.x2.A.length c2, .slice q2 d.x2.D.length d2, .int .i64 d.kb, .bool d.x3.neg, .slice p3 d.x3.A.length c3, .slice q3 d.x3.D.length d3, .bool d.x4.neg, .slice p4 d.x4.A.length c4, .slice q4 d.x4.D.length d4]] w fun e w' => e = .returned (.bool true) ∧ Below w.heap.size w w' := by
  have HA := hide_ (fun W => awake_any W)
  have HL := hide_ (fun W (h : Below w.heap.size w W) => LongWaters_any p n c L W hn (hp.below h) (by omega))
  rw [hlo] at HL
  have HLG := hide_ (fun g W (h : W.heap[g]? = some (.cells #[.bool d.x1.neg, .slice p1 d.x1.A.length c1, .slice q1 d.x1.D.length d1, .bool d.x2.neg, .slice p2 d.x2.A.length c2, .slice q2 d.x2.D.length d2, .bool d.x3.neg, .slice p3 d.x3.A.length c3, .slice q3 d.x3.D.length d3, .bool d.x4.neg, .slice p4 d.x4.A.length c4, .slice q4 d.x4.D.length d4] 32)) => Long_any (some ⟨g, 0, none⟩) 4 4 (dLens d) W rfl (rlen4 h) (by decide))
  rw [hlg] at HLG
  have z1 : decide ((200 : Int) < (n : Int)) = false := decide_eq_false (by omega)
  have hb0 : Below w.heap.size w (w.alloc (.cells #[.int .i64 d.ka, .bool d.x1.neg, .slice p1 d.x1.A.length c1, .slice q1 d.x1.D.length d1, .bool d.x2.neg, .slice p2 d.x2.A.length c2, .slice q2 d.x2.D.length d2, .int .i64 d.kb, .bool d.x3.neg, .slice p3 d.x3.A.length c3, .slice q3 d.x3.D.length d3, .bool d.x4.neg, .slice p4 d.x4.A.length c4, .slice q4 d.x4.D.length d4] 48)) := below_alloc _ _
  have hr0 := heap_alloc_last w (.cells #[.int .i64 d.ka, .bool d.x1.neg, .slice p1 d.x1.A.length c1, .slice q1 d.x1.D.length d1, .bool d.x2.neg, .slice p2 d.x2.A.length c2, .slice q2 d.x2.D.length d2, .int .i64 d.kb, .bool d.x3.neg, .slice p3 d.x3.A.length c3, .slice q3 d.x3.D.length d3, .bool d.x4.neg, .slice p4 d.x4.A.length c4, .slice q4 d.x4.D.length d4] 48)
  have hl0 := lt_of_heap hr0
  clear hp hn h2 hlo hlg
  go_enter Try.func5, Try.ntmps5
  go_wp2_with (first
    | (go_at_call 11; go_must ((with_reducible refine (HA.out _).mono ?_); rintro e w1 ⟨rfl, hb1⟩; have hb01 := hb0.trans (hb1.mono hb0.size)))
    | (go_at_call 12; go_must (
        (with_reducible refine (HL.out _ hb01).mono ?_)
        rintro e w2 ⟨rfl, hb2⟩
        have hb02 := hb01.trans (hb2.mono hb01.size)
        have hb12 := hb1.trans (hb2.mono hb1.size)
        have hr2 := (hb12.block _ hl0).trans hr0
        obtain ⟨⟨e0, e1, e2, e3, e4, e5, e6⟩, e7, e8, e9, e10, e11, e12, e13⟩ := cells_14 hr2
        have hb2a := hb02.alloc hb02.size (.cells #[.bool d.x1.neg, .slice p1 d.x1.A.length c1, .slice q1 d.x1.D.length d1, .bool d.x2.neg, .slice p2 d.x2.A.length c2, .slice q2 d.x2.D.length d2, .bool d.x3.neg, .slice p3 d.x3.A.length c3, .slice q3 d.x3.D.length d3, .bool d.x4.neg, .slice p4 d.x4.A.length c4, .slice q4 d.x4.D.length d4] 32)))
    | (go_at_call 19; go_must (
        (with_reducible refine (HLG.out w2.heap.size _ (heap_alloc_last _ _)).mono ?_)
        rintro e w3 ⟨rfl, j3, rfl⟩
        have hb3 := below_drewN hb2a j3)))
  go_ret
  exact ⟨by simp, hb3⟩
set_option maxHeartbeats 6400000 in
theorem fits_unsound (p : Option Addr) (n c : Nat) (d : Df) (p1 q1 p2 q2 p3 q3 p4 q4 : Option Addr) (c1 d1 c2 d2 c3 d3 c4 d4 : Nat) (L : List Wt) (w : World) (a b : Int) (hn : n = L.length) (h2 : n ≤ 200) (hp : WSr w p L) (hlo : longW L = false) (hlg : longs (dLens d) = false) (h0 : 0 < L.length) (hc : checkW none 0 L = (a, b)) (ha : a ≠ 0) :
    Calls Try.prog 5 #[.slice p n c, .agg #[.int .i64 d.ka, .bool d.x1.neg, .slice p1 d.x1.A.length c1, .slice q1 d.x1.D.length d1, .bool d.x2.neg, .slice p2 d.x2.A.length c2, .slice q2 d.x2.D.length d2, .int .i64 d.kb, .bool d.x3.neg, .slice p3 d.x3.A.length c3, .slice q3 d.x3.D.length d3, .bool d.x4.neg, .slice p4 d.x4.A.length c4, .slice q4 d.x4.D.length d4]] w fun e w' => e = .returned (.bool true) ∧ Below w.heap.size w w' := by
  have HA := hide_ (fun W => awake_any W)
  have HL := hide_ (fun W (h : Below w.heap.size w W) => LongWaters_any p n c L W hn (hp.below h) (by omega))
  rw [hlo] at HL
  have HLG := hide_ (fun g W (h : W.heap[g]? = some (.cells #[.bool d.x1.neg, .slice p1 d.x1.A.length c1, .slice q1 d.x1.D.length d1, .bool d.x2.neg, .slice p2 d.x2.A.length c2, .slice q2 d.x2.D.length d2, .bool d.x3.neg, .slice p3 d.x3.A.length c3, .slice q3 d.x3.D.length d3, .bool d.x4.neg, .slice p4 d.x4.A.length c4, .slice q4 d.x4.D.length d4] 32)) => Long_any (some ⟨g, 0, none⟩) 4 4 (dLens d) W rfl (rlen4 h) (by decide))
  rw [hlg] at HLG
  have HK := hide_ (fun W (h : Below w.heap.size w W) => checkW_any p n c L W hn ((hp.below h).wsl h0 hlo) (by omega))
  rw [hc] at HK
  have z1 : decide ((200 : Int) < (n : Int)) = false := decide_eq_false (by omega)
  have z3 : (a == 0) = false := by simpa using ha
  have z4 : (a != 0) = true := by simpa using ha
  have hb0 : Below w.heap.size w (w.alloc (.cells #[.int .i64 d.ka, .bool d.x1.neg, .slice p1 d.x1.A.length c1, .slice q1 d.x1.D.length d1, .bool d.x2.neg, .slice p2 d.x2.A.length c2, .slice q2 d.x2.D.length d2, .int .i64 d.kb, .bool d.x3.neg, .slice p3 d.x3.A.length c3, .slice q3 d.x3.D.length d3, .bool d.x4.neg, .slice p4 d.x4.A.length c4, .slice q4 d.x4.D.length d4] 48)) := below_alloc _ _
  have hr0 := heap_alloc_last w (.cells #[.int .i64 d.ka, .bool d.x1.neg, .slice p1 d.x1.A.length c1, .slice q1 d.x1.D.length d1, .bool d.x2.neg, .slice p2 d.x2.A.length c2, .slice q2 d.x2.D.length d2, .int .i64 d.kb, .bool d.x3.neg, .slice p3 d.x3.A.length c3, .slice q3 d.x3.D.length d3, .bool d.x4.neg, .slice p4 d.x4.A.length c4, .slice q4 d.x4.D.length d4] 48)
  have hl0 := lt_of_heap hr0
  clear hp hn h2 hlo hlg h0 hc
  go_enter Try.func5, Try.ntmps5
  go_wp2_with (first
    | (go_at_call 11; go_must ((with_reducible refine (HA.out _).mono ?_); rintro e w1 ⟨rfl, hb1⟩; have hb01 := hb0.trans (hb1.mono hb0.size)))
    | (go_at_call 12; go_must (
        (with_reducible refine (HL.out _ hb01).mono ?_)
        rintro e w2 ⟨rfl, hb2⟩
        have hb02 := hb01.trans (hb2.mono hb01.size)
        have hb12 := hb1.trans (hb2.mono hb1.size)
        have hr2 := (hb12.block _ hl0).trans hr0
        obtain ⟨⟨e0, e1, e2, e3, e4, e5, e6⟩, e7, e8, e9, e10, e11, e12, e13⟩ := cells_14 hr2
        have hb2a := hb02.alloc hb02.size (.cells #[.bool d.x1.neg, .slice p1 d.x1.A.length c1, .slice q1 d.x1.D.length d1, .bool d.x2.neg, .slice p2 d.x2.A.length c2, .slice q2 d.x2.D.length d2, .bool d.x3.neg, .slice p3 d.x3.A.length c3, .slice q3 d.x3.D.length d3, .bool d.x4.neg, .slice p4 d.x4.A.length c4, .slice q4 d.x4.D.length d4] 32)))
    | (go_at_call 19; go_must (
        (with_reducible refine (HLG.out w2.heap.size _ (heap_alloc_last _ _)).mono ?_)
        rintro e w3 ⟨rfl, j3, rfl⟩
        have hb3 := below_drewN hb2a j3))
    | (go_at_call 13; go_must ((with_reducible refine (HK.out _ hb3).mono ?_); rintro e w4 ⟨rfl, hb4⟩)))
  go_ret
  exact ⟨by simp, hb3.trans (hb4.mono hb3.size)⟩
/-- A fraction that came in. -/
def FrR (w : World) (x : Fr) (p : Option Addr) (c : Nat) (q : Option Addr) (d : Nat) : Prop := WL w p x.A ∧ WL w q x.D ∧ x.A.length ≤ c ∧ x.D.length ≤ d ∧ Dig x.A ∧ Dig x.D
theorem FrR.frv {w : World} {x : Fr} {p q : Option Addr} {c d : Nat} (h : FrR w x p c q d) (h1 : longB x.A.length = false) (h2 : longB x.D.length = false) : FrV w x p c q d := by
  obtain ⟨a1, a2, a3, a4, a5, a6⟩ := h
  have b1 := longB_false h1
  have b2 := longB_false h2
  exact ⟨p, c, q, d, rfl, a1, a2, a3, a4, a5, a6, by omega, by omega⟩
theorem fits_walk (p : Option Addr) (n c cap : Nat) (d : Df) (p1 q1 p2 q2 p3 q3 p4 q4 : Option Addr) (c1 d1 c2 d2 c3 d3 c4 d4 : Nat) (L : List Wt) (w : World) (hS : n = L.length ∧ n ≤ c ∧ c ≤ maxLen ∧ WSr w p L ∧ ∀ x ∈ L, (-9223372036854775808 ≤ x.t ∧ x.t < 9223372036854775808) ∧ -9223372036854775808 ≤ x.l ∧ x.l < 9223372036854775808)
    (g1 : FrR w d.x1 p1 c1 q1 d1) (g2 : FrR w d.x2 p2 c2 q2 d2) (g3 : FrR w d.x3 p3 c3 q3 d3) (g4 : FrR w d.x4 p4 c4 q4 d4) :
    Calls Try.prog 5 #[.slice p n c, .agg #[.int .i64 d.ka, .bool d.x1.neg, .slice p1 d.x1.A.length c1, .slice q1 d.x1.D.length d1, .bool d.x2.neg, .slice p2 d.x2.A.length c2, .slice q2 d.x2.D.length d2, .int .i64 d.kb, .bool d.x3.neg, .slice p3 d.x3.A.length c3, .slice q3 d.x3.D.length d3, .bool d.x4.neg, .slice p4 d.x4.A.length c4, .slice q4 d.x4.D.length d4]] w fun e w' => e = .returned (.bool true) ∧ Below w.heap.size w w' := by
  obtain ⟨hn, _, _, hp, _⟩ := hS
  by_cases h1 : 200 < n
  · exact fits_size p n c d p1 q1 p2 q2 p3 q3 p4 q4 c1 d1 c2 d2 c3 d3 c4 d4 L w h1
  · by_cases hlo : longW L = true
    · exact fits_long p n c d p1 q1 p2 q2 p3 q3 p4 q4 c1 d1 c2 d2 c3 d3 c4 d4 L w hn (by omega) hp hlo
    · rw [Bool.not_eq_true] at hlo
      by_cases hlg : longs (dLens d) = true
      · exact fits_long2 p n c d p1 q1 p2 q2 p3 q3 p4 q4 c1 d1 c2 d2 c3 d3 c4 d4 L w hn (by omega) hp hlo hlg
      · rw [Bool.not_eq_true] at hlg
        have hl4 := hlg
        unfold longs dLens at hl4
        simp only [List.any_cons, List.any_nil, Bool.or_eq_false_iff, Bool.or_false] at hl4
        obtain ⟨⟨k1, k2⟩, ⟨k3, k4⟩, ⟨k5, k6⟩, k7, k8⟩ := hl4
        rcases checkW_cases L with hc | hc
        · exact fits_main p n c L d p1 q1 p2 q2 p3 q3 p4 q4 c1 d1 c2 d2 c3 d3 c4 d4 w hn (by omega) hp hlo (snd_of (by rw [hc])) ⟨g1.frv k1 k2, g2.frv k3 k4, g3.frv k5 k6, g4.frv k7 k8⟩ hlg
        · have h0 : 0 < L.length := by
            rcases Nat.eq_zero_or_pos L.length with h | h
            · rw [List.eq_nil_of_length_eq_zero h] at hc
              exact absurd rfl hc
            · exact h
          exact fits_unsound p n c d p1 q1 p2 q2 p3 q3 p4 q4 c1 d1 c2 d2 c3 d3 c4 d4 L w _ _ hn (by omega) hp hlo hlg h0 rfl hc
end Go.Proofs.Ytcibbnphkpaifaa
