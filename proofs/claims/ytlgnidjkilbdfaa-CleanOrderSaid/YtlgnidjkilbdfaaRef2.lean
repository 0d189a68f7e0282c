/- Chapter 19: the reference's record: Add, Take. -/
import Derived.Test.YtlgnidjkilbdfaaRef
import Derived.Laws.AppendOwnNone
namespace Go.Proofs.Ytlgnidjkilbdfaa
open Go.RowKit Go.Maps
set_option linter.unusedVariables false
set_option maxRecDepth 100000
set_option maxHeartbeats 1600000 in
theorem radd_e {w : World} {qb : Nat} {v : Value} {L : Rc} {t : Int} {b : Nat} (h : RRec w qb v L) (he : addE L t ≠ 0) : Calls Try.prog 67 #[.pointer (some ⟨qb, 0, none⟩), .agg #[.int .i64 t, .float .f64 b]] w fun e w' =>
    e = .returned (.int .i64 (addE L t)) ∧ Below w.heap.size w w' := by
  have hA := h.below ((Below.refl _ _).alloc (Nat.le_refl _) (.cells #[.int .i64 t, .float .f64 b] 26))
  have hn := hide_ (rnone_rec hA)
  have hp := hide_ (place_rec (t := t) hA)
  obtain ⟨p, c, rfl⟩ := h.slice
  obtain ⟨hc0, hc1⟩ := cells_two hA.box
  obtain ⟨q0, q1⟩ := cells_two (heap_alloc_last w (.cells #[.int .i64 t, .float .f64 b] 26))
  unfold addE at he ⊢
  clear h hA
  by_cases h1 : t < 0 ∨ 1048576 < t
  · rw [if_pos h1] at he ⊢
    clear he
    rcases h1 with h1 | h1
    · go_enter Try.func67, Try.ntmps67
      go_wp2_with (go_at_call 70; (with_reducible refine (hn.out).mono ?_); rintro e w1 ⟨rfl, rfl⟩)
      go_ret
      exact ⟨rfl, (Below.refl _ _).alloc (Nat.le_refl _) _⟩
    · have h0 : ¬ t < 0 := by omega
      go_enter Try.func67, Try.ntmps67
      go_wp2_with (go_at_call 70; (with_reducible refine (hn.out).mono ?_); rintro e w1 ⟨rfl, rfl⟩)
      go_ret
      exact ⟨rfl, (Below.refl _ _).alloc (Nat.le_refl _) _⟩
  rw [if_neg h1] at he ⊢
  have h2 : 0 ≤ t := by omega
  have h3 : t ≤ 1048576 := by omega
  clear h1
  cases h4 : hasT L t
  · rw [h4] at he hp
    simp only [Bool.false_eq_true, if_false] at he ⊢
    split at he
    · rename_i h5
      rw [if_pos h5]
      clear he h4
      go_enter Try.func67, Try.ntmps67
      go_wp2_with (first
        | (go_at_call 70; (with_reducible refine (hn.out).mono ?_); rintro e w1 ⟨rfl, rfl⟩)
        | (go_at_call 103; (with_reducible refine (hp.out).mono ?_); rintro e w1 ⟨rfl, nn, rfl⟩))
      go_ret
      exact ⟨rfl, below_drewN ((Below.refl _ _).alloc (Nat.le_refl _) _) _⟩
    · exact absurd rfl he
  · rw [h4] at he hp
    simp only [if_true] at he ⊢
    clear he h4
    go_enter Try.func67, Try.ntmps67
    go_wp2_with (first
      | (go_at_call 70; (with_reducible refine (hn.out).mono ?_); rintro e w1 ⟨rfl, rfl⟩)
      | (go_at_call 103; (with_reducible refine (hp.out).mono ?_); rintro e w1 ⟨rfl, nn, rfl⟩))
    go_ret
    exact ⟨rfl, below_drewN ((Below.refl _ _).alloc (Nat.le_refl _) _) _⟩
/-- What a slice of samples is in memory. -/
theorem RRec.row {w : World} {qb c : Nat} {p : Option Addr} {L : Rc} (h : RRec w qb (.slice p L.length c) L) : (p = none ∧ L = [] ∧ c = 0) ∨ ∃ g, p = some ⟨g, 0, none⟩ ∧ L.length ≤ c ∧ c ≤ maxLen ∧ ∀ j u, (flat L)[j]? = some u → w.cell? ⟨g, j, none⟩ = some u := by
  rcases h.own.2 with ⟨e1, hz⟩ | ⟨g, cap, cur, e1, hb, hg, h1, h2, _⟩
  · simp only [Value.slice.injEq] at e1; exact .inl ⟨e1.1, List.eq_nil_of_length_eq_zero hz, e1.2.2⟩
  · cases e1
    have hc := h.own.cells rfl
    refine .inr ⟨g, rfl, h1, h2, fun j u hj => ?_⟩
    have := hc j u hj
    rwa [show (⟨g, 0, none⟩ : Addr).add j = ⟨g, j, none⟩ by unfold Addr.add; split <;> simp_all] at this
theorem flat_take (L : Rc) (K : Nat) (h : K ≤ L.length) : flat L = flat (L.take K) ++ flat (L.drop K) := by rw [← flat_append, List.take_append_drop]
theorem flat_cell {L : Rc} : ∀ u ∈ flat L, u.oneCell' = true := by
  intro u hu
  unfold flat at hu
  obtain ⟨p, _, hp⟩ := List.mem_flatMap.1 hu
  simp only [List.mem_cons, List.not_mem_nil, or_false] at hp
  rcases hp with rfl | rfl <;> rfl
theorem len_take {L : Rc} {K : Nat} (h : K ≤ L.length) : (flat (L.take K)).length = K * 2 := by rw [flat_len, List.length_take]; omega
theorem len_drop (L : Rc) (K : Nat) : (flat (L.drop K)).length = (L.length - K) * 2 := by rw [flat_len, List.length_drop]
theorem src_take {w : World} {L : Rc} {g K : Nat} (h : K ≤ L.length) (hc : ∀ j u, (flat L)[j]? = some u → w.cell? ⟨g, j, none⟩ = some u) : ∀ j u, (flat (L.take K))[j]? = some u → w.cell? ((⟨g, 0, none⟩ : Addr).add j) = some u := by
  intro j u hj
  rw [show (⟨g, 0, none⟩ : Addr).add j = ⟨g, j, none⟩ by unfold Addr.add; split <;> simp_all]
  refine hc j u ?_
  rw [flat_take L K h, List.getElem?_append_left (List.getElem?_eq_some_iff.1 hj).1]
  exact hj
theorem src_drop {w : World} {L : Rc} {g K : Nat} (h : K ≤ L.length) (hc : ∀ j u, (flat L)[j]? = some u → w.cell? ⟨g, j, none⟩ = some u) : ∀ j u, (flat (L.drop K))[j]? = some u → w.cell? ((⟨g, K * 2, none⟩ : Addr).add j) = some u := by
  intro j u hj
  rw [show (⟨g, K * 2, none⟩ : Addr).add j = ⟨g, K * 2 + j, none⟩ by unfold Addr.add; split <;> simp_all]
  refine hc _ u ?_
  rw [flat_take L K h, List.getElem?_append_right (by rw [len_take h]; omega), len_take h, Nat.add_sub_cancel_left]
  exact hj
theorem sub_addr (g c K : Nat) : (if c = K then some (⟨g, 0, none⟩ : Addr) else some ⟨g, K * 2, none⟩) = some (if c = K then ⟨g, 0, none⟩ else ⟨g, K * 2, none⟩) := by split <;> rfl
theorem src_sub {w : World} {L : Rc} {g K c : Nat} (h : K ≤ L.length) (hlc : L.length ≤ c) (hc : ∀ j u, (flat L)[j]? = some u → w.cell? ⟨g, j, none⟩ = some u) : ∀ j u, (flat (L.drop K))[j]? = some u → w.cell? ((if c = K then (⟨g, 0, none⟩ : Addr) else ⟨g, K * 2, none⟩).add j) = some u := by
  by_cases e : c = K
  · subst e
    intro j u hj
    rw [List.drop_eq_nil_of_le hlc] at hj
    simp [flat] at hj
  · rw [if_neg e]; exact src_drop h hc
theorem cell_grown {w w' : World} {row : Option Nat} {a : Addr} {v : Value} (h : w.cell? a = some v) (hg : w.grownBy w' row) (hr : some a.block ≠ row) : w'.cell? a = some v := hg.cell h hr
theorem frozen_grown {w w' : World} {row : Option Nat} {a : Addr} {v : Bool} (h : w.frozen? a = v) (hl : a.block < w.heap.size) (hg : w.grownBy w' row) (hr : some a.block ≠ row) : w'.frozen? a = v :=
  (World.frozen?_of_block (hg.block _ hl hr)).trans h
theorem setCell_grown (w : World) (p : Addr) (v : Value) : w.grownBy (w.setCell p v) (some p.block) :=
  ⟨rfl, rfl, rfl, by simp [World.setCell], fun k hk hne => set_other (fun e => hne (by rw [e]))⟩
theorem rrec_set {w : World} {qb n base : Nat} {v v' : Value} {L : Rc} (hb : w.heap[qb]? = some (.cells #[.bool true, v] 105)) (ho : w.ownsRow base 26 2 v' n (flat L)) (hn : n = L.length) (hok : Ok L) (hqb : qb ≤ base) : RRec (w.setCell ⟨qb, 1, none⟩ v') qb v' L := by
  subst hn
  refine ⟨hok, by simp [World.setCell, Array.getElem?_modify, hb], Go.Proofs.ownsRow_base_a (ho.kept (setCell_grown w ⟨qb, 1, none⟩ v') (.inr (row_type ho hb (by decide)))) hqb⟩
theorem below_alloc (w : World) (o : Obj) : Below w.heap.size w (w.alloc o) := (Below.refl _ _).alloc (Nat.le_refl _) _
theorem below_grown0 {B : Nat} {w w' : World} (h : w.grownBy w' none) (hB : B ≤ w.heap.size) : Below B w w' :=
  ⟨h.os, h.tape, h.output, h.size, fun i hi => h.block i (by omega) (by simp)⟩
theorem below_cells {B : Nat} {w w' : World} {g : Nat} {L : Rc} (hb : Below B w w') (hg : g < B) (hc : ∀ j u, (flat L)[j]? = some u → w.cell? ⟨g, j, none⟩ = some u) : ∀ j u, (flat L)[j]? = some u → w'.cell? ⟨g, j, none⟩ = some u :=
  fun j u hj => (hb.cell (p := ⟨g, j, none⟩) hg).trans (hc j u hj)
set_option maxHeartbeats 1600000 in
theorem radd_0 {w : World} {qb : Nat} {v : Value} {L : Rc} {t : Int} {b : Nat} (h : RRec w qb v L) (he : addE L t = 0) (hb : b < 2 ^ 64) : Calls Try.prog 67 #[.pointer (some ⟨qb, 0, none⟩), .agg #[.int .i64 t, .float .f64 b]] w fun e w' =>
    e = .returned (.int .i64 0) ∧ (∃ v', RRec w' qb v' (insT L t b)) ∧ w.grownBy w' (some qb) := by
  have hA := h.below ((Below.refl _ _).alloc (Nat.le_refl _) (.cells #[.int .i64 t, .float .f64 b] 26))
  have hn := hide_ (rnone_rec hA)
  have hp := hide_ (place_rec (t := t) hA)
  obtain ⟨p, c, rfl⟩ := h.slice
  have hrow := h.row
  have hqb := lt_of_heap h.box
  obtain ⟨hc0, hc1⟩ := cells_two hA.box
  obtain ⟨q0, q1⟩ := cells_two (heap_alloc_last w (.cells #[.int .i64 t, .float .f64 b] 26))
  have hins := hide_ (h.ok.ins he hb)
  unfold addE at he
  split at he
  · cases he
  split at he
  · cases he
  split at he
  · cases he
  rename_i h1 h2 h3
  clear he
  have h4 : 0 ≤ t := by omega
  have h5 : t ≤ 1048576 := by omega
  have h6 : L.length < 4096 := by omega
  have hple := plc_le L t
  have h7 : hasT L t = false := by simpa using h2
  rw [h7] at hp
  obtain ⟨K, hK⟩ : ∃ K, K = plc L t := ⟨_, rfl⟩
  rw [← hK] at hple hp
  have hR : insT L t b = L.take K ++ (t, b) :: L.drop K := by rw [hK]; rfl
  have HR := hide_ hR
  obtain ⟨i0, hi, hz0, hz1, hz2⟩ := info_parts info26
  rcases hrow with ⟨rfl, rfl, rfl⟩ | ⟨g, rfl, hcl, hcm, hcs⟩
  · have hK0 : K = 0 := by simpa using hple
    subst hK0
    have HB := hide_ h.box
    have hb0 := below_alloc w (.cells #[.int .i64 t, .float .f64 b] 26)
    have hKs := hb0.size
    have hsz := hide_ (show w.heap.size + 1 = (w.alloc (.cells #[.int .i64 t, .float .f64 b] 26)).heap.size by simp)
    have hi0 : insT [] t b = [(t, b)] := by rw [HR.out]; rfl
    have HI := hide_ hi0
    have tok1 : True := trivial
    have tok2 : True := trivial
    have tok3 : True := trivial
    clear h1 h2 h3 h7 h hA hK hR hi0
    go_enter Try.func67, Try.ntmps67
    go_wp2_with (first
      | (go_at_call 70; (with_reducible refine (hn.out).mono ?_); rintro e w1 ⟨rfl, rfl⟩)
      | (go_at_call 103; (with_reducible refine (hp.out).mono ?_); rintro e w1 ⟨rfl, nn, rfl⟩)
      | (at_builtin; have _t := tok1; go_must (
          refine wpList_append_own_none rfl (.tmp 32) (.tmp 38) 23 rfl w.heap.size 26 i0 2 Try.underlying23 hi (.slice none 0 0) 0 [] rfl (World.ownsRow_nil _ _ _ _) rfl ?_
          clear tok1))
      | (at_builtin; have _t := tok2; go_must (
          refine wpList_push rfl (.tmp 40) (.tmp 42) 23 rfl w.heap.size 26 i0 (.agg #[.int .i64 0, .float .f64 0]) 2 16 Try.underlying23 hi hz0 hz1 hz2 rfl (by decide) (by decide) (.slice none 0 0) 0 [] rfl (World.ownsRow_nil _ _ _ _) #[.int .i64 t, .float .f64 b] 26 1 1 (congrArg (fun z => Value.slice (some ⟨z, 0, none⟩) 1 1) hsz.out) rfl (by kernel_rfl) (by omega) hKs ?_
          intro v2 w2 ho2 hb2 hg2 hn2
          have hw2 := (below_drewN hb0 nn).trans hb2
          have hs2 := hw2.size
          have hq2 := (hw2.block qb hqb).trans HB.out
          obtain ⟨f3, f4⟩ := cells_two hq2
          obtain ⟨z3, z4⟩ := free_two hq2
          obtain ⟨p3, c3, rfl⟩ := row_slice ho2
          have HQ := hide_ hq2
          have ho2' := (show w2.ownsRow w.heap.size 26 2 _ 1 (flat [(t, b)]) from ho2)
          clear ho2 hb2 hg2 hn2 hq2 hs2 tok2))
      | (at_builtin; have _t := tok3; go_must (
          refine wpList_append_own_none rfl (.tmp 45) (.tmp 51) 23 rfl w.heap.size 26 i0 2 Try.underlying23 hi _ 1 _ rfl ho2' rfl ?_
          have HO := hide_ ho2'
          clear tok3 ho2')))
    go_ret
    refine ⟨rfl, ⟨_, rrec_set (L := insT [] t b) HQ.out (by rw [HI.out]; exact HO.out) (by rw [HI.out]; rfl) hins.out (Nat.le_of_lt hqb)⟩, ?_⟩
    exact World.grownBy.trans ⟨hw2.os, hw2.tape, hw2.output, hw2.size, fun k hk _ => hw2.block k hk⟩ (setCell_grown _ _ _)
  · have hgl : g < w.heap.size := by
      rcases h.own.2 with ⟨e1, _⟩ | ⟨g', cap, cur, e1, _, hg, _⟩
      · cases e1
      · cases e1; exact lt_of_heap hg
    have HB := hide_ h.box
    have HC := hide_ hcs
    unfold maxLen at hcm
    have hKc : K ≤ c := by omega
    have hb0 := below_alloc w (.cells #[.int .i64 t, .float .f64 b] 26)
    have hKm : 0 + K ≤ maxLen := by unfold maxLen; omega
    have hKb : (0 + K) * 16 ≤ 140737488355328 := by omega
    have hKs := hb0.size
    clear h1 h2 h3 h7 h hA hcs hK hR
    have hKm2 : K + 1 + (L.length - K) ≤ maxLen := by unfold maxLen; omega
    have hKb2 : (K + 1 + (L.length - K)) * 16 ≤ 140737488355328 := by omega
    have tok1 : True := trivial
    have tok2 : True := trivial
    have tok3 : True := trivial
    go_enter Try.func67, Try.ntmps67
    go_wp2_with (first
      | (go_at_call 70; (with_reducible refine (hn.out).mono ?_); rintro e w1 ⟨rfl, rfl⟩)
      | (go_at_call 103; (with_reducible refine (hp.out).mono ?_); rintro e w1 ⟨rfl, nn, rfl⟩)
      | (at_builtin; have _t := tok1; go_must (
          refine wpList_append_own _ rfl (.tmp 32) (.tmp 38) 23 rfl w.heap.size 26 i0 (.agg #[.int .i64 0, .float .f64 0]) 2 16 Try.underlying23 hi hz0 hz1 hz2 rfl (by decide) (.slice none 0 0) 0 [] rfl (World.ownsRow_nil _ _ _ _) ⟨g, 0, none⟩ K c (flat (L.take K)) rfl (len_take hple) (src_take hple (below_cells (below_drewN hb0 nn) hgl HC.out)) flat_cell hKm hKb hKs ?_
          intro v1 w1 ho1 hg1 hn1
          have hb1 := below_grown0 (w := w.alloc (.cells #[.int .i64 t, .float .f64 b] 26)) ⟨hg1.os, hg1.tape, hg1.output, hg1.size, hg1.block⟩ (Nat.le_refl _)
          have d0 := (hb1.cell (p := ⟨w.heap.size, 0, none⟩) (by simp)).trans q0
          have d1 := (hb1.cell (p := ⟨w.heap.size, 1, none⟩) (by simp)).trans q1
          have hw1 := hb0.trans (hb1.mono hKs)
          have f1 := (hb1.cell (p := ⟨qb, 1, none⟩) (by simp; omega)).trans hc1
          have hs1 := hw1.size
          have ho1' := (show w1.ownsRow w.heap.size 26 2 v1 K (flat (L.take K)) by simpa using ho1)
          clear ho1 hb1 hg1 hn1 q0 q1 hc0 hc1 tok1
          ))
      | (at_builtin; have _t := tok2; go_must (
          refine wpList_push rfl (.tmp 40) (.tmp 42) 23 rfl w.heap.size 26 i0 (.agg #[.int .i64 0, .float .f64 0]) 2 16 Try.underlying23 hi hz0 hz1 hz2 rfl (by decide) (by decide) _ K _ rfl ho1' #[.int .i64 t, .float .f64 b] 26 1 1 rfl rfl (by kernel_rfl) (by omega) hs1 ?_
          intro v2 w2 ho2 hb2 hg2 hn2
          have hw2 := hw1.trans hb2
          have hs2 := hw2.size
          have f2 := (hb2.cell (p := ⟨qb, 1, none⟩) hqb).trans f1
          have ho2' := (show w2.ownsRow w.heap.size 26 2 v2 (K + 1) (flat (L.take K ++ [(t, b)])) by rw [flat_append]; exact ho2)
          clear ho2 hb2 hg2 hn2 hw1 hs1 f1 d0 d1 tok2 ho1'))
      | (at_builtin; have _t := tok3; go_must (refine wpList_append_own _ rfl (.tmp 45) (.tmp 51) 23 rfl w.heap.size 26 i0 (.agg #[.int .i64 0, .float .f64 0]) 2 16 Try.underlying23 hi hz0 hz1 hz2 rfl (by decide) v2 (K + 1) _ rfl ho2' (if c = K then ⟨g, 0, none⟩ else ⟨g, K * 2, none⟩) (L.length - K) (c - K) (flat (L.drop K)) (congrArg (fun z => Value.slice z (L.length - K) (c - K)) (sub_addr g c K)) (len_drop L K) (src_sub hple hcl (below_cells hw2 hgl HC.out)) flat_cell hKm2 hKb2 hs2 ?_; intro v3 w3 ho3 hg3 hn3; have hw3 := hw2.grown hg3 hs2 (fun k hk => (ho2'.lt k hk).1); have hq3 := (hw3.block qb hqb).trans HB.out; have HO := hide_ ho3; obtain ⟨f3, f4⟩ := cells_two hq3; obtain ⟨z3, z4⟩ := free_two hq3; obtain ⟨p3, c3, rfl⟩ := row_slice ho3; have HQ := hide_ hq3; clear hn3 hg3 ho3 f2 ho2' hw2 hs2 tok3 hq3)))
    all_goals go_ret
    all_goals refine ⟨rfl, ⟨_, rrec_set (L := insT L t b) HQ.out (by rw [HR.out, show L.take K ++ (t, b) :: L.drop K = L.take K ++ [(t, b)] ++ L.drop K by simp, flat_append]; exact HO.out) (by rw [len_ins]; omega) hins.out (Nat.le_of_lt hqb)⟩, ?_⟩
    all_goals exact World.grownBy.trans ⟨hw3.os, hw3.tape, hw3.output, hw3.size, fun k hk _ => hw3.block k hk⟩ (setCell_grown _ _ _)
theorem radd_rec {w : World} {qb : Nat} {v : Value} {L : Rc} {t : Int} {b : Nat} (h : RRec w qb v L) (hb : b < 2 ^ 64) : Calls Try.prog 67 #[.pointer (some ⟨qb, 0, none⟩), .agg #[.int .i64 t, .float .f64 b]] w fun e w' =>
    e = .returned (.int .i64 (addE L t)) ∧ (∃ v', RRec w' qb v' (addR L t b)) ∧ w.grownBy w' (some qb) := by
  unfold addR
  by_cases he : addE L t = 0
  · rw [if_pos he, he]
    exact radd_0 h he hb
  · rw [if_neg he]
    exact (radd_e h he).mono fun e w' ⟨h1, h2⟩ => ⟨h1, ⟨v, h.below h2⟩, grown_of_below h2 _⟩
set_option maxHeartbeats 1600000 in
theorem rtake_rec {w : World} {qb : Nat} {v : Value} {L : Rc} {t : Int} (h : RRec w qb v L) (ht : I64 t) : Calls Try.prog 74 #[.pointer (some ⟨qb, 0, none⟩), .int .i64 t] w fun e w' =>
    e = .returned (.int .i64 (takeE L t)) ∧ (∃ v', RRec w' qb v' (delT L t)) ∧ w.grownBy w' (some qb) := by
  have hn := hide_ (rnone_rec h)
  have hp := hide_ (place_rec (t := t) h)
  have hqb := lt_of_heap h.box
  obtain ⟨p, c, rfl⟩ := h.slice
  obtain ⟨hc0, hc1⟩ := cells_two h.box
  have hpl := has_plc (t := t) h.ok.asc
  have hdp := del_plc (t := t) h.ok.asc
  unfold takeE
  cases h7 : hasT L t
  · rw [h7] at hp
    have HF : Hid (∃ v', RRec w qb v' (delT L t)) := hide_ ⟨_, by rw [del_not h7]; exact h⟩
    clear h h7 hpl hdp
    go_enter Try.func74, Try.ntmps74
    go_wp2_with (first
      | (go_at_call 70; (with_reducible refine (hn.out).mono ?_); rintro e w1 ⟨rfl, rfl⟩)
      | (go_at_call 103; (with_reducible refine (hp.out).mono ?_); rintro e w1 ⟨rfl, nn, rfl⟩))
    go_ret
    obtain ⟨v', hv'⟩ := HF.out
    exact ⟨rfl, ⟨v', hv'.drewN _⟩, ⟨rfl, rfl, rfl, Nat.le_refl _, fun _ _ _ => rfl⟩⟩
  · rw [h7] at hp hpl
    have hpl2 : plc L t < L.length := by
      have := (Bool.and_eq_true_iff.1 hpl.symm).1
      simpa using this
    have hR := hdp h7
    have hins := hide_ (h.ok.del (t := t))
    obtain ⟨K, hK⟩ : ∃ K, K = plc L t := ⟨_, rfl⟩
    rw [← hK] at hpl2 hp hR
    have HR := hide_ hR
    obtain ⟨i0, hi, hz0, hz1, hz2⟩ := info_parts info26
    have h6 := h.ok.len
    rcases h.row with ⟨rfl, rfl, rfl⟩ | ⟨g, rfl, hcl, hcm, hcs⟩
    · simp at hpl2
    have hgl : g < w.heap.size := by
      rcases h.own.2 with ⟨e1, _⟩ | ⟨g', cap, cur, e1, _, hg, _⟩
      · cases e1
      · cases e1; exact lt_of_heap hg
    have HB := hide_ h.box
    have HC := hide_ hcs
    unfold maxLen at hcm
    have hKc : K ≤ c := by omega
    have hK1 : K + 1 ≤ c := by omega
    have hple : K ≤ L.length := by omega
    have hple1 : K + 1 ≤ L.length := by omega
    have hKm : 0 + K ≤ maxLen := by unfold maxLen; omega
    have hKb : (0 + K) * 16 ≤ 140737488355328 := by omega
    have hKm2 : K + (L.length - (K + 1)) ≤ maxLen := by unfold maxLen; omega
    have hKb2 : (K + (L.length - (K + 1))) * 16 ≤ 140737488355328 := by omega
    have tok1 : True := trivial
    have tok3 : True := trivial
    clear hpl hdp h hcs hK hR
    go_enter Try.func74, Try.ntmps74
    go_wp2_with (first
      | (go_at_call 70; (with_reducible refine (hn.out).mono ?_); rintro e w1 ⟨rfl, rfl⟩)
      | (go_at_call 103; (with_reducible refine (hp.out).mono ?_); rintro e w1 ⟨rfl, nn, rfl⟩)
      | (at_builtin; have _t := tok1; go_must (
          refine wpList_append_own _ rfl (.tmp 18) (.tmp 24) 23 rfl w.heap.size 26 i0 (.agg #[.int .i64 0, .float .f64 0]) 2 16 Try.underlying23 hi hz0 hz1 hz2 rfl (by decide) (.slice none 0 0) 0 [] rfl (World.ownsRow_nil _ _ _ _) ⟨g, 0, none⟩ K c (flat (L.take K)) rfl (len_take hple) (src_take hple HC.out) flat_cell hKm hKb (Nat.le_refl _) ?_
          intro v1 w1 ho1 hg1 hn1
          have hb1 := below_grown0 (w := w) ⟨hg1.os, hg1.tape, hg1.output, hg1.size, hg1.block⟩ (Nat.le_refl _)
          have f1 := (hb1.cell (p := ⟨qb, 1, none⟩) hqb).trans hc1
          have hs1 := hb1.size
          have ho1' := (show w1.ownsRow w.heap.size 26 2 v1 K (flat (L.take K)) by simpa using ho1)
          clear ho1 hg1 hn1 hc0 hc1 tok1))
      | (at_builtin; have _t := tok3; go_must (
          refine wpList_append_own _ rfl (.tmp 27) (.tmp 34) 23 rfl w.heap.size 26 i0 (.agg #[.int .i64 0, .float .f64 0]) 2 16 Try.underlying23 hi hz0 hz1 hz2 rfl (by decide) v1 K _ rfl ho1' (if c = K + 1 then ⟨g, 0, none⟩ else ⟨g, (K + 1) * 2, none⟩) (L.length - (K + 1)) (c - (K + 1)) (flat (L.drop (K + 1))) (congrArg (fun z => Value.slice z (L.length - (K + 1)) (c - (K + 1))) (sub_addr g c (K + 1))) (len_drop L (K + 1)) (src_sub hple1 hcl (below_cells hb1 hgl HC.out)) flat_cell hKm2 hKb2 hs1 ?_
          intro v3 w3 ho3 hg3 hn3
          have hw3 := hb1.grown hg3 hs1 (fun k hk => (ho1'.lt k hk).1)
          have hq3 := (hw3.block qb hqb).trans HB.out
          have HO := hide_ ho3
          obtain ⟨f3, f4⟩ := cells_two hq3
          obtain ⟨z3, z4⟩ := free_two hq3
          obtain ⟨p3, c3, rfl⟩ := row_slice ho3
          have HQ := hide_ hq3
          clear hn3 hg3 ho3 f1 ho1' hb1 hs1 tok3 hq3)))
    all_goals go_ret
    all_goals refine ⟨rfl, ⟨_, rrec_set (L := delT L t) HQ.out (by rw [HR.out, flat_append]; exact HO.out) (by rw [HR.out, List.length_append, List.length_take, List.length_drop]; omega) hins.out (Nat.le_of_lt hqb)⟩, ?_⟩
    all_goals exact World.grownBy.trans ⟨hw3.os, hw3.tape, hw3.output, hw3.size, fun k hk _ => hw3.block k hk⟩ (setCell_grown _ _ _)
end Go.Proofs.Ytlgnidjkilbdfaa
