/- Chapter 19: RecordFrom, the walk. -/
import Derived.Test.YtlgnidjkilbdfaaPush
namespace Go.Proofs.Ytlgnidjkilbdfaa
open Go.RowKit Go.Maps
set_option linter.unusedVariables false
set_option maxRecDepth 100000
/-- A slice of bare samples that came in. -/
def BL (w : World) (p : Option Addr) (S : Rc) : Prop := S = [] ∨ ∃ g o, p = some ⟨g, o, none⟩ ∧ g < w.heap.size ∧ ∀ k, k < S.length → w.cell? ⟨g, o + k * 2, none⟩ = some (.int .i64 (S.getD k (0, 0)).1) ∧ w.cell? ⟨g, o + k * 2 + 1, none⟩ = some (.int .u64 ((S.getD k (0, 0)).2 : Nat))
theorem BL.at_ {w w' : World} {p : Option Addr} {S : Rc} (h : BL w p S) (hb : Below w.heap.size w w') {k : Nat} (hk : k < S.length) :
    ∃ g o, p = some ⟨g, o, none⟩ ∧ g < w.heap.size ∧ w'.cell? ⟨g, o + k * 2, none⟩ = some (.int .i64 (S.getD k (0, 0)).1) ∧ w'.cell? ⟨g, o + k * 2 + 1, none⟩ = some (.int .u64 ((S.getD k (0, 0)).2 : Nat)) := by
  rcases h with rfl | ⟨g, o, rfl, hg, hc⟩
  · cases hk
  · obtain ⟨h1, h2⟩ := hc k hk
    exact ⟨g, o, rfl, hg, (hb.cell (p := ⟨g, _, none⟩) hg).trans h1, (hb.cell (p := ⟨g, _, none⟩) hg).trans h2⟩
/-- Two values own no block together. -/
def Apart (u v : Value) : Prop := ∀ k, u.ownBlock = some k → v.ownBlock ≠ some k
theorem Apart.fresh {u v u' : Value} {B : Nat} (h : Apart u v) (hf : Fresh u u' B) (hv : ∀ k, v.ownBlock = some k → k < B) : Apart u' v := by
  intro k hk hv'
  rcases hf with e | ⟨j, e, hj⟩
  · exact h k (by rw [← e]; exact hk) hv'
  · rw [e] at hk
    cases hk
    have := hv _ hv'
    omega
theorem Apart.symm {u v : Value} (h : Apart u v) : Apart v u := fun k hv hu => h k hu hv
theorem Apart.kept {w w' : World} {base : Nat} {e : TypeId} {size n : Nat} {u v : Value} {xs : List Value} (h : Apart u v) (hown : w.ownsRow base e size u n xs) (hg : w.grownBy w' v.ownBlock) : w'.ownsRow base e size u n xs :=
  hown.kept hg (by
    cases hu : u.ownBlock with
    | none => exact .inl rfl
    | some k => exact .inr (fun e => h k hu e.symm))
theorem own_grew {B : Nat} {w w1 w2 w3 : World} {e : TypeId} {size n : Nat} {v : Value} {xs : List Value} (h : Grew B w w1) (hown : w2.ownsRow B e size v n xs) (hg : w1.grownBy w3 v.ownBlock) : Grew B w w3 :=
  ⟨h.1.grown hg h.2 (fun k hk => (hown.lt k hk).1), Nat.le_trans h.2 hg.size⟩
theorem cell_past {w : World} {a : Addr} {v : Value} {o : Obj} (h : w.cell? a = some v) : (w.alloc o).cell? a = some v :=
  (World.grownBy_alloc w o none).cell h (by simp)
theorem recs_ok {S : Rc} (h : In64 S) : ∀ k, Ok (recsTo S k) := by
  intro k
  induction k with
  | zero => exact Ok.nil
  | succ k ih =>
    rcases Nat.lt_or_ge k S.length with hlt | hge
    · rw [recs_succ hlt]
      exact ih.add (h.w _ (mem_getD hlt))
    · unfold recsTo at ih ⊢
      rw [List.take_of_length_le (by omega)]
      rwa [List.take_of_length_le hge] at ih
theorem off_row {u : Value} {B b : Nat} (h : ∀ j, u.ownBlock = some j → j < B) (hb : B ≤ b) : some b ≠ u.ownBlock := fun e => by have := h b e.symm; omega
theorem off_rows {u v : Value} {B base : Nat} {w : World} {e : TypeId} {size n : Nat} {xs : List Value} (h : ∀ j, u.ownBlock = some j → j < B) (hb : B ≤ base) (hown : w.ownsRow base e size v n xs) : v.ownBlock = none ∨ v.ownBlock ≠ u.ownBlock := by
  cases hv : v.ownBlock with
  | none => exact .inl rfl
  | some k => exact .inr (fun e => by have := h k e.symm; have := (hown.lt k hv).1; omega)
theorem from_bad {w : World} {base k : Nat} {v : Value} {S : Rc} (h : SL w base v S) (h64 : In64 S) (hn : S.length ≤ 5000) (hf : fromR S = some k) : Calls Try.prog 17 #[v] w fun e w' =>
    e = .returned (.tuple #[.pointer none, .agg #[.int .i64 (errAt S k), .int .i64 k]]) ∧ Below w.heap.size w w' := by
  refine (from_rec h h64 hn).mono ?_
  rintro e w' ⟨h, hb⟩
  rcases h with ⟨k', h1, h2⟩ | ⟨h1, _⟩
  · rw [hf] at h1; cases h1; exact ⟨h2, hb⟩
  · rw [hf] at h1; cases h1
theorem rfrom_bad {w : World} {base k : Nat} {v : Value} {S : Rc} (h : SL w base v S) (h64 : In64 S) (hn : S.length ≤ 5000) (hf : fromR S = some k) : Calls Try.prog 18 #[v] w fun e w' =>
    e = .returned (.tuple #[.pointer none, .agg #[.int .i64 (errAt S k), .int .i64 k]]) ∧ Below w.heap.size w w' := by
  refine (rfrom_rec h h64 hn).mono ?_
  rintro e w' ⟨h, hb⟩
  rcases h with ⟨k', h1, h2⟩ | ⟨h1, _⟩
  · rw [hf] at h1; cases h1; exact ⟨h2, hb⟩
  · rw [hf] at h1; cases h1
theorem from_ok {w : World} {base : Nat} {v : Value} {S : Rc} (h : SL w base v S) (h64 : In64 S) (hn : S.length ≤ 5000) (hf : fromR S = none) : Calls Try.prog 17 #[v] w fun e w' =>
    (∃ rb mb, e = .returned (.tuple #[.pointer (some ⟨rb, 0, none⟩), .agg #[.int .i64 0, .int .i64 0]]) ∧ Rec w' rb mb (recsTo S S.length) ∧ w.heap.size ≤ rb ∧ w.heap.size ≤ mb) ∧ Below w.heap.size w w' := by
  refine (from_rec h h64 hn).mono ?_
  rintro e w' ⟨h, hb⟩
  rcases h with ⟨k', h1, h2⟩ | ⟨_, h1⟩
  · rw [hf] at h1; cases h1
  · exact ⟨h1, hb⟩
theorem rfrom_ok {w : World} {base : Nat} {v : Value} {S : Rc} (h : SL w base v S) (h64 : In64 S) (hn : S.length ≤ 5000) (hf : fromR S = none) : Calls Try.prog 18 #[v] w fun e w' =>
    (∃ qb v', e = .returned (.tuple #[.pointer (some ⟨qb, 0, none⟩), .agg #[.int .i64 0, .int .i64 0]]) ∧ RRec w' qb v' (recsTo S S.length) ∧ w.heap.size ≤ qb) ∧ Below w.heap.size w w' := by
  refine (rfrom_rec h h64 hn).mono ?_
  rintro e w' ⟨h, hb⟩
  rcases h with ⟨k', h1, h2⟩ | ⟨_, h1⟩
  · rw [hf] at h1; cases h1
  · exact ⟨h1, hb⟩
set_option maxHeartbeats 3200000 in
theorem from_walk (p : Option Addr) (n c : Nat) (S : Rc) (w : World) (hn : n = S.length) (hb : BL w p S) (h64 : In64 S) :
    Calls Try.prog 3 #[.slice p n c] w fun e w' => e = .returned (.bool true) ∧ Below w.heap.size w w' := by
  subst hn
  by_cases hlen : 5000 < S.length
  · go_enter Try.func3, Try.ntmps3
    go_wp2
    go_ret
    exact ⟨rfl, Below.refl _ _⟩
  · have hl5 : S.length ≤ 5000 := by omega
    have HB := hide_ hb
    have H64 := hide_ h64
    clear hlen hb h64
    obtain ⟨i0, hi, hz0, hz1, hz2⟩ := info_parts info26
    go_enter Try.func3, Try.ntmps3
    go_wp2
    go_loopw [3, 4, 5] (fun u v i wr => ∃ k : Nat, k ≤ S.length ∧ i = .int .i64 k ∧ wr.ownsRow w.heap.size 26 2 u k (flat (S.take k)) ∧ wr.ownsRow w.heap.size 26 2 v k (flat (S.take k)) ∧ Apart u v ∧ Grew w.heap.size w wr)
      (fun _ _ i _ => S.length - (intOf i).toNat)
    case atStart => exact ⟨0, by omega, rfl, World.ownsRow_nil _ _ _ _, World.ownsRow_nil _ _ _ _, (fun k hk => by cases hk), Grew.refl _⟩
    case round =>
      obtain ⟨k, hk, rfl, hu, hv, hap, hgr⟩ := hrel
      by_cases hlt : k < S.length
      · obtain ⟨g, o, rfl, hg, c0, c1⟩ := HB.out.at_ hgr.1 hlt
        have hsn := take_snoc S k hlt
        generalize htt : (S.getD k (0, 0)).1 = t at *
        generalize hhh : (S.getD k (0, 0)).2 = b at *
        have hgd : S.getD k (0, 0) = (t, b) := by rw [← htt, ← hhh]
        rw [hgd] at hsn
        have HS := hide_ hsn
        clear hsn hgd htt hhh
        have HC := hide_ (fun wx => sample_nat t b wx)
        have hgw : g < wr.heap.size := by have := hgr.2; omega
        have hkb : (k + 1) * 16 ≤ 140737488355328 := by omega
        have tok1 : True := trivial
        have tok2 : True := trivial
        have tok3 : True := trivial
        have tok4 : True := trivial
        go_wp2
        go_region_law (first
          | (have _t := tok1; refine step_in rfl ?_; go_simp; go_at_call 16; go_must (
              (with_reducible refine (HC.out _).mono ?_)
              rintro e w2 ⟨rfl, hb2⟩
              have hbA : Below wr.heap.size wr w2 := ⟨hb2.os, hb2.tape, hb2.output, hb2.size, hb2.block⟩
              have d0 := (hbA.cell (p := ⟨g, o + k * 2, none⟩) hgw).trans c0
              have d1 := (hbA.cell (p := ⟨g, o + k * 2 + 1, none⟩) hgw).trans c1
              have dA0 := cell_past (o := .cells #[.int .i64 t, .float .f64 b] 26) d0
              have dA1 := cell_past (o := .cells #[.int .i64 t, .float .f64 b] 26) d1
              have hu2 := own_below hu hbA
              have hv2 := own_below hv hbA
              have hgr2 := hgr.step hbA
              have hs2 := hgr2.2
              clear tok1))
          | (have _t := tok2; go_must (
              refine step_push rfl (.tmp 19) (.tmp 25) 23 rfl w.heap.size 26 i0 (.agg #[.int .i64 0, .float .f64 0]) 2 16 Try.underlying23 hi hz0 hz1 hz2 rfl (by decide) (by decide) u3 k _ (by simp [Act.eval]) (hu2.alloc _) w2.heap.size #[.int .i64 t, .float .f64 b] 26 1 1 (by simp [Act.eval]) (heap_alloc_last _ _) rfl (by kernel_rfl) hkb (hgr2.alloc _).2 ?_
              intro u' w3 ho3 hg3 hf3 hn3
              have hgrA := hgr2.alloc (.cells #[.int .i64 t, .float .f64 b] 26)
              have hgr3 := own_grew hgrA hu2 hg3
              have hg3n : some g ≠ u3.ownBlock := fun e => by have := (hu2.lt _ e.symm).1; omega
              have e0 := hg3.cell (a := ⟨g, o + k * 2, none⟩) (cell_past d0) hg3n
              have e1 := hg3.cell (a := ⟨g, o + k * 2 + 1, none⟩) (cell_past d1) hg3n
              have hv3 := (hap.symm).kept (hv2.alloc (.cells #[.int .i64 t, .float .f64 b] 26)) hg3
              have hap3 := hap.fresh hf3 (fun k hk => ((hv2.alloc (.cells #[.int .i64 t, .float .f64 b] 26)).lt k hk).2)
              have hgw3 : g < w3.heap.size := by have := hgr3.2; omega
              clear tok2 hg3n hg3 hf3 hn3 hu2 hv2 hgrA))
          | (have _t := tok3; refine step_in rfl ?_; go_simp; go_at_call 16; go_must (
              (with_reducible refine (HC.out _).mono ?_)
              rintro e w4 ⟨rfl, hb4⟩
              have f0 := (hb4.cell (p := ⟨g, o + k * 2, none⟩) hgw3).trans e0
              have f1 := (hb4.cell (p := ⟨g, o + k * 2 + 1, none⟩) hgw3).trans e1
              have hu4 := own_below ho3 hb4
              have hv4 := own_below hv3 hb4
              have hgr4 := hgr3.step hb4
              clear tok3))
          | (have _t := tok4; go_must (
              refine step_push rfl (.tmp 27) (.tmp 33) 23 rfl w.heap.size 26 i0 (.agg #[.int .i64 0, .float .f64 0]) 2 16 Try.underlying23 hi hz0 hz1 hz2 rfl (by decide) (by decide) u4 k _ (by simp [Act.eval]) (hv4.alloc _) w4.heap.size #[.int .i64 t, .float .f64 b] 26 1 1 (by simp [Act.eval]) (heap_alloc_last _ _) rfl (by kernel_rfl) hkb (hgr4.alloc _).2 ?_
              intro v' w5 ho5 hg5 hf5 hn5
              have hgrB := hgr4.alloc (.cells #[.int .i64 t, .float .f64 b] 26)
              have hgr5 := own_grew hgrB hv4 hg5
              have hu5 := hap3.kept (hu4.alloc (.cells #[.int .i64 t, .float .f64 b] 26)) hg5
              have hap5 := (hap3.symm.fresh hf5 (fun k hk => ((hu4.alloc (.cells #[.int .i64 t, .float .f64 b] 26)).lt k hk).2)).symm
              clear tok4 hg5 hf5 hn5 hu4 hv4 hgrB)))
        all_goals go_wp2
        all_goals go_roundw
        all_goals first
          | (case rel =>
              refine ⟨k + 1, by omega, by go_num, ?_, ?_, hap5, hgr5⟩
              · rw [HS.out, flat_append]; exact hu5
              · rw [HS.out, flat_append]; exact ho5)
          | skip
        all_goals (simp [intOf]; omega)
      · obtain rfl : k = S.length := by omega
        rw [List.take_length] at hu hv
        have hge : ¬ S.length < S.length := by omega
        have hu' : SL wr w.heap.size u3 S := hu
        have hv' : SL wr w.heap.size u4 S := hv
        have HU := hide_ hu'
        have HV := hide_ hv'
        obtain ⟨p1, c1, rfl⟩ := row_slice hu
        obtain ⟨p2, c2, rfl⟩ := row_slice hv
        clear hu hv hu' hv'
        have hu' := HU.out
        have hv' := HV.out
        have tok1 : True := trivial
        cases hfr : fromR S with
        | some k =>
          have HF1 := hide_ (from_bad hu' H64.out hl5 hfr)
          have HF2 := hide_ (fun (wx : World) (h : SL wx w.heap.size (.slice p2 S.length c2) S) => rfrom_bad h H64.out hl5 hfr)
          generalize errAt S k = ev at HF1 HF2
          clear hfr hu' hv'
          go_wp2_with (first
            | (go_at_call 17; (with_reducible refine (HF1.out).mono ?_); rintro e w1 ⟨rfl, hb1⟩; have HVA := hide_ ((HV.out.below hb1).below (below_alloc w1 (.cells #[.int .i64 ev, .int .i64 k] 34))); have HUA := hide_ ((HU.out.below hb1).below (below_alloc w1 (.cells #[.int .i64 ev, .int .i64 k] 34))); have hg1 := (hgr.step hb1).alloc (.cells #[.int .i64 ev, .int .i64 k] 34))
            | (go_at_call 18; go_must ((with_reducible refine (HF2.out _ HVA.out).mono ?_); rintro e w2 ⟨rfl, hb2⟩; have HVB := hide_ ((HVA.out.below hb2).below (below_alloc w2 (.cells #[.int .i64 ev, .int .i64 k] 34))); have HUB := hide_ ((HUA.out.below hb2).below (below_alloc w2 (.cells #[.int .i64 ev, .int .i64 k] 34))); have hg2 := (hg1.step hb2).alloc (.cells #[.int .i64 ev, .int .i64 k] 34); have k1 := heap_past (o' := .cells #[.int .i64 ev, .int .i64 k] 34) (blk_below hb2); obtain ⟨d0, d1⟩ := cells_two k1; clear k1))
            | ((with_reducible apply wpList_store_new); (with_reducible rfl); (with_reducible rfl); rfl; rfl; kernel_rfl; rfl; kernel_rfl)
            | (go_at_call 19; go_must ((with_reducible refine (same_true HUB.out HVB.out hl5).mono ?_); rintro e w3 ⟨rfl, hb3⟩; have HO := hide_ (over_any (HUB.out.below hb3) hl5); have hg3 := hg2.step hb3; have HUC := hide_ (HUB.out.below hb3)))
            | (go_at_call 20; go_must ((with_reducible refine (HO.out).mono ?_); rintro e w4 ⟨rfl, hb4⟩; have hg4 := own_grew hg3 HUC.out hb4)))
          go_ret
          exact ⟨rfl, hg4.below⟩
        | none =>
          have HF1 := hide_ (from_ok hu' H64.out hl5 hfr)
          have HF2 := hide_ (fun (wx : World) (h : SL wx w.heap.size (.slice p2 S.length c2) S) => rfrom_ok h H64.out hl5 hfr)
          have hrl : (recsTo S S.length).length ≤ 4096 := (recs_ok H64.out S.length).len
          generalize recsTo S S.length = L at HF1 HF2 hrl
          have hol : (ones L).length ≤ 5000 := Nat.le_trans (List.length_filter_le _ _) (by omega)
          have hll : (lost L).length ≤ 5000 := by unfold lost; rw [List.length_map]; exact Nat.le_trans (List.length_filter_le _ _) (by omega)
          have hp1 : ∀ j, (Value.slice p1 S.length c1).ownBlock = some j → j < wr.heap.size := fun j hj => (hu'.lt j hj).2
          clear hfr hu' hv'
          go_wp2_with (first
            | (go_at_call 17; (with_reducible refine (HF1.out).mono ?_); rintro e w1 ⟨⟨rb, mb, rfl, hrec1, hrb, hmb⟩, hb1⟩; have HVA := hide_ ((HV.out.below hb1).below (below_alloc w1 (.cells #[.int .i64 0, .int .i64 0] 34))); have HUA := hide_ ((HU.out.below hb1).below (below_alloc w1 (.cells #[.int .i64 0, .int .i64 0] 34))); have hg1 := (hgr.step hb1).alloc (.cells #[.int .i64 0, .int .i64 0] 34); have hrecA := hrec1.below (below_alloc w1 (.cells #[.int .i64 0, .int .i64 0] 34)); clear hrec1)
            | (go_at_call 18; go_must ((with_reducible refine (HF2.out _ HVA.out).mono ?_); rintro e w2 ⟨⟨qb, v', rfl, hrr2, hqb⟩, hb2⟩; have HVB := hide_ ((HVA.out.below hb2).below (below_alloc w2 (.cells #[.int .i64 0, .int .i64 0] 34))); have HUB := hide_ ((HUA.out.below hb2).below (below_alloc w2 (.cells #[.int .i64 0, .int .i64 0] 34))); have hg2 := (hg1.step hb2).alloc (.cells #[.int .i64 0, .int .i64 0] 34); have k1 := heap_past (o' := .cells #[.int .i64 0, .int .i64 0] 34) (blk_below hb2); obtain ⟨d0, d1⟩ := cells_two k1; have hrecB := (hrecA.below hb2).below (below_alloc w2 (.cells #[.int .i64 0, .int .i64 0] 34)); have hqb' : wr.heap.size ≤ qb := Nat.le_trans hb1.size (Nat.le_trans (below_alloc w1 (.cells #[.int .i64 0, .int .i64 0] 34)).size hqb); have hrrB := hrr2.below (below_alloc w2 (.cells #[.int .i64 0, .int .i64 0] 34)); clear k1 hrecA hrr2))
            | ((with_reducible apply wpList_store_new); (with_reducible rfl); (with_reducible rfl); rfl; rfl; kernel_rfl; rfl; kernel_rfl)
            | (go_at_call 19; have _t := tok1; go_must ((with_reducible refine (same_true HUB.out HVB.out hl5).mono ?_); rintro e w3 ⟨rfl, hb3⟩; have HO := hide_ (over_any (HUB.out.below hb3) hl5); have hg3 := hg2.step hb3; have HUC := hide_ (HUB.out.below hb3); have hrecC := hrecB.below hb3; have hrrC := hrrB.below hb3; clear hrecB hrrB tok1))
            | (go_at_call 20; go_must ((with_reducible refine (HO.out).mono ?_); rintro e w4 ⟨rfl, hb4⟩; have hg4 := own_grew hg3 HUC.out hb4; have hr4 := hrecC.kept hb4 (off_row hp1 hrb) (off_row hp1 hmb); have hq4 := hrrC.kept hb4 (off_row hp1 hqb') (off_rows hp1 hqb' hrrC.own); have HS := hide_ (samples_rec hr4); clear hrecC hrrC))
            | (go_at_call 21; go_must ((with_reducible refine (HS.out).mono ?_); rintro e w5 ⟨v5, rfl, hs5, _, hb5⟩; have hg5 := hg4.step hb5; have hr5 := hr4.below hb5; have hq5 := hq4.below hb5; have HS2 := hide_ (rsamples_rec hq5); clear hr4 hq4 HS))
            | (go_at_call 22; go_must ((with_reducible refine (HS2.out).mono ?_); rintro e w6 ⟨v6, rfl, hs6, _, hb6⟩; have hg6 := hg5.step hb6; have hr6 := hr5.below hb6; have hq6 := hq5.below hb6; have HS3 := hide_ (same_true (SL.below hs5 hb6) hs6 hol); clear hr5 hq5 HS2 hs5 hs6))
            | (go_at_call 19; go_must ((with_reducible refine (HS3.out).mono ?_); rintro e w7 ⟨rfl, hb7⟩; have hg7 := hg6.step hb7; have hr7 := hr6.below hb7; have hq7 := hq6.below hb7; have HS4 := hide_ (lost_rec hr7); clear hr6 hq6 HS3))
            | (go_at_call 24; go_must ((with_reducible refine (HS4.out).mono ?_); rintro e w8 ⟨v8, rfl, hs8, _, hb8⟩; have hg8 := hg7.step hb8; have hq8 := hq7.below hb8; have HS5 := hide_ (rlost_rec hq8); clear hr7 hq7 HS4))
            | (go_at_call 25; go_must ((with_reducible refine (HS5.out).mono ?_); rintro e w9 ⟨v9, rfl, hs9, _, hb9⟩; have hg9 := hg8.step hb9; have HS6 := hide_ (sameInts_true (own_below hs8 hb9) hs9 hll); clear hq8 HS5 hs8 hs9))
            | (go_at_call 23; go_must ((with_reducible refine (HS6.out).mono ?_); rintro e w10 ⟨rfl, hb10⟩; have hg10 := hg9.step hb10; clear HS6)))
          go_ret
          exact ⟨rfl, hg10.below⟩
end Go.Proofs.Ytlgnidjkilbdfaa
