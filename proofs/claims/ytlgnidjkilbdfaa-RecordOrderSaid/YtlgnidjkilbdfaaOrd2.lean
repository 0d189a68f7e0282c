/- Chapter 19: RecordOrder, the walk. -/
import Derived.Test.YtlgnidjkilbdfaaOrd
namespace Go.Proofs.Ytlgnidjkilbdfaa
open Go.RowKit
set_option linter.unusedVariables false
set_option maxRecDepth 100000
theorem Rec.map {w : World} {rb mb : Nat} {L : Rc} (h : Rec w rb mb L) : ∃ es clock, w.heap[mb]? = some (.map es clock) := by
  obtain ⟨es, clock, hb, _⟩ := h.own
  exact ⟨es, clock, hb⟩
theorem Rec.row {w w' : World} {rb mb base : Nat} {L S : Rc} {v : Value} {n : Nat} {xs : List Value} (h : Rec w rb mb L) (hv : w.ownsRow base 26 2 v n xs) (hg : w.grownBy w' v.ownBlock) : Rec w' rb mb L := by
  refine h.kept hg (fun e => row_type hv h.box (by decide) e.symm) (fun e => ?_)
  obtain ⟨es, clock, hm⟩ := h.map
  rcases hv.2 with ⟨rfl, _⟩ | ⟨g, cap, cur, rfl, _, hg', _⟩
  · simp [Value.ownBlock] at e
  · simp [Value.ownBlock] at e
    subst e
    rw [hm] at hg'
    cases hg'
theorem row_rec {w w' : World} {rb mb base : Nat} {L : Rc} {v : Value} {n : Nat} {xs : List Value} (h : Rec w rb mb L) (hv : w.ownsRow base 26 2 v n xs) (hg : w.grownBy w' (some mb)) : w'.ownsRow base 26 2 v n xs := by
  refine hv.kept hg ?_
  obtain ⟨es, clock, hm⟩ := h.map
  rcases hv.2 with ⟨rfl, _⟩ | ⟨g, cap, cur, rfl, _, hg', _⟩
  · exact .inl rfl
  · refine .inr (fun e => ?_)
    simp [Value.ownBlock] at e
    subst e
    rw [hm] at hg'
    cases hg'
/-- Two records of their own. -/
structure Two (w : World) (ra ma rb mb : Nat) (L M : Rc) : Prop where
  a : Rec w ra ma L
  b : Rec w rb mb M
  n1 : ra ≠ mb
  n2 : ma ≠ mb
  n3 : rb ≠ ma
theorem Two.addA {w w' : World} {ra ma rb mb : Nat} {L L' M : Rc} (h : Two w ra ma rb mb L M) (hr : Rec w' ra ma L') (hg : w.grownBy w' (some ma)) : Two w' ra ma rb mb L' M :=
  ⟨hr, h.b.kept hg (fun e => h.n3 (Option.some.inj e)) (fun e => h.n2 (Option.some.inj e).symm), h.n1, h.n2, h.n3⟩
theorem Two.addB {w w' : World} {ra ma rb mb : Nat} {L M M' : Rc} (h : Two w ra ma rb mb L M) (hr : Rec w' rb mb M') (hg : w.grownBy w' (some mb)) : Two w' ra ma rb mb L M' :=
  ⟨h.a.kept hg (fun e => h.n1 (Option.some.inj e)) (fun e => h.n2 (Option.some.inj e)), hr, h.n1, h.n2, h.n3⟩
theorem Two.row {w w' : World} {ra ma rb mb base : Nat} {L M : Rc} {v : Value} {n : Nat} {xs : List Value} (h : Two w ra ma rb mb L M) (hv : w.ownsRow base 26 2 v n xs) (hg : w.grownBy w' v.ownBlock) : Two w' ra ma rb mb L M :=
  ⟨h.a.row (S := []) hv hg, h.b.row (S := []) hv hg, h.n1, h.n2, h.n3⟩
theorem Two.below {w w' : World} {ra ma rb mb : Nat} {L M : Rc} (h : Two w ra ma rb mb L M) (hb : Below w.heap.size w w') : Two w' ra ma rb mb L M := ⟨h.a.below hb, h.b.below hb, h.n1, h.n2, h.n3⟩
theorem Two.alloc {w : World} {ra ma rb mb : Nat} {L M : Rc} (h : Two w ra ma rb mb L M) (o : Obj) : Two (w.alloc o) ra ma rb mb L M := h.below (below_alloc w o)
set_option maxHeartbeats 8000000 in
theorem order_walk (p : Option Addr) (n c : Nat) (S : Rc) (w : World) (hn : n = S.length) (hb : BL w p S) (h64 : In64 S) :
    Calls Try.prog 4 #[.slice p n c] w fun e w' => e = .returned (.bool true) ∧ Below w.heap.size w w' := by
  subst hn
  have HA := hide_ awake_any
  by_cases hlen : 500 < S.length
  · go_enter Try.func4, Try.ntmps4
    go_wp2_with (go_at_call 26; (with_reducible refine (HA.out _).mono ?_); rintro e w1 ⟨rfl, hb1⟩)
    go_ret
    exact ⟨rfl, hb1⟩
  have hl5 : S.length ≤ 500 := by omega
  have HB := hide_ hb
  have H64 := hide_ h64
  have H0 := hide_ new_at
  have HC := hide_ sample_nat
  clear hlen hb h64
  obtain ⟨i0, hi, hz0, hz1, hz2⟩ := info_parts info26
  have tok1 : True := trivial
  go_enter Try.func4, Try.ntmps4
  go_wp2_with (first
    | (go_at_call 26; (with_reducible refine (HA.out _).mono ?_); rintro e w1 ⟨rfl, hb1⟩; have g1 := Grew.of hb1; clear hb1)
    | (go_at_call 27; have _t := tok1; (with_reducible refine (H0.out _).mono ?_); rintro e w2 ⟨ra, ma, rfl, r1, hra, hma, hb1⟩; have g2 := g1.step hb1; have hmaB := Nat.le_trans g1.2 hma; clear tok1 hb1 g1)
    | (go_at_call 27; go_must ((with_reducible refine (H0.out _).mono ?_); rintro e w3 ⟨rb, mb, rfl, r2, hrb, hmb, hb1⟩; have g3 := g2.step hb1; have h2 : Two w3 ra ma rb mb [] [] := ⟨r1.below hb1, r2, (by have := r1.lt; omega), (by have := r1.lt; omega), (by have := r1.lt; omega)⟩; have hmbB : w.heap.size ≤ mb := Nat.le_trans g2.2 hmb; clear hb1 g2 r1 r2)))
  go_loopw [6, 7] (fun u i wr => ∃ k : Nat, k ≤ S.length ∧ i = .int .i64 k ∧ Two wr ra ma rb mb (recsTo S k) [] ∧ wr.ownsRow w.heap.size 26 2 u (acc S k).length (flat (acc S k)) ∧ Grew w.heap.size w wr)
    (fun _ i _ => S.length - (intOf i).toNat)
  case atStart => exact ⟨0, by omega, rfl, h2, World.ownsRow_nil _ _ _ _, g3⟩
  case round =>
    clear h2 g3
    obtain ⟨k, hk, rfl, h2, hu, hgr⟩ := hrel
    by_cases hlt : k < S.length
    · obtain ⟨g, o, rfl, hg, c0, c1⟩ := HB.out.at_ hgr.1 hlt
      have hmem := mem_getD hlt
      have ht := H64.out.i _ hmem
      have hw := H64.out.w _ hmem
      have hsu := recs_succ hlt
      have hee : errAt S k = addE (recsTo S k) (S.getD k (0, 0)).1 := rfl
      have hac : acc S (k + 1) = if errAt S k = 0 then acc S k ++ [S.getD k (0, 0)] else acc S k := rfl
      have hal := acc_len S k
      generalize htt : (S.getD k (0, 0)).1 = t at *
      generalize hhh : (S.getD k (0, 0)).2 = b at *
      have hgd : S.getD k (0, 0) = (t, b) := by rw [← htt, ← hhh]
      rw [hgd] at hac
      have HSU := hide_ hsu
      have HEE := hide_ hee
      have HAC := hide_ hac
      have HW := hide_ (And.intro ht hw)
      have hgw : g < wr.heap.size := by have := hgr.2; omega
      have hgma : some g ≠ some ma := by simp; omega
      clear hsu hee hac hmem ht hw hgd htt hhh
      by_cases he : errAt S k = 0
      · have HE := hide_ he
        clear he
        have tok1 : True := trivial
        go_wp2_with (first
          | (go_at_call 16; have _t := tok1; go_must ((with_reducible refine (HC.out t b _).mono ?_); rintro e w4 ⟨rfl, hb4⟩; have d0 := (hb4.cell (p := ⟨g, o + k * 2, none⟩) hgw).trans c0; have d1 := (hb4.cell (p := ⟨g, o + k * 2 + 1, none⟩) hgw).trans c1; have h4 := h2.below hb4; have hu4 := own_below hu hb4; have hgr4 := hgr.step hb4; have hgw4 := Nat.lt_of_lt_of_le hgw hb4.size; clear tok1 c0 c1 hb4))
          | (go_at_call 28; go_must ((with_reducible refine (add_at 0 (recsTo S (k + 1)) h4.a HW.out.1 HW.out.2 (HEE.out.symm.trans HE.out) HSU.out.symm).mono ?_); rintro e w5 ⟨rfl, r5, hg5⟩; have e0 := hg5.cell (a := ⟨g, o + k * 2, none⟩) d0 hgma; have e1 := hg5.cell (a := ⟨g, o + k * 2 + 1, none⟩) d1 hgma; have h5 := h4.addA r5 hg5; have hu5 := row_rec h4.a hu4 hg5; have hgr5 := hgr4.add hg5 hmaB; clear r5 hg5 h4 hu4 hgr4 d0 d1))
          | (go_at_call 16; go_must ((with_reducible refine (HC.out t b _).mono ?_); rintro e w6 ⟨rfl, hb6⟩; have h6 := h5.below hb6; have hu6 := own_below hu5 hb6; have hgr6 := hgr5.step hb6; have hs6 := hgr6.2; clear hb6 h5 hu5 hgr5))
          | (at_builtin; go_must (refine wpList_push2 rfl _ _ 23 rfl w.heap.size 26 i0 (.agg #[.int .i64 0, .float .f64 0]) 2 16 Try.underlying23 hi hz0 hz1 hz2 rfl (by decide) (by decide) _ (acc S k).length _ rfl (hu6.alloc _) w6.heap.size #[.int .i64 t, .float .f64 b] 26 1 1 rfl (heap_alloc_last _ _) rfl (by kernel_rfl) (by omega) (hgr6.alloc _).2 ?_; intro v' w7 ho7 hg7 hf7 hn7; have h7 := (h6.alloc (.cells #[.int .i64 t, .float .f64 b] 26)).row (hu6.alloc _) hg7; have hgr7 := own_grew (hgr6.alloc (.cells #[.int .i64 t, .float .f64 b] 26)) hu6 hg7; clear hg7 hf7 hn7 h6 hu6 hgr6)))
        go_roundw
        case rel =>
          refine ⟨k + 1, by omega, by go_num, h7, ?_, hgr7⟩
          rw [HAC.out, if_pos HE.out, List.length_append, flat_append]
          exact ho7
        case measure => simp [intOf]; omega
      · have HE := hide_ he
        have hne : (errAt S k == 0) = false := by simpa using he
        have hrs : addR (recsTo S k) t b = recsTo S k := by unfold addR; rw [if_neg (by rw [← HEE.out]; exact he)]
        have HRS := hide_ hrs
        clear he hrs
        obtain ⟨ev, hev⟩ : ∃ ev, ev = errAt S k := ⟨_, rfl⟩
        rw [← hev] at hne
        have HEV := hide_ hev
        clear hev
        go_wp2_with (first
          | (go_at_call 16; go_must ((with_reducible refine (HC.out t b _).mono ?_); rintro e w4 ⟨rfl, hb4⟩; have h4 := h2.below hb4; have hu4 := own_below hu hb4; have hgr4 := hgr.step hb4; clear hb4))
          | (go_at_call 28; go_must ((with_reducible refine (add_at ev (recsTo S k) h4.a HW.out.1 HW.out.2 (HEE.out.symm.trans HEV.out.symm) HRS.out).mono ?_); rintro e w5 ⟨rfl, r5, hg5⟩; have h5 := h4.addA r5 hg5; have hu5 := row_rec h4.a hu4 hg5; have hgr5 := hgr4.add hg5 hmaB; clear r5 hg5 h4 hu4 hgr4)))
        go_roundw
        case rel =>
          refine ⟨k + 1, by omega, by go_num, ?_, ?_, hgr5⟩
          · rw [HSU.out, HRS.out]; exact h5
          · rw [HAC.out, if_neg HE.out]; exact hu5
        case measure => simp [intOf]; omega
    · obtain rfl : k = S.length := by omega
      have hge : ¬ S.length < S.length := by omega
      have hac := acc_ok (S := S) S.length (Nat.le_refl _)
      have haw := acc_w H64.out S.length (Nat.le_refl _)
      have hal := acc_len S S.length
      have hrl : (recsTo S S.length).length ≤ 500 := by rw [hac.len]; omega
      generalize acc S S.length = I at *
      generalize recsTo S S.length = LA at *
      have HU := hide_ (show SL wr w.heap.size _ I from hu)
      obtain ⟨pu, cu, rfl⟩ := row_slice hu
      have HAC := hide_ hac
      have HAW := hide_ haw
      have hI5 : I.length ≤ 500 := by omega
      clear hu hac haw hlt hal HB H64 HC
      obtain ⟨W2, hW2⟩ : ∃ W2, W2 = wr := ⟨_, rfl⟩
      go_wp2
      go_loopw [8] (fun i wx => ∃ (k : Nat) (M : Rc), k ≤ I.length ∧ i = .int .i64 ((k : Int) - 1) ∧ Two wx ra ma rb mb LA M ∧ Hid (Sub I M (fun j => k ≤ j) ∧ M.length + k = I.length) ∧ SL wx w.heap.size (.slice pu I.length cu) I ∧ Grew w.heap.size w wx)
        (fun i _ => (intOf i + 1).toNat)
      case atStart => exact ⟨I.length, [], Nat.le_refl _, rfl, h2, hide_ ⟨(Sub.none I).iff (fun k hk => ⟨fun h => h.elim, fun h => by omega⟩), by simp⟩, HU.out, hgr⟩
      case round =>
        clear h2 hgr HU
        obtain ⟨k, M, hk, rfl, h2, hM, hu, hgr⟩ := hrel
        rcases k with _ | j
        · have hML : M = LA := (hM.out.1.iff (fun k hk => by simp)).all h2.b.ok.asc h2.a.ok.asc HAC.out.mem
          subst hML
          have hsl := split_len M
          have hol : (ones M).length ≤ 500 := by omega
          have hll : (lost M).length ≤ 500 := by omega
          have hsum : (((ones M).length : Int) + ((lost M).length : Int) != (I.length : Int)) = false := by
            have := HAC.out.len
            simp; omega
          have HU := hide_ hu
          rw [show ((0 : Nat) : Int) - 1 = -1 by rfl]
          clear hM hsl hu
          have tok1 : True := trivial
          have tok2 : True := trivial
          have tok3 : True := trivial
          have tok4 : True := trivial
          have tok5 : True := trivial
          have tok6 : True := trivial
          go_wp2_with (first
            | (go_at_call 21; have _t := tok1; go_must ((with_reducible refine (samples_rec h2.a).mono ?_); rintro e w1 ⟨v1, rfl, s1, _, hb⟩; have h3 := h2.below hb; have hg1 := hgr.step hb; have HU1 := hide_ (HU.out.below hb); clear h2 hgr hb tok1 HU))
            | (go_at_call 21; have _t := tok2; go_must ((with_reducible refine (samples_rec h3.b).mono ?_); rintro e w2 ⟨v2, rfl, s2, _, hb⟩; have h4 := h3.below hb; have hg2 := hg1.step hb; have s1' := own_below s1 hb; have HU2 := hide_ (HU1.out.below hb); clear h3 hg1 s1 hb tok2 HU1))
            | (go_at_call 19; have _t := tok3; go_must (have HSS := hide_ (same_true (S := ones M) s1' s2 (by omega)); (with_reducible refine (HSS.out).mono ?_); rintro e w3 ⟨rfl, hb⟩; have h5 := h4.below hb; have hg3 := hg2.step hb; have HU3 := hide_ (HU2.out.below hb); clear h4 hg2 s1' s2 hb tok3 HU2))
            | (go_at_call 24; have _t := tok4; go_must ((with_reducible refine (lost_rec h5.a).mono ?_); rintro e w4 ⟨v4, rfl, s4, _, hb⟩; have h6 := h5.below hb; have hg4 := hg3.step hb; have HU4 := hide_ (HU3.out.below hb); clear h5 hg3 hb tok4 HU3))
            | (go_at_call 24; have _t := tok5; go_must ((with_reducible refine (lost_rec h6.b).mono ?_); rintro e w5 ⟨v5, rfl, s5, _, hb⟩; have h7 := h6.below hb; have hg5 := hg4.step hb; have s4' := own_below s4 hb; have HU5 := hide_ (HU4.out.below hb); clear h6 hg4 s4 hb tok5 HU4))
            | (go_at_call 23; go_must (have HSS := hide_ (sameInts_true (S := lost M) s4' s5 (by omega)); (with_reducible refine (HSS.out).mono ?_); rintro e w6 ⟨rfl, hb⟩; have h8 := h7.below hb; have hg6 := hg5.step hb; have HU6 := hide_ (HU5.out.below hb); clear h7 hg5 s4' s5 hb HU5))
            | (go_at_call 29; go_must ((with_reducible refine (len_rec h8.a).mono ?_); rintro e w7 ⟨rfl, hb⟩; have h9 := h8.below hb; have hg7 := hg6.step hb; have HU7 := hide_ (HU6.out.below hb); clear h8 hg6 hb HU6))
            | (go_at_call 24; have _t := tok6; go_must ((with_reducible refine (lost_rec h9.a).mono ?_); rintro e w8 ⟨v8, rfl, s8, _, hb⟩; have h10 := h9.below hb; have hg8 := hg7.step hb; have HU8 := hide_ (HU7.out.below hb); obtain ⟨p8, c8, rfl⟩ := row_slice s8; clear h9 hg7 s8 hb tok6 HU7)))
          have hMI := hide_ (show Sub I M (fun _ => True) from fun p => by
            rw [HAC.out.mem p]
            constructor
            · intro hp
              obtain ⟨k, hk, e⟩ := List.getElem_of_mem hp
              exact ⟨k, hk, by rw [List.getD_eq_getElem?_getD, List.getElem?_eq_getElem hk]; exact e, trivial⟩
            · rintro ⟨k, hk, rfl, _⟩; exact mem_getD hk)
          have hML := HAC.out.len
          go_loopw [9] (fun i wx => ∃ (k : Nat) (N : Rc), k ≤ I.length + 1 ∧ i = .int .i64 k ∧ Two wx ra ma rb mb M N ∧ Hid (Sub I N (fun j => j % 2 = 1 ∨ k ≤ j) ∧ k % 2 = 0 ∧ N.length ≤ 500) ∧ Hid (SL wx w.heap.size (.slice pu I.length cu) I) ∧ Grew w.heap.size w wx)
            (fun i _ => I.length + 1 - (intOf i).toNat)
          case atStart => exact ⟨0, M, by omega, rfl, h10, hide_ ⟨hMI.out.iff (fun k hk => by simp), rfl, by omega⟩, HU8, hg8⟩
          case round =>
            clear h10 hg8 HU8 hsum
            obtain ⟨k, N, hk, rfl, h2, hN, hu, hgr⟩ := hrel
            by_cases hlt : k < I.length
            · obtain ⟨g, rfl, hl, hc0, hc1⟩ := hu.out.cells hlt
              obtain ⟨a1, a2, a3⟩ := hN.out.1.del HAC.out.dis hlt (c' := fun j => j % 2 = 1 ∨ k + 2 ≤ j) (.inr (Nat.le_refl _)) (fun j hj => by have := hN.out.2.1; omega)
              have hrng := HAC.out.rng _ (mem_getD hlt)
              generalize (I.getD k (0, 0)).1 = t at *
              have ht : I64 t := i64s (by omega) (by omega)
              have hdd : delT (delT N t) t = delT N t := by unfold delT; rw [List.filter_filter]; simp
              have HA1 := hide_ (take_at 0 _ h2.b ht a1 rfl)
              have HF := hide_ (And.intro a2 (And.intro a3 (And.intro ht hdd)))
              have hne : some g ≠ some mb := by
                intro e
                cases e
                obtain ⟨es, clock, hm⟩ := h2.b.map
                unfold World.cell? at hc0
                rw [hm] at hc0
                cases hc0
              have tok1 : True := trivial
              clear a1 a2 a3 hrng ht hdd hc1
              go_wp2_with (first
                | (go_at_call 30; have _t := tok1; go_must ((with_reducible refine (HA1.out).mono ?_); rintro e w5 ⟨rfl, r5, hg5⟩; have h5 := h2.addB r5 hg5; have hu5 := hide_ (show SL w5 w.heap.size _ I from row_rec h2.b hu.out hg5); have hgr5 := hgr.add hg5 hmbB; have hd0 := hg5.cell (a := ⟨g, k * 2, none⟩) hc0 hne; clear r5 hg5 tok1 h2 hu hgr hc0))
                | (go_at_call 30; go_must (have HA2 := hide_ (take_at 6 _ h5.b HF.out.2.2.1 HF.out.1 HF.out.2.2.2); (with_reducible refine (HA2.out).mono ?_); rintro e w6 ⟨rfl, r6, hg6⟩; have h6 := h5.addB r6 hg6; have hu6 := hide_ (show SL w6 w.heap.size _ I from row_rec h5.b hu5.out hg6); have hgr6 := hgr5.add hg6 hmbB; clear r6 hg6 h5 hu5 hgr5 hd0)))
              go_roundw
              case rel => exact ⟨k + 2, _, by omega, by go_num, h6, hide_ ⟨HF.out.2.1, by have := hN.out.2.1; omega, Nat.le_trans (del_len _ _) hN.out.2.2⟩, hu6, hgr6⟩
              case measure => simp [intOf]; omega
            · have hge : I.length ≤ k := by omega
              go_wp2
              go_loopw [10] (fun i wy => ∃ (q : Nat) (N : Rc), q ≤ I.length + 1 ∧ i = .int .i64 q ∧ Two wy ra ma rb mb M N ∧ Hid (Sub I N (fun j => j % 2 = 1 ∨ j < q) ∧ q % 2 = 0 ∧ N.length ≤ 500 + q) ∧ Hid (SL wy w.heap.size (.slice pu I.length cu) I) ∧ Grew w.heap.size w wy)
                (fun i _ => I.length + 1 - (intOf i).toNat)
              case atStart => exact ⟨0, N, by omega, rfl, h2, hide_ ⟨hN.out.1.iff (fun j hj => by omega), rfl, by have := hN.out.2.2; omega⟩, hu, hgr⟩
              case round =>
                clear h2 hN hu hgr hk hlt hge
                obtain ⟨q, N, hk, rfl, h2, hN, hu, hgr⟩ := hrel
                by_cases hlt : q < I.length
                · obtain ⟨g, rfl, hl, hc0, hc1⟩ := hu.out.cells hlt
                  obtain ⟨a1, a2⟩ := hN.out.1.add HAC.out.dis HAC.out.rng hlt (c' := fun j => j % 2 = 1 ∨ j < q + 2) (by have := hN.out.2.1; omega) (by have := hN.out.2.2; omega) (fun j hj => by have := hN.out.2.1; omega)
                  have hmem := mem_getD hlt
                  have hw := HAW.out _ hmem
                  have hrng := HAC.out.rng _ hmem
                  have HA1 := hide_ (add_at 0 _ h2.b (i64s (by omega) (by omega)) hw a1 (show addR N _ _ = insT N (I.getD q (0, 0)).1 (I.getD q (0, 0)).2 by unfold addR; rw [if_pos a1]))
                  have HA2 := hide_ a2
                  generalize (I.getD q (0, 0)).1 = t at *
                  generalize (I.getD q (0, 0)).2 = b at *
                  clear a1 a2 hmem hrng
                  go_wp2_with (go_at_call 28; go_must ((with_reducible refine (HA1.out).mono ?_); rintro e w5 ⟨rfl, r5, hg5⟩; have h5 := h2.addB r5 hg5; have hu5 := hide_ (show SL w5 w.heap.size _ I from row_rec h2.b hu.out hg5); have hgr5 := hgr.add hg5 hmbB; clear r5 hg5))
                  go_roundw
                  case rel => exact ⟨q + 2, _, by omega, by go_num, h5, hide_ ⟨HA2.out, by have := hN.out.2.1; omega, by rw [len_ins]; have := hN.out.2.2; omega⟩, hu5, hgr5⟩
                  case measure => simp [intOf]; omega
                · have hNM : N = M := (hN.out.1.iff (fun j hj => by simp; omega)).all h2.b.ok.asc h2.a.ok.asc HAC.out.mem
                  subst hNM
                  have hge : I.length ≤ q := by omega
                  clear hN hu hMI
                  have tok1 : True := trivial
                  have tok2 : True := trivial
                  have tok3 : True := trivial
                  have tok4 : True := trivial
                  go_wp2_with (first
                    | (go_at_call 21; have _t := tok1; go_must ((with_reducible refine (samples_rec h2.a).mono ?_); rintro e w1 ⟨v1, rfl, s1, _, hb⟩; have h3 := h2.below hb; have hg1 := hgr.step hb; clear h2 hgr hb tok1))
                    | (go_at_call 21; have _t := tok2; go_must ((with_reducible refine (samples_rec h3.b).mono ?_); rintro e w2 ⟨v2, rfl, s2, _, hb⟩; have h4 := h3.below hb; have hg2 := hg1.step hb; have s1' := own_below s1 hb; clear h3 hg1 s1 hb tok2))
                    | (go_at_call 19; have _t := tok3; go_must (have HSS := hide_ (same_true (S := ones N) s1' s2 (by omega)); (with_reducible refine (HSS.out).mono ?_); rintro e w3 ⟨rfl, hb⟩; have h5 := h4.below hb; have hg3 := hg2.step hb; clear h4 hg2 s1' s2 hb tok3))
                    | (go_at_call 24; have _t := tok4; go_must ((with_reducible refine (lost_rec h5.a).mono ?_); rintro e w4 ⟨v4, rfl, s4, _, hb⟩; have h6 := h5.below hb; have hg4 := hg3.step hb; clear h5 hg3 hb tok4))
                    | (go_at_call 24; go_must ((with_reducible refine (lost_rec h6.b).mono ?_); rintro e w5 ⟨v5, rfl, s5, _, hb⟩; have hg5 := hg4.step hb; have s4' := own_below s4 hb; clear h6 hg4 s4 hb))
                    | (go_at_call 23; go_must (have HSS := hide_ (sameInts_true (S := lost N) s4' s5 (by omega)); (with_reducible refine (HSS.out).mono ?_); rintro e w6 ⟨rfl, hb⟩; have hg6 := hg5.step hb; clear hg5 s4' s5 hb)))
                  go_ret
                  exact ⟨rfl, hg6.below⟩
        · rw [show ((j + 1 : Nat) : Int) - 1 = (j : Int) by omega]
          obtain ⟨g, rfl, hl, hc0, hc1⟩ := hu.cells (show j < I.length by omega)
          obtain ⟨a1, a2⟩ := hM.out.1.add HAC.out.dis HAC.out.rng (show j < I.length by omega) (c' := fun k => j ≤ k) (by omega) (by have := hM.out.2; omega) (fun k hk => by omega)
          have hmem := mem_getD (L := I) (k := j) (by omega)
          have hw := HAW.out _ hmem
          have hrng := HAC.out.rng _ hmem
          have HA1 := hide_ (add_at 0 _ h2.b (i64s (by omega) (by omega)) hw a1 (show addR M _ _ = insT M (I.getD j (0, 0)).1 (I.getD j (0, 0)).2 by unfold addR; rw [if_pos a1]))
          have HA2 := hide_ a2
          generalize (I.getD j (0, 0)).1 = t at *
          generalize (I.getD j (0, 0)).2 = b at *
          have hu' := hu
          clear a1 a2 hmem hrng
          go_wp2_with (go_at_call 28; go_must ((with_reducible refine (HA1.out).mono ?_); rintro e w5 ⟨rfl, r5, hg5⟩; have h5 := h2.addB r5 hg5; have hu5 := row_rec h2.b hu hg5; have hgr5 := hgr.add hg5 hmbB; clear r5 hg5))
          go_roundw
          case rel => exact ⟨j, _, by omega, rfl, h5, hide_ ⟨HA2.out, by rw [len_ins]; have := hM.out.2; omega⟩, hu5, hgr5⟩
          case measure => simp [intOf]
end Go.Proofs.Ytlgnidjkilbdfaa
