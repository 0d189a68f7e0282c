/- Chapter 20: CleanOrder, the walk. -/
import Derived.Test.YtlgnidjkilbdfaaPg
namespace Go.Proofs.Ytlgnidjkilbdfaa
open Go.RowKit Ieee
set_option linter.unusedVariables false
set_option maxRecDepth 100000
theorem ml_one {w w1 : World} {p : Option Addr} {ca g : Nat} {R : Rc} (hg : g = w.heap.size) (h : TL w1 p R) (hb : Below w1.heap.size w1 w) : ML (w.alloc (.cells #[.slice p R.length ca] 23)) (some ⟨g, 0, none⟩) [R] := by
  subst hg
  refine .inr ⟨w.heap.size, 0, rfl, by simp, fun k hk => ?_⟩
  have hk0 : k = 0 := by simpa using hk
  subst hk0
  exact ⟨p, ca, cells_one (heap_alloc_last _ _), (h.below hb).below (below_alloc w _)⟩
set_option maxHeartbeats 6400000 in
theorem order_walk2 (p : Option Addr) (n c : Nat) (S : Ls) (q : Option Addr) (m d : Nat) (O : List Int) (w : World) (hn : n = S.length) (hp : ML w p S) (h64 : LW64 S) (hm : m = O.length) (hq : IL w q O) :
    Calls Try.prog 14 #[.slice p n c, .slice q m d] w fun e w' => e = .returned (.bool true) ∧ Below w.heap.size w w' := by
  subst hn hm
  have HL := hide_ lives_any
  by_cases h16 : 16 < S.length
  · have d1 : decide ((16 : Int) < (S.length : Int)) = true := decide_eq_true (by omega)
    go_enter Try.func14, Try.ntmps14
    go_wp2_with (go_at_call 43; (with_reducible refine (HL.out _).mono ?_); rintro e w1 ⟨rfl, hb1⟩)
    go_ret
    exact ⟨rfl, hb1⟩
  · have d1 : decide ((16 : Int) < (S.length : Int)) = false := decide_eq_false (by omega)
    by_cases h200 : 200 < O.length
    · have d2 : decide ((200 : Int) < (O.length : Int)) = true := decide_eq_true (by omega)
      go_enter Try.func14, Try.ntmps14
      go_wp2_with (go_at_call 43; (with_reducible refine (HL.out _).mono ?_); rintro e w1 ⟨rfl, hb1⟩)
      go_ret
      exact ⟨rfl, hb1⟩
    · have d2 : decide ((200 : Int) < (O.length : Int)) = false := decide_eq_false (by omega)
      have HP := hide_ hp
      have HQ := hide_ hq
      have H64 := hide_ h64
      have hnl : (S.length : Int) ≤ 16 := by omega
      obtain ⟨i0, hi0, hz0, hz1, hz2⟩ := info_parts info23m
      obtain ⟨i1, hi1, hy0, hy1, hy2⟩ := info_parts info26
      clear hp hq h64
      go_enter Try.func14, Try.ntmps14
      go_wp2_with (go_at_call 43; (with_reducible refine (HL.out _).mono ?_); rintro e w1 ⟨rfl, hb1⟩; have hg1 := Grew.of hb1)
      clear d1 d2
      clear hb1
      go_loopw [5, 6] (fun u i wr => ∃ k : Nat, k ≤ S.length ∧ i = .int .i64 k ∧ Hid (∃ xs, Trn wr w.heap.size ((fineL S).take k) u xs) ∧ Hid (∀ j, j < k → OkL (S.getD j [])) ∧ Grew w.heap.size w wr) (fun _ i _ => S.length - (intOf i).toNat)
      case atStart => exact ⟨0, by omega, rfl, hide_ ⟨[], World.ownsRow_nil _ _ _ _, (fun j hj => by simp at hj), fun i j hij hj => by simp at hj⟩, hide_ (fun j hj => by omega), hg1⟩
      case round =>
        obtain ⟨k, hk, rfl, HX, HJ, hgr⟩ := hrel
        by_cases hlt : k < S.length
        · obtain ⟨g, o, q1, d1, rfl, hc0, htl⟩ := HP.out.at_ (Below.refl _ _) hlt
          have hg : g < w.heap.size := by
            rcases HP.out with h | ⟨g', o', e, h, _⟩
            · rw [h] at hlt; cases hlt
            · cases e; exact h
          have HC := hide_ (fun wx (hb : Below w.heap.size w wx) => (hb.cell (p := ⟨g, o + k, none⟩) hg).trans hc0)
          have HT := hide_ htl
          have i4 : (0 : Int) ≤ (k : Int) := by omega
          have i5 : (k : Int) < (S.length : Int) := by omega
          have HLT := hide_ hlt
          have d0 := HC.out _ hgr.1
          have HLW := hide_ (fun x hx => H64.out _ (getD_memL hlt) x hx)
          have HFT := hide_ (fine_take hlt)
          clear htl hc0
          by_cases hlong : 60 < (S.getD k []).length
          · have d1 : decide ((60 : Int) < ((S.getD k []).length : Int)) = true := decide_eq_true (by omega)
            generalize (S.getD k []).length = ll at *
            go_wp2
            go_ret
            exact ⟨rfl, hgr.below⟩
          · have d1 : decide ((60 : Int) < ((S.getD k []).length : Int)) = false := decide_eq_false (by omega)
            generalize hLe : S.getD k [] = L at *
            generalize hLL : L.length = ll at *
            have HLE := hide_ hLe
            clear hLe
            go_wp2
            obtain ⟨wo, hwo⟩ : ∃ wo, wo = wr := ⟨_, rfl⟩
            subst hwo
            go_loopw [7, 8] (fun u i wr => ∃ m : Nat, m ≤ ll ∧ i = .int .i64 m ∧ Hid (SL wr wo.heap.size u (onesL (L.take m))) ∧ Hid (∀ j, j < m → 0 ≤ (L.getD j (0, 0)).1 ∧ (L.getD j (0, 0)).1 ≤ 1048576) ∧ Grew wo.heap.size wo wr) (fun _ i _ => ll - (intOf i).toNat)
            case atStart => exact ⟨0, by omega, rfl, hide_ (World.ownsRow_nil _ _ _ _), hide_ (fun j hj => by omega), Grew.refl _⟩
            case round =>
              obtain ⟨m, hm, rfl, HU, HR, hgr2⟩ := hrel
              have hgw := hgr.step hgr2.below
              have d0 := HC.out _ hgw.1
              by_cases hlm : m < ll
              · obtain ⟨g', o', rfl, hg', hc'⟩ := HT.out.some_ (hLL.symm ▸ hlm)
                obtain ⟨c0, c1⟩ := hc' m (hLL.symm ▸ hlm)
                have e0 := (hgw.1.cell (p := ⟨g', o' + m * 2, none⟩) hg').trans c0
                have e1 := (hgw.1.cell (p := ⟨g', o' + m * 2 + 1, none⟩) hg').trans c1
                have HE1 := hide_ (fun (W : World) (h : Below w.heap.size w W) => (h.cell (p := ⟨g', o' + m * 2, none⟩) hg').trans c0)
                have HYm := hide_ (fun x => onesL_yes (L := L) (m := m) (x := x) (hLL.symm ▸ hlm))
                have HNm := hide_ (fun x => onesL_no (L := L) (m := m) (x := x) (hLL.symm ▸ hlm))
                have j4 : (0 : Int) ≤ (m : Int) := by omega
                have j5 : (m : Int) < (ll : Int) := by omega
                have HLM := hide_ hlm
                have hlen1 : (onesL (L.take m)).length ≤ 60 := by have := onesL_len (L.take m); rw [List.length_take] at this; omega
                clear hc' c0 c1
                generalize hgd : L.getD m (0, 0) = x at *
                have HGD := hide_ hgd
                obtain ⟨t, b⟩ := x
                simp only at e0 e1
                have HYn := hide_ (HYm.out _ rfl)
                have HNn := hide_ (HNm.out _ rfl)
                clear HYm HNm hgd
                cases hone : oneB b
                · obtain ⟨r, hr, hrun⟩ := run_nan (P := Try.prog) wr.drew .sub 24 b b (.inr (.inl rfl)) (sub_not hone)
                  have hcmp : FloatKind.f64.format.order r 0 = none := nan_order hr 0
                  have HQ2 := hide_ (HNn.out hone)
                  clear hr hone HYn HNn
                  go_wp2
                  (refine still_tail 16 (by kernel_rfl) (by kernel_rfl) ?_; simp only [List.take_succ_cons, List.take_zero, List.drop_succ_cons, List.drop_zero]; (repeat still_step); refine wpStill_nil ?_)
                  have HR2 : Hid (¬ t < 0 → ¬ 1048576 < t → ∀ j, j < m + 1 → 0 ≤ (L.getD j (0, 0)).1 ∧ (L.getD j (0, 0)).1 ≤ 1048576) := hide_ (fun h1 h2 j hj => by
                    rcases (show j < m ∨ j = m by omega) with h' | rfl
                    · exact HR.out j h'
                    · rw [HGD.out]; simp only; omega)
                  have hU2 := HU.out.below ((Below.refl wr.heap.size wr).drew.drew)
                  have HU2 := hide_ hU2
                  clear hU2
                  by_cases ht0 : t < 0
                  · go_wp2
                    go_ret
                    exact ⟨rfl, hgw.drew.drew.below⟩
                  · by_cases ht1 : 1048576 < t
                    · go_wp2
                      go_ret
                      exact ⟨rfl, hgw.drew.drew.below⟩
                    · have HR3 := hide_ (HR2.out (by omega) (by omega))
                      go_wp2
                      exact ⟨⟨m + 1, HLM.out, by simp, hide_ (by rw [HQ2.out]; exact HU2.out), hide_ HR3.out, hgr2.drew.drew⟩, by have := HLM.out; simp [intOf]; omega⟩
                · have hrun := fun wx => run_float_arith (P := Try.prog) wx .sub 24 .f64 b b 0 (sub_one hone)
                  have hcmp : (FloatKind.f64.format.order 0 0 == some .eq) = true := by decide +kernel
                  have HQ2 := hide_ (HYn.out hone)
                  have HR2 : Hid (¬ t < 0 → ¬ 1048576 < t → ∀ j, j < m + 1 → 0 ≤ (L.getD j (0, 0)).1 ∧ (L.getD j (0, 0)).1 ≤ 1048576) := hide_ (fun h1 h2 j hj => by
                    rcases (show j < m ∨ j = m by omega) with h' | rfl
                    · exact HR.out j h'
                    · rw [HGD.out]; simp only; omega)
                  clear hone HYn HNn
                  go_wp2
                  go_quiet (fail)
                  have hu2 : World.ownsRow (wr.drewN nq) wo.heap.size 26 2 u7 (onesL (L.take m)).length (flat (onesL (L.take m))) := HU.out.below (below_drewN (Below.refl _ _) nq)
                  have hgr3 := hgr2.drewN nq
                  have hkb : ((onesL (L.take m)).length + 1) * 16 ≤ 140737488355328 := by omega
                  clear hcmp hrun
                  by_cases ht0 : t < 0
                  · go_wp2_with (at_builtin; go_must (
                      refine wpList_push2 rfl _ _ 23 rfl wo.heap.size 26 i1 (.agg #[.int .i64 0, .float .f64 0]) 2 16 Try.underlying23 hi1 hy0 hy1 hy2 rfl (by decide) (by decide) _ (onesL (L.take m)).length _ rfl (hu2.alloc _) wr.heap.size #[.int .i64 t, .float .f64 b] 26 1 1 rfl (heap_alloc_last _ _) rfl (by kernel_rfl) hkb (hgr3.alloc _).2 ?_
                      intro v' w6 ho6 hg6 hf6 hn6
                      have hgr6 := own_grew (hgr3.alloc (.cells #[.int .i64 t, .float .f64 b] 26)) (hu2.alloc (.cells #[.int .i64 t, .float .f64 b] 26)) hg6
                      have hgw6 := hgr.step hgr6.below
                      have d6 := HC.out w6 hgw6.below
                      have e6 := HE1.out w6 hgw6.below))
                    go_ret
                    exact ⟨rfl, hgw6.below⟩
                  · by_cases ht1 : 1048576 < t
                    · go_wp2_with (at_builtin; go_must (
                        refine wpList_push2 rfl _ _ 23 rfl wo.heap.size 26 i1 (.agg #[.int .i64 0, .float .f64 0]) 2 16 Try.underlying23 hi1 hy0 hy1 hy2 rfl (by decide) (by decide) _ (onesL (L.take m)).length _ rfl (hu2.alloc _) wr.heap.size #[.int .i64 t, .float .f64 b] 26 1 1 rfl (heap_alloc_last _ _) rfl (by kernel_rfl) hkb (hgr3.alloc _).2 ?_
                        intro v' w6 ho6 hg6 hf6 hn6
                        have hgr6 := own_grew (hgr3.alloc (.cells #[.int .i64 t, .float .f64 b] 26)) (hu2.alloc (.cells #[.int .i64 t, .float .f64 b] 26)) hg6
                        have hgw6 := hgr.step hgr6.below
                        have d6 := HC.out w6 hgw6.below
                        have e6 := HE1.out w6 hgw6.below))
                      go_ret
                      exact ⟨rfl, hgw6.below⟩
                    · have HR3 := hide_ (HR2.out (by omega) (by omega))
                      go_wp2_with (at_builtin; go_must (
                          refine wpList_push2 rfl _ _ 23 rfl wo.heap.size 26 i1 (.agg #[.int .i64 0, .float .f64 0]) 2 16 Try.underlying23 hi1 hy0 hy1 hy2 rfl (by decide) (by decide) _ (onesL (L.take m)).length _ rfl (hu2.alloc _) wr.heap.size #[.int .i64 t, .float .f64 b] 26 1 1 rfl (heap_alloc_last _ _) rfl (by kernel_rfl) hkb (hgr3.alloc _).2 ?_
                          intro v' w6 ho6 hg6 hf6 hn6
                          have hgr6 := own_grew (hgr3.alloc (.cells #[.int .i64 t, .float .f64 b] 26)) (hu2.alloc (.cells #[.int .i64 t, .float .f64 b] 26)) hg6
                          have hgw6 := hgr.step hgr6.below
                          have d6 := HC.out w6 hgw6.below
                          have e6 := HE1.out w6 hgw6.below))
                      exact ⟨⟨m + 1, HLM.out, by simp, hide_ (by rw [HQ2.out]; unfold SL; rw [flat_append, flat_one, List.length_append]; exact ho6), hide_ HR3.out, hgr6⟩, by have := HLM.out; simp [intOf]; omega⟩
              · have hml : m = ll := by omega
                rw [hml] at HU HR
                rw [← hLL, List.take_length] at HU
                have HOK := hide_ (okl_of hLL.symm (by omega) HR.out)
                obtain ⟨p7, c7, rfl⟩ := SL.slice HU.out
                obtain ⟨xs, htr0⟩ := HX.out
                have HT0 := hide_ htr0
                have htr := htr0.below hgr2.below
                have htk : ((fineL S).take k).length = k := by rw [List.length_take, fine_len]; have := HLT.out; omega
                have hu := htr.row
                rw [htk] at hu
                have HT7 := hide_ htr
                have HTK := hide_ htk
                have hkb : (k + 1) * 24 ≤ 140737488355328 := by omega
                have hge : ¬ m < ll := hlm
                have HU7 := hide_ HU.out
                have HJK : Hid (∀ j, j < k + 1 → OkL (S.getD j [])) := hide_ (fun j hj => by
                  rcases (show j < k ∨ j = k by omega) with h' | rfl
                  · exact HJ.out j h'
                  · rw [HLE.out]; exact HOK.out)
                clear htr htr0 htk HU HR hml hlm hLL
                generalize hol : (onesL L).length = ol at *
                go_wp2_with (at_builtin; go_must (
                  refine wpList_push2 rfl _ _ 95 rfl w.heap.size 23 i0 (.slice none 0 0) 1 24 Try.underlying95 hi0 hz0 hz1 hz2 rfl (by decide) (by decide) _ k xs rfl (hu.alloc _) wr.heap.size #[.slice p7 ol c7] 23 1 1 rfl (heap_alloc_last _ _) rfl (by kernel_rfl) hkb (hgw.alloc _).2 ?_
                  intro v' w6 ho6 hg6 hf6 hn6
                  have hgr6 := own_grew (hgw.alloc (.cells #[.slice p7 ol c7] 23)) (hu.alloc (.cells #[.slice p7 ol c7] 23)) hg6))
                have ho7 : World.ownsRow wr w.heap.size 26 2 (.slice p7 (onesL L).length c7) (onesL L).length (flat (onesL L)) := by
                  have h := HU7.out
                  rw [← hol] at h
                  exact ownsRow_base_a h hgr.2
                have hap : ∀ x ∈ xs, Apart x (.slice p7 (onesL L).length c7) := fun x hx k2 hk1 hk2 => by
                  obtain ⟨j, hj, rfl⟩ := List.getElem_of_mem hx
                  obtain ⟨pj, cj, e1, e2⟩ := HT0.out.el j (by have := HT0.out.len; omega)
                  rw [List.getElem?_eq_getElem hj] at e1
                  have e3 := Option.some.inj e1
                  rw [e3] at hk1
                  have h1 := (e2.lt k2 hk1).2
                  have h2 := (World.ownsRow.lt HU7.out k2 (by rw [← hol]; exact hk2)).1
                  omega
                have hT6 := (HT7.out.below (below_alloc wr (.cells #[.slice p7 ol c7] 23))).push (L := onesL L) (p := p7) (c := c7) (ho7.alloc (.cells #[.slice p7 ol c7] 23)) hap hg6 (by rw [HTK.out, hol]; exact ho6)
                exact ⟨⟨k + 1, HLT.out, by simp, hide_ (by rw [HFT.out]; exact ⟨_, hT6⟩), hide_ HJK.out, hgr6⟩, by have := HLT.out; simp [intOf]; omega⟩
        · have hkS : k = S.length := by omega
          subst hkS
          have hge : ¬ S.length < S.length := hlt
          obtain ⟨xs, htr⟩ := HX.out
          rw [show (fineL S).take S.length = fineL S from by rw [← fine_len S, List.take_length]] at htr
          obtain ⟨pu, cu, rfl⟩ := row_slice htr.row
          have hok : ∀ L ∈ S, OkL L := Ls.get_mem HJ.out
          have hFS : Fine S := Fine.of (by omega) hok H64.out
          have hPl := allP_len (by omega) hok
          have hi := hFS.inv
          have HA := hide_ (fun W (h : Below w.heap.size w W) => alike_merge p S.length c S (allP S) W rfl (HP.out.below h) hFS (List.Perm.refl _) hi.w64)
          have HT := hide_ (fun W (h : Below w.heap.size w W) => turned_any p S.length c S q O.length d O W rfl (HP.out.below h) rfl (HQ.out.below h) (by omega) (by omega) (fun L hL => (hok L hL).1))
          have HTM := hide_ (fun (p' : Option Addr) (c' : Nat) (T : Ls) (W : World) (h : ML W p' T) (hp : T.flatten.Perm S.flatten) (hl : T.length = S.length) (h60 : ∀ L ∈ T, L.length ≤ 60) => alike_merge p' T.length c' T (allP S) W rfl h (hFS.turn hp hl h60) (allP_perm hp) hi.w64)
          have HFM := hide_ (fun (W : World) (h : ML W pu (fineL S)) => alike_merge pu (fineL S).length cu (fineL S) (allP S) W rfl h hFS.fine (by rw [allP_fine]) hi.w64)
          have HMF := hide_ (Trn.ml htr)
          have h2 := res_two hFS hPl
          have hKT : (KT (allP S)).length ≤ 960 := KT_big hPl (fun x hx => hi.1 x hx)
          have HAG := hide_ (fun h => again_merge hi (by omega) h (by omega))
          have HAS := hide_ (mOut_asc (allP S))
          clear htr HX hok hFS hi hPl hKT HJ H64 hlt hk
          generalize fineL S = F at *
          generalize mRes1 (allP S) = R at *
          have tok1 : True := trivial
          have tok2 : True := trivial
          have tok3 : True := trivial
          have tok4 : True := trivial
          have tok5 : True := trivial
          have tok6 : True := trivial
          rcases h2 with rfl | ⟨hov, rfl, hlen⟩
          · have H48 := hide_ (fun (q q' : Option Addr) (d d' : Nat) (W : World) (h : TL W q []) (h' : TL W q' []) => samel_any q q' 0 d d' [] W rfl h h' (by omega))
            go_wp2_with (first
              | (go_at_call 61; have _t := tok1; go_must (
                  (with_reducible refine (HA.out _ hgr.below).mono ?_)
                  rintro e w5 ⟨⟨va, rfl, ho5⟩, hb5⟩
                  have hg5 := Grew.of hb5
                  have hgA := hg5.alloc (.cells #[.int .i64 9, .int .i64 (-1)] 34)
                  clear tok1))
              | (go_at_call 64; go_must (
                  (with_reducible refine (HT.out _ (hgr.step hgA.below).below).mono ?_)
                  rintro e w6 ⟨⟨vt, T, ys, rfl, htt, hpt, hlt2, h60t⟩, hb6⟩
                  have hg6 := hgA.step hb6
                  have hoa6 := SL.below (SL.alloc ho5 (.cells #[.int .i64 9, .int .i64 (-1)] 34)) hb6
                  have k6 := blk_below hb6
                  obtain ⟨pt, ct, rfl⟩ := row_slice htt.row
                  have HTT := hide_ (HTM.out pt ct T _ htt.ml hpt hlt2 h60t)
                  clear ho5 htt hpt h60t hlt2))
              | (go_at_call 61; have _t := tok2; go_must (
                  (with_reducible refine (HTT.out).mono ?_)
                  rintro e w7 ⟨⟨vb, rfl, ho7⟩, hb7⟩
                  have hg7 := hg6.step hb7
                  have hoa7 := SL.below hoa6 hb7
                  have k7 := (hb7.block _ (lt_of_heap k6)).trans k6
                  have hgB := hg7.alloc (.cells #[.int .i64 9, .int .i64 (-1)] 34)
                  clear tok2 hoa6 k6))
              | (go_at_call 61; have _t := tok3; go_must (
                  (with_reducible refine (HFM.out _ (HMF.out.below hgB.below)).mono ?_)
                  rintro e w8 ⟨⟨vc, rfl, ho8⟩, hb8⟩
                  have hg8 := hgB.step hb8
                  have hoa8 := SL.below (SL.alloc hoa7 (.cells #[.int .i64 9, .int .i64 (-1)] 34)) hb8
                  have hob8 := SL.below (SL.alloc ho7 (.cells #[.int .i64 9, .int .i64 (-1)] 34)) hb8
                  have k8a := (hb8.block _ (lt_of_heap (heap_past (o' := .cells #[.int .i64 9, .int .i64 (-1)] 34) k7))).trans (heap_past (o' := .cells #[.int .i64 9, .int .i64 (-1)] 34) k7)
                  have k8b := blk_below hb8
                  obtain ⟨a0, a1⟩ := cells_two (heap_past (o' := .cells #[.int .i64 9, .int .i64 (-1)] 34) k8a)
                  obtain ⟨b0, b1⟩ := cells_two (heap_past (o' := .cells #[.int .i64 9, .int .i64 (-1)] 34) k8b)
                  obtain ⟨pa, ca, rfl⟩ := SL.slice hoa8
                  obtain ⟨pb, cb, rfl⟩ := SL.slice hob8
                  obtain ⟨pc, cc, rfl⟩ := SL.slice ho8
                  have Ta := (SL.tl hoa8).below (below_alloc w8 (.cells #[.int .i64 9, .int .i64 (-1)] 34))
                  have Tb := (SL.tl hob8).below (below_alloc w8 (.cells #[.int .i64 9, .int .i64 (-1)] 34))
                  have Tc := (SL.tl ho8).below (below_alloc w8 (.cells #[.int .i64 9, .int .i64 (-1)] 34))
                  have hgC := hg8.alloc (.cells #[.int .i64 9, .int .i64 (-1)] 34)
                  clear tok3 k8a k8b k7 ho7 hoa7 ho8 hoa8 hob8))
              | (go_at_call 48; have _t := tok4; go_must (
                  (with_reducible refine (H48.out _ _ _ _ _ Ta Tb).mono ?_)
                  rintro e w9 ⟨rfl, q9, rfl⟩
                  clear tok4))
              | (go_at_call 48; have _t := tok5; go_must (
                  (with_reducible refine (H48.out _ _ _ _ _ (Ta.below (below_drewN (Below.refl _ _) q9)) (Tc.below (below_drewN (Below.refl _ _) q9))).mono ?_)
                  rintro e w10 ⟨rfl, q10, rfl⟩
                  clear tok5)))
            go_ret
            exact ⟨rfl, (hgr.step (hgC.drewN (q9 + q10)).below).below⟩
          · have HL9 : Hid ((mOut (allP S)).length ≤ 960) := hide_ hlen
            obtain ⟨B, hAlk, hD⟩ := HAG.out hov
            clear hov hlen HAG
            generalize mOut (allP S) = R at *
            have HD := hide_ hD
            have HBL := hide_ hAlk.1
            have H49 := hide_ (fun (q : Option Addr) (d : Nat) (W : World) (h : TL W q R) => (rising_any q R.length d R W rfl h (by have := HL9.out; omega)))
            rw [decide_eq_true HAS.out] at H49
            have H48d := hide_ (fun (q q' : Option Addr) (d d' : Nat) (W : World) (h : TL W q B) (h' : TL W q' R) => same2_any q q' R.length R.length d d' B R W HBL.out.symm rfl h h' hAlk (by have := HL9.out; omega))
            clear hAlk hD
            have H48 := hide_ (fun (q q' : Option Addr) (d d' : Nat) (W : World) (h : TL W q R) (h' : TL W q' R) => samel_any q q' R.length d d' R W rfl h h' (by have := HL9.out; omega))
            go_wp2_with (first
              | (go_at_call 61; have _t := tok1; go_must (
                  (with_reducible refine (HA.out _ hgr.below).mono ?_)
                  rintro e w5 ⟨⟨va, rfl, ho5⟩, hb5⟩
                  have hg5 := Grew.of hb5
                  have hgA := hg5.alloc (.cells #[.int .i64 0, .int .i64 (0)] 34)
                  clear tok1))
              | (go_at_call 64; go_must (
                  (with_reducible refine (HT.out _ (hgr.step hgA.below).below).mono ?_)
                  rintro e w6 ⟨⟨vt, T, ys, rfl, htt, hpt, hlt2, h60t⟩, hb6⟩
                  have hg6 := hgA.step hb6
                  have hoa6 := SL.below (SL.alloc ho5 (.cells #[.int .i64 0, .int .i64 (0)] 34)) hb6
                  have k6 := blk_below hb6
                  obtain ⟨pt, ct, rfl⟩ := row_slice htt.row
                  have HTT := hide_ (HTM.out pt ct T _ htt.ml hpt hlt2 h60t)
                  clear ho5 htt hpt h60t hlt2))
              | (go_at_call 61; have _t := tok2; go_must (
                  (with_reducible refine (HTT.out).mono ?_)
                  rintro e w7 ⟨⟨vb, rfl, ho7⟩, hb7⟩
                  have hg7 := hg6.step hb7
                  have hoa7 := SL.below hoa6 hb7
                  have k7 := (hb7.block _ (lt_of_heap k6)).trans k6
                  have hgB := hg7.alloc (.cells #[.int .i64 0, .int .i64 (0)] 34)
                  clear tok2 hoa6 k6))
              | (go_at_call 61; have _t := tok3; go_must (
                  (with_reducible refine (HFM.out _ (HMF.out.below hgB.below)).mono ?_)
                  rintro e w8 ⟨⟨vc, rfl, ho8⟩, hb8⟩
                  have hg8 := hgB.step hb8
                  have hoa8 := SL.below (SL.alloc hoa7 (.cells #[.int .i64 0, .int .i64 (0)] 34)) hb8
                  have hob8 := SL.below (SL.alloc ho7 (.cells #[.int .i64 0, .int .i64 (0)] 34)) hb8
                  have k8a := (hb8.block _ (lt_of_heap (heap_past (o' := .cells #[.int .i64 0, .int .i64 (0)] 34) k7))).trans (heap_past (o' := .cells #[.int .i64 0, .int .i64 (0)] 34) k7)
                  have k8b := blk_below hb8
                  obtain ⟨a0, a1⟩ := cells_two (heap_past (o' := .cells #[.int .i64 0, .int .i64 (0)] 34) k8a)
                  obtain ⟨b0, b1⟩ := cells_two (heap_past (o' := .cells #[.int .i64 0, .int .i64 (0)] 34) k8b)
                  obtain ⟨pa, ca, rfl⟩ := SL.slice hoa8
                  obtain ⟨pb, cb, rfl⟩ := SL.slice hob8
                  obtain ⟨pc, cc, rfl⟩ := SL.slice ho8
                  have Ta := (SL.tl hoa8).below (below_alloc w8 (.cells #[.int .i64 0, .int .i64 (0)] 34))
                  have Tb := (SL.tl hob8).below (below_alloc w8 (.cells #[.int .i64 0, .int .i64 (0)] 34))
                  have Tc := (SL.tl ho8).below (below_alloc w8 (.cells #[.int .i64 0, .int .i64 (0)] 34))
                  have hgC := hg8.alloc (.cells #[.int .i64 0, .int .i64 (0)] 34)
                  clear tok3 k8a k8b k7 ho7 hoa7 ho8 hoa8 hob8))
              | (go_at_call 48; have _t := tok4; go_must (
                  (with_reducible refine (H48.out _ _ _ _ _ Ta Tb).mono ?_)
                  rintro e w9 ⟨rfl, q9, rfl⟩
                  clear tok4))
              | (go_at_call 48; have _t := tok5; go_must (
                  (with_reducible refine (H48.out _ _ _ _ _ (Ta.below (below_drewN (Below.refl _ _) q9)) (Tc.below (below_drewN (Below.refl _ _) q9))).mono ?_)
                  rintro e w10 ⟨rfl, q10, rfl⟩
                  clear tok5))
              | (go_at_call 61; have _t := tok6; go_must (
                  have hML := ml_one (ca := ca) (g := w8.heap.size + 1) (w := ((w8.alloc (.cells #[.int .i64 0, .int .i64 (0)] 34)).drewN (q9 + q10))) (by simp) Ta (below_drewN (Below.refl _ _) _)
                  have hgD := (hgC.drewN (q9 + q10)).alloc (.cells #[.slice pa R.length ca] 23)
                  (with_reducible refine (HD.out _ _ _ hML).mono ?_)
                  rintro e w11 ⟨⟨vd, rfl, ho11⟩, hb11⟩
                  have hg11 := hgD.step hb11
                  obtain ⟨pd, cd, rfl⟩ := SL.slice ho11
                  have hgE := hg11.alloc (.cells #[.int .i64 0, .int .i64 (0)] 34)
                  have Td := (SL.tl ho11).below (below_alloc w11 (.cells #[.int .i64 0, .int .i64 (0)] 34))
                  have Ta2 := ((Ta.below (below_drewN (Below.refl _ _) (q9 + q10))).below (below_alloc _ (.cells #[.slice pa R.length ca] 23))).below (hb11.alloc hb11.size (.cells #[.int .i64 0, .int .i64 (0)] 34))
                  rw [HBL.out]
                  clear tok6 ho11))
              | (go_at_call 49; go_must (
                  (with_reducible refine (H49.out _ _ _ Ta2).mono ?_)
                  rintro e w12 ⟨rfl, q12, rfl⟩))
              | (go_at_call 48; go_must (
                  (with_reducible refine (H48d.out _ _ _ _ _ (Td.below (below_drewN (Below.refl _ _) q12)) (Ta2.below (below_drewN (Below.refl _ _) q12))).mono ?_)
                  rintro e w13 ⟨rfl, q13, rfl⟩)))
            go_ret
            exact ⟨rfl, (hgr.step (hgE.drewN (q12 + q13)).below).below⟩
end Go.Proofs.Ytlgnidjkilbdfaa
