/- Chapter 20: the reference's median; heights that are lent. -/
import Derived.Test.YtlgnidjkilbdfaaMe
import Derived.Test.YtlgnidjkilbdfaaSe
namespace Go.Proofs.Ytlgnidjkilbdfaa
open Go.RowKit Ieee
set_option linter.unusedVariables false
set_option maxRecDepth 100000
theorem rmedian_any (p : Option Addr) (n c : Nat) (L : List Nat) (w : World) (hn : n = L.length) (hp : FL w p L) (hw : W64 L) (hsz : n ≤ 1000000) :
    Calls Try.prog 53 #[.slice p n c] w fun e w' => e = .returned (.tuple #[.float .f64 (medL (srt L)), .bool (decide (0 < (srt L).length))]) ∧ Below w.heap.size w w' := by
  have H := hide_ (rorder_any p n c L w hn hp hw hsz)
  have hb : (srt L).length ≤ 140737488355328 := by have := srt_le L; omega
  have hS : Hid (∀ k, k < (srt L).length → (srt L).getD k 0 < 2 ^ 64 ∧ oneB ((srt L).getD k 0) = true) := hide_ (fun k hk => ⟨hw _ (srt_mem.1 (getD_mem hk)).1, (srt_mem.1 (getD_mem hk)).2⟩)
  generalize srt L = S at *
  clear hn hp hw
  rcases Nat.eq_zero_or_pos S.length with h0 | h0
  · have hm : medL S = 0 := if_pos h0
    rw [hm]
    rw [h0] at H ⊢
    clear hm h0 hb hS
    go_enter Try.func53, Try.ntmps53
    go_wp2_with (go_at_call 90; (with_reducible refine (H.out).mono ?_); rintro e w1 ⟨⟨q, c', rfl, hf⟩, hb1⟩)
    go_ret2
    exact ⟨rfl, hb1⟩
  · rw [decide_eq_true h0]
    rcases Nat.mod_two_eq_zero_or_one S.length with h2 | h2
    · obtain ⟨k, hk⟩ : ∃ k, S.length = 2 * (k + 1) := ⟨S.length / 2 - 1, by omega⟩
      have hm : medL S = plus (half (S.getD k 0)) (half (S.getD (k + 1) 0)) := by
        unfold medL
        rw [if_neg (by omega), if_neg (by omega), show S.length / 2 - 1 = k by omega, show S.length / 2 = k + 1 by omega]
      rw [hm]
      obtain ⟨a1, a2⟩ := hS.out k (by omega)
      obtain ⟨b1, b2⟩ := hS.out (k + 1) (by omega)
      have e1 := fun wx => run_float_arith (P := Try.prog) wx .mul 24 .f64 (S.getD k 0) 4602678819172646912 _ (half_mul a1 a2)
      have e2 := fun wx => run_float_arith (P := Try.prog) wx .mul 24 .f64 (S.getD (k + 1) 0) 4602678819172646912 _ (half_mul b1 b2)
      have e3 := fun wx => run_float_arith (P := Try.prog) wx .add 24 .f64 _ _ _ (plus_of a1 b1 a2 b2)
      generalize plus (half (S.getD k 0)) (half (S.getD (k + 1) 0)) = r at *
      generalize half (S.getD k 0) = x at *
      generalize half (S.getD (k + 1) 0) = y at *
      have HC : Hid (∀ (w : World) q, FL w q S → ∃ g o, q = some ⟨g, o, none⟩ ∧ g < w.heap.size ∧ w.cell? ⟨g, o + k, none⟩ = some (.float .f64 (S.getD k 0)) ∧ w.cell? ⟨g, o + (k + 1), none⟩ = some (.float .f64 (S.getD (k + 1) 0))) := hide_ (fun w q h => by
        obtain ⟨g, o, h1, h2, h3⟩ := h.some_ h0
        exact ⟨g, o, h1, h2, h3 k (by omega), h3 (k + 1) (by omega)⟩)
      generalize S.getD k 0 = u at *
      generalize S.getD (k + 1) 0 = v at *
      obtain ⟨j, hj⟩ : ∃ j, j = k + 1 := ⟨_, rfl⟩
      rw [← hj] at hk HC
      have i0 : ((S.length : Nat) : Int) / 2 = (j : Int) := by omega
      have i1 : ((S.length : Nat) : Int) % 2 = 0 := by omega
      have i2 : (j : Int) - 1 = (k : Int) := by omega
      have i3 : (k : Int) < ((S.length : Nat) : Int) := by omega
      have i4 : (j : Int) < ((S.length : Nat) : Int) := by omega
      have i5 : ((S.length : Nat) : Int).tdiv 2 = (j : Int) := by rw [Int.tdiv_eq_ediv_of_nonneg (by omega)]; exact i0
      have i6 : IntKind.i64.wrap ((j : Int) - 1) = (k : Int) := by rw [i2]; exact IntWalk.i64_in _ (by omega)
      have i7 : (0 : Int) ≤ (k : Int) := by omega
      have i8 : (0 : Int) ≤ (j : Int) := by omega
      have i9 : k < S.length := by omega
      have i10 : j < S.length := by omega
      have i11 : (((S.length : Nat) : Int) == 0) = false := by rw [beq_eq_false_iff_ne]; omega
      clear hm hS a1 a2 b1 b2 hk h0 h2 hj
      generalize S.length = m at *
      go_enter Try.func53, Try.ntmps53
      go_wp2_with (go_at_call 90; (with_reducible refine (H.out).mono ?_); rintro e w1 ⟨⟨q, c', rfl, hf⟩, hb1⟩; obtain ⟨g, o, rfl, hg, c1, c2⟩ := HC.out _ _ hf)
      go_quiet (fail)
      go_wp2
      go_ret2
      exact ⟨rfl, below_drewN hb1 _⟩
    · obtain ⟨j, hk⟩ : ∃ j, S.length = 2 * j + 1 := ⟨S.length / 2, by omega⟩
      have hm : medL S = S.getD j 0 := by
        unfold medL
        rw [if_neg (by omega), if_pos h2, show S.length / 2 = j by omega]
      rw [hm]
      have HC : Hid (∀ (w : World) q, FL w q S → ∃ g o, q = some ⟨g, o, none⟩ ∧ g < w.heap.size ∧ w.cell? ⟨g, o + j, none⟩ = some (.float .f64 (S.getD j 0))) := hide_ (fun w q h => by
        obtain ⟨g, o, h1, h2, h3⟩ := h.some_ h0
        exact ⟨g, o, h1, h2, h3 j (by omega)⟩)
      generalize S.getD j 0 = v at *
      have i0 : ((S.length : Nat) : Int) / 2 = (j : Int) := by omega
      have i1 : ((S.length : Nat) : Int) % 2 = 1 := by omega
      have i4 : (j : Int) < ((S.length : Nat) : Int) := by omega
      have i8 : (0 : Int) ≤ (j : Int) := by omega
      have i10 : j < S.length := by omega
      have i11 : (((S.length : Nat) : Int) == 0) = false := by rw [beq_eq_false_iff_ne]; omega
      clear hm hS hk h0 h2
      generalize S.length = m at *
      go_enter Try.func53, Try.ntmps53
      go_wp2_with (go_at_call 90; (with_reducible refine (H.out).mono ?_); rintro e w1 ⟨⟨q, c', rfl, hf⟩, hb1⟩; obtain ⟨g, o, rfl, hg, c2⟩ := HC.out _ _ hf)
      go_ret2
      exact ⟨rfl, hb1⟩
/-- CopyFloats. -/
theorem copyf_any (p : Option Addr) (n c : Nat) (L : List Nat) (w : World) (hn : n = L.length) (hp : FL w p L) (hsz : n ≤ 1000000) :
    Calls Try.prog 89 #[.slice p n c] w fun e w' => (∃ v, e = .returned v ∧ w'.ownsRow w.heap.size 24 1 v n (L.map encF)) ∧ Below w.heap.size w w' := by
  obtain ⟨i0, hi, hz0, hz1, hz2⟩ := info_parts info24
  have hown : (w.alloc (.cells #[] 24)).ownsRow w.heap.size 24 1 (.slice (some ⟨w.heap.size, 0, none⟩) 0 0) 0 [] := row_lit w w.heap.size 24 1 0 #[] (Nat.le_refl _) rfl (Nat.zero_le _)
  have hrun : ∃ v' w', (Builtin.append_ #[80, 80] 80 #[.slice (some ⟨w.heap.size, 0, none⟩) 0 0, .slice p n c]).run Try.prog (w.alloc (.cells #[] 24)) = .ok v' w' ∧ w'.ownsRow w.heap.size 24 1 v' n (L.map encF) ∧ (w.alloc (.cells #[] 24)).grownBy w' (some w.heap.size) := by
    rcases p with _ | a
    · have hL : L = [] := by
        rcases hp with h | ⟨g, o, h, _⟩
        · exact h
        · cases h
      subst hL
      subst hn
      refine ⟨_, _, ?_, by simpa using hown, ⟨rfl, rfl, rfl, Nat.le_refl _, fun _ _ _ => rfl⟩⟩
      simp [Builtin.append_, run_underlying Try.underlying80, sizeOf, typeInfo, hi, Builtin.lenOf, Builtin.firstCells, storeCells]
    · have hc : ∀ j u, (L.map encF)[j]? = some u → (w.alloc (.cells #[] 24)).cell? (a.add j) = some u := by
        intro j u hu
        rcases hp with rfl | ⟨g, o, h, hg, hc⟩
        · simp at hu
        · cases h
          have hj : j < L.length := by
            rcases Nat.lt_or_ge j L.length with h | h
            · exact h
            · rw [List.getElem?_eq_none (by simpa using h)] at hu; cases hu
          refine cell_past ?_
          rw [Addr.add_lit, hc j hj]
          rw [List.getElem?_map, List.getElem?_eq_getElem hj] at hu
          simp only [Option.map_some, Option.some.injEq] at hu
          rw [← hu, List.getD_eq_getElem?_getD, List.getElem?_eq_getElem hj]
          rfl
      obtain ⟨v', w', hr, r1, r2, _⟩ := run_append_own (P := Try.prog) (w.alloc (.cells #[] 24)) w.heap.size 80 80 24 i0 (.float .f64 0) 1 8 Try.underlying80 hi hz0 hz1 hz2 rfl (by decide) _ 0 [] hown a n c (L.map encF) (by simp [hn]) hc
        (by intro u hu; obtain ⟨x, _, rfl⟩ := List.mem_map.1 hu; rfl) (by unfold maxLen; omega) (by omega) (by simp)
      exact ⟨v', w', hr, by simpa using r1, r2⟩
  obtain ⟨v', w', hr, r1, r2⟩ := hrun
  have HR := hide_ hr
  have H1 := hide_ r1
  have H2 := hide_ r2
  clear hr r1 r2 hp hn hown
  go_enter Try.func89, Try.ntmps89
  go_wp2_with (at_builtin; go_must (refine wpList_app rfl _ _ 80 rfl HR.out ?_))
  go_ret
  exact ⟨⟨_, rfl, H1.out⟩, ((Below.refl _ _).alloc (Nat.le_refl _) _).grown H2.out (by simp) (fun k hk => by cases hk; exact Nat.le_refl _)⟩
/-- What stands behind a list that is lent. -/
def spareF : List Nat := [4593671619917905920, 4607745368753438720, 4611967493404098560]
theorem spare_at : ∀ i : Nat, i < 3 → double.add 4593671619917905920 (floatOfInt .f64 (i : Int)) = some (spareF.getD i 0) := by decide +kernel
theorem spare_snoc {i : Nat} (h : i < 3) (L : List Nat) : (L ++ spareF.take (i + 1)) = (L ++ spareF.take i) ++ [spareF.getD i 0] := by
  have hl : spareF.length = 3 := rfl
  rw [List.take_succ_eq_append_getElem (by omega), List.append_assoc, List.getD_eq_getElem?_getD, List.getElem?_eq_getElem (by omega)]
  rfl
set_option maxHeartbeats 1600000 in
theorem lentf_any (p : Option Addr) (n c : Nat) (L : List Nat) (w : World) (hn : n = L.length) (hp : FL w p L) (hsz : n ≤ 1000) :
    Calls Try.prog 51 #[.slice p n c] w fun e w' => (∃ v, e = .returned v ∧ w'.ownsRow w.heap.size 24 1 v (n + 3) ((L ++ spareF).map encF)) ∧ Below w.heap.size w w' := by
  have HC := hide_ (copyf_any p n c L w hn hp (by omega))
  have HN := hide_ hn
  obtain ⟨i0, hi0, hz0, hz1, hz2⟩ := info_parts info24
  clear hp hn
  go_enter Try.func51, Try.ntmps51
  go_wp2_with (go_at_call 89; (with_reducible refine (HC.out).mono ?_); rintro e w1 ⟨⟨v1, rfl, ho1⟩, hb1⟩)
  have hg1 := Grew.of hb1
  clear hb1
  go_loopw [3, 4] (fun u vi wr => ∃ i : Nat, i ≤ 3 ∧ vi = .int .i64 i ∧ wr.ownsRow w.heap.size 24 1 u (n + i) ((L ++ spareF.take i).map encF) ∧ Grew w.heap.size w wr) (fun _ vi _ => 3 - (intOf vi).toNat)
  case atStart => exact ⟨0, by omega, rfl, by simpa using ho1, hg1⟩
  case round =>
    obtain ⟨i, hi, rfl, hu, hgr⟩ := hrel
    by_cases hlt : i < 3
    · have f1 := fun wx => run_float_arith (P := Try.prog) wx .add 24 .f64 _ _ _ (spare_at i hlt)
      have HS := hide_ (spare_snoc hlt L)
      have hkb : (n + i + 1) * 8 ≤ 140737488355328 := by omega
      have i4 : (0 : Int) ≤ (i : Int) := by omega
      have i5 : (i : Int) < 3 := by omega
      generalize spareF.getD i 0 = x at *
      clear ho1 hg1
      go_wp2_with (at_builtin; go_must (
        refine wpList_push2 rfl _ _ 80 rfl w.heap.size 24 i0 (.float .f64 0) 1 8 Try.underlying80 hi0 hz0 hz1 hz2 rfl (by decide) (by decide) _ (n + i) _ rfl (hu.alloc _) wr.heap.size #[.float .f64 x] 24 1 1 rfl (heap_alloc_last _ _) rfl (by kernel_rfl) hkb (hgr.alloc _).2 ?_
        intro v' w3 ho3 hg3 hf3 hn3
        have hgA := hgr.alloc (.cells #[.float .f64 x] 24)
        have hgr3 := own_grew hgA (hu.alloc (.cells #[.float .f64 x] 24)) hg3))
      exact ⟨⟨i + 1, hlt, by simp, by rw [HS.out, List.map_append]; exact ho3, hgr3⟩, by simp [intOf]; omega⟩
    · have hi3 : i = 3 := by omega
      rw [hi3] at hu ⊢
      clear ho1 hg1 hlt hi
      go_wp2
      go_ret
      exact ⟨⟨_, rfl, hu⟩, hgr.below⟩
set_option maxHeartbeats 1600000 in
/-- SameFloats: one list twice. -/
theorem samef_any (p q : Option Addr) (n c d : Nat) (L : List Nat) (w : World) (hn : n = L.length) (hp : FL w p L) (hq : FL w q L) (hs : n ≤ 1000000) :
    Calls Try.prog 92 #[.slice p n c, .slice q n d] w fun e w' => e = .returned (.bool true) ∧ ∃ k, w' = w.drewN k := by
  subst hn
  have HP := hide_ hp
  have HQ := hide_ hq
  clear hp hq
  go_enter Try.func92, Try.ntmps92
  go_wp2
  go_loopw [5] (fun i wr => ∃ k : Nat, k ≤ L.length ∧ i = .int .i64 k ∧ ∃ q, wr = w.drewN q) (fun i _ => L.length - (intOf i).toNat)
  case atStart => exact ⟨0, by omega, rfl, 0, rfl⟩
  case round =>
    obtain ⟨k, hk, rfl, q', rfl⟩ := hrel
    by_cases hlt : k < L.length
    · obtain ⟨g, o, rfl, hg, hc⟩ := HP.out.some_ (by omega)
      obtain ⟨g', o', rfl, hg', hc'⟩ := HQ.out.some_ (by omega)
      have c1 := hc k hlt
      have d1 := hc' k hlt
      clear hc hc'
      generalize L.getD k 0 = b at *
      have H : Hid (∀ w, Calls Try.prog 38 #[.float .f64 b, .float .f64 b] w fun e w' => e = .returned (.bool true) ∧ w = w') := hide_ (fun w => by
        have h := same_any b b w
        rw [show sameB b b = true by unfold sameB; simp] at h
        exact h)
      have i4 : (0 : Int) ≤ (k : Int) := by omega
      have i5 : (k : Int) < (L.length : Int) := by omega
      go_wp2
      go_quiet ((go_at_call 38; exact quiet_same_left (H.out _)))
      go_wp2
      go_roundw
      case rel => exact ⟨k + 1, by omega, by go_num, _, rfl⟩
      case measure => simp [intOf]; omega
    · have hge : ¬ k < L.length := hlt
      go_wp2
      go_ret
      exact ⟨rfl, _, rfl⟩
/-- KeptFloats: what was lent is as it was. -/
theorem keptf_any (p q : Option Addr) (n c d : Nat) (L : List Nat) (w : World) (hn : n = L.length) (hp : FL w p L) (hq : FL w q (L ++ spareF)) (hs : n ≤ 1000) :
    Calls Try.prog 55 #[.slice q (n + 3) d, .slice p n c] w fun e w' => e = .returned (.bool true) ∧ Below w.heap.size w w' := by
  have HL := hide_ (lentf_any p n c L w hn hp hs)
  have HS := hide_ (fun wx q' d' (h1 : FL wx q (L ++ spareF)) (h2 : FL wx q' (L ++ spareF)) => samef_any q q' (n + 3) d d' (L ++ spareF) wx (by rw [List.length_append, hn]; rfl) h1 h2 (by omega))
  have HQ := hide_ hq
  clear hp hq hn
  go_enter Try.func55, Try.ntmps55
  go_wp2_with (first
    | (go_at_call 51; go_must (
        (with_reducible refine (HL.out).mono ?_)
        rintro e w1 ⟨⟨v1, rfl, ho1⟩, hb1⟩
        obtain ⟨p1, c1, rfl⟩ := row_slice ho1
        have F1 := (own_fl ho1).2
        have F2 := HQ.out.below hb1))
    | (go_at_call 92; go_must (
        (with_reducible refine (HS.out _ _ _ F2 F1).mono ?_)
        rintro e w2 ⟨rfl, q2, rfl⟩)))
  go_ret
  exact ⟨rfl, below_drewN hb1 _⟩
end Go.Proofs.Ytlgnidjkilbdfaa
