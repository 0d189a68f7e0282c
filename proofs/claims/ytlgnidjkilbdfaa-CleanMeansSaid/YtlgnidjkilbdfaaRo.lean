/- Chapter 20: the reference's order of heights. -/
import Derived.Test.YtlgnidjkilbdfaaMn
import Derived.BigRegion
namespace Go.Proofs.Ytlgnidjkilbdfaa
open Go.RowKit Ieee
set_option linter.unusedVariables false
set_option maxRecDepth 100000
theorem rfin_any (h : Nat) (w : World) : Calls Try.prog 91 #[.float .f64 h] w fun e w' => e = .returned (.bool (oneB h)) ∧ ∃ n, w' = w.drewN n := by
  cases ho : oneB h
  · obtain ⟨r, hr, hrun⟩ := run_nan (P := Try.prog) w .sub 24 h h (.inr (.inl rfl)) (sub_not ho)
    have hc : FloatKind.f64.format.order r 0 = none := nan_order hr 0
    clear hr ho
    go_enter Try.func91, Try.ntmps91
    go_wp2
    go_ret
    exact ⟨rfl, 1, rfl⟩
  · have hrun := fun wx => run_float_arith (P := Try.prog) wx .sub 24 .f64 h h 0 (sub_one ho)
    have hc : FloatKind.f64.format.order 0 0 = some .eq := by decide +kernel
    clear ho
    go_enter Try.func91, Try.ntmps91
    go_wp2
    go_ret
    exact ⟨rfl, 0, rfl⟩
def aheadB (a b : Nat) : Bool := fltB a b || (feqB a 0 && feqB b 0 && negB a && !negB b)
theorem ahead_raw (a b : Nat) (ha : a < 2 ^ 64) (hb : b < 2 ^ 64) (w : World) : Calls Try.prog 115 #[.float .f64 a, .float .f64 b] w fun e w' => e = .returned (.bool (aheadB a b)) ∧ w = w' := by
  have HA := hide_ (signbit_any a ha)
  have HB := hide_ (signbit_any b hb)
  clear ha hb
  unfold aheadB fltB feqB
  generalize h1 : (FloatKind.f64.format.order a b == some .lt) = f1
  generalize h2 : (FloatKind.f64.format.order a 0 == some .eq) = f2
  generalize h3 : (FloatKind.f64.format.order b 0 == some .eq) = f3
  generalize negB a = f4 at *
  generalize negB b = f5 at *
  have tok : True := trivial
  cases f1
  · cases f2
    · go_enter Try.func115, Try.ntmps115
      go_wp2
      go_ret
      exact ⟨rfl, rfl⟩
    · cases f3
      · go_enter Try.func115, Try.ntmps115
        go_wp2
        go_ret
        exact ⟨rfl, rfl⟩
      · cases f4
        · go_enter Try.func115, Try.ntmps115
          go_wp2_with (go_at_call 126; (with_reducible refine (HA.out _).mono ?_); rintro e w1 ⟨rfl, rfl⟩)
          go_ret
          exact ⟨rfl, rfl⟩
        · cases f5
          all_goals go_enter Try.func115, Try.ntmps115
          all_goals go_wp2_with (first
            | (go_at_call 126; have _t := tok; (with_reducible refine (HA.out _).mono ?_); rintro e w1 ⟨rfl, rfl⟩; clear tok)
            | (go_at_call 126; (with_reducible refine (HB.out _).mono ?_); rintro e w1 ⟨rfl, rfl⟩))
          all_goals go_ret
          all_goals exact ⟨rfl, rfl⟩
  · go_enter Try.func115, Try.ntmps115
    go_wp2
    go_ret
    exact ⟨by simp, rfl⟩
theorem ahead_rk {a b : Nat} (ha : a < 2 ^ 64) (hb : b < 2 ^ 64) (h1 : oneB a = true) (h2 : oneB b = true) : aheadB a b = decide (rkW a < rkW b) := by
  have f0 : Fin64 0 0 := by have := fin_word (neg := false) (R := 0) (by decide); rwa [word_false, valR_zero] at this
  have o1 := fcmp ha hb h1 h2
  have o2 : FloatKind.f64.format.order a 0 = some (compare (valW a) 0) := order_fin (fin_one ha h1) f0
  have o3 : FloatKind.f64.format.order b 0 = some (compare (valW b) 0) := order_fin (fin_one hb h2) f0
  have hr := ord_rk (x := a) (y := b)
  have hno : ∀ x, negB x = true → valW x ≤ 0 := fun x h => by unfold valW; rw [if_pos h]; omega
  have hpo : ∀ x, negB x = false → 0 ≤ valW x := fun x h => by unfold valW; rw [if_neg (by rw [h]; simp)]; omega
  have na := hno a
  have pa := hpo a
  have nb := hno b
  have pb := hpo b
  unfold aheadB fltB feqB
  rw [o1, o2, o3]
  rcases Int.lt_trichotomy (valW a) (valW b) with h | h | h
  · rw [cmp_lt h] at hr ⊢
    rw [show ordO a b .lt = .lt from rfl] at hr
    rw [decide_eq_true ((Int.compare_eq_lt).1 hr.symm)]
    simp
  · rw [h, cmp_eq] at hr ⊢
    rw [ord_eq _ _ rfl rfl] at hr
    cases hna : negB a <;> cases hnb : negB b <;> rw [hna, hnb] at hr <;> simp only [if_true, Bool.false_eq_true, if_false] at hr
    · rw [cmp_eq] at hr
      rw [decide_eq_false (by have := (Int.compare_eq_eq).1 hr.symm; omega)]
      simp
    · rw [cmp_gt (by decide)] at hr
      rw [decide_eq_false (by have := (Int.compare_eq_gt).1 hr.symm; omega)]
      simp
    · rw [cmp_lt (by decide)] at hr
      have h0 : valW b = 0 := by have := na hna; have := pb hnb; omega
      rw [decide_eq_true ((Int.compare_eq_lt).1 hr.symm), h0, cmp_eq]
      rfl
    · rw [cmp_eq] at hr
      rw [decide_eq_false (by have := (Int.compare_eq_eq).1 hr.symm; omega)]
      simp
  · rw [cmp_gt h] at hr ⊢
    rw [show ordO a b .gt = .gt from rfl] at hr
    rw [decide_eq_false (by have := (Int.compare_eq_gt).1 hr.symm; omega)]
    rcases Int.lt_trichotomy (valW b) 0 with hb' | hb' | hb'
    · rw [cmp_lt hb']; simp
    · rw [cmp_gt (show 0 < valW a by omega)]; simp
    · rw [cmp_gt hb']; simp
/-- x put into a list at place k. -/
def insY (X : List Nat) (x k : Nat) : List Nat := X.take k ++ x :: X.drop k
theorem insY_len {X : List Nat} {x k : Nat} (h : k ≤ X.length) : (insY X x k).length = X.length + 1 := by
  unfold insY; simp; omega
theorem insY_end (X : List Nat) (x : Nat) : insY X x X.length = X ++ [x] := by unfold insY; simp
theorem insY_at {X : List Nat} {x k : Nat} (h : k ≤ X.length) : (insY X x k)[k]? = some x := by
  unfold insY
  rw [List.getElem?_append_right (by rw [List.length_take]; omega), show k - (X.take k).length = 0 by rw [List.length_take]; omega]
  rfl
theorem insY_low {X : List Nat} {x k j : Nat} (h : k ≤ X.length) (hj : j < k) : (insY X x k)[j]? = X[j]? := by
  unfold insY
  rw [List.getElem?_append_left (by rw [List.length_take]; omega), List.getElem?_take, if_pos hj]
theorem insY_swap {X : List Nat} {x k : Nat} (h : k + 1 ≤ X.length) : ((insY X x (k + 1)).set (k + 1) (X.getD k 0)).set k x = insY X x k := by
  unfold insY
  have e : X.take (k + 1) = X.take k ++ [X.getD k 0] := by
    rw [List.take_succ_eq_append_getElem (by omega), List.getD_eq_getElem?_getD, List.getElem?_eq_getElem (by omega)]; rfl
  have e2 : X.drop k = X.getD k 0 :: X.drop (k + 1) := by
    rw [List.drop_eq_getElem_cons (by omega), List.getD_eq_getElem?_getD, List.getElem?_eq_getElem (by omega)]; rfl
  have l1 : (X.take k).length = k := by simp; omega
  rw [e, e2]
  generalize X.getD k 0 = y at *
  generalize X.take k = P at *
  generalize X.drop (k + 1) = D at *
  subst l1
  rw [List.append_assoc, List.set_append_right _ _ (by omega), show P.length + 1 - P.length = 1 by omega]
  rw [show ([y] ++ x :: D).set 1 y = y :: y :: D from rfl, List.set_append_right _ _ (Nat.le_refl _), Nat.sub_self]
  rfl
/-- From place k on all are behind x. -/
def Bhd (X : List Nat) (x k : Nat) : Prop := ∀ j, k ≤ j → j < X.length → rkW x < rkW (X.getD j 0)
theorem insY_sorted {X : List Nat} {x k : Nat} (hs : X.Pairwise (fun a b => rkW a ≤ rkW b)) (hk : k ≤ X.length) (hb : Bhd X x k) (hl : 0 < k → rkW (X.getD (k - 1) 0) ≤ rkW x) : (insY X x k).Pairwise (fun a b => rkW a ≤ rkW b) := by
  unfold insY
  rw [List.pairwise_append]
  refine ⟨hs.sublist (List.take_sublist _ _), ?_, ?_⟩
  · rw [List.pairwise_cons]
    refine ⟨fun b hb' => ?_, hs.sublist (List.drop_sublist _ _)⟩
    obtain ⟨j, hj, rfl⟩ := List.getElem_of_mem hb'
    rw [List.length_drop] at hj
    have := hb (k + j) (by omega) (by omega)
    rw [List.getD_eq_getElem?_getD, List.getElem?_eq_getElem (by omega)] at this
    rw [List.getElem_drop]
    exact Int.le_of_lt this
  · intro a ha b hb'
    obtain ⟨i, hi, rfl⟩ := List.getElem_of_mem ha
    rw [List.length_take] at hi
    rw [List.pairwise_iff_getElem] at hs
    have hax : rkW ((X.take k)[i]'(by rw [List.length_take]; exact hi)) ≤ rkW x := by
      have h1 := hl (by omega)
      rw [List.getD_eq_getElem?_getD, List.getElem?_eq_getElem (by omega)] at h1
      rw [List.getElem_take]
      rcases Nat.lt_or_ge i (k - 1) with h2 | h2
      · exact Int.le_trans (hs i (k - 1) (by omega) (by omega) h2) h1
      · have : i = k - 1 := by omega
        subst this
        exact h1
    rw [List.mem_cons] at hb'
    rcases hb' with rfl | hb'
    · exact hax
    · obtain ⟨j, hj, rfl⟩ := List.getElem_of_mem hb'
      rw [List.length_drop] at hj
      rw [List.getElem_take, List.getElem_drop]
      exact hs i (k + j) (by omega) (by omega) (by omega)
theorem insY_srt {L : List Nat} {i x k : Nat} (hw : W64 L) (hi : i < L.length) (hx : L.getD i 0 = x) (h1 : oneB x = true) (hk : k ≤ (srt (L.take i)).length) (hb : Bhd (srt (L.take i)) x k)
    (hl : 0 < k → rkW ((srt (L.take i)).getD (k - 1) 0) ≤ rkW x) : insY (srt (L.take i)) x k = srt (L.take (i + 1)) := by
  have ht : L.take (i + 1) = L.take i ++ [x] := by
    rw [List.take_succ_eq_append_getElem hi, ← hx, List.getD_eq_getElem?_getD, List.getElem?_eq_getElem hi]; rfl
  refine srt_eq (fun y hy => hw y (List.mem_of_mem_take hy)) ?_ (insY_sorted (srt_sorted _) hk hb hl)
  rw [ht, List.filter_append, List.filter_cons_of_pos h1, List.filter_nil]
  have p1 : (insY (srt (L.take i)) x k).Perm (x :: srt (L.take i)) := by
    unfold insY
    refine List.perm_middle.trans ?_
    rw [List.take_append_drop]
  have p2 : ((L.take i).filter oneB ++ [x]).Perm (x :: (L.take i).filter oneB) := List.perm_append_singleton _ _
  exact p1.trans (((srt_perm _).cons x).trans p2.symm)
theorem srt_skip {L : List Nat} {i : Nat} (hw : W64 L) (hi : i < L.length) (h1 : oneB (L.getD i 0) = false) : srt (L.take (i + 1)) = srt (L.take i) := by
  have ht : L.take (i + 1) = L.take i ++ [L.getD i 0] := by
    rw [List.take_succ_eq_append_getElem hi, List.getD_eq_getElem?_getD, List.getElem?_eq_getElem hi]; rfl
  unfold srt
  rw [ht, List.filter_append, List.filter_cons_of_neg (by rw [h1]; simp), List.filter_nil, List.append_nil]
end Go.Proofs.Ytlgnidjkilbdfaa
