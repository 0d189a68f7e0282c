/- Chapter 20: what stands out. -/
import Derived.Test.YtlgnidjkilbdfaaLs
namespace Go.Proofs.Ytlgnidjkilbdfaa
open Go.RowKit Ieee
set_option linter.unusedVariables false
set_option maxRecDepth 100000
def nearTo (S : Rc) (i lo k : Nat) : List Nat := ((List.range k).filter fun j => decide (lo ≤ j) && decide (j ≠ i)).map fun j => (S.getD j (0, 0)).2
theorem nearTo_yes {S : Rc} {i lo k : Nat} (h1 : lo ≤ k) (h2 : k ≠ i) : nearTo S i lo (k + 1) = nearTo S i lo k ++ [(S.getD k (0, 0)).2] := by
  unfold nearTo
  rw [List.range_succ, List.filter_append, List.filter_cons_of_pos (by simp [h1, h2]), List.map_append]
  rfl
theorem nearTo_no {S : Rc} {i lo : Nat} : nearTo S i lo (i + 1) = nearTo S i lo i := by
  unfold nearTo
  rw [List.range_succ, List.filter_append, List.filter_cons_of_neg (by simp), List.filter_nil, List.append_nil]
theorem nearTo_zero {S : Rc} {i lo k : Nat} (h : k ≤ lo) : nearTo S i lo k = [] := by
  unfold nearTo
  rw [List.filter_eq_nil_iff.2 (by intro j hj; rw [List.mem_range] at hj; simp; omega)]
  rfl
theorem nearTo_len {S : Rc} {i lo k : Nat} : (nearTo S i lo k).length ≤ k := by
  unfold nearTo
  rw [List.length_map]
  exact Nat.le_trans (List.length_filter_le _ _) (by simp)
theorem nearTo_w64 {S : Rc} (h : ∀ x ∈ S, x.2 < 2 ^ 64) (i lo k : Nat) : W64 (nearTo S i lo k) := by
  intro x hx
  unfold nearTo at hx
  obtain ⟨j, _, rfl⟩ := List.mem_map.1 hx
  rcases Nat.lt_or_ge j S.length with hj | hj
  · exact h _ (mem_getD hj)
  · rw [List.getD_eq_getElem?_getD, List.getElem?_eq_none hj]; decide
/-- The heights beside place i. -/
def nearL (S : Rc) (i wd : Nat) : List Nat := nearTo S i (i - wd) (min S.length (i + wd + 1))
set_option maxHeartbeats 3200000 in
theorem around_any (p : Option Addr) (n c : Nat) (S : Rc) (i wd : Nat) (w : World) (hn : n = S.length) (hp : TL w p S) (hi : i < n) (hw : 1 ≤ wd ∧ wd ≤ 16) (hs : n ≤ 1000000) :
    Calls Try.prog 94 #[.slice p n c, .int .i64 i, .int .i64 wd] w fun e w' => (∃ v, e = .returned v ∧ w'.ownsRow w.heap.size 24 1 v (nearL S i wd).length ((nearL S i wd).map encF)) ∧ Below w.heap.size w w' := by
  subst hn
  have HP := hide_ hp
  obtain ⟨i0, hi0, hz0, hz1, hz2⟩ := info_parts info24
  clear hp
  obtain ⟨lo, hlo⟩ : ∃ lo : Nat, lo = i - wd := ⟨_, rfl⟩
  have hmax : max (0 : Int) ((i : Int) - (wd : Int)) = (lo : Int) := by omega
  have HV : Hid (nearL S i wd = nearTo S i lo (min S.length (i + wd + 1))) := hide_ (by rw [hlo]; rfl)
  have HLO := hide_ hlo
  clear hlo
  go_enter Try.func94, Try.ntmps94
  go_wp2
  go_loopw [7, 8] (fun u vi wr => ∃ k : Nat, lo ≤ k ∧ k ≤ min S.length (i + wd + 1) ∧ vi = .int .i64 k ∧ wr.ownsRow w.heap.size 24 1 u (nearTo S i lo k).length ((nearTo S i lo k).map encF) ∧ Grew w.heap.size w wr) (fun _ vi _ => S.length - (intOf vi).toNat)
  case atStart => exact ⟨lo, Nat.le_refl _, by have := HLO.out; omega, rfl, (by rw [nearTo_zero (Nat.le_refl _)]; exact World.ownsRow_nil _ _ _ _), Grew.refl _⟩
  case round =>
    obtain ⟨k, hk1, hk2, rfl, hu, hgr⟩ := hrel
    have i0' : (0 : Int) ≤ (k : Int) := by omega
    clear hmax
    by_cases hlt : k < min S.length (i + wd + 1)
    · have hkS : k < S.length := by omega
      obtain ⟨g, o, rfl, hg, hc⟩ := HP.out.some_ hkS
      have c1 := (hgr.1.cell (p := ⟨g, o + k * 2 + 1, none⟩) hg).trans (hc k hkS).2
      have t1 : decide ((k : Int) < (S.length : Int)) = true := decide_eq_true (by omega)
      have t2 : decide ((k : Int) ≤ (i : Int) + (wd : Int)) = true := decide_eq_true (by omega)
      have i5 : (k : Int) < (S.length : Int) := by omega
      have HLT := hide_ hlt
      have HSL : Hid (k < S.length) := hide_ hkS
      clear hc hlt
      by_cases hki : k = i
      · subst hki
        have t3 : ((k : Int) != (k : Int)) = false := by simp
        have HN := hide_ (nearTo_no (S := S) (i := k) (lo := lo))
        go_wp2
        exact ⟨⟨k + 1, by omega, HLT.out, by simp, by rw [HN.out]; exact hu, hgr⟩, by have := HSL.out; simp [intOf]; omega⟩
      · have t3 : ((k : Int) != (i : Int)) = true := by simp; omega
        have HN := hide_ (nearTo_yes (S := S) (lo := lo) hk1 hki)
        have hkb : ((nearTo S i lo k).length + 1) * 8 ≤ 140737488355328 := by have := nearTo_len (S := S) (i := i) (lo := lo) (k := k); omega
        generalize (S.getD k (0, 0)).2 = x at *
        clear hki
        go_wp2_with (at_builtin; go_must (
          refine wpList_push2 rfl _ _ 80 rfl w.heap.size 24 i0 (.float .f64 0) 1 8 Try.underlying80 hi0 hz0 hz1 hz2 rfl (by decide) (by decide) _ (nearTo S i lo k).length _ rfl (hu.alloc _) wr.heap.size #[.float .f64 x] 24 1 1 rfl (heap_alloc_last _ _) rfl (by kernel_rfl) hkb (hgr.alloc _).2 ?_
          intro v' w3 ho3 hg3 hf3 hn3
          have hgA := hgr.alloc (.cells #[.float .f64 x] 24)
          have hgr3 := own_grew hgA (hu.alloc (.cells #[.float .f64 x] 24)) hg3))
        exact ⟨⟨k + 1, by omega, HLT.out, by simp, by rw [HN.out, List.map_append, List.length_append]; exact ho3, hgr3⟩, by have := HSL.out; simp [intOf]; omega⟩
    · have hk : k = min S.length (i + wd + 1) := by omega
      have HK := hide_ hk
      by_cases hkS : k < S.length
      · have t1 : decide ((k : Int) < (S.length : Int)) = true := decide_eq_true (by omega)
        have t2 : decide ((k : Int) ≤ (i : Int) + (wd : Int)) = false := decide_eq_false (by omega)
        clear hk hlt
        go_wp2
        go_ret
        exact ⟨⟨_, rfl, by rw [HV.out, ← HK.out]; exact hu⟩, hgr.below⟩
      · have t1 : decide ((k : Int) < (S.length : Int)) = false := decide_eq_false (by omega)
        clear hk hlt
        go_wp2
        go_ret
        exact ⟨⟨_, rfl, by rw [HV.out, ← HK.out]; exact hu⟩, hgr.below⟩
theorem run_neg (x : Nat) (w : World) : (Op.unary .neg (.float .f64 x)).run Try.prog w = .ok (.float .f64 (negF x)) w := rfl
theorem ok_form {x : Nat} (hx : x < 2 ^ 64) (h : nanB x = false) : ∃ s R, R ≤ 2047 * 2 ^ 52 ∧ x = double.word s R := by
  refine ⟨negB x, x % 2 ^ 63, ?_, (word_of hx).symm⟩
  rcases Nat.lt_or_ge (2047 * 2 ^ 52) (x % 2 ^ 63) with h1 | h1
  · have := nan_of x (x % 2 ^ 63) rfl h1
    rw [h] at this
    cases this
  · exact h1
theorem neg_not_gt {R lim : Nat} (hR : R ≤ 2047 * 2 ^ 52) (hl : lim < 2 ^ 64) (h1 : oneB lim = true) (h0 : fltB lim 0 = false) : fgtB (double.word true R) lim = false := by
  have f0 : Fin64 0 0 := by have := fin_word (neg := false) (R := 0) (by decide); rwa [word_false, valR_zero] at this
  have o0 : FloatKind.f64.format.order lim 0 = some (compare (valW lim) 0) := order_fin (fin_one hl h1) f0
  have hv : 0 ≤ valW lim := by
    rcases Int.lt_or_le (valW lim) 0 with h | h
    · unfold fltB at h0
      rw [o0, cmp_lt h] at h0
      cases h0
    · exact h
  rcases Nat.lt_or_ge R (2047 * 2 ^ 52) with h | h
  · have o1 : FloatKind.f64.format.order (double.word true R) lim = some (compare (-(valR R : Int)) (valW lim)) := order_fin (by have := fin_word (neg := true) h; rwa [if_pos rfl] at this) (fin_one hl h1)
    unfold fgtB
    rw [o1]
    rcases Int.lt_or_le (-(valR R : Int)) (valW lim) with h2 | h2
    · rw [cmp_lt h2]; rfl
    · have e : -(valR R : Int) = valW lim := by omega
      rw [e, cmp_eq]; rfl
  · obtain rfl : R = 2047 * 2 ^ 52 := by omega
    obtain ⟨s, m, p, hr⟩ := one_read h1
    have hi : double.read (double.word true (2047 * 2 ^ 52)) = .infinity true := by decide +kernel
    unfold fgtB
    show (double.order _ lim == some .gt) = false
    unfold Format.order
    rw [hi, hr]
    rfl
theorem abs_gt2 {d lim : Nat} (hd : d < 2 ^ 64) (hn : nanB d = false) (hl : lim < 2 ^ 64) (h1 : oneB lim = true) (h0 : fltB lim 0 = false) : fgtB (d % 2 ^ 63) lim = (fgtB d lim || fgtB (negF d) lim) := by
  obtain ⟨s, R, hR, rfl⟩ := ok_form hd hn
  have hR' : R < 2 ^ 63 := by omega
  rw [(word_parts s hR').2, neg_word s hR']
  have e : R = double.word false R := (word_false R).symm
  cases s
  · rw [Bool.not_false, neg_not_gt hR hl h1 h0, Bool.or_false, ← e]
  · rw [Bool.not_true, neg_not_gt hR hl h1 h0, Bool.false_or, ← e]
/-- Does the sample at place i stand out. -/
def outB (S : Rc) (i wd lim : Nat) : Bool := oneB (S.getD i (0, 0)).2 && decide (0 < (srt (nearL S i wd)).length) && fgtB (less (S.getD i (0, 0)).2 (medL (srt (nearL S i wd))) % 2 ^ 63) lim
set_option maxHeartbeats 6400000 in
theorem rout_any (p : Option Addr) (n c : Nat) (S : Rc) (i wd lim : Nat) (w : World) (hn : n = S.length) (hp : TL w p S) (h64 : ∀ x ∈ S, x.2 < 2 ^ 64) (hi : i < n) (hw : 1 ≤ wd ∧ wd ≤ 16) (hl : lim < 2 ^ 64) (hl1 : oneB lim = true) (hl0 : fltB lim 0 = false) (hs : n ≤ 5000) :
    Calls Try.prog 95 #[.slice p n c, .int .i64 i, .int .i64 wd, .float .f64 lim] w fun e w' => e = .returned (.bool (outB S i wd lim)) ∧ Below w.heap.size w w' := by
  subst hn
  have HP := hide_ hp
  obtain ⟨i0, hi0, hz0, hz1, hz2⟩ := info_parts info24
  have HNW : Hid (W64 (nearL S i wd)) := hide_ (nearTo_w64 h64 _ _ _)
  have HNL : Hid ((nearL S i wd).length ≤ 5000) := hide_ (by unfold nearL; have := nearTo_len (S := S) (i := i) (lo := i - wd) (k := min S.length (i + wd + 1)); omega)
  have HMO := hide_ (med_one (srt_ok HNW.out))
  have HH : Hid ((S.getD i (0, 0)).2 < 2 ^ 64) := hide_ (h64 _ (mem_getD hi))
  have HOB : Hid (outB S i wd lim = (oneB (S.getD i (0, 0)).2 && decide (0 < (srt (nearL S i wd)).length) && fgtB (less (S.getD i (0, 0)).2 (medL (srt (nearL S i wd))) % 2 ^ 63) lim)) := hide_ rfl
  have HLI := hide_ (And.intro hl (And.intro hl1 hl0))
  have HI := hide_ hi
  generalize outB S i wd lim = ob at *
  clear hp h64 hl hl1 hl0
  obtain ⟨lo, hlo⟩ : ∃ lo : Nat, lo = i - wd := ⟨_, rfl⟩
  have hmax : max (0 : Int) ((i : Int) - (wd : Int)) = (lo : Int) := by omega
  have HV : Hid (nearL S i wd = nearTo S i lo (min S.length (i + wd + 1))) := hide_ (by rw [hlo]; rfl)
  have HLO := hide_ hlo
  clear hlo
  go_enter Try.func95, Try.ntmps95
  go_wp2
  go_loopw [9, 10] (fun u vi wr => ∃ k : Nat, lo ≤ k ∧ k ≤ min S.length (i + wd + 1) ∧ vi = .int .i64 k ∧ wr.ownsRow w.heap.size 24 1 u (nearTo S i lo k).length ((nearTo S i lo k).map encF) ∧ Grew w.heap.size w wr) (fun _ vi _ => S.length - (intOf vi).toNat)
  case atStart => exact ⟨lo, Nat.le_refl _, by have := HLO.out; omega, rfl, (by rw [nearTo_zero (Nat.le_refl _)]; exact World.ownsRow_nil _ _ _ _), Grew.refl _⟩
  case round =>
    obtain ⟨k, hk1, hk2, rfl, hu, hgr⟩ := hrel
    have i0' : (0 : Int) ≤ (k : Int) := by omega
    clear hmax
    by_cases hlt : k < min S.length (i + wd + 1)
    · have hkS : k < S.length := by omega
      obtain ⟨g, o, rfl, hg, hc⟩ := HP.out.some_ hkS
      have c1 := (hgr.1.cell (p := ⟨g, o + k * 2 + 1, none⟩) hg).trans (hc k hkS).2
      have t1 : decide ((k : Int) < (S.length : Int)) = true := decide_eq_true (by omega)
      have t2 : decide ((k : Int) ≤ (i : Int) + (wd : Int)) = true := decide_eq_true (by omega)
      have i5 : (k : Int) < (S.length : Int) := by omega
      have HLT := hide_ hlt
      have HSL : Hid (k < S.length) := hide_ hkS
      clear hc hlt
      by_cases hki : k = i
      · subst hki
        have t3 : ((k : Int) != (k : Int)) = false := by simp
        have HN := hide_ (nearTo_no (S := S) (i := k) (lo := lo))
        go_wp2
        exact ⟨⟨k + 1, by omega, HLT.out, by simp, by rw [HN.out]; exact hu, hgr⟩, by have := HSL.out; simp [intOf]; omega⟩
      · have t3 : ((k : Int) != (i : Int)) = true := by simp; omega
        have HN := hide_ (nearTo_yes (S := S) (lo := lo) hk1 hki)
        have hkb : ((nearTo S i lo k).length + 1) * 8 ≤ 140737488355328 := by have := nearTo_len (S := S) (i := i) (lo := lo) (k := k); omega
        generalize (S.getD k (0, 0)).2 = x at *
        clear hki
        go_wp2_with (at_builtin; go_must (
          refine wpList_push2 rfl _ _ 80 rfl w.heap.size 24 i0 (.float .f64 0) 1 8 Try.underlying80 hi0 hz0 hz1 hz2 rfl (by decide) (by decide) _ (nearTo S i lo k).length _ rfl (hu.alloc _) wr.heap.size #[.float .f64 x] 24 1 1 rfl (heap_alloc_last _ _) rfl (by kernel_rfl) hkb (hgr.alloc _).2 ?_
          intro v' w3 ho3 hg3 hf3 hn3
          have hgA := hgr.alloc (.cells #[.float .f64 x] 24)
          have hgr3 := own_grew hgA (hu.alloc (.cells #[.float .f64 x] 24)) hg3))
        exact ⟨⟨k + 1, by omega, HLT.out, by simp, by rw [HN.out, List.map_append, List.length_append]; exact ho3, hgr3⟩, by have := HSL.out; simp [intOf]; omega⟩
    · have hk : k = min S.length (i + wd + 1) := by omega
      obtain ⟨pn, cn, rfl⟩ := row_slice hu
      have F1 := (own_fl hu).2
      rw [hk, ← HV.out] at hu F1
      have HM := hide_ (rmedian_any pn (nearL S i wd).length cn (nearL S i wd) wr rfl F1 HNW.out (by have := HNL.out; omega))
      have hlen : (nearTo S i lo k).length = (nearL S i wd).length := by rw [HV.out, ← hk]
      rw [← hlen] at HM
      clear hu F1 hlen
      generalize (nearTo S i lo k).length = nl at *
      obtain ⟨m1, m2⟩ := HMO.out
      have hh := HH.out
      have hob := HOB.out
      obtain ⟨g, o, rfl, hg, hc⟩ := HP.out.some_ HI.out
      have c1 := (hgr.1.cell (p := ⟨g, o + i * 2 + 1, none⟩) hg).trans (hc i HI.out).2
      have i6 : (i : Int) < (S.length : Int) := by have := HI.out; omega
      have i7 : (0 : Int) ≤ (i : Int) := by omega
      generalize medL (srt (nearL S i wd)) = md at *
      generalize decide (0 < (srt (nearL S i wd)).length) = ok at *
      generalize (S.getD i (0, 0)).2 = h at *
      obtain ⟨l1, l2, l3⟩ := HLI.out
      have HF := hide_ (rfin_any h)
      have ht : (¬ k < S.length ∧ decide ((k : Int) < (S.length : Int)) = false) ∨ ((k < S.length ∧ decide ((k : Int) < (S.length : Int)) = true) ∧ (¬ (k : Int) ≤ (i : Int) + (wd : Int)) ∧ decide ((k : Int) ≤ (i : Int) + (wd : Int)) = false) := by
        rcases Nat.lt_or_ge k S.length with hkS | hkS
        · exact .inr ⟨⟨hkS, decide_eq_true (by omega)⟩, by omega, decide_eq_false (by omega)⟩
        · exact .inl ⟨by omega, decide_eq_false (by omega)⟩
      have HB := hide_ hgr.below
      clear hk hlt hc HP HV HMO HNW HNL hk2
      cases hone : oneB h
      · rw [hone] at HF hob
        rw [Bool.false_and, Bool.false_and] at hob
        subst hob
        cases hsub : double.sub h md with
        | some r =>
          have f1 := fun wx => run_float_arith (P := Try.prog) wx .sub 24 .f64 _ _ _ hsub
          clear hone hsub m1 m2 hh l1 l2 l3
          rcases ht with ⟨t0, t1⟩ | ⟨⟨t0, t1⟩, t3, t2⟩
          all_goals go_wp2_with (first
            | (go_at_call 53; go_must ((with_reducible refine (HM.out).mono ?_); rintro e w5 ⟨rfl, hb5⟩; have c5 := (hb5.cell (p := ⟨g, o + i * 2 + 1, none⟩) (by have := hgr.2; show g < wr.heap.size; omega)).trans c1; have hg5 := hgr.step hb5))
            | (go_at_call 91; (with_reducible refine (HF.out _).mono ?_); rintro e w6 ⟨rfl, q6, rfl⟩))
          all_goals go_ret
          all_goals exact ⟨rfl, (hg5.drewN _).below⟩
        | none =>
          clear hone m1 m2 hh l1 l2 l3
          rcases ht with ⟨t0, t1⟩ | ⟨⟨t0, t1⟩, t3, t2⟩
          all_goals go_wp2_with (first
            | (go_at_call 53; go_must ((with_reducible refine (HM.out).mono ?_); rintro e w5 ⟨rfl, hb5⟩; have c5 := (hb5.cell (p := ⟨g, o + i * 2 + 1, none⟩) (by have := hgr.2; show g < wr.heap.size; omega)).trans c1; have hg5 := hgr.step hb5; obtain ⟨r, hr, hrun⟩ := run_nan (P := Try.prog) w5 .sub 24 h md (.inr (.inl rfl)) hsub; clear hr))
            | (go_at_call 91; (with_reducible refine (HF.out _).mono ?_); rintro e w6 ⟨rfl, q6, rfl⟩))
          all_goals go_ret
          all_goals exact ⟨rfl, (hg5.drewN _).below⟩
      · rw [hone] at HF hob
        obtain ⟨q1, q2, q3⟩ := less_ok hone m2
        have f1 := fun wx => run_float_arith (P := Try.prog) wx .sub 24 .f64 _ _ _ q1
        rw [abs_gt2 q3 q2 l1 l2 l3, Bool.true_and] at hob
        generalize less h md = d at *
        have hrn := fun wx => run_neg d wx
        generalize negF d = nd at *
        clear hone m1 m2 hh l1 l2 l3 q1 q2 q3
        cases ok
        · rw [Bool.false_and] at hob
          subst hob
          rcases ht with ⟨t0, t1⟩ | ⟨⟨t0, t1⟩, t3, t2⟩
          all_goals go_wp2_with (first
            | (go_at_call 53; go_must ((with_reducible refine (HM.out).mono ?_); rintro e w5 ⟨rfl, hb5⟩; have c5 := (hb5.cell (p := ⟨g, o + i * 2 + 1, none⟩) (by have := hgr.2; show g < wr.heap.size; omega)).trans c1; have hg5 := hgr.step hb5))
            | (go_at_call 91; (with_reducible refine (HF.out _).mono ?_); rintro e w6 ⟨rfl, q6, rfl⟩))
          all_goals go_ret
          all_goals exact ⟨rfl, (hg5.drewN _).below⟩
        · rw [Bool.true_and] at hob
          unfold fgtB at hob
          generalize h1 : (FloatKind.f64.format.order d lim == some .gt) = g1 at *
          generalize h2 : (FloatKind.f64.format.order nd lim == some .gt) = g2 at *
          cases g1 <;> cases g2 <;> subst hob
          all_goals rcases ht with ⟨t0, t1⟩ | ⟨⟨t0, t1⟩, t3, t2⟩
          all_goals go_wp2_with (first
            | (go_at_call 53; go_must ((with_reducible refine (HM.out).mono ?_); rintro e w5 ⟨rfl, hb5⟩; have c5 := (hb5.cell (p := ⟨g, o + i * 2 + 1, none⟩) (by have := hgr.2; show g < wr.heap.size; omega)).trans c1; have hg5 := hgr.step hb5))
            | (go_at_call 91; (with_reducible refine (HF.out _).mono ?_); rintro e w6 ⟨rfl, q6, rfl⟩))
          all_goals go_ret
          all_goals exact ⟨rfl, (hg5.drewN _).below⟩
end Go.Proofs.Ytlgnidjkilbdfaa
