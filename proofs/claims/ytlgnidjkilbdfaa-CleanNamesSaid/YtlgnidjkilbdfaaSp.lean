/- Chapter 20: Spikes, the program's and the reference's. -/
import Derived.Test.YtlgnidjkilbdfaaSk
namespace Go.Proofs.Ytlgnidjkilbdfaa
open Go.RowKit Ieee
set_option linter.unusedVariables false
set_option maxRecDepth 100000
def spE (n : Nat) (wd : Int) (lim : Nat) : Int := if 4096 < n then 3 else if wd < 1 ∨ 16 < wd then 2 else if oneB lim = false then 8 else if fltB lim 0 = true then 2 else 0
def spL (S : Rc) (wd lim k : Nat) : List Int := ((List.range k).filter fun i => outB S i wd lim).map fun (i : Nat) => (i : Int)
theorem spL_yes {S : Rc} {wd lim k : Nat} (h : outB S k wd lim = true) : spL S wd lim (k + 1) = spL S wd lim k ++ [(k : Int)] := by
  unfold spL
  rw [List.range_succ, List.filter_append, List.filter_cons_of_pos (p := fun i => outB S i wd lim) h, List.map_append]
  rfl
theorem spL_no {S : Rc} {wd lim k : Nat} (h : outB S k wd lim = false) : spL S wd lim (k + 1) = spL S wd lim k := by
  unfold spL
  rw [List.range_succ, List.filter_append, List.filter_cons_of_neg (p := fun i => outB S i wd lim) (by rw [h]; simp), List.filter_nil, List.append_nil]
theorem spL_len {S : Rc} {wd lim k : Nat} : (spL S wd lim k).length ≤ k := by
  unfold spL
  rw [List.length_map]
  exact Nat.le_trans (List.length_filter_le _ _) (by simp)
/-- Refused. -/
theorem spikes_err (p : Option Addr) (n c : Nat) (wd : Int) (lim : Nat) (w : World) (hl : lim < 2 ^ 64) (hn : n ≤ 140737488355328) (he : spE n wd lim ≠ 0) :
    Calls Try.prog 57 #[.slice p n c, .int .i64 wd, .float .f64 lim] w fun e w' => e = .returned (.tuple #[.slice none 0 0, .int .i64 (spE n wd lim)]) ∧ Below w.heap.size w w' := by
  unfold spE at *
  by_cases h1 : 4096 < n
  · rw [if_pos h1]
    have d1 : decide ((4096 : Int) < (n : Int)) = true := decide_eq_true (by omega)
    clear he
    go_enter Try.func57, Try.ntmps57
    go_wp2
    go_ret2
    exact ⟨rfl, Below.refl _ _⟩
  · rw [if_neg h1] at he ⊢
    have d1 : decide ((4096 : Int) < (n : Int)) = false := decide_eq_false (by omega)
    by_cases h2 : wd < 1
    · rw [if_pos (.inl h2)]
      clear he
      go_enter Try.func57, Try.ntmps57
      go_wp2
      go_ret2
      exact ⟨rfl, Below.refl _ _⟩
    · by_cases h3 : 16 < wd
      · rw [if_pos (.inr h3)]
        clear he
        go_enter Try.func57, Try.ntmps57
        go_wp2
        go_ret2
        exact ⟨rfl, Below.refl _ _⟩
      · rw [if_neg (by omega)] at he ⊢
        have HF := hide_ (finite_any lim hl)
        cases h4 : oneB lim
        · rw [h4] at HF
          simp only [if_true]
          clear he h4
          go_enter Try.func57, Try.ntmps57
          go_wp2_with (go_at_call 86; (with_reducible refine (HF.out _).mono ?_); rintro e w1 ⟨rfl, rfl⟩)
          go_ret2
          exact ⟨rfl, Below.refl _ _⟩
        · rw [h4] at HF he
          simp only [Bool.true_eq_false, if_false] at he ⊢
          cases h5 : fltB lim 0
          · rw [h5] at he; simp at he
          · unfold fltB at h5
            simp only [if_true]
            clear he h4
            go_enter Try.func57, Try.ntmps57
            go_wp2_with (go_at_call 86; (with_reducible refine (HF.out _).mono ?_); rintro e w1 ⟨rfl, rfl⟩)
            go_ret2
            exact ⟨rfl, Below.refl _ _⟩
theorem rspikes_err (p : Option Addr) (n c : Nat) (wd : Int) (lim : Nat) (w : World) (hl : lim < 2 ^ 64) (hn : n ≤ 140737488355328) (he : spE n wd lim ≠ 0) :
    Calls Try.prog 58 #[.slice p n c, .int .i64 wd, .float .f64 lim] w fun e w' => e = .returned (.tuple #[.slice none 0 0, .int .i64 (spE n wd lim)]) ∧ Below w.heap.size w w' := by
  unfold spE at *
  by_cases h1 : 4096 < n
  · rw [if_pos h1]
    have d1 : decide ((4096 : Int) < (n : Int)) = true := decide_eq_true (by omega)
    clear he
    go_enter Try.func58, Try.ntmps58
    go_wp2
    go_ret2
    exact ⟨rfl, Below.refl _ _⟩
  · rw [if_neg h1] at he ⊢
    have d1 : decide ((4096 : Int) < (n : Int)) = false := decide_eq_false (by omega)
    by_cases h2 : wd < 1
    · rw [if_pos (.inl h2)]
      clear he
      go_enter Try.func58, Try.ntmps58
      go_wp2
      go_ret2
      exact ⟨rfl, Below.refl _ _⟩
    · by_cases h3 : 16 < wd
      · rw [if_pos (.inr h3)]
        clear he
        go_enter Try.func58, Try.ntmps58
        go_wp2
        go_ret2
        exact ⟨rfl, Below.refl _ _⟩
      · rw [if_neg (by omega)] at he ⊢
        have HF := hide_ (rfin_any lim)
        cases h4 : oneB lim
        · rw [h4] at HF
          simp only [if_true]
          clear he h4
          go_enter Try.func58, Try.ntmps58
          go_wp2_with (go_at_call 91; (with_reducible refine (HF.out _).mono ?_); rintro e w1 ⟨rfl, q1, rfl⟩)
          go_ret2
          exact ⟨rfl, below_drewN (Below.refl _ _) _⟩
        · rw [h4] at HF he
          simp only [Bool.true_eq_false, if_false] at he ⊢
          cases h5 : fltB lim 0
          · rw [h5] at he; simp at he
          · unfold fltB at h5
            simp only [if_true]
            clear he h4
            go_enter Try.func58, Try.ntmps58
            go_wp2_with (go_at_call 91; (with_reducible refine (HF.out _).mono ?_); rintro e w1 ⟨rfl, q1, rfl⟩)
            go_ret2
            exact ⟨rfl, below_drewN (Below.refl _ _) _⟩
set_option maxHeartbeats 6400000 in
theorem spikes_ok (p : Option Addr) (n c : Nat) (S : Rc) (wd lim : Nat) (w : World) (hn : n = S.length) (hp : TL w p S) (h64 : ∀ x ∈ S, x.2 < 2 ^ 64) (hw : 1 ≤ wd ∧ wd ≤ 16) (hl : lim < 2 ^ 64) (hl1 : oneB lim = true) (hl0 : fltB lim 0 = false) (hs : n ≤ 4096) :
    Calls Try.prog 57 #[.slice p n c, .int .i64 wd, .float .f64 lim] w fun e w' => (∃ v, e = .returned (.tuple #[v, .int .i64 0]) ∧ w'.ownsRow w.heap.size 3 1 v (spL S wd lim n).length ((spL S wd lim n).map iv)) ∧ Below w.heap.size w w' := by
  subst hn
  have HP := hide_ hp
  have HAr := hide_ (fun (i : Nat) (hi : i < S.length) W (h : TL W p S) => around_any p S.length c S i wd W rfl h hi hw (by omega))
  have HNW := hide_ (fun i => nearTo_w64 h64 i (i - wd) (min S.length (i + wd + 1)))
  have HNL : Hid (∀ i, (nearL S i wd).length ≤ 5000) := hide_ (fun i => by unfold nearL; have := nearTo_len (S := S) (i := i) (lo := i - wd) (k := min S.length (i + wd + 1)); omega)
  have HH : Hid (∀ i, i < S.length → (S.getD i (0, 0)).2 < 2 ^ 64) := hide_ (fun i hi => h64 _ (mem_getD hi))
  have HFL := hide_ (finite_any lim hl)
  rw [hl1] at HFL
  obtain ⟨i0, hi0, hz0, hz1, hz2⟩ := info_parts info3
  have d1 : decide ((4096 : Int) < (S.length : Int)) = false := decide_eq_false (by omega)
  have d2 : decide ((wd : Int) < 1) = false := decide_eq_false (by omega)
  have d3 : decide ((16 : Int) < (wd : Int)) = false := decide_eq_false (by omega)
  unfold fltB at hl0
  clear hp h64 hl hl1
  go_enter Try.func57, Try.ntmps57
  go_wp2_with (go_at_call 86; (with_reducible refine (HFL.out _).mono ?_); rintro e w1 ⟨rfl, rfl⟩)
  clear d1 d2 d3 HFL
  go_loopw [8, 33] (fun u vi wr => ∃ k : Nat, k ≤ S.length ∧ vi = .int .i64 k ∧ wr.ownsRow w.heap.size 3 1 u (spL S wd lim k).length ((spL S wd lim k).map iv) ∧ Grew w.heap.size w wr) (fun _ vi _ => S.length - (intOf vi).toNat)
  case atStart => exact ⟨0, by omega, rfl, World.ownsRow_nil _ _ _ _, Grew.refl _⟩
  case round =>
    obtain ⟨k, hk, rfl, hu, hgr⟩ := hrel
    by_cases hlt : k < S.length
    · obtain ⟨g, o, rfl, hg, hc⟩ := HP.out.some_ hlt
      obtain ⟨a0, a1⟩ := hc k hlt
      have c0 := (hgr.1.cell (p := ⟨g, o + k * 2, none⟩) hg).trans a0
      have c1 := (hgr.1.cell (p := ⟨g, o + k * 2 + 1, none⟩) hg).trans a1
      have HArk := hide_ (HAr.out k hlt)
      have HMk := hide_ (fun W q d (h : FL W q (nearL S k wd)) => median_any q (nearL S k wd).length d (nearL S k wd) W rfl h (HNW.out k) (by have := HNL.out k; omega))
      have HOB : Hid (outB S k wd lim = (oneB (S.getD k (0, 0)).2 && decide (0 < (srt (nearL S k wd)).length) && fgtB (less (S.getD k (0, 0)).2 (medL (srt (nearL S k wd))) % 2 ^ 63) lim)) := hide_ rfl
      have HY := hide_ (spL_yes (S := S) (wd := wd) (lim := lim) (k := k))
      have HN := hide_ (spL_no (S := S) (wd := wd) (lim := lim) (k := k))
      obtain ⟨m1, m2⟩ := med_one (srt_ok (HNW.out k))
      have hh := HH.out k hlt
      have hkb : ((spL S wd lim k).length + 1) * 8 ≤ 140737488355328 := by have := spL_len (S := S) (wd := wd) (lim := lim) (k := k); omega
      have HF := hide_ (finite_any _ hh)
      have hob := HOB.out
      have hm2 : oneB (medL (srt (nearL S k wd))) = true := m2
      have i4 : (0 : Int) ≤ (k : Int) := by omega
      have i5 : (k : Int) < (S.length : Int) := by omega
      generalize outB S k wd lim = ob at *
      generalize medL (srt (nearL S k wd)) = md at *
      generalize decide (0 < (srt (nearL S k wd)).length) = okk at *
      generalize (S.getD k (0, 0)).2 = h at *
      generalize (S.getD k (0, 0)).1 = t at *
      have HLT := hide_ hlt
      have HTP := HP
      clear hc a0 a1 m1 m2 HAr HNW HNL HH HOB
      cases hone : oneB h
      · rw [hone] at HF hob
        rw [Bool.false_and, Bool.false_and] at hob
        subst hob
        clear hone hm2 hh
        go_wp2_with (first
          | (go_at_call 94; go_must (
              (with_reducible refine (HArk.out _ (HTP.out.below (hgr.alloc (.cells #[.int .i64 t, .float .f64 h] 26)).below)).mono ?_)
              rintro e w5 ⟨⟨v5, rfl, ho5⟩, hb5⟩
              have hg5 := (hgr.alloc (.cells #[.int .i64 t, .float .f64 h] 26)).step hb5
              obtain ⟨p5, c5, rfl⟩ := row_slice ho5
              have F5 := (own_fl ho5).2
              have hbk5 := blk_below hb5))
          | (go_at_call 45; go_must (
              (with_reducible refine (HMk.out _ _ _ F5).mono ?_)
              rintro e w6 ⟨rfl, hb6⟩
              have hg6 := hg5.step hb6
              have hbk6 := (hb6.block _ (lt_of_heap hbk5)).trans hbk5
              obtain ⟨e0, e1⟩ := cells_two hbk6))
          | (go_at_call 86; (with_reducible refine (HF.out _).mono ?_); rintro e w7 ⟨rfl, rfl⟩))
        have hu6 := own_below (own_below (hu.alloc (.cells #[.int .i64 t, .float .f64 h] 26)) hb5) hb6
        exact ⟨⟨k + 1, HLT.out, by simp, by rw [HN.out trivial]; exact hu6, hg6⟩, by have := HLT.out; simp [intOf]; omega⟩
      · rw [hone] at HF hob
        obtain ⟨q1, q2, q3⟩ := less_ok hone hm2
        have f1 := fun wx => run_float_arith (P := Try.prog) wx .sub 24 .f64 _ _ _ q1
        have HAb := hide_ (abs_any _ q3)
        rw [Bool.true_and] at hob
        generalize less h md % 2 ^ 63 = ad at *
        generalize less h md = d at *
        clear hone hm2 hh q1 q2 q3
        cases okk
        · rw [Bool.false_and] at hob
          subst hob
          go_wp2_with (first
          | (go_at_call 94; go_must (
              (with_reducible refine (HArk.out _ (HTP.out.below (hgr.alloc (.cells #[.int .i64 t, .float .f64 h] 26)).below)).mono ?_)
              rintro e w5 ⟨⟨v5, rfl, ho5⟩, hb5⟩
              have hg5 := (hgr.alloc (.cells #[.int .i64 t, .float .f64 h] 26)).step hb5
              obtain ⟨p5, c5, rfl⟩ := row_slice ho5
              have F5 := (own_fl ho5).2
              have hbk5 := blk_below hb5))
          | (go_at_call 45; go_must (
              (with_reducible refine (HMk.out _ _ _ F5).mono ?_)
              rintro e w6 ⟨rfl, hb6⟩
              have hg6 := hg5.step hb6
              have hbk6 := (hb6.block _ (lt_of_heap hbk5)).trans hbk5
              obtain ⟨e0, e1⟩ := cells_two hbk6
              have hu6 := own_below (own_below (hu.alloc (.cells #[.int .i64 t, .float .f64 h] 26)) hb5) hb6))
          | (go_at_call 86; (with_reducible refine (HF.out _).mono ?_); rintro e w7 ⟨rfl, rfl⟩)
          | (go_at_call 82; (with_reducible refine (HAb.out _).mono ?_); rintro e w8 ⟨rfl, rfl⟩)
          | (at_builtin; go_must (
              refine wpList_push2 rfl _ _ 44 rfl w.heap.size 3 i0 (.int .i64 0) 1 8 Try.underlying44 hi0 hz0 hz1 hz2 rfl (by decide) (by decide) _ (spL S wd lim k).length _ rfl (hu6.alloc _) w6.heap.size #[.int .i64 k] 3 1 1 rfl (heap_alloc_last _ _) rfl (by kernel_rfl) hkb (hg6.alloc _).2 ?_
              intro v' w9 ho9 hg9 hf9 hn9
              have hgr9 := own_grew (hg6.alloc (.cells #[.int .i64 k] 3)) (hu6.alloc (.cells #[.int .i64 k] 3)) hg9)))
          exact ⟨⟨k + 1, HLT.out, by simp, by rw [HN.out trivial]; exact hu6, hg6⟩, by have := HLT.out; simp [intOf]; omega⟩
        · rw [Bool.true_and] at hob
          unfold fgtB at hob
          generalize h1 : (FloatKind.f64.format.order ad lim == some .gt) = g1 at *
          cases g1 <;> subst hob
          · go_wp2_with (first
          | (go_at_call 94; go_must (
              (with_reducible refine (HArk.out _ (HTP.out.below (hgr.alloc (.cells #[.int .i64 t, .float .f64 h] 26)).below)).mono ?_)
              rintro e w5 ⟨⟨v5, rfl, ho5⟩, hb5⟩
              have hg5 := (hgr.alloc (.cells #[.int .i64 t, .float .f64 h] 26)).step hb5
              obtain ⟨p5, c5, rfl⟩ := row_slice ho5
              have F5 := (own_fl ho5).2
              have hbk5 := blk_below hb5))
          | (go_at_call 45; go_must (
              (with_reducible refine (HMk.out _ _ _ F5).mono ?_)
              rintro e w6 ⟨rfl, hb6⟩
              have hg6 := hg5.step hb6
              have hbk6 := (hb6.block _ (lt_of_heap hbk5)).trans hbk5
              obtain ⟨e0, e1⟩ := cells_two hbk6
              have hu6 := own_below (own_below (hu.alloc (.cells #[.int .i64 t, .float .f64 h] 26)) hb5) hb6))
          | (go_at_call 86; (with_reducible refine (HF.out _).mono ?_); rintro e w7 ⟨rfl, rfl⟩)
          | (go_at_call 82; (with_reducible refine (HAb.out _).mono ?_); rintro e w8 ⟨rfl, rfl⟩)
          | (at_builtin; go_must (
              refine wpList_push2 rfl _ _ 44 rfl w.heap.size 3 i0 (.int .i64 0) 1 8 Try.underlying44 hi0 hz0 hz1 hz2 rfl (by decide) (by decide) _ (spL S wd lim k).length _ rfl (hu6.alloc _) w6.heap.size #[.int .i64 k] 3 1 1 rfl (heap_alloc_last _ _) rfl (by kernel_rfl) hkb (hg6.alloc _).2 ?_
              intro v' w9 ho9 hg9 hf9 hn9
              have hgr9 := own_grew (hg6.alloc (.cells #[.int .i64 k] 3)) (hu6.alloc (.cells #[.int .i64 k] 3)) hg9)))
            exact ⟨⟨k + 1, HLT.out, by simp, by rw [HN.out trivial]; exact hu6, hg6⟩, by have := HLT.out; simp [intOf]; omega⟩
          · go_wp2_with (first
          | (go_at_call 94; go_must (
              (with_reducible refine (HArk.out _ (HTP.out.below (hgr.alloc (.cells #[.int .i64 t, .float .f64 h] 26)).below)).mono ?_)
              rintro e w5 ⟨⟨v5, rfl, ho5⟩, hb5⟩
              have hg5 := (hgr.alloc (.cells #[.int .i64 t, .float .f64 h] 26)).step hb5
              obtain ⟨p5, c5, rfl⟩ := row_slice ho5
              have F5 := (own_fl ho5).2
              have hbk5 := blk_below hb5))
          | (go_at_call 45; go_must (
              (with_reducible refine (HMk.out _ _ _ F5).mono ?_)
              rintro e w6 ⟨rfl, hb6⟩
              have hg6 := hg5.step hb6
              have hbk6 := (hb6.block _ (lt_of_heap hbk5)).trans hbk5
              obtain ⟨e0, e1⟩ := cells_two hbk6
              have hu6 := own_below (own_below (hu.alloc (.cells #[.int .i64 t, .float .f64 h] 26)) hb5) hb6))
          | (go_at_call 86; (with_reducible refine (HF.out _).mono ?_); rintro e w7 ⟨rfl, rfl⟩)
          | (go_at_call 82; (with_reducible refine (HAb.out _).mono ?_); rintro e w8 ⟨rfl, rfl⟩)
          | (at_builtin; go_must (
              refine wpList_push2 rfl _ _ 44 rfl w.heap.size 3 i0 (.int .i64 0) 1 8 Try.underlying44 hi0 hz0 hz1 hz2 rfl (by decide) (by decide) _ (spL S wd lim k).length _ rfl (hu6.alloc _) w6.heap.size #[.int .i64 k] 3 1 1 rfl (heap_alloc_last _ _) rfl (by kernel_rfl) hkb (hg6.alloc _).2 ?_
              intro v' w9 ho9 hg9 hf9 hn9
              have hgr9 := own_grew (hg6.alloc (.cells #[.int .i64 k] 3)) (hu6.alloc (.cells #[.int .i64 k] 3)) hg9)))
            exact ⟨⟨k + 1, HLT.out, by simp, by rw [HY.out trivial, List.map_append, List.length_append]; exact ho9, hgr9⟩, by have := HLT.out; simp [intOf]; omega⟩
    · have hkS : k = S.length := by omega
      rw [hkS] at hu
      have HU := hide_ hu
      have hge : ¬ k < S.length := hlt
      clear hu hkS
      go_wp2
      go_ret2
      exact ⟨⟨_, rfl, HU.out⟩, hgr.below⟩
set_option maxHeartbeats 3200000 in
theorem rspikes_ok (p : Option Addr) (n c : Nat) (S : Rc) (wd lim : Nat) (w : World) (hn : n = S.length) (hp : TL w p S) (h64 : ∀ x ∈ S, x.2 < 2 ^ 64) (hw : 1 ≤ wd ∧ wd ≤ 16) (hl : lim < 2 ^ 64) (hl1 : oneB lim = true) (hl0 : fltB lim 0 = false) (hs : n ≤ 4096) :
    Calls Try.prog 58 #[.slice p n c, .int .i64 wd, .float .f64 lim] w fun e w' => (∃ v, e = .returned (.tuple #[v, .int .i64 0]) ∧ w'.ownsRow w.heap.size 3 1 v (spL S wd lim n).length ((spL S wd lim n).map iv)) ∧ Below w.heap.size w w' := by
  subst hn
  have HP := hide_ hp
  have HO := hide_ (fun (i : Nat) (hi : i < S.length) W (h : TL W p S) => rout_any p S.length c S i wd lim W rfl h h64 hi hw hl hl1 hl0 (by omega))
  have HFL := hide_ (rfin_any lim)
  rw [hl1] at HFL
  obtain ⟨i0, hi0, hz0, hz1, hz2⟩ := info_parts info3
  have d1 : decide ((4096 : Int) < (S.length : Int)) = false := decide_eq_false (by omega)
  have d2 : decide ((wd : Int) < 1) = false := decide_eq_false (by omega)
  have d3 : decide ((16 : Int) < (wd : Int)) = false := decide_eq_false (by omega)
  unfold fltB at hl0
  clear hp h64 hl hl1
  go_enter Try.func58, Try.ntmps58
  go_wp2_with (go_at_call 91; (with_reducible refine (HFL.out _).mono ?_); rintro e w1 ⟨rfl, q1, rfl⟩)
  clear d1 d2 d3 HFL
  go_loopw [8, 9] (fun u vi wr => ∃ k : Nat, k ≤ S.length ∧ vi = .int .i64 k ∧ wr.ownsRow w.heap.size 3 1 u (spL S wd lim k).length ((spL S wd lim k).map iv) ∧ Grew w.heap.size w wr) (fun _ vi _ => S.length - (intOf vi).toNat)
  case atStart => exact ⟨0, by omega, rfl, World.ownsRow_nil _ _ _ _, (Grew.refl _).drewN _⟩
  case round =>
    obtain ⟨k, hk, rfl, hu, hgr⟩ := hrel
    by_cases hlt : k < S.length
    · have HOk := hide_ (HO.out k hlt)
      have HY := hide_ (spL_yes (S := S) (wd := wd) (lim := lim) (k := k))
      have HN := hide_ (spL_no (S := S) (wd := wd) (lim := lim) (k := k))
      have hkb : ((spL S wd lim k).length + 1) * 8 ≤ 140737488355328 := by have := spL_len (S := S) (wd := wd) (lim := lim) (k := k); omega
      have i4 : (0 : Int) ≤ (k : Int) := by omega
      have i5 : (k : Int) < (S.length : Int) := by omega
      have HLT := hide_ hlt
      generalize outB S k wd lim = ob at *
      cases ob
      · go_wp2_with (go_at_call 95; go_must (
          (with_reducible refine (HOk.out _ (HP.out.below hgr.below)).mono ?_)
          rintro e w5 ⟨rfl, hb5⟩
          have hg5 := hgr.step hb5
          have hu5 := own_below hu hb5))
        exact ⟨⟨k + 1, HLT.out, by simp, by rw [HN.out trivial]; exact hu5, hg5⟩, by have := HLT.out; simp [intOf]; omega⟩
      · go_wp2_with (first
          | (go_at_call 95; go_must (
              (with_reducible refine (HOk.out _ (HP.out.below hgr.below)).mono ?_)
              rintro e w5 ⟨rfl, hb5⟩
              have hg5 := hgr.step hb5
              have hu5 := own_below hu hb5))
          | (at_builtin; go_must (
              refine wpList_push2 rfl _ _ 44 rfl w.heap.size 3 i0 (.int .i64 0) 1 8 Try.underlying44 hi0 hz0 hz1 hz2 rfl (by decide) (by decide) _ (spL S wd lim k).length _ rfl (hu5.alloc _) w5.heap.size #[.int .i64 k] 3 1 1 rfl (heap_alloc_last _ _) rfl (by kernel_rfl) hkb (hg5.alloc _).2 ?_
              intro v' w9 ho9 hg9 hf9 hn9
              have hgr9 := own_grew (hg5.alloc (.cells #[.int .i64 k] 3)) (hu5.alloc (.cells #[.int .i64 k] 3)) hg9)))
        exact ⟨⟨k + 1, HLT.out, by simp, by rw [HY.out trivial, List.map_append, List.length_append]; exact ho9, hgr9⟩, by have := HLT.out; simp [intOf]; omega⟩
    · have hkS : k = S.length := by omega
      rw [hkS] at hu
      have HU := hide_ hu
      have hge : ¬ k < S.length := hlt
      clear hu hkS
      go_wp2
      go_ret2
      exact ⟨⟨_, rfl, HU.out⟩, hgr.below⟩
/-- Spikes of any samples: the fault, or the places. -/
theorem spikes_any (p : Option Addr) (n c : Nat) (S : Rc) (wd : Int) (lim : Nat) (w : World) (hn : n = S.length) (hp : TL w p S) (h64 : ∀ x ∈ S, x.2 < 2 ^ 64) (hl : lim < 2 ^ 64) (hs : n ≤ 140737488355328) :
    ∃ (E : Int) (T : List Int), T.length ≤ 4096 ∧ (∀ W, TL W p S → Calls Try.prog 58 #[.slice p n c, .int .i64 wd, .float .f64 lim] W fun e w' => (∃ v, e = .returned (.tuple #[v, .int .i64 E]) ∧ w'.ownsRow W.heap.size 3 1 v T.length (T.map iv)) ∧ Below W.heap.size W w') ∧
      ∀ W q d, TL W q S → Calls Try.prog 57 #[.slice q n d, .int .i64 wd, .float .f64 lim] W fun e w' => (∃ v, e = .returned (.tuple #[v, .int .i64 E]) ∧ w'.ownsRow W.heap.size 3 1 v T.length (T.map iv)) ∧ Below W.heap.size W w' := by
  by_cases he : spE n wd lim = 0
  · have hall : ¬ 4096 < n ∧ ¬ (wd < 1 ∨ 16 < wd) ∧ oneB lim = true ∧ fltB lim 0 = false := by
      unfold spE at he
      by_cases h1 : 4096 < n
      · rw [if_pos h1] at he; omega
      · rw [if_neg h1] at he
        by_cases h2 : wd < 1 ∨ 16 < wd
        · rw [if_pos h2] at he; omega
        · rw [if_neg h2] at he
          cases h3 : oneB lim
          · rw [h3] at he; simp at he
          · rw [h3] at he
            cases h4 : fltB lim 0
            · exact ⟨h1, h2, rfl, rfl⟩
            · rw [h4] at he; simp at he
    obtain ⟨h1, h2, h3, h4⟩ := hall
    obtain ⟨wn, hwn⟩ : ∃ wn : Nat, wd = wn := ⟨wd.toNat, by omega⟩
    subst hwn
    refine ⟨0, spL S wn lim n, by have := spL_len (S := S) (wd := wn) (lim := lim) (k := n); omega, fun W h => rspikes_ok p n c S wn lim W hn h h64 (by omega) hl h3 h4 (by omega), fun W q d h => spikes_ok q n d S wn lim W hn h h64 (by omega) hl h3 h4 (by omega)⟩
  · refine ⟨spE n wd lim, [], by simp, fun W h => (rspikes_err p n c wd lim W hl hs he).mono fun e w' ⟨h1, h2⟩ => ⟨⟨_, h1, World.ownsRow_nil _ _ _ _⟩, h2⟩, fun W q d h => (spikes_err q n d wd lim W hl hs he).mono fun e w' ⟨h1, h2⟩ => ⟨⟨_, h1, World.ownsRow_nil _ _ _ _⟩, h2⟩⟩
end Go.Proofs.Ytlgnidjkilbdfaa
