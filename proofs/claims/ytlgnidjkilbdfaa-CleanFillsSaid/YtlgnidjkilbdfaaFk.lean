/- Chapter 20: CleanFills, the walk. -/
import Derived.Test.YtlgnidjkilbdfaaFp
import Derived.Test.YtlgnidjkilbdfaaSe
import Derived.Test.YtlgnidjkilbdfaaFn
import Derived.Test.YtlgnidjkilbdfaaOpf
namespace Go.Proofs.Ytlgnidjkilbdfaa
open Go.RowKit Ieee
set_option linter.unusedVariables false
set_option maxRecDepth 100000
theorem getD_at {S : Rc} {i : Nat} (h : i < S.length) : S.getD i (0, 0) = S[i] := by
  rw [List.getD_eq_getElem?_getD, List.getElem?_eq_getElem h]; rfl
/-- All of A ahead of k stands ahead of S from i on. -/
def Bfr (S A : Rc) (i k : Nat) : Prop := ∀ j, j < k → (hj : j < A.length) → ∀ i', i ≤ i' → (h : i' < S.length) → A[j].1 < S[i'].1
theorem Bfr.zero (S A : Rc) : Bfr S A 0 0 := fun j hj => by omega
theorem Bfr.next {S A : Rc} {i k : Nat} (h : Bfr S A i k) : Bfr S A (i + 1) k := fun j hj hl i' hi' h' => h j hj hl i' (by omega) h'
theorem Bfr.at_ {S A : Rc} (hS : Asc S) (hA : Asc A) {i pos : Nat} (hi : i < S.length) (hp : pos < A.length) (e : A[pos] = S[i]) : Bfr S A (i + 1) pos := fun j hj hl i' hi' h' => by
  have h1 := asc_at hA hj hp
  have h2 := asc_at hS (show i < i' by omega) h'
  rw [e] at h1
  omega
theorem Bfr.le {S A : Rc} (hA : Asc A) {i k pos : Nat} (h : Bfr S A i k) (hi : i < S.length) (hp : pos < A.length) (e : A[pos] = S[i]) : k ≤ pos := by
  rcases Nat.lt_or_ge pos k with h1 | h1
  · have := h pos h1 hp i (Nat.le_refl _) hi
    rw [e] at this
    omega
  · exact h1
theorem ahead_lt {A : Rc} (hA : Asc A) {k pos : Nat} (hp : pos < A.length) (hk : k < pos) : (A[k]'(by omega)).1 < A[pos].1 := asc_at hA hk hp
set_option maxHeartbeats 6400000 in
theorem fills_walk (p : Option Addr) (n c : Nat) (S : Rc) (w : World) (hn : n = S.length) (hp : TL w p S) (h64 : In64 S) :
    Calls Try.prog 10 #[.slice p n c] w fun e w' => e = .returned (.bool true) ∧ Below w.heap.size w w' := by
  subst hn
  have HL := hide_ lives_any
  by_cases hlen : 60 < S.length
  · go_enter Try.func10, Try.ntmps10
    go_wp2_with (go_at_call 43; (with_reducible refine (HL.out _).mono ?_); rintro e w1 ⟨rfl, hb1⟩)
    go_ret
    exact ⟨rfl, hb1⟩
  · have hl2 : S.length ≤ 60 := by omega
    have HF := hide_ (fun W (h : TL W p S) => fill_any p S.length c S W rfl h h64.w (by omega))
    have HP := hide_ hp
    by_cases hE : fillE S = 0
    · obtain ⟨T, ha⟩ := told_of h64.w hE
      rw [hE] at HF
      have HT := hide_ T
      have HA := hide_ ha
      have HF1 : Hid (∀ W, TL W p S → Calls Try.prog 47 #[.slice p S.length c] W fun e w' => (∃ v, e = .returned (.tuple #[v, .int .i64 0]) ∧ SL w' W.heap.size v (fillL S)) ∧ Below W.heap.size W w') :=
        hide_ (fun W h => (HF.out W h).mono fun e w' ⟨⟨v, h1, h2, h3⟩, hb⟩ => ⟨⟨v, h1, h2 rfl⟩, hb⟩)
      have hAl := T.len
      have HG : Hid (∀ W q d, TL W q (fillL S) → Calls Try.prog 47 #[.slice q (fillL S).length d] W fun e w' => (∃ v, e = .returned (.tuple #[v, .int .i64 0]) ∧ SL w' W.heap.size v (fillL S)) ∧ Below W.heap.size W w') :=
        hide_ (fun W q d h => (fill_any q (fillL S).length d (fillL S) W rfl h T.w64 (by omega)).mono fun e w' ⟨⟨v, h1, h2, h3⟩, hb⟩ => ⟨⟨v, by rw [T.e] at h1; exact h1, by have := h2 T.e; rw [T.twice] at this; exact this⟩, hb⟩)
      have HR : Hid (∀ W q d, TL W q (fillL S) → Calls Try.prog 49 #[.slice q (fillL S).length d] W fun e w' => e = .returned (.bool true) ∧ ∃ q, w' = W.drewN q) :=
        hide_ (fun W q d h => by have := rising_any q (fillL S).length d (fillL S) W rfl h (by omega); rw [decide_eq_true T.asc] at this; exact this)
      have HS : Hid (∀ W q q' d d', TL W q (fillL S) → TL W q' (fillL S) → Calls Try.prog 48 #[.slice q (fillL S).length d, .slice q' (fillL S).length d'] W fun e w' => e = .returned (.bool true) ∧ ∃ q, w' = W.drewN q) :=
        hide_ (fun W q q' d d' h h' => samel_any q q' (fillL S).length d d' (fillL S) W rfl h h' (by omega))
      clear HF hlen hp h64 hE ha
      generalize fillL S = A at *
      clear T
      go_enter Try.func10, Try.ntmps10
      have tok1 : True := trivial
      go_wp2_with (first
        | (go_at_call 43; (with_reducible refine (HL.out _).mono ?_); rintro e w1 ⟨rfl, hb1⟩; have hg1 := Grew.of hb1)
        | (go_at_call 47; have _t := tok1; go_must (
            (with_reducible refine (HF1.out _ (HP.out.below hg1.below)).mono ?_)
            rintro e w2 ⟨⟨v2, rfl, hs2⟩, hb2⟩
            have hg2 := hg1.step hb2
            obtain ⟨p2, c2, rfl⟩ := SL.slice hs2
            have ht2 := SL.tl hs2
            clear tok1))
        | (go_at_call 47; go_must (
            (with_reducible refine (HG.out _ _ _ ht2).mono ?_)
            rintro e w3 ⟨⟨v3, rfl, hs3⟩, hb3⟩
            have hg3 := hg2.step hb3
            have ht3 := ht2.below hb3
            obtain ⟨p3, c3, rfl⟩ := SL.slice hs3
            have hu3 := SL.tl hs3))
        | (go_at_call 48; go_must (
            (with_reducible refine (HS.out _ _ _ _ _ ht3 hu3).mono ?_)
            rintro e w4 ⟨rfl, q4, rfl⟩
            have hg4 := hg3.drewN q4
            have ht4 := ht3.below (below_drewN (Below.refl _ _) q4)))
        | (go_at_call 49; go_must (
            (with_reducible refine (HR.out _ _ _ ht4).mono ?_)
            rintro e w5 ⟨rfl, q5, rfl⟩)))
      have HP3 := hide_ (fun k hk => (HP.out.below hg3.below).some_ (k := k) hk)
      have HT3 := hide_ (fun k hk => ht3.some_ (k := k) hk)
      have hgr := Grew.below hg3
      clear hg1 hg2 hg4 hs2 hs3 hb1 hb2 hb3 ht2 ht4 hu3 ht3 HF1 HG HR HS HP HL hg3
      go_loopw [6, 7] (fun vk vi wr => ∃ k i : Nat, k ≤ A.length ∧ i ≤ S.length ∧ vk = .int .i64 k ∧ vi = .int .i64 i ∧ Bfr S A i k ∧ ∃ q, wr = w3.drewN q) (fun _ vi _ => S.length - (intOf vi).toNat)
      case atStart => exact ⟨0, 0, by omega, by omega, rfl, rfl, Bfr.zero S A, _, rfl⟩
      case round =>
        obtain ⟨k, i, hk, hi, rfl, rfl, hbf, q, rfl⟩ := hrel
        by_cases hlt : i < S.length
        · obtain ⟨g, o, rfl, hg, hc⟩ := HP3.out _ hlt
          obtain ⟨c0, c1⟩ := hc i hlt
          rw [getD_at hlt] at c0 c1
          have HB := hide_ hbf
          have i4 : (0 : Int) ≤ (i : Int) := by omega
          have i5 : (i : Int) < (S.length : Int) := by omega
          clear hc hbf
          cases hone : oneB S[i].2
          · generalize S[i].2 = h at *
            generalize S[i].1 = t at *
            obtain ⟨r, hr, hrun⟩ := run_nan (P := Try.prog) (w3.drewN (q + 1)) .sub 24 h h (.inr (.inl rfl)) (sub_not hone)
            have hcmp : FloatKind.f64.format.order r 0 = none := nan_order hr 0
            clear hr hone
            go_wp2
            (refine still_tail 10 (by kernel_rfl) (by kernel_rfl) ?_; simp only [List.take_succ_cons, List.take_zero, List.drop_succ_cons, List.drop_zero]; (repeat still_step); refine wpStill_nil ?_)
            go_wp2
            exact ⟨⟨k, i + 1, by omega, by omega, rfl, by simp, HB.out.next, _, rfl⟩, by simp [intOf]; omega⟩
          · have hrun := fun wx => run_float_arith (P := Try.prog) wx .sub 24 .f64 S[i].2 S[i].2 0 (sub_one hone)
            have hcmp : FloatKind.f64.format.order 0 0 = some .eq := by decide +kernel
            obtain ⟨pos, hpos, hpe⟩ := List.getElem_of_mem (HT.out.mem i hlt hone)
            have hkp := HB.out.le HT.out.asc hlt hpos hpe
            obtain ⟨gA, oA, rfl, hgA, hcA⟩ := HT3.out _ hpos
            have HCA := hide_ hcA
            have HPE := hide_ hpe
            have HO := hide_ hone
            generalize hh : S[i].2 = h at *
            generalize htt : S[i].1 = t at *
            have HH := hide_ hh
            have HTT := hide_ htt
            clear hcA hpe hone hh htt
            go_wp2
            go_quiet (fail)
            go_wp2
            go_loopw [6] (fun vk wr => ∃ k' : Nat, k' ≤ pos ∧ vk = .int .i64 k' ∧ ∃ q, wr = w3.drewN q) (fun vk _ => pos - (intOf vk).toNat)
            case atStart => exact ⟨k, hkp, rfl, _, World.drewN_drewN _ _ _⟩
            case round =>
              obtain ⟨k', hk', rfl, q', rfl⟩ := hrel
              have hA0 := HCA.out k' (by omega)
              rw [getD_at (by omega)] at hA0
              obtain ⟨d0, d1⟩ := hA0
              have j1 : (0 : Int) ≤ (k' : Int) := by omega
              have j2 : (k' : Int) < (A.length : Int) := by omega
              have j3 : k' < A.length := by omega
              have j4 : (((k' : Nat) : Int) == ((A.length : Nat) : Int)) = false := by rw [beq_eq_false_iff_ne]; omega
              by_cases hkl : k' < pos
              · have hal := ahead_lt HT.out.asc hpos hkl
                rw [HPE.out, HTT.out] at hal
                generalize (A[k']'(by omega)).1 = tA at *
                generalize (A[k']'(by omega)).2 = hA at *
                go_wp2
                go_quiet (fail)
                go_wp2
                exact ⟨⟨k' + 1, hkl, by simp, _, rfl⟩, by simp [intOf]; omega⟩
              · obtain rfl : k' = pos := by omega
                rw [HPE.out, HTT.out] at d0
                rw [HPE.out, HH.out] at d1
                have hnl : decide (t < t) = false := by simp
                have heq := fun wx => run_eq26 t t h h wx
                have hf : feqB h h = true := by
                  have := sfB_self h
                  unfold sfB at this
                  rw [one_nan HO.out] at this
                  simpa using this
                rw [hf, beq_self_eq_true, Bool.and_true] at heq
                clear hf
                go_wp2
                go_quiet (fail)
                go_wp2
                go_quiet (fail)
                go_wp2
                exact ⟨⟨k', i + 1, by omega, by omega, rfl, by simp, Bfr.at_ HA.out HT.out.asc hlt hpos HPE.out, _, rfl⟩, by simp [intOf]; omega⟩
        · have hge : ¬ i < S.length := hlt
          go_wp2
          go_loopw [8] (fun vi wr => ∃ k : Nat, 1 ≤ k ∧ vi = .int .i64 k ∧ ∃ q, wr = w3.drewN q) (fun vi _ => A.length - (intOf vi).toNat)
          case atStart => exact ⟨1, by omega, rfl, _, rfl⟩
          case round =>
            obtain ⟨k, hk1, rfl, q', rfl⟩ := hrel
            obtain ⟨j, rfl⟩ : ∃ j, k = j + 1 := ⟨k - 1, by omega⟩
            by_cases hkl : j + 1 < A.length
            · obtain ⟨gA, oA, rfl, hgA, hcA⟩ := HT3.out _ hkl
              obtain ⟨d0, _⟩ := hcA j (by omega)
              obtain ⟨e0, _⟩ := hcA (j + 1) hkl
              rw [getD_at (by omega)] at d0
              rw [getD_at hkl] at e0
              have hl := HT.out.lnk j hkl
              have r0 := (HT.out.rng _ (List.getElem_mem (show j < A.length by omega))).1
              have r1 := (HT.out.rng _ (List.getElem_mem hkl)).1
              unfold Rl gapN at hl
              generalize (A[j]'(by omega)).1 = a at *
              generalize A[j + 1].1 = b at *
              clear hcA
              have j1 : (0 : Int) ≤ (j : Int) := by omega
              have j2 : (j : Int) < (A.length : Int) := by omega
              have j3 : (0 : Int) ≤ ((j + 1 : Nat) : Int) := by omega
              have j4 : ((j + 1 : Nat) : Int) < (A.length : Int) := by omega
              have j5 : IntKind.i64.wrap (((j + 1 : Nat) : Int) - 1) = (j : Int) := by rw [IntWalk.i64_in _ (by omega)]; omega
              have j6 : IntKind.i64.wrap (b - a) = b - a := IntWalk.i64_in _ (by omega)
              have HJ := hide_ hkl
              rcases hl.2 with hs | hs
              · have t1 : decide (1 < b - a) = false := decide_eq_false (by omega)
                clear hl hs
                go_wp2
                go_quiet (fail)
                go_wp2
                exact ⟨⟨j + 1 + 1, by omega, by simp, _, rfl⟩, by have := HJ.out; simp [intOf]; omega⟩
              · have t1 : decide (1 < b - a) = true := decide_eq_true (by omega)
                have t2 : decide (b - a ≤ 4) = false := decide_eq_false (by omega)
                clear hl hs
                go_wp2
                go_quiet (fail)
                go_wp2
                exact ⟨⟨j + 1 + 1, by omega, by simp, _, rfl⟩, by have := HJ.out; simp [intOf]; omega⟩
            · have hge2 : ¬ ((j + 1 : Nat) : Int) < (A.length : Int) := by omega
              go_wp2
              go_ret
              exact ⟨rfl, below_drewN hgr _⟩
    · have HF1 : Hid (∀ W, TL W p S → Calls Try.prog 47 #[.slice p S.length c] W fun e w' => e = .returned (.tuple #[.slice none 0 0, .int .i64 (fillE S)]) ∧ Below W.heap.size W w') :=
        hide_ (fun W h => (HF.out W h).mono fun e w' ⟨⟨v, h1, h2, h3⟩, hb⟩ => ⟨by rw [h1, h3 hE], hb⟩)
      have hne : (fillE S != 0) = true := by simpa using hE
      clear HF hlen hp h64
      generalize fillE S = E at *
      go_enter Try.func10, Try.ntmps10
      go_wp2_with (first
        | (go_at_call 43; (with_reducible refine (HL.out _).mono ?_); rintro e w1 ⟨rfl, hb1⟩; have hg1 := Grew.of hb1)
        | (go_at_call 47; go_must ((with_reducible refine (HF1.out _ (HP.out.below hg1.below)).mono ?_); rintro e w2 ⟨rfl, hb2⟩)))
      go_ret
      exact ⟨rfl, (hg1.step hb2).below⟩
end Go.Proofs.Ytlgnidjkilbdfaa
