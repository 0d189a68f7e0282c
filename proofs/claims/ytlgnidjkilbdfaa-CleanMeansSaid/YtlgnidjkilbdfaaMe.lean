/- Chapter 20: means and medians, the program's and the reference's. -/
import Derived.Test.YtlgnidjkilbdfaaRp
namespace Go.Proofs.Ytlgnidjkilbdfaa
open Go.RowKit Ieee
set_option linter.unusedVariables false
set_option maxRecDepth 100000
theorem mean_long (p : Option Addr) (n c : Nat) (w : World) (h : 65536 < n) : Calls Try.prog 50 #[.slice p n c] w fun e w' => e = .returned (.tuple #[.float .f64 0, .int .i64 3]) ∧ w = w' := by
  have h1 : decide ((65536 : Int) < (n : Int)) = true := decide_eq_true (by omega)
  go_enter Try.func50, Try.ntmps50
  go_wp2
  go_ret2
  exact ⟨rfl, rfl⟩
theorem mean_bad {S : List Nat} (h0 : 0 < S.length) (h : sumOk S = false) : meanV S = 0 ∧ meanE S = 9 := by
  have hn : ¬ S.length = 0 := by omega
  unfold meanV meanE
  rw [h, if_neg hn, if_neg hn]
  exact ⟨rfl, rfl⟩
theorem mean_good {S : List Nat} (h0 : 0 < S.length) (h : sumOk S = true) : meanV S = over (sums S S.length) (floatOfInt .f64 (S.length : Int)) ∧ meanE S = 0 := by
  have hn : ¬ S.length = 0 := by omega
  unfold meanV meanE
  rw [h, if_neg hn, if_neg hn]
  exact ⟨rfl, rfl⟩
set_option maxHeartbeats 3200000 in
theorem mean_any (p : Option Addr) (n c : Nat) (L : List Nat) (w : World) (hn : n = L.length) (hp : FL w p L) (hw : W64 L) (hsz : n ≤ 65536) :
    Calls Try.prog 50 #[.slice p n c] w fun e w' => e = .returned (.tuple #[.float .f64 (meanV (srt L)), .int .i64 (meanE (srt L))]) ∧ Below w.heap.size w w' := by
  have HS := hide_ (sorted_any p n c L w hn hp hw (by omega))
  have hok := hide_ (srt_ok hw)
  have hl : (srt L).length ≤ 65536 := by have := srt_le L; omega
  have hd : decide ((65536 : Int) < (n : Int)) = false := decide_eq_false (by omega)
  generalize srt L = S at *
  clear hn hp hw
  rcases Nat.eq_zero_or_pos S.length with h0 | h0
  · have e1 : meanV S = 0 := if_pos h0
    have e2 : meanE S = 0 := if_pos h0
    rw [e1, e2]
    rw [h0] at HS
    clear e1 e2
    go_enter Try.func50, Try.ntmps50
    go_wp2_with (go_at_call 83; (with_reducible refine (HS.out).mono ?_); rintro e w1 ⟨⟨q, c', rfl, hf⟩, hb1⟩)
    go_ret2
    exact ⟨rfl, hb1⟩
  · have hnz : (((S.length : Nat) : Int) == 0) = false := by rw [beq_eq_false_iff_ne]; omega
    go_enter Try.func50, Try.ntmps50
    go_wp2_with (go_at_call 83; (with_reducible refine (HS.out).mono ?_); rintro e w1 ⟨⟨q, c', rfl, hf⟩, hb1⟩)
    obtain ⟨g, o, rfl, hg, hc⟩ := hf.some_ h0
    have HC := hide_ hc
    clear hc hf
    go_loop [5, 18] (fun vs vi => ∃ i : Nat, i ≤ S.length ∧ vi = .int .i64 i ∧ vs = .float .f64 (sums S i) ∧ SumTo S i) (fun _ vi => S.length - (intOf vi).toNat)
    case atStart => exact ⟨0, by omega, rfl, rfl, SumTo.zero S⟩
    case round =>
      obtain ⟨i, hi, rfl, rfl, hst⟩ := hrel
      have HST := hide_ hst
      by_cases hlt : i < S.length
      · have c0 := HC.out i hlt
        obtain ⟨x1, x2⟩ := hok.out i hlt
        obtain ⟨a1, a2, a3⟩ := plus_ok (hst.2 i (Nat.le_refl _)) (one_nan x2)
        have hsu := sums_succ hlt
        rw [← hsu] at a1 a3
        have f1 := fun wx => run_float_arith (P := Try.prog) wx .add 24 .f64 _ _ _ a1
        have HF := hide_ (finite_any _ a3)
        have i4 : (0 : Int) ≤ (i : Int) := by omega
        have i5 : (i : Int) < (S.length : Int) := by omega
        have HN : Hid (oneB (sums S (i + 1)) = true → SumTo S (i + 1)) := hide_ (fun h => ⟨a3, fun j hj => by
          rcases Nat.lt_or_ge i j with h1 | h1
          · obtain rfl : j = i + 1 := by omega
            exact h
          · exact HST.out.2 j h1⟩)
        have HB : Hid (oneB (sums S (i + 1)) = false → sumOk S = false) := hide_ (fun h => sum_bad (by omega) h)
        generalize hs1 : sums S (i + 1) = s1 at *
        have HS1 := hide_ hs1
        generalize sums S i = s0 at *
        generalize S.getD i 0 = x at *
        cases ho : oneB s1
        · rw [ho] at HF
          have HE := hide_ (HB.out ho)
          clear hst hsu a1 a2 a3 x1 x2 hs1 ho
          go_wp2_with (go_at_call 86; (with_reducible refine (HF.out _).mono ?_); rintro e w2 ⟨rfl, rfl⟩)
          go_ret2
          exact ⟨by rw [(mean_bad h0 HE.out).1, (mean_bad h0 HE.out).2]; rfl, hb1⟩
        · rw [ho] at HF
          have HE := hide_ (HN.out ho)
          clear hst hsu a1 a2 a3 x1 x2 hs1 ho
          go_wp2_with (go_at_call 86; (with_reducible refine (HF.out _).mono ?_); rintro e w2 ⟨rfl, rfl⟩)
          go_round
          case rel => exact ⟨i + 1, hlt, by go_num, by rw [HS1.out], HE.out⟩
          case measure => simp [intOf]; omega
      · have hil : i = S.length := by omega
        rw [hil] at hst HST ⊢
        obtain ⟨a1, a2, a3⟩ := over_ok hst.1 (hst.2 _ (Nat.le_refl _)) (show S.length < 2 ^ 53 by omega) h0
        have f1 := fun wx => run_float_arith (P := Try.prog) wx .quo 24 .f64 _ _ _ a1
        have HE := hide_ hst.ok
        have hge : ¬ S.length < S.length := by omega
        clear hst a1 a2 a3 hil hlt hi
        go_wp2
        go_ret2
        exact ⟨by rw [(mean_good h0 HE.out).1, (mean_good h0 HE.out).2]; rfl, hb1⟩
set_option maxHeartbeats 3200000 in
theorem rmean_any (p : Option Addr) (n c : Nat) (L : List Nat) (w : World) (hn : n = L.length) (hp : FL w p L) (hw : W64 L) (hsz : n ≤ 65536) :
    Calls Try.prog 52 #[.slice p n c] w fun e w' => e = .returned (.tuple #[.float .f64 (meanV (srt L)), .int .i64 (meanE (srt L))]) ∧ Below w.heap.size w w' := by
  have HS := hide_ (rorder_any p n c L w hn hp hw (by omega))
  have hok := hide_ (srt_ok hw)
  have hl : (srt L).length ≤ 65536 := by have := srt_le L; omega
  have hd : decide ((65536 : Int) < (n : Int)) = false := decide_eq_false (by omega)
  generalize srt L = S at *
  clear hn hp hw
  rcases Nat.eq_zero_or_pos S.length with h0 | h0
  · have e1 : meanV S = 0 := if_pos h0
    have e2 : meanE S = 0 := if_pos h0
    rw [e1, e2]
    rw [h0] at HS
    clear e1 e2
    go_enter Try.func52, Try.ntmps52
    go_wp2_with (go_at_call 90; (with_reducible refine (HS.out).mono ?_); rintro e w1 ⟨⟨q, c', rfl, hf⟩, hb1⟩)
    go_ret2
    exact ⟨rfl, hb1⟩
  · have hnz : (((S.length : Nat) : Int) == 0) = false := by rw [beq_eq_false_iff_ne]; omega
    go_enter Try.func52, Try.ntmps52
    go_wp2_with (go_at_call 90; (with_reducible refine (HS.out).mono ?_); rintro e w1 ⟨⟨q, c', rfl, hf⟩, hb1⟩)
    obtain ⟨g, o, rfl, hg, hc⟩ := hf.some_ h0
    have HC := hide_ hc
    clear hc hf
    go_loopw [5, 6] (fun vs vi wr => ∃ i : Nat, i ≤ S.length ∧ vi = .int .i64 i ∧ vs = .float .f64 (sums S i) ∧ SumTo S i ∧ ∃ q, wr = w1.drewN q) (fun _ vi _ => S.length - (intOf vi).toNat)
    case atStart => exact ⟨0, by omega, rfl, rfl, SumTo.zero S, 0, rfl⟩
    case round =>
      obtain ⟨i, hi, rfl, rfl, hst, qq, rfl⟩ := hrel
      have HST := hide_ hst
      by_cases hlt : i < S.length
      · have c0 := HC.out i hlt
        obtain ⟨x1, x2⟩ := hok.out i hlt
        obtain ⟨a1, a2, a3⟩ := plus_ok (hst.2 i (Nat.le_refl _)) (one_nan x2)
        have hsu := sums_succ hlt
        rw [← hsu] at a1 a3
        have f1 := fun wx => run_float_arith (P := Try.prog) wx .add 24 .f64 _ _ _ a1
        have HF := hide_ (rfin_any (sums S (i + 1)))
        have i4 : (0 : Int) ≤ (i : Int) := by omega
        have i5 : (i : Int) < (S.length : Int) := by omega
        have HN : Hid (oneB (sums S (i + 1)) = true → SumTo S (i + 1)) := hide_ (fun h => ⟨a3, fun j hj => by
          rcases Nat.lt_or_ge i j with h1 | h1
          · obtain rfl : j = i + 1 := by omega
            exact h
          · exact HST.out.2 j h1⟩)
        have HB : Hid (oneB (sums S (i + 1)) = false → sumOk S = false) := hide_ (fun h => sum_bad (by omega) h)
        generalize hs1 : sums S (i + 1) = s1 at *
        have HS1 := hide_ hs1
        generalize sums S i = s0 at *
        generalize S.getD i 0 = x at *
        cases ho : oneB s1
        · rw [ho] at HF
          have HE := hide_ (HB.out ho)
          clear hst hsu a1 a2 a3 x1 x2 hs1 ho
          go_wp2_with (go_at_call 91; (with_reducible refine (HF.out _).mono ?_); rintro e w2 ⟨rfl, q2, rfl⟩)
          go_ret2
          exact ⟨by rw [(mean_bad h0 HE.out).1, (mean_bad h0 HE.out).2]; rfl, below_drewN hb1 _⟩
        · rw [ho] at HF
          have HE := hide_ (HN.out ho)
          clear hst hsu a1 a2 a3 x1 x2 hs1 ho
          go_wp2_with (go_at_call 91; (with_reducible refine (HF.out _).mono ?_); rintro e w2 ⟨rfl, q2, rfl⟩)
          go_roundw
          case rel => exact ⟨i + 1, hlt, by go_num, by rw [HS1.out], HE.out, _, rfl⟩
          case measure => simp [intOf]; omega
      · have hil : i = S.length := by omega
        rw [hil] at hst HST ⊢
        obtain ⟨a1, a2, a3⟩ := over_ok hst.1 (hst.2 _ (Nat.le_refl _)) (show S.length < 2 ^ 53 by omega) h0
        have f1 := fun wx => run_float_arith (P := Try.prog) wx .quo 24 .f64 _ _ _ a1
        have HE := hide_ hst.ok
        have hge : ¬ S.length < S.length := by omega
        have HF := hide_ (rfin_any (over (sums S S.length) (floatOfInt .f64 (S.length : Int))))
        rw [a3] at HF
        clear hst a1 a2 a3 hil hlt hi
        go_wp2_with (go_at_call 91; (with_reducible refine (HF.out _).mono ?_); rintro e w2 ⟨rfl, q2, rfl⟩)
        go_ret2
        exact ⟨by rw [(mean_good h0 HE.out).1, (mean_good h0 HE.out).2]; rfl, below_drewN hb1 _⟩
end Go.Proofs.Ytlgnidjkilbdfaa
