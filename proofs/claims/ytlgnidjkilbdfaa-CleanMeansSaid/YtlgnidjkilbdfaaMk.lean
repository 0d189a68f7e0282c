/- Chapter 20: CleanMeans, the walk. -/
import Derived.Test.YtlgnidjkilbdfaaLf
import Derived.Test.YtlgnidjkilbdfaaOpf
namespace Go.Proofs.Ytlgnidjkilbdfaa
open Go.RowKit Ieee
set_option linter.unusedVariables false
set_option maxRecDepth 100000
theorem FL.left {w : World} {p : Option Addr} {A B : List Nat} (h : FL w p (A ++ B)) : FL w p A := by
  rcases h with h | ⟨g, o, rfl, hg, hc⟩
  · exact .inl (List.append_eq_nil_iff.1 h).1
  · refine .inr ⟨g, o, rfl, hg, fun k hk => ?_⟩
    rw [hc k (by rw [List.length_append]; omega), List.getD_eq_getElem?_getD, List.getD_eq_getElem?_getD, List.getElem?_append_left hk]
theorem row_cap {w : World} {base : Nat} {e : TypeId} {size n m c : Nat} {p : Option Addr} {xs : List Value} (h : w.ownsRow base e size (.slice p n c) m xs) : n ≤ c := by
  rcases h.2 with ⟨e1, _⟩ | ⟨g, cap, cur, e1, _, _, h1, _⟩
  · simp only [Value.slice.injEq] at e1; omega
  · simp only [Value.slice.injEq] at e1; omega
set_option maxHeartbeats 3200000 in
theorem means_walk (p : Option Addr) (n c : Nat) (L : List Nat) (w : World) (hn : n = L.length) (hp : FL w p L) (hw : W64 L) :
    Calls Try.prog 11 #[.slice p n c] w fun e w' => e = .returned (.bool true) ∧ Below w.heap.size w w' := by
  have HL := hide_ lives_any
  by_cases h1 : 65536 < n
  · have HM := hide_ (mean_long p n c)
    have d1 : decide ((200 : Int) < (n : Int)) = true := decide_eq_true (by omega)
    have d2 : decide ((n : Int) ≤ 65536) = false := decide_eq_false (by omega)
    clear hp hw hn
    go_enter Try.func11, Try.ntmps11
    go_wp2_with (first
      | (go_at_call 43; (with_reducible refine (HL.out _).mono ?_); rintro e w1 ⟨rfl, hb1⟩)
      | (go_at_call 50; (with_reducible refine (HM.out _ h1).mono ?_); rintro e w2 ⟨rfl, rfl⟩))
    go_ret
    exact ⟨rfl, hb1⟩
  · by_cases h2 : 200 < n
    · have HM := hide_ (fun W (h : FL W p L) => mean_any p n c L W hn h hw (by omega))
      have d1 : decide ((200 : Int) < (n : Int)) = true := decide_eq_true (by omega)
      have d2 : decide ((n : Int) ≤ 65536) = true := decide_eq_true (by omega)
      have HP := hide_ hp
      clear hp hw hn
      go_enter Try.func11, Try.ntmps11
      go_wp2_with (first
        | (go_at_call 43; (with_reducible refine (HL.out _).mono ?_); rintro e w1 ⟨rfl, hb1⟩)
        | (go_at_call 50; (with_reducible refine (HM.out _ (HP.out.below hb1)).mono ?_); rintro e w2 ⟨rfl, hb2⟩))
      go_ret
      exact ⟨rfl, ((Grew.of hb1).step hb2).below⟩
    · have d1 : decide ((200 : Int) < (n : Int)) = false := decide_eq_false (by omega)
      have HE := hide_ (fun W (h : FL W p L) => lentf_any p n c L W hn h (by omega))
      have HA := hide_ (fun W q d (h : FL W q L) => mean_any q n d L W hn h hw (by omega))
      have HB := hide_ (fun W q d (h : FL W q L) => median_any q n d L W hn h hw (by omega))
      have HC := hide_ (fun W (h : FL W p L) => rmean_any p n c L W hn h hw (by omega))
      have HD := hide_ (fun W (h : FL W p L) => rmedian_any p n c L W hn h hw (by omega))
      have HK := hide_ (fun W q d (h : FL W p L) (h' : FL W q (L ++ spareF)) => keptf_any p q n c d L W hn h h' (by omega))
      have H1 := hide_ (sf_self (meanV (srt L)))
      have H2 := hide_ (sf_self (medL (srt L)))
      have hq : (meanE (srt L) == meanE (srt L)) = true := by simp
      have hn5 : n ≤ 200 := by omega
      have HP := hide_ hp
      generalize meanV (srt L) = mv at *
      generalize meanE (srt L) = me at *
      generalize medL (srt L) = md at *
      generalize decide (0 < (srt L).length) = ok at *
      clear hp hw hn h1 h2
      have tok1 : True := trivial
      cases ok
      all_goals go_enter Try.func11, Try.ntmps11
      all_goals go_wp2_with (first
        | (go_at_call 43; (with_reducible refine (HL.out _).mono ?_); rintro e w1 ⟨rfl, hb1⟩; have hg1 := Grew.of hb1)
        | (go_at_call 51; go_must (
            (with_reducible refine (HE.out _ (HP.out.below hg1.below)).mono ?_)
            rintro e w2 ⟨⟨v2, rfl, ho2⟩, hb2⟩
            have hg2 := hg1.step hb2
            obtain ⟨p2, c2, rfl⟩ := row_slice ho2
            have F2 := (own_fl ho2).2
            have hcap : n + 3 ≤ c2 := row_cap ho2))
        | (go_at_call 50; go_must (
            (with_reducible refine (HA.out _ _ _ F2.left).mono ?_)
            rintro e w3 ⟨rfl, hb3⟩
            have hg3 := hg2.step hb3
            have F3 := F2.below hb3))
        | (go_at_call 45; go_must (
            (with_reducible refine (HB.out _ _ _ F3.left).mono ?_)
            rintro e w4 ⟨rfl, hb4⟩
            have hg4 := hg3.step hb4
            have F4 := F3.below hb4))
        | (go_at_call 52; go_must (
            (with_reducible refine (HC.out _ (HP.out.below hg4.below)).mono ?_)
            rintro e w5 ⟨rfl, hb5⟩
            have hg5 := hg4.step hb5
            have F5 := F4.below hb5))
        | (go_at_call 53; go_must (
            (with_reducible refine (HD.out _ (HP.out.below hg5.below)).mono ?_)
            rintro e w6 ⟨rfl, hb6⟩
            have hg6 := hg5.step hb6
            have F6 := F5.below hb6))
        | (go_at_call 54; have _t := tok1; (with_reducible refine (H1.out _).mono ?_); rintro e w7 ⟨rfl, rfl⟩; clear tok1)
        | (go_at_call 54; (with_reducible refine (H2.out _).mono ?_); rintro e w7 ⟨rfl, rfl⟩)
        | (go_at_call 55; go_must (
            (with_reducible refine (HK.out _ _ _ (HP.out.below hg6.below) F6).mono ?_)
            rintro e w8 ⟨rfl, hb8⟩)))
      all_goals go_ret
      all_goals exact ⟨rfl, (hg6.step hb8).below⟩
end Go.Proofs.Ytlgnidjkilbdfaa
