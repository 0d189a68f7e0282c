/- Chapter 20: CleanSpikes, the walk. -/
import Derived.Test.YtlgnidjkilbdfaaSp
namespace Go.Proofs.Ytlgnidjkilbdfaa
open Go.RowKit Ieee Go.ChangeShapes Go.WideShapes Go.Deep
set_option linter.unusedVariables false
set_option maxRecDepth 100000
/-- How many samples a slice that was read holds, by its datum. -/
theorem open_smps_len {H : Type} {enc : TypeId × Value → H} {w : World} {base : Nat} {held : Bool} {a : Option Addr} {len cap : Nat} {d : DataW H} {ps : List MemPlace}
    (h : DataW.Trod enc Try.prog w base (fun _ => true) held 23 (.slice a len cap) d ps) : len = 0 ∨ ∃ es sp, d = .slice es sp ∧ es.length = len := by
  obtain ⟨fuel, hf⟩ := h
  rcases open_slice Try.underlying23 hf with ⟨hcs, _⟩ | ⟨x, l, c, m, n, D, Pl, hcs, _, hlc, hcm, hm, hx, _⟩
  · simp [Value.cells] at hcs
    exact .inl hcs.2.1
  · simp only [Value.cells, List.cons.injEq, Value.slice.injEq, and_true] at hcs
    obtain ⟨_, rfl, _⟩ := hcs
    simp only [Prod.mk.injEq] at hx
    exact .inr ⟨_, _, hx.1, by simp⟩
theorem row_cap {w : World} {base : Nat} {e : TypeId} {size n m c : Nat} {p : Option Addr} {xs : List Value} (h : w.ownsRow base e size (.slice p n c) m xs) : n ≤ c := by
  rcases h.2 with ⟨e1, _⟩ | ⟨g, cap, cur, e1, _, _, h1, _⟩
  · simp only [Value.slice.injEq] at e1; omega
  · simp only [Value.slice.injEq] at e1; omega
set_option maxHeartbeats 6400000 in
theorem spikes_walk (p : Option Addr) (n c : Nat) (S : Rc) (wd : Int) (lim : Nat) (w : World) (hn : n = S.length) (hp : TL w p S) (h64 : ∀ x ∈ S, x.2 < 2 ^ 64) (hl : lim < 2 ^ 64) (hs : n * 16 ≤ 140737488351232) :
    Calls Try.prog 12 #[.slice p n c, .int .i64 wd, .float .f64 lim] w fun e w' => e = .returned (.bool true) ∧ Below w.heap.size w w' := by
  have HL := hide_ lives_any
  have HP := hide_ hp
  by_cases h1 : 60 < n ∧ n ≤ 4096
  · have d1 : decide ((60 : Int) < (n : Int)) = true := decide_eq_true (by omega)
    have d2 : decide ((n : Int) ≤ 4096) = true := decide_eq_true (by omega)
    clear h1 hp hn
    go_enter Try.func12, Try.ntmps12
    go_wp2_with (go_at_call 43; (with_reducible refine (HL.out _).mono ?_); rintro e w1 ⟨rfl, hb1⟩)
    go_ret
    exact ⟨rfl, hb1⟩
  · obtain ⟨E, T, hTl, hR, hS⟩ := spikes_any p n c S wd lim w hn hp h64 hl (by omega)
    have HR := hide_ hR
    have HS := hide_ hS
    have HE := hide_ (fun W (h : TL W p S) => lents_any p n c S W hn h hs)
    have HU := hide_ (fun W q d (h : TL W q S) => rising_any q n d S W hn h (by omega))
    have HV := hide_ (fun W (h : TL W p S) => rrising_any p n c S W hn h (by omega))
    have HK := hide_ (fun W q d (h : TL W p S) (h' : TL W q (S ++ spareS)) => kepts_any p q n c d S W hn h h' hs)
    have HI := hide_ (fun (W : World) b1 b2 v1 v2 (h1 : W.ownsRow b1 3 1 v1 T.length (T.map iv)) (h2 : W.ownsRow b2 3 1 v2 T.length (T.map iv)) => sameInts_true h1 h2 (by omega))
    have hq : (E == E) = true := by simp
    have hs3 : (S ++ spareS).length = n + 3 := by rw [List.length_append, hn]; rfl
    have HS3 := hide_ hs3
    have hd : decide ((60 : Int) < (n : Int)) = false ∨ (decide ((60 : Int) < (n : Int)) = true ∧ decide ((n : Int) ≤ 4096) = false) := by
      rcases Nat.lt_or_ge 60 n with h | h
      · exact .inr ⟨decide_eq_true (by omega), decide_eq_false (by omega)⟩
      · exact .inl (decide_eq_false (by omega))
    generalize decide (Asc S) = asc at *
    clear hp hn h64 hl h1 hR hS hs3
    have hz : (asc == asc) = true := by simp
    rcases hd with d1 | ⟨d1, d2⟩
    all_goals cases asc
    all_goals go_enter Try.func12, Try.ntmps12
    all_goals go_wp2_with (first
      | (go_at_call 43; (with_reducible refine (HL.out _).mono ?_); rintro e w1 ⟨rfl, hb1⟩; have hg1 := Grew.of hb1)
      | (go_at_call 56; go_must (
          (with_reducible refine (HE.out _ (HP.out.below hg1.below)).mono ?_)
          rintro e w2 ⟨⟨v2, rfl, ho2⟩, hb2⟩
          have hg2 := hg1.step hb2
          obtain ⟨p2, c2, rfl⟩ := SL.slice ho2
          have F2 := SL.tl ho2
          have hcap := row_cap ho2
          rw [HS3.out] at hcap
          rw [HS3.out]))
      | (go_at_call 57; go_must (
          (with_reducible refine (HS.out _ _ _ F2.left).mono ?_)
          rintro e w3 ⟨⟨v3, rfl, ho3⟩, hb3⟩
          have hg3 := hg2.step hb3
          have F3 := F2.below hb3))
      | (go_at_call 58; go_must (
          (with_reducible refine (HR.out _ (HP.out.below hg3.below)).mono ?_)
          rintro e w4 ⟨⟨v4, rfl, ho4⟩, hb4⟩
          have hg4 := hg3.step hb4
          have F4 := F3.below hb4
          have ho34 := own_below ho3 hb4))
      | (go_at_call 23; go_must (
          (with_reducible refine (HI.out _ _ _ _ _ ho34 ho4).mono ?_)
          rintro e w5 ⟨rfl, hb5⟩
          have hg5 := hg4.step hb5
          have F5 := F4.below hb5))
      | (go_at_call 49; go_must (
          (with_reducible refine (HU.out _ _ _ F5.left).mono ?_)
          rintro e w6 ⟨rfl, q6, rfl⟩
          have hg6 := hg5.drewN q6
          have F6 := F5.below (below_drewN (Below.refl _ _) q6)))
      | (go_at_call 59; go_must (
          (with_reducible refine (HV.out _ (HP.out.below hg6.below)).mono ?_)
          rintro e w7 ⟨rfl, q7, rfl⟩
          have hg7 := hg5.drewN (q6 + q7)
          have F7 := F5.below (below_drewN (Below.refl _ _) (q6 + q7))))
      | (go_at_call 60; go_must (
          (with_reducible refine (HK.out _ _ _ (HP.out.below hg7.below) F7).mono ?_)
          rintro e w8 ⟨rfl, hb8⟩)))
    all_goals go_ret
    all_goals exact ⟨rfl, (hg7.step hb8).below⟩
end Go.Proofs.Ytlgnidjkilbdfaa
