/- second.at in one contract; Between. -/
import Derived.Test.YtcibbnphkpaifaaSj
namespace Go.Proofs.Ytcibbnphkpaifaa
open Go.RowKit
set_option linter.unusedVariables false
set_option maxRecDepth 100000
theorem at_find {L : List Wt} {t : Int} (hs : Snd L) (h0 : ∀ h : 0 < L.length, L[0].t ≤ t) : ∀ (k : Nat) (hk : k < L.length), t ≤ L[k].l → (∃ i, ∃ h : i < L.length, L[i].t ≤ t ∧ t ≤ L[i].l) ∨ (∃ i, ∃ h : i + 1 < L.length, L[i].l < t ∧ t < L[i + 1].t) := by
  intro k
  induction k with
  | zero => intro hk h; exact .inl ⟨0, hk, h0 hk, h⟩
  | succ k ih =>
    intro hk h
    by_cases h1 : t ≤ L[k].l
    · exact ih (by omega) h1
    · by_cases h2 : L[k + 1].t ≤ t
      · exact .inl ⟨k + 1, hk, h2, h⟩
      · exact .inr ⟨k, hk, by omega, by omega⟩
theorem at_any (p : Option Addr) (n c : Nat) (t : Int) (L : List Wt) (w : World) (hn : n = L.length) (hs : Snd L) (hp : WSl w p L) (hl : n ≤ 4096) :
    Calls Try.prog 54 #[.slice p n c, .int .i64 t] w (ResA w (atQ L t)) := by
  subst hn
  rcases Nat.eq_zero_or_pos L.length with h0 | h0
  · rw [atQ_low hs (fun h => by omega), h0]
    exact (at_nil p c t w).mono fun e w' ⟨h1, h2⟩ => ⟨.inr ⟨by decide, h1⟩, h2⟩
  · obtain ⟨g, o, rfl⟩ : ∃ g o, p = some ⟨g, o, none⟩ := by
      rcases hp with ⟨_, h⟩ | ⟨g, o, e, _⟩
      · subst h; cases h0
      · exact ⟨g, o, e⟩
    obtain ⟨hg, _, _, _, _, ⟨z0, _⟩, _⟩ := hp.at (i := 0) h0
    rw [Nat.zero_mul, Nat.add_zero] at z0
    by_cases h1 : t < L[0].t
    · rw [atQ_low hs (fun _ => h1)]
      exact (at_low g o L.length c t L[0].t w h0 hg z0 h1).mono fun e w' ⟨h1, h2⟩ => ⟨.inr ⟨by decide, h1⟩, h2⟩
    · have hm : L.length - 1 < L.length := by omega
      by_cases h2 : L[L.length - 1].l < t
      · rw [atQ_high hs hm h2]
        have e : L.length = (L.length - 1) + 1 := by omega
        have z1 := hp.lc hm
        have h3 := at_high g o (L.length - 1) c t L[0].t (L[L.length - 1].l) w hg (by omega) z0 z1 h1 h2
        rw [← e] at h3
        exact h3.mono fun e w' ⟨h1, h2⟩ => ⟨.inr ⟨by decide, h1⟩, h2⟩
      · rcases at_find hs (show ∀ h : 0 < L.length, L[0].t ≤ t from fun _ => Int.not_lt.1 h1) (L.length - 1) hm (Int.not_lt.1 h2) with ⟨i, hi, h3, h4⟩ | ⟨i, hi, h3, h4⟩
        · rw [atQ_on hs hi h3 h4]
          have hf : Fits L[i].h := by
            obtain ⟨_, _, _, _, _, _, hr⟩ := hp.at hi
            exact (hr.rv (hs.one hi).2.2.2).1
          exact (at_on g o c t L w hs hp hl i hi h3 h4).mono fun e w' ⟨⟨s, p, n, c, q, m, d, h5, h6⟩, h7⟩ => ⟨.inl ⟨rfl, s, p, n, c, q, m, d, h5, h6, hf⟩, h7⟩
        · rw [atQ_in hs hi h3 h4]
          refine (at_in g o c t L w hs hp hl i (i + 1) (hide_ rfl) hi (by omega) h3 h4).mono fun e w' ⟨h5, h7⟩ => ⟨?_, h7⟩
          unfold curW
          rcases h5 with ⟨hF, s, p, n, c, q, m, d, h5, h6⟩ | ⟨hF, h5⟩
          · rw [if_pos hF]
            exact .inl ⟨rfl, s, p, n, c, q, m, d, h5, h6, hF.2.2.2.2.2.2⟩
          · rw [if_neg hF]
            exact .inr ⟨by decide, h5⟩
theorem ResA.form {w w' : World} {r : Rat × Int} {e : Ending} (h : ResA w r e w') : ∃ s p n c q m d a, e = .returned (.tuple #[.agg #[.bool s, .slice p n c, .slice q m d], .agg #[.int .i64 r.2, .int .i64 a]]) ∧ (r.2 = 0 → a = 0 ∧ Fits r.1 ∧ RO w' w.heap.size (.agg #[.bool s, .slice p n c, .slice q m d]) r.1) ∧ (r.2 ≠ 0 → a = -1 ∧ Value.agg #[.bool s, .slice p n c, .slice q m d] = zeroR) := by
  rcases h.1 with ⟨h0, s, p, n, c, q, m, d, rfl, ho, hf⟩ | ⟨h0, rfl⟩
  · exact ⟨s, p, n, c, q, m, d, 0, by rw [h0], fun _ => ⟨rfl, hf, ho⟩, fun h => absurd h0 h⟩
  · exact ⟨_, _, _, _, _, _, _, -1, rfl, fun h => absurd h h0, fun _ => ⟨rfl, rfl⟩⟩
end Go.Proofs.Ytcibbnphkpaifaa
