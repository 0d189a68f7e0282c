/- Opening a slice of slices of samples that came in. -/
import Derived.Test.YtlgnidjkilbdfaaMi
import Derived.Test.YtlgnidjkilbdfaaMl
namespace Go.Proofs.Ytlgnidjkilbdfaa
open Go.RowKit Go.ChangeShapes Go.WideShapes Go.Deep
set_option linter.unusedVariables false
theorem inner_smps {H : Type} {enc : TypeId × Value → H} {w : World} {base n : Nat} {held : Bool} {v : Value} {y : DataW H × List MemPlace}
    (h : DataW.trod enc Try.prog w base (fun _ => true) held n 23 [v] = some y) : ∃ q c, ∃ L : Rc, v = .slice q L.length c ∧ L.length ≤ c ∧ c ≤ maxLen ∧ TL w q L ∧ In64 L ∧ (L.length = 0 ∨ ∃ es sp, y.1 = .slice es sp ∧ es.length = L.length) := by
  rcases open_slice Try.underlying23 h with ⟨hcs, _⟩ | ⟨x, l, c, m, k, D, Pl, hcs, _, hlc, hcm, hm, hx, _⟩
  · simp only [List.cons.injEq, and_true] at hcs
    subst hcs
    exact ⟨none, 0, [], rfl, Nat.le_refl _, by unfold maxLen; omega, .inl rfl, ⟨by simp, by simp⟩, .inl rfl⟩
  · simp only [List.cons.injEq, and_true] at hcs
    subst hcs
    obtain ⟨L, h1, h2, h3, h4, h5⟩ := open_smps_ (enc := enc) (d := y.1) (ps := y.2) ⟨n, by simpa [Value.cells] using h⟩
    subst h1
    exact ⟨some x, c, L, rfl, hlc, hcm, h4, h5, .inr ⟨_, _, by rw [hx], by simp⟩⟩
/-- A slice of slices of samples. -/
theorem open_smpss_ {H : Type} {enc : TypeId × Value → H} {w : World} {base : Nat} {held : Bool} {a : Option Addr} {len cap : Nat} {d : DataW H} {ps : List MemPlace}
    (h : DataW.Trod enc Try.prog w base (fun _ => true) held 95 (.slice a len cap) d ps) : ∃ S : Ls, len = S.length ∧ len ≤ cap ∧ cap ≤ maxLen ∧ ML w a S ∧ (∀ L ∈ S, In64 L) ∧ (len = 0 ∨ ∃ es sp, d = .slice es sp ∧ es.length = len ∧ ∀ k, k < len → (S.getD k []).length = 0 ∨ ∃ es' sp', es[k]? = some (.slice es' sp') ∧ es'.length = (S.getD k []).length) := by
  obtain ⟨fuel, hf⟩ := h
  rcases open_slice1 Try.underlying95 (by kernel_rfl) hf with ⟨hcs, _⟩ | ⟨x, l, c, m, n, V, D, Pl, hcs, _, hlc, hcm, hm, hxx, hall⟩
  · simp [Value.cells] at hcs
    obtain ⟨rfl, rfl, rfl⟩ := hcs
    exact ⟨[], rfl, Nat.le_refl _, by unfold maxLen; omega, .inl rfl, (by simp), .inl rfl⟩
  · simp only [Value.cells, List.cons.injEq, Value.slice.injEq, and_true] at hcs
    obtain ⟨rfl, rfl, rfl⟩ := hcs
    simp only [if_true] at hm
    subst hm
    have hT : ∀ i, ∃ q : Option Addr, ∃ cc : Nat, ∃ L : Rc, i < len → (V i = .slice q L.length cc ∧ TL w q L ∧ In64 L ∧ (L.length = 0 ∨ ∃ es sp, D i = .slice es sp ∧ es.length = L.length)) := by
      intro i
      by_cases hi : i < len
      · obtain ⟨_, h2⟩ := hall i (by omega)
        obtain ⟨q, cc, L, e1, _, _, e2, e3, e4⟩ := inner_smps h2
        exact ⟨q, cc, L, fun _ => ⟨e1, e2, e3, e4⟩⟩
      · exact ⟨none, 0, [], fun h => absurd h hi⟩
    obtain ⟨Q, hT⟩ := Classical.axiomOfChoice hT
    obtain ⟨C, hT⟩ := Classical.axiomOfChoice hT
    obtain ⟨L, hT⟩ := Classical.axiomOfChoice hT
    have hlen : len = ((List.range len).map L).length := by simp
    have hget : ∀ i, i < len → ((List.range len).map L).getD i [] = L i := fun i hi => by simp [List.getD_eq_getElem?_getD, hi]
    refine ⟨(List.range len).map L, hlen, hlc, hcm, ?_, ?_, ?_⟩
    · rcases Nat.eq_zero_or_pos len with h0 | hp
      · left; subst h0; rfl
      · obtain ⟨g, o, sp⟩ := x
        have c0 := (hall 0 (by omega)).1
        have e0 : (⟨g, o, sp⟩ : Addr).add 0 = ⟨g, o, sp⟩ := by unfold Addr.add; simp
        rw [e0] at c0
        have hsp : sp = none := by
          cases sp with
          | none => rfl
          | some q =>
            unfold World.cell? at c0
            split at c0 <;> simp at c0
        subst hsp
        refine .inr ⟨g, o, rfl, World.block_lt_of_cell? w _ c0, fun k hk => ?_⟩
        rw [← hlen] at hk
        obtain ⟨h1, _⟩ := hall k (by omega)
        obtain ⟨e1, e2, _⟩ := hT k hk
        rw [hget k hk]
        rw [Addr.add_lit] at h1
        exact ⟨Q k, C k, by rw [h1, e1], e2⟩
    · intro X hX
      obtain ⟨i, hi, rfl⟩ := List.mem_map.1 hX
      exact (hT i (by simpa using hi)).2.2.1
    · simp only [Prod.mk.injEq] at hxx
      refine .inr ⟨_, _, hxx.1, by simp, fun k hk => ?_⟩
      rw [hget k hk]
      rcases (hT k hk).2.2.2 with h | ⟨es', sp', h1, h2⟩
      · exact .inl h
      · exact .inr ⟨es', sp', by simp [hk, h1], h2⟩
end Go.Proofs.Ytlgnidjkilbdfaa
