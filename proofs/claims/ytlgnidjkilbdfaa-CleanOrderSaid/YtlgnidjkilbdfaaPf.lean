/- Opening a slice of numbers that came in. -/
import Derived.Test.YtlgnidjkilbdfaaPd
namespace Go.Proofs.Ytlgnidjkilbdfaa
open Go.RowKit Go.ChangeShapes Go.WideShapes Go.Deep
set_option linter.unusedVariables false
theorem open_ints_ {H : Type} {enc : TypeId × Value → H} {w : World} {base : Nat} {held : Bool} {a : Option Addr} {len cap : Nat} {d : DataW H} {ps : List MemPlace}
    (h : DataW.Trod enc Try.prog w base (fun _ => true) held 44 (.slice a len cap) d ps) : ∃ O : List Int, len = O.length ∧ len ≤ cap ∧ cap ≤ maxLen ∧ IL w a O := by
  obtain ⟨fuel, hf⟩ := h
  rcases open_slice1 Try.underlying44 (by kernel_rfl) hf with ⟨hcs, _⟩ | ⟨x, l, c, m, n, V, D, Pl, hcs, _, hlc, hcm, hm, _, hall⟩
  · simp [Value.cells] at hcs
    obtain ⟨rfl, rfl, rfl⟩ := hcs
    exact ⟨[], rfl, Nat.le_refl _, by unfold maxLen; omega, .inl rfl⟩
  · simp only [Value.cells, List.cons.injEq, Value.slice.injEq, and_true] at hcs
    obtain ⟨rfl, rfl, rfl⟩ := hcs
    simp only [if_true] at hm
    subst hm
    have hT : ∀ i, ∃ b : Int, i < len → V i = .int .i64 b := by
      intro i
      by_cases hi : i < len
      · obtain ⟨_, h2⟩ := hall i (by omega)
        obtain ⟨t, e1, _, _⟩ := DataW.trod_int Try.underlying3 h2
        simp at e1
        exact ⟨t, fun _ => e1⟩
      · exact ⟨0, fun h => absurd h hi⟩
    obtain ⟨B, hT⟩ := Classical.axiomOfChoice hT
    have hlen : len = ((List.range len).map B).length := by simp
    have hget : ∀ i, i < len → ((List.range len).map B).getD i 0 = B i := fun i hi => by simp [List.getD_eq_getElem?_getD, hi]
    refine ⟨(List.range len).map B, hlen, hlc, hcm, ?_⟩
    rcases Nat.eq_zero_or_pos len with h0 | hp
    · left; subst h0; rfl
    · obtain ⟨g, o, sp⟩ := x
      have c0 := (hall 0 (by omega)).1
      have e0 : (⟨g, o, sp⟩ : Addr).add 0 = ⟨g, o, sp⟩ := by unfold Addr.add; simp
      rw [e0] at c0
      have hsp : sp = none := by
        cases sp with
        | none => rfl
        | some q =>
          unfold World.cell? at c0
          split at c0 <;> simp at c0
      subst hsp
      refine .inr ⟨g, o, rfl, World.block_lt_of_cell? w _ c0, fun k hk => ?_⟩
      rw [← hlen] at hk
      obtain ⟨h1, _⟩ := hall k (by omega)
      rw [hget k hk]
      rw [Addr.add_lit] at h1
      rw [h1, hT k hk]
end Go.Proofs.Ytlgnidjkilbdfaa
