/- Opening a slice of heights, of samples that came in. -/
import Derived.Test.YtlgnidjkilbdfaaCn
import Derived.Test.YtlgnidjkilbdfaaOpen
import Derived.Deep.Slices
namespace Go.Proofs.Ytlgnidjkilbdfaa
open Go.RowKit Go.ChangeShapes Go.WideShapes Go.Deep
set_option linter.unusedVariables false
theorem wf_f64 {b : Nat} (h : (Lit.float .f64 b).wf = true) : b < 2 ^ 64 := by
  simp [Lit.wf] at h
  exact h
theorem trod_f64 {H : Type} {enc : TypeId × Value → H} {w : World} {base n : Nat} {spare : Nat → Bool} {held : Bool} {v : Value} {y : DataW H × List MemPlace}
    (h : DataW.trod enc Try.prog w base spare held n 24 [v] = some y) : ∃ b, v = .float .f64 b ∧ b < 2 ^ 64 := by
  cases n with
  | zero => simp [DataW.trod] at h
  | succ n =>
    simp only [DataW.trod, Try.underlying24] at h
    cases v <;> simp at h
    exact ⟨_, by rw [h.1.1], wf_f64 h.1.2⟩
/-- A slice of heights. -/
theorem open_f64s_ {H : Type} {enc : TypeId × Value → H} {w : World} {base : Nat} {held : Bool} {a : Option Addr} {len cap : Nat} {d : DataW H} {ps : List MemPlace}
    (h : DataW.Trod enc Try.prog w base (fun _ => true) held 80 (.slice a len cap) d ps) : ∃ L : List Nat, len = L.length ∧ len ≤ cap ∧ cap ≤ maxLen ∧ FL w a L ∧ W64 L := by
  obtain ⟨fuel, hf⟩ := h
  rcases open_slice1 Try.underlying80 (by kernel_rfl) hf with ⟨hcs, _⟩ | ⟨x, l, c, m, n, V, D, Pl, hcs, _, hlc, hcm, hm, _, hall⟩
  · simp [Value.cells] at hcs
    obtain ⟨rfl, rfl, rfl⟩ := hcs
    exact ⟨[], rfl, Nat.le_refl _, by unfold maxLen; omega, .inl rfl, fun x hx => by cases hx⟩
  · simp only [Value.cells, List.cons.injEq, Value.slice.injEq, and_true] at hcs
    obtain ⟨rfl, rfl, rfl⟩ := hcs
    simp only [if_true] at hm
    subst hm
    have hT : ∀ i, ∃ b : Nat, i < len → (V i = .float .f64 b ∧ b < 2 ^ 64) := by
      intro i
      by_cases hi : i < len
      · obtain ⟨_, h2⟩ := hall i (by omega)
        obtain ⟨b, e1, e2⟩ := trod_f64 h2
        exact ⟨b, fun _ => ⟨e1, e2⟩⟩
      · exact ⟨0, fun h => absurd h hi⟩
    obtain ⟨B, hT⟩ := Classical.axiomOfChoice hT
    have hlen : len = ((List.range len).map B).length := by simp
    have hget : ∀ i, i < len → ((List.range len).map B).getD i 0 = B i := fun i hi => by simp [List.getD_eq_getElem?_getD, hi]
    refine ⟨(List.range len).map B, hlen, hlc, hcm, ?_, ?_⟩
    · rcases Nat.eq_zero_or_pos len with h0 | hp
      · left; subst h0; rfl
      · obtain ⟨g, o, sp⟩ := x
        have c0 := (hall 0 (by omega)).1
        have e0 : (⟨g, o, sp⟩ : Addr).add 0 = ⟨g, o, sp⟩ := by unfold Addr.add; simp
        rw [e0] at c0
        have hsp : sp = none := by
          cases sp with
          | none => rfl
          | some q =>
            unfold World.cell? at c0
            split at c0 <;> simp at c0
        subst hsp
        refine .inr ⟨g, o, rfl, World.block_lt_of_cell? w _ c0, fun k hk => ?_⟩
        rw [← hlen] at hk
        obtain ⟨h1, _⟩ := hall k (by omega)
        rw [hget k hk]
        rw [Addr.add_lit] at h1
        rw [h1, (hT k hk).1]
    · intro p hp
      obtain ⟨i, hi, rfl⟩ := List.mem_map.1 hp
      exact (hT i (by simpa using hi)).2
/-- A slice of samples. -/
theorem open_smps_ {H : Type} {enc : TypeId × Value → H} {w : World} {base : Nat} {held : Bool} {a : Option Addr} {len cap : Nat} {d : DataW H} {ps : List MemPlace}
    (h : DataW.Trod enc Try.prog w base (fun _ => true) held 23 (.slice a len cap) d ps) : ∃ S : Rc, len = S.length ∧ len ≤ cap ∧ cap ≤ maxLen ∧ TL w a S ∧ In64 S := by
  obtain ⟨fuel, hf⟩ := h
  rcases open_slice_pairs Try.underlying23 Try.underlying26 (by kernel_rfl) rfl rfl (by kernel_rfl) (by kernel_rfl) hf with ⟨hcs, _⟩ | ⟨x, l, c, m, n, V0, V1, D0, D1, P0, P1, hcs, _, hlc, hcm, hm, _, hall⟩
  · simp [Value.cells] at hcs
    obtain ⟨rfl, rfl, rfl⟩ := hcs
    exact ⟨[], rfl, Nat.le_refl _, by unfold maxLen; omega, .inl rfl, ⟨by simp, by simp⟩⟩
  · simp only [Value.cells, List.cons.injEq, Value.slice.injEq, and_true] at hcs
    obtain ⟨rfl, rfl, rfl⟩ := hcs
    simp only [if_true] at hm
    subst hm
    have hT : ∀ i, ∃ t : Int, ∃ b : Nat, i < len → (V0 i = .int .i64 t ∧ V1 i = .float .f64 b ∧ I64 t ∧ b < 2 ^ 64) := by
      intro i
      by_cases hi : i < len
      · obtain ⟨_, _, h3, h4⟩ := hall i (by omega)
        obtain ⟨t, e1, _, w1⟩ := DataW.trod_int Try.underlying3 h3
        obtain ⟨b, e2, hb⟩ := trod_f64 h4
        simp at e1
        exact ⟨t, b, fun _ => ⟨e1, e2, i64_of w1, hb⟩⟩
      · exact ⟨0, 0, fun h => absurd h hi⟩
    obtain ⟨T, hT⟩ := Classical.axiomOfChoice hT
    obtain ⟨B, hT⟩ := Classical.axiomOfChoice hT
    have hlen : len = ((List.range len).map fun i => (T i, B i)).length := by simp
    have hget : ∀ i, i < len → ((List.range len).map fun i => (T i, B i)).getD i (0, 0) = (T i, B i) := fun i hi => by simp [List.getD_eq_getElem?_getD, hi]
    refine ⟨(List.range len).map fun i => (T i, B i), hlen, hlc, hcm, ?_, ⟨?_, ?_⟩⟩
    · rcases Nat.eq_zero_or_pos len with h0 | hp
      · left; subst h0; rfl
      · obtain ⟨g, o, sp⟩ := x
        have c0 := (hall 0 (by omega)).1
        have e0 : (⟨g, o, sp⟩ : Addr).add (0 * 2) = ⟨g, o, sp⟩ := by unfold Addr.add; simp
        rw [e0] at c0
        have hsp : sp = none := by
          cases sp with
          | none => rfl
          | some q =>
            unfold World.cell? at c0
            split at c0 <;> simp at c0
        subst hsp
        refine .inr ⟨g, o, rfl, World.block_lt_of_cell? w _ c0, fun k hk => ?_⟩
        rw [← hlen] at hk
        obtain ⟨h1, h2, _, _⟩ := hall k (by omega)
        obtain ⟨e1, e2, _, _⟩ := hT k hk
        rw [hget k hk]
        rw [Addr.add_lit] at h1
        rw [Addr.add_lit, ← Nat.add_assoc] at h2
        rw [e1] at h1
        rw [e2] at h2
        exact ⟨h1, h2⟩
    · intro p hp
      obtain ⟨i, hi, rfl⟩ := List.mem_map.1 hp
      exact (hT i (by simpa using hi)).2.2.1
    · intro p hp
      obtain ⟨i, hi, rfl⟩ := List.mem_map.1 hp
      exact (hT i (by simpa using hi)).2.2.2
end Go.Proofs.Ytlgnidjkilbdfaa
