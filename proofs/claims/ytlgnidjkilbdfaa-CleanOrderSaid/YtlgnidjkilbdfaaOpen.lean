/- Opening a slice of bare samples that came in. -/
import Derived.Test.YtlgnidjkilbdfaaRf
import Derived.ChangeArms
import Derived.ChangeShapes
import Derived.WideShapes
import Derived.Deep.SlicePairs
namespace Go.Proofs.Ytlgnidjkilbdfaa
open Go.RowKit Go.ChangeShapes Go.WideShapes Go.Deep
set_option linter.unusedVariables false
theorem i64_of {n : Int} (h : (Lit.int .i64 n).wf = true) : I64 n := by
  have e1 : IntKind.min .i64 = -9223372036854775808 := by decide
  have e2 : IntKind.max .i64 = 9223372036854775807 := by decide
  simp [Lit.wf, e1, e2] at h
  exact h
theorem u64_of {n : Int} (h : (Lit.int .u64 n).wf = true) : ∃ b : Nat, n = (b : Int) ∧ b < 2 ^ 64 := by
  have e1 : IntKind.min .u64 = 0 := by decide
  have e2 : IntKind.max .u64 = 18446744073709551615 := by decide
  simp [Lit.wf, e1, e2] at h
  exact ⟨n.toNat, by omega, by omega⟩
/-- A slice of bare samples. -/
theorem open_bares {H : Type} {enc : TypeId × Value → H} {w : World} {base fuel : Nat} {held : Bool} {a : Option Addr} {len cap : Nat} {x : DataW H × List MemPlace}
    (h : DataW.trod enc Try.prog w base (fun _ => true) held fuel 22 [.slice a len cap] = some x) :
    ∃ S : Rc, len = S.length ∧ len ≤ cap ∧ cap ≤ maxLen ∧ BL w a S ∧ In64 S := by
  rcases open_slice_pairs Try.underlying22 Try.underlying29 (by kernel_rfl) rfl rfl (by kernel_rfl) (by kernel_rfl) h with ⟨hcs, _⟩ | ⟨x, l, c, m, n, V0, V1, D0, D1, P0, P1, hcs, _, hlc, hcm, hm, _, hall⟩
  · simp at hcs
    obtain ⟨rfl, rfl, rfl⟩ := hcs
    exact ⟨[], rfl, Nat.le_refl _, by unfold maxLen; omega, .inl rfl, ⟨by simp, by simp⟩⟩
  · simp only [List.cons.injEq, Value.slice.injEq, and_true] at hcs
    obtain ⟨rfl, rfl, rfl⟩ := hcs
    simp only [if_true] at hm
    subst hm
    have hT : ∀ i, ∃ t : Int, ∃ b : Nat, i < len → (V0 i = .int .i64 t ∧ V1 i = .int .u64 b ∧ I64 t ∧ b < 2 ^ 64) := by
      intro i
      by_cases hi : i < len
      · obtain ⟨_, _, h3, h4⟩ := hall i (by omega)
        obtain ⟨t, e1, _, w1⟩ := DataW.trod_int Try.underlying3 h3
        obtain ⟨u, e2, _, w2⟩ := DataW.trod_int Try.underlying27 h4
        obtain ⟨b, rfl, hb⟩ := u64_of w2
        simp at e1 e2
        exact ⟨t, b, fun _ => ⟨e1, e2, i64_of w1, hb⟩⟩
      · exact ⟨0, 0, fun h => absurd h hi⟩
    obtain ⟨T, hT⟩ := Classical.axiomOfChoice hT
    obtain ⟨B, hT⟩ := Classical.axiomOfChoice hT
    have hlen : len = ((List.range len).map fun i => (T i, B i)).length := by simp
    have hget : ∀ i, i < len → ((List.range len).map fun i => (T i, B i)).getD i (0, 0) = (T i, B i) := fun i hi => by simp [List.getD_eq_getElem?_getD, hi]
    refine ⟨(List.range len).map fun i => (T i, B i), hlen, hlc, hcm, ?_, ⟨?_, ?_⟩⟩
    · rcases Nat.eq_zero_or_pos len with h0 | hp
      · left; subst h0; rfl
      · obtain ⟨g, o, sp⟩ := x
        have c0 := (hall 0 (by omega)).1
        have e0 : (⟨g, o, sp⟩ : Addr).add (0 * 2) = ⟨g, o, sp⟩ := by unfold Addr.add; simp
        rw [e0] at c0
        have hsp : sp = none := by
          cases sp with
          | none => rfl
          | some q =>
            unfold World.cell? at c0
            split at c0 <;> simp at c0
        subst hsp
        refine .inr ⟨g, o, rfl, World.block_lt_of_cell? w _ c0, fun k hk => ?_⟩
        rw [← hlen] at hk
        obtain ⟨h1, h2, _, _⟩ := hall k (by omega)
        obtain ⟨e1, e2, _, _⟩ := hT k hk
        rw [hget k hk]
        rw [Addr.add_lit] at h1
        rw [Addr.add_lit, ← Nat.add_assoc] at h2
        rw [e1] at h1
        rw [e2] at h2
        exact ⟨h1, h2⟩
    · intro p hp
      obtain ⟨i, hi, rfl⟩ := List.mem_map.1 hp
      exact (hT i (by simpa using hi)).2.2.1
    · intro p hp
      obtain ⟨i, hi, rfl⟩ := List.mem_map.1 hp
      exact (hT i (by simpa using hi)).2.2.2
theorem open_bares_ {H : Type} {enc : TypeId × Value → H} {w : World} {base : Nat} {held : Bool} {a : Option Addr} {len cap : Nat} {d : DataW H} {ps : List MemPlace}
    (h : DataW.Trod enc Try.prog w base (fun _ => true) held 22 (.slice a len cap) d ps) : ∃ S : Rc, len = S.length ∧ len ≤ cap ∧ cap ≤ maxLen ∧ BL w a S ∧ In64 S := by
  obtain ⟨fuel, hf⟩ := h
  exact open_bares hf
end Go.Proofs.Ytlgnidjkilbdfaa
