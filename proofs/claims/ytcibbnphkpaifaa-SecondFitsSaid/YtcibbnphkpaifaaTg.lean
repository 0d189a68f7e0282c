/- Opening waters that came in. -/
import Derived.Test.YtcibbnphkpaifaaTf
import Derived.ChangeArms
import Derived.ChangeShapes
import Derived.WideShapes
import Derived.Deep.SlicePairs
namespace Go.Proofs.Ytcibbnphkpaifaa
open Go.RowKit Go.ChangeShapes Go.WideShapes Go.Deep
set_option linter.unusedVariables false
set_option maxRecDepth 100000
theorem i64_of {n : Int} (h : (Lit.int .i64 n).wf = true) : -9223372036854775808 ≤ n ∧ n < 9223372036854775808 := by
  have e1 : IntKind.min .i64 = -9223372036854775808 := by decide
  have e2 : IntKind.max .i64 = 9223372036854775807 := by decide
  simp [Lit.wf, e1, e2] at h
  omega
theorem u32_of {n : Int} (h : (Lit.int .u32 n).wf = true) : ∃ b : Nat, n = (b : Int) ∧ b < BB := by
  have e1 : IntKind.min .u32 = 0 := by decide
  have e2 : IntKind.max .u32 = 4294967295 := by decide
  simp [Lit.wf, e1, e2] at h
  rw [BB_eq]
  exact ⟨n.toNat, by omega, by omega⟩
theorem add_plain {x : Addr} {w : World} {v : Value} (h : w.cell? (x.add 0) = some v) : x.spot = none := by
  obtain ⟨g, o, sp⟩ := x
  have e0 : (⟨g, o, sp⟩ : Addr).add 0 = ⟨g, o, sp⟩ := by unfold Addr.add; simp
  rw [e0] at h
  cases sp with
  | none => rfl
  | some q =>
    unfold World.cell? at h
    split at h <;> simp at h
/-- A slice of words. -/
theorem open_words {H : Type} {enc : TypeId × Value → H} {w : World} {base n : Nat} {held : Bool} {v : Value} {y : DataW H × List MemPlace}
    (h : DataW.trod enc Try.prog w base (fun _ => true) held n 30 [v] = some y) : ∃ q c, ∃ S : List Nat, v = .slice q S.length c ∧ S.length ≤ c ∧ WL w q S ∧ Dig S := by
  rcases open_slice1 Try.underlying30 (by kernel_rfl) h with ⟨hcs, _⟩ | ⟨x, l, c, m, n, V, D, Pl, hcs, _, hlc, hcm, hm, _, hall⟩
  · simp only [List.cons.injEq, and_true] at hcs
    subst hcs
    exact ⟨none, 0, [], rfl, Nat.le_refl _, .inl rfl, Dig.nil⟩
  · simp only [List.cons.injEq, and_true] at hcs
    subst hcs
    simp only [if_true] at hm
    subst hm
    have hT : ∀ i, ∃ b : Nat, i < l → (V i = .int .u32 (b : Int) ∧ b < BB) := by
      intro i
      by_cases hi : i < l
      · obtain ⟨_, h2⟩ := hall i (by omega)
        obtain ⟨t, e1, _, w1⟩ := DataW.trod_int Try.underlying88 h2
        obtain ⟨b, rfl, hb⟩ := u32_of w1
        simp at e1
        exact ⟨b, fun _ => ⟨e1, hb⟩⟩
      · exact ⟨0, fun h => absurd h hi⟩
    obtain ⟨T, hT⟩ := Classical.axiomOfChoice hT
    have hlen : ((List.range l).map T).length = l := by simp
    refine ⟨some x, _, (List.range l).map T, by rw [hlen], by omega, ?_, ?_⟩
    · rcases Nat.eq_zero_or_pos l with h0 | hp
      · subst h0; exact .inl rfl
      · have c0 := (hall 0 (by omega)).1
        obtain ⟨g, o, sp⟩ := x
        have hsp : sp = none := add_plain (x := ⟨g, o, sp⟩) c0
        subst hsp
        rw [Addr.add_lit] at c0
        refine .inr ⟨g, o, rfl, World.block_lt_of_cell? w _ c0, fun k hk => ?_⟩
        rw [hlen] at hk
        obtain ⟨h1, _⟩ := hall k (by omega)
        rw [Addr.add_lit] at h1
        rw [h1, (hT k hk).1]
        simp [List.getD_eq_getElem?_getD, hk]
    · intro b hb
      obtain ⟨i, hi, rfl⟩ := List.mem_map.1 hb
      exact (hT i (by simpa using hi)).2
theorem trod_struct4 {H : Type} {enc : TypeId × Value → H} {P : Program} {w : World} {base : Nat} {spare : Nat → Bool} {held : Bool} {t : TypeId} {f0 f1 f2 f3 : Field} {fuel : Nat} {cs : List Value} {x : DataW H × List MemPlace} (ht : P.underlying t = some (.struct #[f0, f1, f2, f3])) (h : DataW.trod enc P w base spare held fuel t cs = some x) :
    ∃ (y0 y1 y2 y3 : DataW H × List MemPlace) (n : Nat),
      DataW.trod enc P w base spare held n f0.type ((cs.drop f0.offset).take (P.cellsOf f0.type)) = some y0 ∧ DataW.trod enc P w base spare held n f1.type ((cs.drop f1.offset).take (P.cellsOf f1.type)) = some y1 ∧
      DataW.trod enc P w base spare held n f2.type ((cs.drop f2.offset).take (P.cellsOf f2.type)) = some y2 ∧ DataW.trod enc P w base spare held n f3.type ((cs.drop f3.offset).take (P.cellsOf f3.type)) = some y3 := by
  obtain ⟨xs, n, _, rfl, hl, hlen, hf⟩ := DataW.trod_struct ht h
  match xs, hlen with
  | [y0, y1, y2, y3], _ => exact ⟨y0, y1, y2, y3, n, by simpa using hf 0 f0 rfl, by simpa using hf 1 f1 rfl, by simpa using hf 2 f2 rfl, by simpa using hf 3 f3 rfl⟩
theorem trod_struct3 {H : Type} {enc : TypeId × Value → H} {P : Program} {w : World} {base : Nat} {spare : Nat → Bool} {held : Bool} {t : TypeId} {f0 f1 f2 : Field} {fuel : Nat} {cs : List Value} {x : DataW H × List MemPlace} (ht : P.underlying t = some (.struct #[f0, f1, f2])) (h : DataW.trod enc P w base spare held fuel t cs = some x) :
    ∃ (y0 y1 y2 : DataW H × List MemPlace) (n : Nat),
      DataW.trod enc P w base spare held n f0.type ((cs.drop f0.offset).take (P.cellsOf f0.type)) = some y0 ∧ DataW.trod enc P w base spare held n f1.type ((cs.drop f1.offset).take (P.cellsOf f1.type)) = some y1 ∧
      DataW.trod enc P w base spare held n f2.type ((cs.drop f2.offset).take (P.cellsOf f2.type)) = some y2 := by
  obtain ⟨xs, n, _, rfl, hl, hlen, hf⟩ := DataW.trod_struct ht h
  match xs, hlen with
  | [y0, y1, y2], _ => exact ⟨y0, y1, y2, n, by simpa using hf 0 f0 rfl, by simpa using hf 1 f1 rfl, by simpa using hf 2 f2 rfl⟩
/-- A fraction's three cells. -/
theorem open_ratio3 {H : Type} {enc : TypeId × Value → H} {w : World} {base n : Nat} {held : Bool} {v3 v4 v5 : Value} {y : DataW H × List MemPlace}
    (h : DataW.trod enc Try.prog w base (fun _ => true) held n 32 [v3, v4, v5] = some y) : ∃ neg q c q' c', ∃ S T : List Nat, v3 = .bool neg ∧ v4 = .slice q S.length c ∧ v5 = .slice q' T.length c' ∧ S.length ≤ c ∧ T.length ≤ c' ∧ WL w q S ∧ WL w q' T ∧ Dig S ∧ Dig T := by
  obtain ⟨y0, y1, y2, n, h0, h1, h2⟩ := trod_struct3 Try.underlying32 h
  have e1 : Try.prog.cellsOf 4 = 1 := by kernel_rfl
  have e2 : Try.prog.cellsOf 30 = 1 := by kernel_rfl
  simp only [e1, e2] at h0 h1 h2
  obtain ⟨b, k0, _⟩ := DataW.trod_bool Try.underlying4 h0
  simp at k0
  subst k0
  obtain ⟨q, c, S, k1, l1, w1, d1⟩ := open_words (by simpa using h1)
  obtain ⟨q', c', T, k2, l2, w2, d2⟩ := open_words (by simpa using h2)
  exact ⟨b, q, c, q', c', S, T, rfl, k1, k2, l1, l2, w1, w2, d1, d2⟩
/-- A slice of waters. -/
theorem open_waters_ {H : Type} {enc : TypeId × Value → H} {w : World} {base : Nat} {held : Bool} {a : Option Addr} {len cap : Nat} {d : DataW H} {ps : List MemPlace}
    (h : DataW.Trod enc Try.prog w base (fun _ => true) held 22 (.slice a len cap) d ps) : ∃ L : List Wt, len = L.length ∧ len ≤ cap ∧ cap ≤ maxLen ∧ WSr w a L ∧ ∀ x ∈ L, (-9223372036854775808 ≤ x.t ∧ x.t < 9223372036854775808) ∧ -9223372036854775808 ≤ x.l ∧ x.l < 9223372036854775808 := by
  obtain ⟨fuel, hf⟩ := h
  have hf : DataW.trod enc Try.prog w base (fun _ => true) held fuel 22 [.slice a len cap] = some (d, ps) := hf
  rcases open_slice (P := Try.prog) (t := 22) (e := 34) (by kernel_rfl) hf with ⟨hcs, _⟩ | ⟨x, l, c, m, n, D, Pl, hcs, hb, hl, hm, hmm, _, hx⟩
  · simp at hcs
    obtain ⟨rfl, rfl, rfl⟩ := hcs
    exact ⟨[], rfl, Nat.le_refl _, by unfold maxLen; omega, .inl rfl, by simp⟩
  · simp only [List.cons.injEq, Value.slice.injEq, and_true] at hcs
    obtain ⟨rfl, rfl, rfl⟩ := hcs
    simp only [if_true] at hmm
    subst hmm
    have ce : Try.prog.cellsOf 34 = 6 := by kernel_rfl
    have e3 : Try.prog.cellsOf 3 = 1 := by kernel_rfl
    have e4 : Try.prog.cellsOf 4 = 1 := by kernel_rfl
    have e5 : Try.prog.cellsOf 32 = 3 := by kernel_rfl
    have hT : ∀ i, ∃ (y : Wt) (p1 : Option Addr) (c1 : Nat) (q1 : Option Addr) (d1 : Nat), i < len → ((w.cell? (x.add (i * 6)) = some (.int .i64 y.t) ∧ w.cell? (x.add (i * 6 + 1)) = some (.int .i64 y.l) ∧ w.cell? (x.add (i * 6 + 2)) = some (.bool y.top) ∧ w.cell? (x.add (i * 6 + 3)) = some (.bool y.neg) ∧ w.cell? (x.add (i * 6 + 4)) = some (.slice p1 y.A.length c1) ∧ w.cell? (x.add (i * 6 + 5)) = some (.slice q1 y.D.length d1)) ∧
        (WL w p1 y.A ∧ WL w q1 y.D ∧ y.A.length ≤ c1 ∧ y.D.length ≤ d1 ∧ Dig y.A ∧ Dig y.D) ∧ (-9223372036854775808 ≤ y.t ∧ y.t < 9223372036854775808) ∧ -9223372036854775808 ≤ y.l ∧ y.l < 9223372036854775808) := by
      intro i
      by_cases hi : i < len
      · obtain ⟨cs', h1, h2⟩ := hx i (by omega)
        rw [ce] at h1
        obtain ⟨_, hlen, hcell⟩ := World.cells?_some h1
        obtain ⟨y0, y1, y2, y3, k, h0, h1, h2, h3⟩ := trod_struct4 Try.underlying34 h2
        match cs', hlen with
        | [v0, v1, v2, v3, v4, v5], _ =>
          simp only [e3, e4, e5] at h0 h1 h2 h3
          obtain ⟨a0, k0, _, w0⟩ := DataW.trod_int Try.underlying3 h0
          obtain ⟨a1, k1, _, w1⟩ := DataW.trod_int Try.underlying3 h1
          obtain ⟨b, k2, _⟩ := DataW.trod_bool Try.underlying4 h2
          simp at k0 k1 k2
          subst k0 k1 k2
          obtain ⟨neg, q, c, q', c', S, T, rfl, rfl, rfl, l1, l2, wl1, wl2, g1, g2⟩ := open_ratio3 (by simpa using h3)
          have q0 := hcell 0 (by omega)
          have q1 := hcell 1 (by omega)
          have q2 := hcell 2 (by omega)
          have q3 := hcell 3 (by omega)
          have q4 := hcell 4 (by omega)
          have q5 := hcell 5 (by omega)
          rw [add_add] at q0 q1 q2 q3 q4 q5
          exact ⟨⟨a0, a1, b, neg, S, T⟩, q, c, q', c', fun _ => ⟨⟨by simpa using q0, by simpa using q1, by simpa using q2, by simpa using q3, by simpa using q4, by simpa using q5⟩, ⟨wl1, wl2, l1, l2, g1, g2⟩, i64_of w0, i64_of w1⟩⟩
      · exact ⟨⟨0, 0, false, false, [], []⟩, none, 0, none, 0, fun h => absurd h hi⟩
    obtain ⟨f, hT⟩ := Classical.axiomOfChoice hT
    obtain ⟨P1, hT⟩ := Classical.axiomOfChoice hT
    obtain ⟨C1, hT⟩ := Classical.axiomOfChoice hT
    obtain ⟨Q1, hT⟩ := Classical.axiomOfChoice hT
    obtain ⟨D1, hT⟩ := Classical.axiomOfChoice hT
    have hlen : ((List.range len).map f).length = len := by simp
    refine ⟨(List.range len).map f, hlen.symm, hl, hm, ?_, ?_⟩
    · rcases Nat.eq_zero_or_pos len with h0 | hp
      · subst h0; exact .inl rfl
      · have c0 := (hT 0 hp).1.1
        obtain ⟨g, o, sp⟩ := x
        have hsp : sp = none := add_plain (x := ⟨g, o, sp⟩) (by simpa using c0)
        subst hsp
        rw [Addr.add_lit] at c0
        refine .inr ⟨g, o, rfl, World.block_lt_of_cell? w _ c0, fun i hi => ?_⟩
        rw [hlen] at hi
        obtain ⟨⟨q0, q1, q2, q3, q4, q5⟩, hh, _⟩ := hT i hi
        rw [Addr.add_lit] at q0 q1 q2 q3 q4 q5
        rw [← Nat.add_assoc] at q1 q2 q3 q4 q5
        simp only [List.getElem_map, List.getElem_range]
        exact ⟨P1 i, C1 i, Q1 i, D1 i, ⟨q0, q1, q2, q3, q4, q5⟩, hh⟩
    · intro y hy
      obtain ⟨i, hi, rfl⟩ := List.mem_map.1 hy
      exact (hT i (by simpa using hi)).2.2
end Go.Proofs.Ytcibbnphkpaifaa
