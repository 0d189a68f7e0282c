/- Opening differences that came in. -/
import Derived.Test.YtcibbnphkpaifaaUl
namespace Go.Proofs.Ytcibbnphkpaifaa
open Go.RowKit Go.ChangeShapes Go.WideShapes Go.Deep
set_option linter.unusedVariables false
set_option maxRecDepth 100000
theorem array14 {cs : Array Value} (h : cs.size = 14) : ∃ a0 a1 a2 a3 a4 a5 a6 a7 a8 a9 a10 a11 a12 a13, cs = #[a0, a1, a2, a3, a4, a5, a6, a7, a8, a9, a10, a11, a12, a13] := by
  obtain ⟨l⟩ := cs
  match l, h with
  | [a0, a1, a2, a3, a4, a5, a6, a7, a8, a9, a10, a11, a12, a13], _ => exact ⟨a0, a1, a2, a3, a4, a5, a6, a7, a8, a9, a10, a11, a12, a13, rfl⟩
theorem trod_struct2 {H : Type} {enc : TypeId × Value → H} {P : Program} {w : World} {base : Nat} {spare : Nat → Bool} {held : Bool} {t : TypeId} {f0 f1 : Field} {fuel : Nat} {cs : List Value} {x : DataW H × List MemPlace} (ht : P.underlying t = some (.struct #[f0, f1])) (h : DataW.trod enc P w base spare held fuel t cs = some x) :
    ∃ (y0 y1 : DataW H × List MemPlace) (n : Nat),
      DataW.trod enc P w base spare held n f0.type ((cs.drop f0.offset).take (P.cellsOf f0.type)) = some y0 ∧ DataW.trod enc P w base spare held n f1.type ((cs.drop f1.offset).take (P.cellsOf f1.type)) = some y1 := by
  obtain ⟨xs, n, _, rfl, hl, hlen, hf⟩ := DataW.trod_struct ht h
  match xs, hlen with
  | [y0, y1], _ => exact ⟨y0, y1, n, by simpa using hf 0 f0 rfl, by simpa using hf 1 f1 rfl⟩
/-- One difference: seven cells. -/
theorem open_diff7 {H : Type} {enc : TypeId × Value → H} {w : World} {base n : Nat} {held : Bool} {v0 v1 v2 v3 v4 v5 v6 : Value} {y : DataW H × List MemPlace}
    (h : DataW.trod enc Try.prog w base (fun _ => true) held n 46 [v0, v1, v2, v3, v4, v5, v6] = some y) :
    ∃ k x1 x2 p1 c1 q1 d1 p2 c2 q2 d2, v0 = .int .i64 k ∧ v1 = .bool (Fr.neg x1) ∧ v2 = .slice p1 x1.A.length c1 ∧ v3 = .slice q1 x1.D.length d1 ∧ v4 = .bool (Fr.neg x2) ∧ v5 = .slice p2 x2.A.length c2 ∧ v6 = .slice q2 x2.D.length d2 ∧ FrR w x1 p1 c1 q1 d1 ∧ FrR w x2 p2 c2 q2 d2 ∧ (-9223372036854775808 ≤ k ∧ k < 9223372036854775808) := by
  obtain ⟨y0, y1, y2, n, h0, h1, h2⟩ := trod_struct3 Try.underlying46 h
  have e3 : Try.prog.cellsOf 3 = 1 := by kernel_rfl
  have e5 : Try.prog.cellsOf 32 = 3 := by kernel_rfl
  simp only [e3, e5] at h0 h1 h2
  obtain ⟨k, k0, _, w0⟩ := DataW.trod_int Try.underlying3 h0
  simp at k0
  subst k0
  obtain ⟨s1, q1, c1, q1', c1', S1, T1, rfl, rfl, rfl, l1, l2, a1, a2, a3, a4⟩ := open_ratio3 (by simpa using h1)
  obtain ⟨s2, q2, c2, q2', c2', S2, T2, rfl, rfl, rfl, m1, m2, b1, b2, b3, b4⟩ := open_ratio3 (by simpa using h2)
  exact ⟨k, ⟨s1, S1, T1⟩, ⟨s2, S2, T2⟩, q1, c1, q1', c1', q2, c2, q2', c2', rfl, rfl, rfl, rfl, rfl, rfl, rfl, ⟨a1, a2, l1, l2, a3, a4⟩, ⟨b1, b2, m1, m2, b3, b4⟩, i64_of w0⟩
theorem open_diffs_ {H : Type} {enc : TypeId × Value → H} {w : World} {base : Nat} {held : Bool} {r : Reach} {b0 : Nat} {v : Value} {dt : DataW H} {ps : List MemPlace}
    (hv : Value.okWide Try.prog w r b0 48 v) (h : DataW.Trod enc Try.prog w base (fun _ => true) held 48 v dt ps) :
    ∃ (d : Df) (p1 : Option Addr) (c1 : Nat) (q1 : Option Addr) (d1 : Nat) (p2 : Option Addr) (c2 : Nat) (q2 : Option Addr) (d2 : Nat) (p3 : Option Addr) (c3 : Nat) (q3 : Option Addr) (d3 : Nat) (p4 : Option Addr) (c4 : Nat) (q4 : Option Addr) (d4 : Nat),
      v = .agg #[.int .i64 d.ka, .bool d.x1.neg, .slice p1 d.x1.A.length c1, .slice q1 d.x1.D.length d1, .bool d.x2.neg, .slice p2 d.x2.A.length c2, .slice q2 d.x2.D.length d2, .int .i64 d.kb, .bool d.x3.neg, .slice p3 d.x3.A.length c3, .slice q3 d.x3.D.length d3, .bool d.x4.neg, .slice p4 d.x4.A.length c4, .slice q4 d.x4.D.length d4] ∧
      FrR w d.x1 p1 c1 q1 d1 ∧ FrR w d.x2 p2 c2 q2 d2 ∧ FrR w d.x3 p3 c3 q3 d3 ∧ FrR w d.x4 p4 c4 q4 d4 ∧ (-9223372036854775808 ≤ d.ka ∧ d.ka < 9223372036854775808) ∧ (-9223372036854775808 ≤ d.kb ∧ d.kb < 9223372036854775808) := by
  obtain ⟨cs, rfl, hsz⟩ := okWide_struct Try.underlying48 hv
  obtain ⟨a0, a1, a2, a3, a4, a5, a6, a7, a8, a9, a10, a11, a12, a13, rfl⟩ := array14 (hsz.trans (by kernel_rfl))
  obtain ⟨fuel, hf⟩ := h
  obtain ⟨y0, y1, n, h0, h1⟩ := trod_struct2 Try.underlying48 hf
  have e7 : Try.prog.cellsOf 46 = 7 := by kernel_rfl
  simp only [e7, Value.cells] at h0 h1
  obtain ⟨ka, x1, x2, p1, c1, q1, d1, p2, c2, q2, d2, rfl, rfl, rfl, rfl, rfl, rfl, rfl, f1, f2, i1⟩ := open_diff7 (by simpa using h0)
  obtain ⟨kb, x3, x4, p3, c3, q3, d3, p4, c4, q4, d4, rfl, rfl, rfl, rfl, rfl, rfl, rfl, f3, f4, i2⟩ := open_diff7 (by simpa using h1)
  exact ⟨⟨ka, kb, x1, x2, x3, x4⟩, p1, c1, q1, d1, p2, c2, q2, d2, p3, c3, q3, d3, p4, c4, q4, d4, rfl, f1, f2, f3, f4, i1, i2⟩
end Go.Proofs.Ytcibbnphkpaifaa
