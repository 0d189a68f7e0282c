/- Opening a call (Act) that came in. -/
import Derived.Test.YtlgnidjkilbdfaaNw
import Derived.Test.YtlgnidjkilbdfaaOpen
import Derived.Lib.SmallJoins
namespace Go.Proofs.Ytlgnidjkilbdfaa
open Go.RowKit Go.ChangeShapes Go.WideShapes Go.Deep
set_option linter.unusedVariables false
set_option maxRecDepth 100000
theorem trod_struct5 {H : Type} {enc : TypeId × Value → H} {P : Program} {w : World} {base : Nat} {spare : Nat → Bool} {held : Bool} {t : TypeId} {f0 f1 f2 f3 f4 : Field} {fuel : Nat} {cs : List Value} {x : DataW H × List MemPlace} (ht : P.underlying t = some (.struct #[f0, f1, f2, f3, f4])) (h : DataW.trod enc P w base spare held fuel t cs = some x) :
    ∃ (y0 y1 y2 y3 y4 : DataW H × List MemPlace) (n : Nat),
      DataW.trod enc P w base spare held n f0.type ((cs.drop f0.offset).take (P.cellsOf f0.type)) = some y0 ∧ DataW.trod enc P w base spare held n f1.type ((cs.drop f1.offset).take (P.cellsOf f1.type)) = some y1 ∧
      DataW.trod enc P w base spare held n f2.type ((cs.drop f2.offset).take (P.cellsOf f2.type)) = some y2 ∧ DataW.trod enc P w base spare held n f3.type ((cs.drop f3.offset).take (P.cellsOf f3.type)) = some y3 ∧
      DataW.trod enc P w base spare held n f4.type ((cs.drop f4.offset).take (P.cellsOf f4.type)) = some y4 := by
  obtain ⟨xs, n, _, rfl, hl, hlen, hf⟩ := DataW.trod_struct ht h
  match xs, hlen with
  | [y0, y1, y2, y3, y4], _ => exact ⟨y0, y1, y2, y3, y4, n, by simpa using hf 0 f0 rfl, by simpa using hf 1 f1 rfl, by simpa using hf 2 f2 rfl, by simpa using hf 3 f3 rfl, by simpa using hf 4 f4 rfl⟩
theorem array5 {cs : Array Value} (h : cs.size = 5) : ∃ a b c d e, cs = #[a, b, c, d, e] := by
  obtain ⟨l⟩ := cs
  match l, h with
  | [a, b, c, d, e], _ => exact ⟨a, b, c, d, e, rfl⟩
theorem open_act_ {H : Type} {enc : TypeId × Value → H} {w : World} {base : Nat} {held : Bool} {r : Reach} {b0 : Nat} {v : Value} {d : DataW H} {ps : List MemPlace}
    (hv : Value.okWide Try.prog w r b0 58 v) (h : DataW.Trod enc Try.prog w base (fun _ => true) held 58 v d ps) :
    ∃ (k o t e : Int) (n : Nat), v = .agg #[.int .i64 k, .int .i64 o, .int .i64 t, .int .i64 e, .int .u64 n] ∧ I64 k ∧ I64 o ∧ I64 t ∧ I64 e ∧ n < 2 ^ 64 := by
  obtain ⟨cs, rfl, hsz⟩ := okWide_struct Try.underlying58 hv
  obtain ⟨c0, c1, c2, c3, c4, rfl⟩ := array5 (hsz.trans (by kernel_rfl))
  obtain ⟨fuel, hf⟩ := h
  obtain ⟨y0, y1, y2, y3, y4, n, h0, h1, h2, h3, h4⟩ := trod_struct5 Try.underlying58 hf
  have e3 : Try.prog.cellsOf 3 = 1 := by kernel_rfl
  have e27 : Try.prog.cellsOf 27 = 1 := by kernel_rfl
  simp only [e3, e27, Value.cells] at h0 h1 h2 h3 h4
  obtain ⟨a0, k0, _, w0⟩ := DataW.trod_int Try.underlying3 h0
  obtain ⟨a1, k1, _, w1⟩ := DataW.trod_int Try.underlying3 h1
  obtain ⟨a2, k2, _, w2⟩ := DataW.trod_int Try.underlying3 h2
  obtain ⟨a3, k3, _, w3⟩ := DataW.trod_int Try.underlying3 h3
  obtain ⟨a4, k4, _, w4⟩ := DataW.trod_int Try.underlying27 h4
  obtain ⟨b, rfl, hb⟩ := u64_of w4
  simp at k0 k1 k2 k3 k4
  subst k0 k1 k2 k3 k4
  exact ⟨a0, a1, a2, a3, b, rfl, i64_of w0, i64_of w1, i64_of w2, i64_of w3, hb⟩
end Go.Proofs.Ytlgnidjkilbdfaa
