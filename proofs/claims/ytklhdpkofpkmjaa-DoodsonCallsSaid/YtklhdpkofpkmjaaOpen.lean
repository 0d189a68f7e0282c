/- An argument that is six small numbers by value: opened, and read again behind the call. -/
import Derived.Test.YtklhdpkofpkmjaaProg
import Derived.ProofKit
import Derived.OpenShut
namespace Go.Proofs.Ytklhdpkofpkmjaa
open Go.ChangeShapes Go.WideShapes Go.ChangeAt Go.RowKit
theorem cells54 : Try.prog.cellsOf 54 = 6 := by kernel_rfl
theorem cells52 : Try.prog.cellsOf 52 = 1 := by kernel_rfl
def six_ (a b c d e f : Int) : Nat → Int
  | 0 => a
  | 1 => b
  | 2 => c
  | 3 => d
  | 4 => e
  | _ => f
theorem list6 {α : Type} (l : List α) (h : l.length = 6) : ∃ a b c d e f, l = [a, b, c, d, e, f] := by
  match l, h with
  | [a, b, c, d, e, f], _ => exact ⟨a, b, c, d, e, f, rfl⟩
set_option maxRecDepth 100000 in
theorem open_dood {H : Type} {enc : TypeId × Value → H} {W : World} {base b0 : Nat} {spare : Nat → Bool} {held : Bool} {r : Reach} {v : Value} {d : DataW H} {p : List MemPlace}
    (hv : Value.okWide Try.prog W r b0 54 v) (h : DataW.Trod enc Try.prog W base spare held 54 v d p) :
    ∃ f : Nat → Int, v = .agg #[.int .i8 (f 0), .int .i8 (f 1), .int .i8 (f 2), .int .i8 (f 3), .int .i8 (f 4), .int .i8 (f 5)] ∧ p = [] ∧ ∀ (W' : World) (sp : Nat → Bool), DataW.Trod enc Try.prog W' 0 sp true 54 (.agg #[.int .i8 (f 0), .int .i8 (f 1), .int .i8 (f 2), .int .i8 (f 3), .int .i8 (f 4), .int .i8 (f 5)]) d [] := by
  obtain ⟨cs, rfl, hsz, _⟩ : ∃ cs, v = .agg cs ∧ cs.size = Try.prog.cellsOf 54 ∧ Row.okWide Try.prog W r b0 54 cs := by
    simpa [Value.okWide, Try.underlying54] using hv
  rw [cells54] at hsz
  obtain ⟨l⟩ := cs
  obtain ⟨c0, c1, c2, c3, c4, c5, rfl⟩ := list6 l (by simpa using hsz)
  obtain ⟨fuel, hf⟩ := h
  obtain ⟨xs, m, _, hx, _, hlen, hg⟩ := DataW.trod_array Try.underlying54 hf
  obtain ⟨y0, y1, y2, y3, y4, y5, rfl⟩ := list6 xs hlen
  rw [cells52] at hg
  have g0 := hg 0 (by omega)
  have g1 := hg 1 (by omega)
  have g2 := hg 2 (by omega)
  have g3 := hg 3 (by omega)
  have g4 := hg 4 (by omega)
  have g5 := hg 5 (by omega)
  simp [Value.cells] at g0 g1 g2 g3 g4 g5
  obtain ⟨n0, q0, rfl, w0⟩ := DataW.trod_int Try.underlying52 g0
  obtain ⟨n1, q1, rfl, w1⟩ := DataW.trod_int Try.underlying52 g1
  obtain ⟨n2, q2, rfl, w2⟩ := DataW.trod_int Try.underlying52 g2
  obtain ⟨n3, q3, rfl, w3⟩ := DataW.trod_int Try.underlying52 g3
  obtain ⟨n4, q4, rfl, w4⟩ := DataW.trod_int Try.underlying52 g4
  obtain ⟨n5, q5, rfl, w5⟩ := DataW.trod_int Try.underlying52 g5
  simp at q0 q1 q2 q3 q4 q5
  subst q0 q1 q2 q3 q4 q5
  simp only [Prod.mk.injEq] at hx
  obtain ⟨rfl, rfl⟩ := hx
  refine ⟨six_ n0 n1 n2 n3 n4 n5, rfl, rfl, fun W' sp => ⟨2, ?_⟩⟩
  have r6 : List.range 6 = [0, 1, 2, 3, 4, 5] := rfl
  simp [DataW.trod, Value.cells, Try.underlying54, Try.underlying52, cells54, cells52, r6, six_, w0, w1, w2, w3, w4, w5]
end Go.Proofs.Ytklhdpkofpkmjaa
