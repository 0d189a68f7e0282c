/- Chapter 19: two pairs of records; a list of calls that came in. -/
import Derived.Test.YtlgnidjkilbdfaaAc3
import Derived.Test.YtlgnidjkilbdfaaNw2
namespace Go.Proofs.Ytlgnidjkilbdfaa
open Go.RowKit Go.ChangeShapes Go.WideShapes Go.Deep
set_option linter.unusedVariables false
set_option maxRecDepth 100000
/-- A call as a row of five. -/
structure Cl where
  k : Int
  o : Int
  t : Int
  e : Int
  n : Nat
instance : Inhabited Cl := ⟨⟨0, 0, 0, 0, 0⟩⟩
def AtC (w : World) (g o : Nat) (x : Cl) : Prop := w.cell? ⟨g, o, none⟩ = some (.int .i64 x.k) ∧ w.cell? ⟨g, o + 1, none⟩ = some (.int .i64 x.o) ∧ w.cell? ⟨g, o + 2, none⟩ = some (.int .i64 x.t) ∧ w.cell? ⟨g, o + 3, none⟩ = some (.int .i64 x.e) ∧ w.cell? ⟨g, o + 4, none⟩ = some (.int .u64 x.n)
def AL (w : World) (p : Option Addr) (N : Nat) (f : Nat → Cl) : Prop := N = 0 ∨ ∃ g o, p = some ⟨g, o, none⟩ ∧ g < w.heap.size ∧ ∀ i, i < N → AtC w g (o + i * 5) (f i) ∧ I64 (f i).t ∧ (f i).n < 2 ^ 64
theorem open_acts_ {H : Type} {enc : TypeId × Value → H} {w : World} {base : Nat} {held : Bool} {a : Option Addr} {len cap : Nat} {d : DataW H} {ps : List MemPlace}
    (h : DataW.Trod enc Try.prog w base (fun _ => true) held 52 (.slice a len cap) d ps) : ∃ f : Nat → Cl, len ≤ cap ∧ cap ≤ maxLen ∧ AL w a len f := by
  obtain ⟨fuel, hf⟩ := h
  have hf : DataW.trod enc Try.prog w base (fun _ => true) held fuel 52 [.slice a len cap] = some (d, ps) := hf
  rcases open_slice (P := Try.prog) (t := 52) (e := 58) (by kernel_rfl) hf with ⟨hcs, _⟩ | ⟨x, l, c, m, n, D, Pl, hcs, hb, hl, hm, hmm, _, hx⟩
  · simp at hcs
    obtain ⟨rfl, rfl, rfl⟩ := hcs
    exact ⟨fun _ => default, Nat.le_refl _, by unfold maxLen; omega, .inl rfl⟩
  · simp only [List.cons.injEq, Value.slice.injEq, and_true] at hcs
    obtain ⟨rfl, rfl, rfl⟩ := hcs
    simp only [if_true] at hmm
    subst hmm
    have ce : Try.prog.cellsOf 58 = 5 := by kernel_rfl
    have e3 : Try.prog.cellsOf 3 = 1 := by kernel_rfl
    have e27 : Try.prog.cellsOf 27 = 1 := by kernel_rfl
    have hT : ∀ i, ∃ y : Cl, i < len → (w.cell? (x.add (i * 5)) = some (.int .i64 y.k) ∧ w.cell? (x.add (i * 5 + 1)) = some (.int .i64 y.o) ∧ w.cell? (x.add (i * 5 + 2)) = some (.int .i64 y.t) ∧ w.cell? (x.add (i * 5 + 3)) = some (.int .i64 y.e) ∧ w.cell? (x.add (i * 5 + 4)) = some (.int .u64 y.n) ∧ I64 y.t ∧ y.n < 2 ^ 64) := by
      intro i
      by_cases hi : i < len
      · obtain ⟨cs', h1, h2⟩ := hx i (by omega)
        rw [ce] at h1
        obtain ⟨_, hlen, hcell⟩ := World.cells?_some h1
        obtain ⟨y0, y1, y2, y3, y4, k, h0, h1, h2, h3, h4⟩ := trod_struct5 Try.underlying58 h2
        match cs', hlen with
        | [v0, v1, v2, v3, v4], _ =>
          simp only [e3, e27] at h0 h1 h2 h3 h4
          obtain ⟨a0, k0, _, w0⟩ := DataW.trod_int Try.underlying3 h0
          obtain ⟨a1, k1, _, w1⟩ := DataW.trod_int Try.underlying3 h1
          obtain ⟨a2, k2, _, w2⟩ := DataW.trod_int Try.underlying3 h2
          obtain ⟨a3, k3, _, w3⟩ := DataW.trod_int Try.underlying3 h3
          obtain ⟨a4, k4, _, w4⟩ := DataW.trod_int Try.underlying27 h4
          obtain ⟨b, rfl, hb⟩ := u64_of w4
          simp at k0 k1 k2 k3 k4
          subst k0 k1 k2 k3 k4
          have q0 := hcell 0 (by omega)
          have q1 := hcell 1 (by omega)
          have q2 := hcell 2 (by omega)
          have q3 := hcell 3 (by omega)
          have q4 := hcell 4 (by omega)
          rw [add_add] at q0 q1 q2 q3 q4
          exact ⟨⟨a0, a1, a2, a3, b⟩, fun _ => ⟨by simpa using q0, by simpa using q1, by simpa using q2, by simpa using q3, by simpa using q4, i64_of w2, hb⟩⟩
      · exact ⟨default, fun h => absurd h hi⟩
    obtain ⟨f, hf⟩ := Classical.axiomOfChoice hT
    refine ⟨f, hl, hm, ?_⟩
    rcases Nat.eq_zero_or_pos len with h0 | hp
    · exact .inl h0
    · obtain ⟨g, o, sp⟩ := x
      have c0 := (hf 0 hp).1
      have e0 : (⟨g, o, sp⟩ : Addr).add (0 * 5) = ⟨g, o, sp⟩ := by unfold Addr.add; simp
      rw [e0] at c0
      have hsp : sp = none := by
        cases sp with
        | none => rfl
        | some q =>
          unfold World.cell? at c0
          split at c0 <;> simp at c0
      subst hsp
      refine .inr ⟨g, o, rfl, World.block_lt_of_cell? w _ c0, fun i hi => ?_⟩
      obtain ⟨q0, q1, q2, q3, q4, q5, q6⟩ := hf i hi
      rw [Addr.add_lit] at q0 q1 q2 q3 q4
      rw [← Nat.add_assoc] at q1 q2 q3 q4
      exact ⟨⟨q0, q1, q2, q3, q4⟩, q5, q6⟩
/-- Two pairs of records. -/
structure Quad (w : World) (B r0 m0 q0 r1 m1 q1 : Nat) (L0 L1 : Rc) : Prop where
  a : Rec w r0 m0 L0
  b : ∃ v, RRec w q0 v L0
  c : Rec w r1 m1 L1
  d : ∃ v, RRec w q1 v L1
  nm : m0 ≠ m1
  nq : q0 ≠ q1
  h0 : B ≤ m0
  h1 : B ≤ q0
  h2 : B ≤ m1
  h3 : B ≤ q1
theorem Rec.other {w w' : World} {rb mb ra ma : Nat} {L M : Rc} (h : Rec w rb mb L) (hm : Rec w ra ma M) (hne : mb ≠ ma) (hg : w.grownBy w' (some ma)) : Rec w' rb mb L :=
  h.kept hg (fun e => by
    obtain rfl := Option.some.inj e
    obtain ⟨es, clock, hb, _⟩ := hm.own
    rw [h.box] at hb
    cases hb) (fun e => hne (Option.some.inj e))
theorem RRec.other {w w' : World} {qb qa : Nat} {v u : Value} {L M : Rc} (h : RRec w qb v L) (hm : RRec w qa u M) (hne : qb ≠ qa) (hg : w.grownBy w' (some qa)) : RRec w' qb v L :=
  h.kept hg (fun e => hne (Option.some.inj e)) (.inr (row_type h.own hm.box (by decide)))
theorem Quad.stepA {w w' : World} {B r0 m0 q0 r1 m1 q1 : Nat} {L0 L1 L' : Rc} (h : Quad w B r0 m0 q0 r1 m1 q1 L0 L1) (hp : Rec w' r0 m0 L' ∧ ∃ v, RRec w' q0 v L') (hc : Chg w w' m0 q0) : Quad w' B r0 m0 q0 r1 m1 q1 L' L1 := by
  obtain ⟨wm, g1, g2⟩ := hc
  obtain ⟨v0, hb⟩ := h.b
  obtain ⟨v1, hd⟩ := h.d
  have hbm := hb.off h.a g1
  have hdm := hd.off h.a g1
  have hcm := h.c.other h.a (fun e => h.nm e.symm) g1
  exact ⟨hp.1, hp.2, hcm.off hbm g2, ⟨v1, hdm.other hbm (fun e => h.nq e.symm) g2⟩, h.nm, h.nq, h.h0, h.h1, h.h2, h.h3⟩
theorem Quad.swap {w : World} {B r0 m0 q0 r1 m1 q1 : Nat} {L0 L1 : Rc} (h : Quad w B r0 m0 q0 r1 m1 q1 L0 L1) : Quad w B r1 m1 q1 r0 m0 q0 L1 L0 := ⟨h.c, h.d, h.a, h.b, h.nm.symm, h.nq.symm, h.h2, h.h3, h.h0, h.h1⟩
theorem Quad.stepC {w w' : World} {B r0 m0 q0 r1 m1 q1 : Nat} {L0 L1 L' : Rc} (h : Quad w B r0 m0 q0 r1 m1 q1 L0 L1) (hp : Rec w' r1 m1 L' ∧ ∃ v, RRec w' q1 v L') (hc : Chg w w' m1 q1) : Quad w' B r0 m0 q0 r1 m1 q1 L0 L' := (h.swap.stepA hp hc).swap
theorem Quad.below {w w' : World} {B r0 m0 q0 r1 m1 q1 : Nat} {L0 L1 : Rc} (h : Quad w B r0 m0 q0 r1 m1 q1 L0 L1) (hb : Below w.heap.size w w') : Quad w' B r0 m0 q0 r1 m1 q1 L0 L1 := by
  obtain ⟨v0, h1⟩ := h.b
  obtain ⟨v1, h2⟩ := h.d
  exact ⟨h.a.below hb, ⟨v0, h1.below hb⟩, h.c.below hb, ⟨v1, h2.below hb⟩, h.nm, h.nq, h.h0, h.h1, h.h2, h.h3⟩
theorem Grew.chg {B : Nat} {w w1 w2 : World} {mb qb : Nat} (h : Grew B w w1) (hc : Chg w1 w2 mb qb) (h0 : B ≤ mb) (h1 : B ≤ qb) : Grew B w w2 := by
  obtain ⟨wm, g1, g2⟩ := hc
  exact (h.grown g1 h0).grown g2 h1
end Go.Proofs.Ytlgnidjkilbdfaa
