/- second.Curve: the walk through the ticks. -/
import Derived.Test.YtcibbnphkpaifaaSp
namespace Go.Proofs.Ytcibbnphkpaifaa
open Go.RowKit
set_option linter.unusedVariables false
set_option maxRecDepth 100000
theorem row_kept {W w3 : World} {base B s n : Nat} {T : TypeId} {v u : Value} {x : Rat} {xs : List Value} (ho : W.ownsRow base T s v n xs) (hT : T ≠ 88) (hg : W.grownBy w3 v.ownBlock) (h : RO W B u x) : RO w3 B u x := by
  refine h.kept hg (fun g hr cs T' hc => ?_) (fun g hr => ?_)
  · rcases row_block ho with ⟨rfl, _⟩ | ⟨g', c, cur, rfl, _, hg', _⟩
    · simp [Value.ownBlock] at hr
    · simp [Value.ownBlock] at hr
      subst hr
      rw [hg'] at hc
      cases hc
      exact hT
  · rcases row_block ho with ⟨rfl, _⟩ | ⟨g', c, cur, rfl, _, hg', _⟩
    · simp [Value.ownBlock] at hr
    · simp [Value.ownBlock] at hr
      subst hr
      exact ⟨cur, T, hg'⟩
theorem ZOK.push {W w3 : World} {base B s n : Nat} {T : TypeId} {v : Value} {xs : List Value} {Z : List Ze} {z : Ze} (ho : W.ownsRow base T s v n xs) (hT : T ≠ 88) (hg : W.grownBy w3 v.ownBlock) (h : ZOK W base Z) (hz : RO W B z.agg z.h) (hB : ∀ y ∈ Z, ∀ k, y.blk k → k < B) (hbB : base ≤ B) (hf : Fits z.h) : ZOK w3 base (Z ++ [z]) := by
  refine ⟨fun y hy => ?_, ?_⟩
  · rcases List.mem_append.1 hy with hy | hy
    · exact ⟨row_kept ho hT hg (h.1 y hy).1, (h.1 y hy).2⟩
    · obtain rfl := List.mem_singleton.1 hy
      exact ⟨row_kept ho hT hg (hz.mono hbB), hf⟩
  · refine List.pairwise_append.2 ⟨h.2, List.pairwise_singleton _ _, fun a ha b hb' k h1 h2 => ?_⟩
    obtain rfl := List.mem_singleton.1 hb'
    have r1 := hB a ha k h1
    have r2 := hz.range h2
    omega
theorem OFs.push {W w3 : World} {base B : Nat} {v v' : Value} {Z : List Ze} {z : Ze} (h : OFs W base v Z) (hz : RO W B z.agg z.h) (hB : ∀ y ∈ Z, ∀ k, y.blk k → k < B) (hbB : base ≤ B) (hf : Fits z.h) (ho3 : w3.ownsRow base 32 3 v' (Z.length + 1) (Z.flatMap Ze.c3 ++ z.c3)) (hg : W.grownBy w3 v.ownBlock) : OFs w3 base v' (Z ++ [z]) := by
  refine ⟨?_, h.2.push h.1 (by decide) hg hz hB hbB hf⟩
  rw [List.length_append, List.flatMap_append]
  simpa using ho3
theorem OWs.push {W w3 : World} {base B : Nat} {v v' : Value} {Z : List Ze} {z : Ze} (h : OWs W base v Z) (hz : RO W B z.agg z.h) (hB : ∀ y ∈ Z, ∀ k, y.blk k → k < B) (hbB : base ≤ B) (hf : Fits z.h) (ho3 : w3.ownsRow base 34 6 v' (Z.length + 1) (Z.flatMap Ze.c6 ++ z.c6)) (hg : W.grownBy w3 v.ownBlock) : OWs w3 base v' (Z ++ [z]) := by
  refine ⟨?_, h.2.push h.1 (by decide) hg hz hB hbB hf⟩
  rw [List.length_append, List.flatMap_append]
  simpa using ho3
theorem ZOK.below_B {w : World} {base : Nat} {Z : List Ze} (h : ZOK w base Z) : ∀ y ∈ Z, ∀ k, y.blk k → k < w.heap.size := fun y hy k hk => ((h.1 y hy).1.range hk).2
/-- The curve over a span: its first fault. -/
def curveE (L : List Wt) (t : Int) : Nat → Int
  | 0 => 0
  | m + 1 => if (atQ L t).2 = 0 then curveE L (t + 1) m else (atQ L t).2
def curveH (L : List Wt) (t : Int) (m : Nat) : List Rat := (List.range m).map fun (i : Nat) => (atQ L (t + (i : Int))).1
theorem curveH_succ (L : List Wt) (t : Int) (m : Nat) : curveH L t (m + 1) = curveH L t m ++ [(atQ L (t + (m : Int))).1] := by
  unfold curveH
  rw [List.range_succ, List.map_append]; rfl
theorem at_ok (p : Option Addr) (n c : Nat) (t : Int) (L : List Wt) (w : World) (hn : n = L.length) (hs : Snd L) (hp : WSl w p L) (hl : n ≤ 4096) (h0 : (atQ L t).2 = 0) :
    Calls Try.prog 54 #[.slice p n c, .int .i64 t] w fun e w' => (∃ s p n c q m d, e = .returned (.tuple #[.agg #[.bool s, .slice p n c, .slice q m d], .agg #[.int .i64 0, .int .i64 0]]) ∧ Hid (s = rneg (atQ L t).1 ∧ n = (rn (atQ L t).1).length ∧ m = (rd (atQ L t).1).length) ∧ RO w' w.heap.size (.agg #[.bool s, .slice p n c, .slice q m d]) (atQ L t).1) ∧ Fits (atQ L t).1 ∧ Below w.heap.size w w' := by
  refine (at_any p n c t L w hn hs hp hl).mono fun e w' h => ?_
  obtain ⟨s, p, n, c, q, m, d, a, rfl, h1, h2⟩ := h.form
  obtain ⟨rfl, hf, ho⟩ := h1 h0
  have ho' := ho
  obtain ⟨p', c', q', d', e, _⟩ := ho
  simp only [Value.agg.injEq, Array.mk.injEq, List.cons.injEq, Value.slice.injEq, Value.bool.injEq] at e
  obtain ⟨e1, ⟨_, e2, _⟩, ⟨_, e3, _⟩, _⟩ := e
  exact ⟨⟨s, p, n, c, q, m, d, by rw [h0], hide_ ⟨e1, e2, e3⟩, ho'⟩, hf, h.2⟩
theorem at_no (p : Option Addr) (n c : Nat) (t : Int) (L : List Wt) (w : World) (hn : n = L.length) (hs : Snd L) (hp : WSl w p L) (hl : n ≤ 4096) (h0 : (atQ L t).2 ≠ 0) :
    Calls Try.prog 54 #[.slice p n c, .int .i64 t] w fun e w' => e = .returned (.tuple #[.agg #[.bool false, .slice none 0 0, .slice none 0 0], .agg #[.int .i64 (atQ L t).2, .int .i64 (-1)]]) ∧ Below w.heap.size w w' := by
  refine (at_any p n c t L w hn hs hp hl).mono fun e w' h => ⟨?_, h.2⟩
  rcases h.1 with ⟨h1, _⟩ | ⟨_, h1⟩
  · exact absurd h1 h0
  · exact h1
theorem curveE_step {L : List Wt} {t : Int} {m k : Nat} (hk : k < m) (h : ∀ i : Nat, i < k → (atQ L (t + (i : Int))).2 = 0) (hb : (atQ L (t + (k : Int))).2 ≠ 0) : curveE L t m = (atQ L (t + (k : Int))).2 := by
  induction k generalizing t m with
  | zero =>
    obtain ⟨m, rfl⟩ : ∃ j, m = j + 1 := ⟨m - 1, by omega⟩
    have e : t + ((0 : Nat) : Int) = t := by simp
    rw [e] at hb ⊢
    unfold curveE
    rw [if_neg hb]
  | succ k ih =>
    obtain ⟨m, rfl⟩ : ∃ j, m = j + 1 := ⟨m - 1, by omega⟩
    have h0 := h 0 (by omega)
    have e : t + ((0 : Nat) : Int) = t := by simp
    rw [e] at h0
    have e2 : t + ((k + 1 : Nat) : Int) = t + 1 + (k : Int) := by omega
    unfold curveE
    rw [if_pos h0, e2]
    refine ih (by omega) (fun i hi => ?_) (by rwa [e2] at hb)
    have := h (i + 1) (by omega)
    rwa [show t + ((i + 1 : Nat) : Int) = t + 1 + (i : Int) by omega] at this
theorem curveE_zero {L : List Wt} {t : Int} {m : Nat} (h : ∀ i : Nat, i < m → (atQ L (t + (i : Int))).2 = 0) : curveE L t m = 0 := by
  induction m generalizing t with
  | zero => rfl
  | succ m ih =>
    have h0 := h 0 (by omega)
    rw [show t + ((0 : Nat) : Int) = t by simp] at h0
    unfold curveE
    rw [if_pos h0]
    refine ih (fun i hi => ?_)
    have := h (i + 1) (by omega)
    rwa [show t + ((i + 1 : Nat) : Int) = t + 1 + (i : Int) by omega] at this
end Go.Proofs.Ytcibbnphkpaifaa
