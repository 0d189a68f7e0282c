/- Chapter 20: what Fill tells, as a list; a row appended to a row. -/
import Derived.Test.YtlgnidjkilbdfaaBw
import Derived.Test.YtlgnidjkilbdfaaAp
namespace Go.Proofs.Ytlgnidjkilbdfaa
open Go.RowKit Ieee
set_option linter.unusedVariables false
set_option maxRecDepth 100000
def lastT (o : Rc) : Int × Nat := o.getD (o.length - 1) (0, 0)
def stepF (o : Rc) (s : Int × Nat) : Rc := if oneB s.2 then (if o = [] then [] else o ++ putIn (lastT o) s) ++ [s] else o
def fillTo (S : Rc) (k : Nat) : Rc := (S.take k).foldl stepF []
def fillL (S : Rc) : Rc := fillTo S S.length
theorem fillTo_zero (S : Rc) : fillTo S 0 = [] := rfl
theorem fillTo_succ {S : Rc} {k : Nat} (h : k < S.length) : fillTo S (k + 1) = stepF (fillTo S k) (S.getD k (0, 0)) := by
  unfold fillTo
  rw [take_snoc S k h, List.foldl_append]
  rfl
/-- Ticks of a record, words of 64 bits. -/
def RngL (S : Rc) : Prop := ∀ p ∈ S, (0 ≤ p.1 ∧ p.1 ≤ 1048576) ∧ p.2 < 2 ^ 64
structure FInv (o : Rc) (k : Nat) : Prop where
  len : o.length ≤ 4 * k
  rng : RngL o
  last : o ≠ [] → oneB (lastT o).2 = true ∧ lastT o ∈ o
theorem lastT_snoc (o : Rc) (s : Int × Nat) : lastT (o ++ [s]) = s := by
  unfold lastT
  rw [List.length_append, List.getD_eq_getElem?_getD]
  simp
theorem putIn_len (a b : Int × Nat) : (putIn a b).length ≤ 3 := by
  unfold putIn
  split
  · simp
  · rw [putTo_len]; omega
theorem putIn_mem {a b : Int × Nat} {p : Int × Nat} (h : p ∈ putIn a b) : ∃ i : Nat, (i : Int) < gapN a b ∧ 1 ≤ gapN a b ∧ gapN a b ≤ 3 ∧ p = (a.1 + 1 + (i : Int), lineB a b (a.1 + 1 + (i : Int))) := by
  unfold putIn at h
  split at h
  · cases h
  · unfold putTo at h
    rw [List.mem_map] at h
    obtain ⟨i, hi, rfl⟩ := h
    rw [List.mem_range] at hi
    exact ⟨i, by omega, by omega, by omega, rfl⟩
theorem lineB_ok {a b : Int × Nat} (h1 : oneB a.2 = true) (h2 : oneB b.2 = true) {i : Nat} (hi : (i : Int) < gapN a b) (hn : gapN a b ≤ 3) : lineB a b (a.1 + 1 + (i : Int)) < 2 ^ 64 := by
  unfold gapN at hi hn
  unfold lineB
  obtain ⟨d, hd⟩ : ∃ d : Nat, b.1 - a.1 = d := ⟨(b.1 - a.1).toNat, by omega⟩
  rw [hd, show a.1 + 1 + (i : Int) - a.1 = ((i + 1 : Nat) : Int) by omega]
  exact (plus_ok h1 (times_ok (less_ok h2 h1).2.1 (part_ok d (by omega) (i + 1) (by omega) (by omega)).2).2.1).2.2
theorem FInv.step {o : Rc} {k : Nat} (h : FInv o k) {s : Int × Nat} (hs : (0 ≤ s.1 ∧ s.1 ≤ 1048576) ∧ s.2 < 2 ^ 64) : FInv (stepF o s) (k + 1) := by
  unfold stepF
  cases h1 : oneB s.2
  · rw [if_neg (by simp)]
    exact ⟨by have := h.len; omega, h.rng, h.last⟩
  · rw [if_pos rfl]
    refine ⟨?_, ?_, fun _ => by rw [lastT_snoc]; exact ⟨h1, by simp⟩⟩
    · have := h.len
      have := putIn_len (lastT o) s
      split <;> simp <;> omega
    · intro p hp
      rw [List.mem_append] at hp
      rcases hp with hp | hp
      · split at hp
        · cases hp
        · rename_i h0
          rw [List.mem_append] at hp
          rcases hp with hp | hp
          · exact h.rng p hp
          · obtain ⟨i, i1, i2, i3, rfl⟩ := putIn_mem hp
            obtain ⟨l1, l2⟩ := h.last h0
            have l3 := h.rng _ l2
            refine ⟨?_, lineB_ok l1 h1 i1 i3⟩
            unfold gapN at i1 i2 i3
            show 0 ≤ (lastT o).1 + 1 + (i : Int) ∧ (lastT o).1 + 1 + (i : Int) ≤ 1048576
            omega
      · rw [List.mem_singleton] at hp
        subst hp
        exact hs
theorem FInv.to {S : Rc} (h : RngL S) : ∀ k, k ≤ S.length → FInv (fillTo S k) k
  | 0, _ => ⟨by simp [fillTo_zero], (by rw [fillTo_zero]; intro p hp; cases hp), fun h => absurd (fillTo_zero S) h⟩
  | k + 1, hk => by
    rw [fillTo_succ (by omega)]
    exact (FInv.to h k (by omega)).step (h _ (mem_getD (by omega)))
theorem rng_of {S : Rc} (h : S.any badT = false) (h64 : ∀ x ∈ S, x.2 < 2 ^ 64) : RngL S := fun p hp => by
  have h1 : badT p = false := by
    rw [Bool.eq_false_iff]
    intro hb
    rw [List.any_eq_true.2 ⟨p, hp, hb⟩] at h
    cases h
  unfold badT at h1
  simp at h1
  exact ⟨h1, h64 p hp⟩
def fillE (S : Rc) : Int := if Asc S then (if S.any badT then 2 else if (fillL S).any (fun x => !oneB x.2) then 9 else 0) else 2
/-- A row of samples appended to a row of samples. -/
theorem flat_one' : ∀ {S : Rc}, ∀ u ∈ flat S, u.oneCell' = true := by
  intro S u hu
  unfold flat at hu
  rw [List.mem_flatMap] at hu
  obtain ⟨p, _, hu⟩ := hu
  simp at hu
  rcases hu with rfl | rfl <;> rfl
theorem app_row {w : World} {base b2 : Nat} {v v2 : Value} {o M : Rc} {i0 : TypeInfo} {ty : TypeId} (hi : Try.prog.info? 26 = some i0) (hz0 : i0.zero = some (.agg #[.int .i64 0, .float .f64 0])) (hz1 : i0.size = 2) (hz2 : i0.bytes = 16)
    (hown : SL w base v o) (hb : base ≤ w.heap.size) (h2 : SL w b2 v2 M) (hn : o.length + M.length ≤ 1000000) :
    ∃ v' w', (Builtin.append_ #[23, 23] ty #[v, v2]).run Try.prog w = .ok v' w' ∧ SL w' base v' (o ++ M) ∧ w.grownBy w' v.ownBlock := by
  unfold SL at *
  rcases row_block h2 with ⟨rfl, hz⟩ | ⟨g, c, cur, rfl, _, _, _⟩
  · obtain rfl := List.eq_nil_of_length_eq_zero hz
    exact ⟨v, w, run_append_owned_none (P := Try.prog) w base 23 ty 26 i0 2 Try.underlying23 hi v o.length _ hown, by simpa using hown, ⟨rfl, rfl, rfl, Nat.le_refl _, fun _ _ _ => rfl⟩⟩
  · obtain ⟨v', w', hr, r1, r2, _⟩ := run_append_own (P := Try.prog) w base 23 ty 26 i0 (.agg #[.int .i64 0, .float .f64 0]) 2 16 Try.underlying23 hi hz0 hz1 hz2 rfl (by decide) v o.length _ hown ⟨g, 0, none⟩ M.length c (flat M) (flat_len M) (row_news h2) flat_one' (by unfold maxLen; omega) (by omega) hb
    exact ⟨v', w', hr, by rw [flat_append, List.length_append]; exact r1, r2⟩
theorem step_app {P : Program} {ops : Array Oper} {o : Oper} {a : Act} {w w' : World} {v' : Value} {K : Act → World → Prop} {Q : Exit → Act → World → Prop} {E : Prop} (hgd : o.guard = none) (s x : Operand) (t : TypeId)
    (ho : o.op = .call { callee := .builtin .append, args := #[s, x], argTypes := #[t, t] })
    (hr : (Builtin.append_ #[t, t] o.type #[a.eval s, a.eval x]).run P w = .ok v' w') (h : K (a.put o.dst v') w') :
    if Region.wanted o (yielded ops a.tmps) = true then Oper.wp P o a w K Q else E := by
  have hw : Region.wanted o (yielded ops a.tmps) = true := by simp [Region.wanted, hgd]
  rw [if_pos hw]
  unfold Oper.wp
  simp [execOp, ho, resolve, invoke, builtin, hr, Result.andThen]
  exact h
end Go.Proofs.Ytlgnidjkilbdfaa
