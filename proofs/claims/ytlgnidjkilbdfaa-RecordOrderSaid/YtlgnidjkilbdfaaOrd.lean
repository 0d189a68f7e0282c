/- Chapter 19: the order counts for nothing: the plain law. -/
import Derived.Test.YtlgnidjkilbdfaaKn
namespace Go.Proofs.Ytlgnidjkilbdfaa
open Go.RowKit
set_option linter.unusedVariables false
theorem asc_ext : ∀ {L M : Rc}, Asc L → Asc M → (∀ p, p ∈ L ↔ p ∈ M) → L = M
  | [], [], _, _, _ => rfl
  | [], b :: M, _, _, h => by have := (h b).2 (by simp); cases this
  | a :: L, [], _, _, h => by have := (h a).1 (by simp); cases this
  | a :: L, b :: M, h1, h2, h => by
    obtain ⟨a1, a2⟩ := List.pairwise_cons.1 h1
    obtain ⟨b1, b2⟩ := List.pairwise_cons.1 h2
    have hab : a = b := by
      rcases List.mem_cons.1 ((h a).1 (by simp)) with e | ha
      · exact e
      · rcases List.mem_cons.1 ((h b).2 (by simp)) with e | hb
        · exact e.symm
        · have := a1 b hb; have := b1 a ha; omega
    subst hab
    rw [asc_ext a2 b2 (fun p => ?_)]
    constructor
    · intro hp
      rcases List.mem_cons.1 ((h p).1 (by simp [hp])) with e | h'
      · subst e; have := a1 p hp; omega
      · exact h'
    · intro hp
      rcases List.mem_cons.1 ((h p).2 (by simp [hp])) with e | h'
      · subst e; have := b1 p hp; omega
      · exact h'
theorem mem_del {L : Rc} {t : Int} {p : Int × Nat} : p ∈ delT L t ↔ p ∈ L ∧ p.1 ≠ t := by
  unfold delT
  rw [List.mem_filter]
  simp
theorem del_len (L : Rc) (t : Int) : (delT L t).length ≤ L.length := List.length_filter_le _ _
theorem has_iff {L : Rc} {t : Int} : hasT L t = true ↔ ∃ p ∈ L, p.1 = t := by
  unfold hasT
  rw [List.any_eq_true]
  simp
/-- The samples that were taken, in the order in which they came. -/
def acc (S : Rc) : Nat → Rc
  | 0 => []
  | k + 1 => if errAt S k = 0 then acc S k ++ [S.getD k (0, 0)] else acc S k
theorem add_zero {L : Rc} {t : Int} (h : addE L t = 0) : 0 ≤ t ∧ t ≤ 1048576 ∧ hasT L t = false ∧ L.length < 4096 := by
  unfold addE at h
  split at h
  · cases h
  split at h
  · cases h
  split at h
  · cases h
  rename_i h1 h2 h3
  exact ⟨by omega, by omega, by simpa using h2, by omega⟩
theorem add_ok {L : Rc} {t : Int} (h0 : 0 ≤ t) (h1 : t ≤ 1048576) (h2 : hasT L t = false) (h3 : L.length < 4096) : addE L t = 0 := by
  unfold addE
  rw [if_neg (by omega), h2, if_neg (by simp), if_neg (by omega)]
structure Acc (L I : Rc) : Prop where
  mem : ∀ p, p ∈ L ↔ p ∈ I
  len : L.length = I.length
  dis : I.Pairwise (fun p q => p.1 ≠ q.1)
  rng : ∀ p ∈ I, 0 ≤ p.1 ∧ p.1 ≤ 1048576
theorem acc_ok {S : Rc} : ∀ k, k ≤ S.length → Acc (recsTo S k) (acc S k) := by
  intro k
  induction k with
  | zero => intro _; exact ⟨fun p => by simp [recs_zero, acc], rfl, List.Pairwise.nil, by simp [acc]⟩
  | succ k ih =>
    intro hk
    have ih := ih (by omega)
    rw [recs_succ (by omega)]
    unfold acc addR
    by_cases he : errAt S k = 0
    · rw [if_pos he, if_pos (show addE (recsTo S k) (S.getD k (0, 0)).1 = 0 from he)]
      obtain ⟨h0, h1, h2, h3⟩ := add_zero (show addE (recsTo S k) (S.getD k (0, 0)).1 = 0 from he)
      refine ⟨fun p => ?_, by rw [len_ins, ih.len]; simp, ?_, ?_⟩
      · rw [mem_ins, List.mem_append, ih.mem]
        constructor
        · rintro (h | h)
          · right; rw [h]; simp
          · exact .inl h
        · rintro (h | h)
          · exact .inr h
          · left; simpa using h
      · refine List.pairwise_append.2 ⟨ih.dis, by simp, fun p hp q hq => ?_⟩
        simp only [List.mem_cons, List.not_mem_nil, or_false] at hq
        subst hq
        intro e
        have : hasT (recsTo S k) (S.getD k (0, 0)).1 = true := has_iff.2 ⟨p, (ih.mem p).2 hp, e⟩
        rw [h2] at this
        cases this
      · intro p hp
        rcases List.mem_append.1 hp with hp | hp
        · exact ih.rng p hp
        · simp only [List.mem_cons, List.not_mem_nil, or_false] at hp
          subst hp
          exact ⟨h0, h1⟩
    · rw [if_neg he, if_neg (show ¬ addE (recsTo S k) (S.getD k (0, 0)).1 = 0 from he)]
      exact ih
theorem acc_len (S : Rc) (k : Nat) : (acc S k).length ≤ k := by
  induction k with
  | zero => simp [acc]
  | succ k ih =>
    unfold acc
    split
    · simp; omega
    · omega
theorem acc_w {S : Rc} (h : In64 S) : ∀ k, k ≤ S.length → ∀ p ∈ acc S k, p.2 < 2 ^ 64 := by
  intro k
  induction k with
  | zero => intro _ p hp; simp [acc] at hp
  | succ k ih =>
    intro hk p hp
    unfold acc at hp
    split at hp
    · rcases List.mem_append.1 hp with hp | hp
      · exact ih (by omega) p hp
      · simp only [List.mem_cons, List.not_mem_nil, or_false] at hp
        subst hp
        exact h.w _ (mem_getD (by omega))
    · exact ih (by omega) p hp
theorem split_len (L : Rc) : (ones L).length + (lost L).length = L.length := by
  unfold lost ones
  rw [List.length_map]
  induction L with
  | nil => rfl
  | cons p L ih =>
    simp only [List.filter_cons]
    cases oneB p.2 <;> simp <;> omega
/-- What stands of I where the places are told by c. -/
def Sub (I L : Rc) (c : Nat → Prop) : Prop := ∀ p, p ∈ L ↔ ∃ k, k < I.length ∧ I.getD k (0, 0) = p ∧ c k
theorem dis_at {I : Rc} (h : I.Pairwise (fun p q => p.1 ≠ q.1)) {i k : Nat} (hi : i < I.length) (hk : k < I.length) (e : (I.getD i (0, 0)).1 = (I.getD k (0, 0)).1) : i = k := by
  rw [List.getD_eq_getElem?_getD, List.getD_eq_getElem?_getD, List.getElem?_eq_getElem hi, List.getElem?_eq_getElem hk] at e
  simp only [Option.getD_some] at e
  rcases Nat.lt_trichotomy i k with h' | h' | h'
  · exact absurd e (List.pairwise_iff_getElem.1 h i k hi hk h')
  · exact h'
  · exact absurd e.symm (List.pairwise_iff_getElem.1 h k i hk hi h')
theorem Sub.add {I L : Rc} {c c' : Nat → Prop} {i : Nat} (h : Sub I L c) (hd : I.Pairwise (fun p q => p.1 ≠ q.1)) (hr : ∀ p ∈ I, 0 ≤ p.1 ∧ p.1 ≤ 1048576) (hi : i < I.length) (hc : ¬ c i) (hl : L.length < 4096) (hcc : ∀ k, k < I.length → (c' k ↔ c k ∨ k = i)) :
    addE L (I.getD i (0, 0)).1 = 0 ∧ Sub I (insT L (I.getD i (0, 0)).1 (I.getD i (0, 0)).2) c' := by
  have hm := mem_getD hi
  obtain ⟨h0, h1⟩ := hr _ hm
  refine ⟨add_ok h0 h1 ?_ hl, fun p => ?_⟩
  · rw [Bool.eq_false_iff]
    intro hh
    obtain ⟨p, hp, e⟩ := has_iff.1 hh
    obtain ⟨k, hk, rfl, hck⟩ := (h p).1 hp
    have := dis_at hd hk hi e
    subst this
    exact hc hck
  · rw [mem_ins, h p]
    constructor
    · rintro (rfl | ⟨k, hk, e, hck⟩)
      · exact ⟨i, hi, rfl, (hcc i hi).2 (.inr rfl)⟩
      · exact ⟨k, hk, e, (hcc k hk).2 (.inl hck)⟩
    · rintro ⟨k, hk, rfl, hck⟩
      rcases (hcc k hk).1 hck with h' | rfl
      · exact .inr ⟨k, hk, rfl, h'⟩
      · exact .inl rfl
theorem Sub.del {I L : Rc} {c c' : Nat → Prop} {i : Nat} (h : Sub I L c) (hd : I.Pairwise (fun p q => p.1 ≠ q.1)) (hi : i < I.length) (hc : c i) (hcc : ∀ k, k < I.length → (c' k ↔ c k ∧ k ≠ i)) :
    takeE L (I.getD i (0, 0)).1 = 0 ∧ takeE (delT L (I.getD i (0, 0)).1) (I.getD i (0, 0)).1 = 6 ∧ Sub I (delT L (I.getD i (0, 0)).1) c' := by
  refine ⟨?_, ?_, fun p => ?_⟩
  · unfold takeE
    rw [if_pos (has_iff.2 ⟨_, (h _).2 ⟨i, hi, rfl, hc⟩, rfl⟩)]
  · unfold takeE
    rw [if_neg]
    intro hh
    obtain ⟨p, hp, e⟩ := has_iff.1 hh
    exact (mem_del.1 hp).2 e
  · rw [mem_del, h p]
    constructor
    · rintro ⟨⟨k, hk, rfl, hck⟩, hne⟩
      exact ⟨k, hk, rfl, (hcc k hk).2 ⟨hck, fun e => hne (by rw [e])⟩⟩
    · rintro ⟨k, hk, rfl, hck⟩
      obtain ⟨h1, h2⟩ := (hcc k hk).1 hck
      exact ⟨⟨k, hk, rfl, h1⟩, fun e => h2 (dis_at hd hk hi e)⟩
theorem Sub.none (I : Rc) : Sub I [] (fun _ => False) := fun p => by simp
theorem Sub.iff {I L : Rc} {c c' : Nat → Prop} (h : Sub I L c) (hcc : ∀ k, k < I.length → (c k ↔ c' k)) : Sub I L c' := fun p => by
  rw [h p]
  constructor
  · rintro ⟨k, hk, e, hc⟩; exact ⟨k, hk, e, (hcc k hk).1 hc⟩
  · rintro ⟨k, hk, e, hc⟩; exact ⟨k, hk, e, (hcc k hk).2 hc⟩
theorem Sub.all {I L M : Rc} (h : Sub I L (fun _ => True)) (hL : Asc L) (hM : Asc M) (hm : ∀ p, p ∈ M ↔ p ∈ I) : L = M := by
  refine asc_ext hL hM (fun p => ?_)
  rw [h p, hm p]
  constructor
  · rintro ⟨k, hk, rfl, _⟩; exact mem_getD hk
  · intro hp
    obtain ⟨k, hk, e⟩ := List.getElem_of_mem hp
    exact ⟨k, hk, by rw [List.getD_eq_getElem?_getD, List.getElem?_eq_getElem hk]; exact e, trivial⟩
end Go.Proofs.Ytlgnidjkilbdfaa
