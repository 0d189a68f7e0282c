/- Chapter 20: heights grouped by tick, in a map of slices. -/
import Derived.Test.YtlgnidjkilbdfaaLs
import Derived.Maps.AppendAt
import Derived.Lib.SlKeysI
namespace Go.Proofs.Ytlgnidjkilbdfaa
open Go.RowKit Go.Maps Ieee
set_option linter.unusedVariables false
set_option maxRecDepth 100000
/-- The heights that stand at a tick. -/
def hts (P : Rc) (t : Int) : List Nat := (P.filter fun x => x.1 == t).map (·.2)
theorem hts_nil (t : Int) : hts [] t = [] := rfl
theorem hts_snoc (P : Rc) (t h : _) (s : Int) : hts (P ++ [(t, h)]) s = if t = s then hts P s ++ [h] else hts P s := by
  unfold hts
  rw [List.filter_append, List.map_append]
  by_cases e : t = s
  · rw [if_pos e, List.filter_cons_of_pos (by simpa using e)]; rfl
  · rw [if_neg e, List.filter_cons_of_neg (by simpa using e)]; simp
theorem hts_len (P : Rc) (t : Int) : (hts P t).length ≤ P.length := by
  unfold hts
  rw [List.length_map]
  exact List.length_filter_le _ _
theorem hts_mem {P : Rc} {t : Int} {x : Nat} : x ∈ hts P t ↔ (t, x) ∈ P := by
  unfold hts
  rw [List.mem_map]
  constructor
  · rintro ⟨p, hp, rfl⟩
    rw [List.mem_filter] at hp
    have h2 := hp.2
    simp only [beq_iff_eq] at h2
    rw [← h2]
    exact hp.1
  · intro h
    exact ⟨(t, x), List.mem_filter.2 ⟨h, by simp⟩, rfl⟩
/-- How a slice's head reads: by where it lies. -/
def RV (v : Value) : Option (DataW Unit × List MemPlace) :=
  match v with
  | .slice none 0 0 => some (.nil, [])
  | .slice (some ⟨g, 0, none⟩) n c => some (.slice [.lit (.int .i64 (g : Int)), .lit (.int .i64 (n : Int)), .lit (.int .i64 (c : Int))] [], [])
  | _ => none
theorem RV_inj {u v : Value} {z y : DataW Unit × List MemPlace} (hu : RV u = some z) (hv : RV v = some y) (h : z.1 = y.1) : u = v := by
  unfold RV at hu hv
  split at hu <;> split at hv
  all_goals (cases hu <;> cases hv)
  all_goals first
    | rfl
    | (simp only [DataW.slice.injEq, List.cons.injEq, DataW.lit.injEq, Lit.int.injEq, Int.natCast_inj, true_and, and_true] at h
       obtain ⟨rfl, rfl, rfl⟩ := h
       rfl)
    | (simp at h)
theorem RV_own {w : World} {B : Nat} {e : TypeId} {size n : Nat} {v : Value} {xs : List Value} (h : w.ownsRow B e size v n xs) : ∃ d, RV v = some (d, []) := by
  rcases h.2 with ⟨rfl, _⟩ | ⟨g, cap, cur, rfl, _⟩
  · exact ⟨_, rfl⟩
  · exact ⟨_, rfl⟩
/-- The map of the heights of P. -/
structure GrpV (w : World) (B mb n : Nat) (P : Rc) (D : DataW Unit) (V : Int → Value) : Prop where
  own : w.ownsMap Try.prog 3 RV mb n D
  has : ∀ t, Maps.has D (.int .i64 t) = !(hts P t).isEmpty
  at_ : ∀ t, RV (V t) = some (D.atKey (.int .i64 t) .nil, [])
  row : ∀ t, w.ownsRow B 24 1 (V t) (hts P t).length ((hts P t).map encF)
  apart : ∀ t s, t ≠ s → Apart (V t) (V s)
  off : ∀ t, (V t).ownBlock ≠ some mb
theorem zero80 (w : World) : (zeroValue 80).run Try.prog w = .ok (.slice none 0 0) w := by kernel_rfl
theorem GrpV.made (w : World) (B : Nat) : GrpV (w.alloc (.map #[] 0)) B w.heap.size 0 [] (.map []) (fun _ => .slice none 0 0) :=
  ⟨World.ownsMap_made w _ _ _, fun t => rfl, fun t => rfl, fun t => World.ownsRow_nil _ _ _ _, fun t s _ k hk => (by cases hk), fun t e => (by cases e)⟩
theorem GrpV.kept {w w' : World} {B mb n : Nat} {P : Rc} {D : DataW Unit} {V : Int → Value} (h : GrpV w B mb n P D V) (hb : Below w.heap.size w w') : GrpV w' B mb n P D V :=
  ⟨h.own.kept (grown_of_below hb none) (by simp), h.has, h.at_, fun t => own_below (h.row t) hb, h.apart, h.off⟩
theorem GrpV.alloc {w : World} {B mb n : Nat} {P : Rc} {D : DataW Unit} {V : Int → Value} (h : GrpV w B mb n P D V) (o : Obj) : GrpV (w.alloc o) B mb n P D V := h.kept ((Below.refl _ _).alloc (Nat.le_refl _) o)
theorem GrpV.look {w : World} {B mb n : Nat} {P : Rc} {D : DataW Unit} {V : Int → Value} (h : GrpV w B mb n P D V) {t : Int} (ht : I64 t) :
    (Instr.lookup 120 (.map (some mb)) (.int .i64 t) false).run Try.prog w = .ok (V t) w := by
  obtain ⟨v, ps, hrun, hv⟩ := h.own.lookup (int_keyed Try.underlying3) Try.underlying120 (zero80 w) (show RV (.slice none 0 0) = some (.nil, []) from rfl) (key3 ht)
  rw [hrun, RV_inj hv (h.at_ t) rfl]
theorem GrpV.lt {w : World} {B mb n : Nat} {P : Rc} {D : DataW Unit} {V : Int → Value} (h : GrpV w B mb n P D V) : mb < w.heap.size := h.own.lt
/-- The store of the grown row. -/
theorem GrpV.put {w w1 : World} {B mb n : Nat} {P : Rc} {D : DataW Unit} {V : Int → Value} {t : Int} {x : Nat} {v : Value} (h : GrpV w B mb n P D V) (ht : I64 t) (hn : n < 1000000) (hmb : mb < B ∨ B ≤ mb)
    (hg : w.grownBy w1 (V t).ownBlock) (hown : w1.ownsRow B 24 1 v ((hts P t).length + 1) ((hts P t).map encF ++ [encF x])) (hf : Fresh (V t) v w.heap.size) :
    ∃ w2 D2 V2, (Instr.mapUpdate 120 (.map (some mb)) (.int .i64 t) v).run Try.prog w1 = .ok () w2 ∧ GrpV w2 B mb (n + 1) (P ++ [(t, x)]) D2 V2 ∧ w1.grownBy w2 (some mb) := by
  have hmlt := h.lt
  obtain ⟨d, hd⟩ := RV_own hown
  have ho1 : w1.ownsMap Try.prog 3 RV mb n D := h.own.kept hg (fun e => h.off t e.symm)
  obtain ⟨w2, hrun, hmap, hg2⟩ := ho1.update (int_keyed Try.underlying3) Try.underlying120 (by unfold maxLen; omega) (key3 ht) hd
  have hvmb : v.ownBlock ≠ some mb := by
    rcases hf with e | ⟨k, e, hk⟩
    · rw [e]; exact h.off t
    · rw [e]; simp; omega
  have hIs : IsMap D := h.own.isMap
  have hKey : WideAt.IsKeyLit (.int .i64 t) := by trivial
  have hlt : ∀ s k, (V s).ownBlock = some k → k < w.heap.size := fun s k hk => ((h.row s).lt k hk).2
  refine ⟨w2, _, fun s => if s = t then v else V s, hrun, ⟨hmap, ?_, ?_, ?_, ?_, ?_⟩, hg2⟩
  · intro s
    rw [hts_snoc]
    by_cases e : t = s
    · subst e
      rw [has_put_same hIs hKey, if_pos rfl]
      simp
    · rw [has_put_other (by simp; exact fun e2 => e e2.symm), if_neg e]
      exact h.has s
  · intro s
    by_cases e : s = t
    · subst e
      rw [if_pos rfl, atKey_put_same hIs hKey]
      exact hd
    · rw [if_neg e, atKey_put_other (by simp; exact e)]
      exact h.at_ s
  · intro s
    rw [hts_snoc]
    by_cases e : s = t
    · subst e
      rw [if_pos rfl, if_pos rfl, List.length_append, List.map_append]
      exact hown.kept hg2 (.inr hvmb)
    · rw [if_neg e, if_neg (fun e2 => e e2.symm)]
      exact ((h.apart s t e).kept (h.row s) hg).kept hg2 (.inr (h.off s))
  · intro s r hsr
    by_cases e1 : s = t
    · subst e1
      rw [if_pos rfl, if_neg (fun e => hsr e.symm)]
      exact (h.apart s r hsr).fresh hf (hlt r)
    · rw [if_neg e1]
      by_cases e2 : r = t
      · subst e2
        rw [if_pos rfl]
        exact ((h.apart s r hsr).symm.fresh hf (hlt s)).symm
      · rw [if_neg e2]
        exact h.apart s r hsr
  · intro s
    split
    · exact hvmb
    · exact h.off s
/-! ### the ticks -/
@[irreducible] def KT (P : Rc) : List Int := ((List.range 1048577).map fun (i : Nat) => (i : Int)).filter fun t => !(hts P t).isEmpty
theorem pw_filter {α : Type} {R : α → α → Prop} {p : α → Bool} {l : List α} (h : l.Pairwise R) : (l.filter p).Pairwise R := h.filter _
theorem KT_asc (P : Rc) : (KT P).Pairwise (· < ·) := by
  unfold KT
  refine pw_filter ?_
  refine List.pairwise_map.2 ?_
  exact List.pairwise_lt_range.imp (by intro a b h; omega)
theorem KT_mem {P : Rc} (hr : ∀ x ∈ P, 0 ≤ x.1 ∧ x.1 ≤ 1048576) {t : Int} : t ∈ KT P ↔ hts P t ≠ [] := by
  unfold KT
  rw [List.mem_filter, List.mem_map]
  constructor
  · rintro ⟨_, h⟩ e
    rw [e] at h
    simp at h
  · intro h
    obtain ⟨x, hx⟩ := List.exists_mem_of_ne_nil _ h
    have h1 := hr _ (hts_mem.1 hx)
    refine ⟨⟨t.toNat, List.mem_range.2 (by have := h1.1; have := h1.2; simp at *; omega), by have := h1.1; simp at *; omega⟩, ?_⟩
    cases he : hts P t with
    | nil => exact absurd he h
    | cons => rfl
theorem asc_nodup {l : List Int} (h : l.Pairwise (· < ·)) : l.Nodup := h.imp (by intro a b h e; omega)
theorem asc_len : ∀ {l : List Int} {a b : Int}, l.Pairwise (· < ·) → (∀ t ∈ l, a ≤ t ∧ t ≤ b) → (l.length : Int) ≤ max 0 (b - a + 1)
  | [], a, b, _, _ => by simp; omega
  | x :: r, a, b, h, hb => by
    obtain ⟨h1, h2⟩ := List.pairwise_cons.1 h
    have hx := hb x (by simp)
    have := asc_len (a := x + 1) (b := b) h2 (fun t ht => ⟨by have := h1 t ht; omega, (hb t (by simp [ht])).2⟩)
    rw [List.length_cons]
    omega
theorem GrpV.keys {w : World} {B mb n : Nat} {P : Rc} {D : DataW Unit} {V : Int → Value} (h : GrpV w B mb n P D V) (hr : ∀ x ∈ P, 0 ≤ x.1 ∧ x.1 ≤ 1048576) : (KT P).Perm (intKeys D) := by
  obtain ⟨es, hD, hpw, _⟩ := h.own.entries (int_keyed Try.underlying3)
  obtain ⟨es', hD', hko⟩ := h.own.keysOf
  obtain rfl : es = es' := by rw [hD] at hD'; simpa using hD'
  have hh := h.has
  subst hD
  refine perm_intKeys hpw (fun p hp => by obtain ⟨v, hv⟩ := hko p hp; obtain ⟨x, _, hx, _⟩ := Maps.keyOf_i64 Try.underlying3 hv; exact ⟨x, hx⟩) (asc_nodup (KT_asc P)) (fun x => ?_)
  rw [hh x, KT_mem hr]
  cases hts P x <;> simp
/-- The ticks, uniquely. -/
theorem asc_unique : ∀ {l l' : List Int}, l.Pairwise (· < ·) → l'.Pairwise (· < ·) → (∀ t, t ∈ l ↔ t ∈ l') → l = l' := fun h h' hm =>
  asc_perm ((List.perm_ext_iff_of_nodup (asc_nodup h) (asc_nodup h')).2 hm) (h.imp (by intro a b h; omega)) h'
theorem KT_sort {P : Rc} {ss : List Int} (hp : ss.Perm (KT P)) : ss.mergeSort (fun x y => decide (x ≤ y)) = KT P := by
  refine asc_perm ((List.mergeSort_perm _ _).trans hp) ?_ (KT_asc P)
  have := List.pairwise_mergeSort (le := fun x y : Int => decide (x ≤ y)) (fun a b c h1 h2 => by simp at *; omega) (fun a b => by simp; omega) ss
  exact this.imp (by simp)
theorem KT_congr {P Q : Rc} (hp : P.Perm Q) : KT P = KT Q := by
  unfold KT
  refine List.filter_congr fun t _ => ?_
  have h1 : (hts P t).Perm (hts Q t) := (hp.filter _).map _
  cases h2 : hts P t with
  | nil => rw [h2] at h1; rw [h1.nil_eq]
  | cons a r =>
    cases h3 : hts Q t with
    | nil => rw [h2, h3] at h1; exact absurd h1.length_eq (by simp)
    | cons => rfl
end Go.Proofs.Ytlgnidjkilbdfaa
