/- Chapter 19: a record as a list of ticks and words, rising; as a map's reading. No program. -/
import Derived.Test.YtlgnidjkilbdfaaOne
import Derived.Maps.Views
import Derived.Maps.OwnOps
namespace Go.Proofs.Ytlgnidjkilbdfaa
open Go.RowKit
set_option linter.unusedVariables false
abbrev Rc := List (Int × Nat)
def Asc (L : Rc) : Prop := L.Pairwise (fun p q => p.1 < q.1)
def I64 (t : Int) : Prop := -9223372036854775808 ≤ t ∧ t ≤ 9223372036854775807
/-- All that is asked of a record: rising ticks of 64 bits, words of 64 bits. -/
structure Ok (L : Rc) : Prop where
  asc : Asc L
  rng : ∀ p ∈ L, 0 ≤ p.1 ∧ p.1 ≤ 1048576
  w64 : ∀ p ∈ L, p.2 < 2 ^ 64
  len : L.length ≤ 4096
def hasT (L : Rc) (t : Int) : Bool := L.any (fun p => p.1 == t)
def atT (L : Rc) (t : Int) : Nat := match L.find? (fun p => p.1 == t) with | some p => p.2 | none => 0
/-- The place of a tick: how many stand below it. -/
def plc (L : Rc) (t : Int) : Nat := (L.takeWhile (fun p => decide (p.1 < t))).length
def insT (L : Rc) (t : Int) (h : Nat) : Rc := L.take (plc L t) ++ (t, h) :: L.drop (plc L t)
def delT (L : Rc) (t : Int) : Rc := L.filter (fun p => !(p.1 == t))
def addE (L : Rc) (t : Int) : Int := if t < 0 ∨ 1048576 < t then 2 else if hasT L t then 5 else if 4096 ≤ L.length then 3 else 0
def ones (L : Rc) : Rc := L.filter (fun p => oneB p.2)
def lost (L : Rc) : List Int := (L.filter (fun p => !oneB p.2)).map (·.1)
/-! ### the map's reading -/
def entF (p : Int × Nat) : Lit × DataW Unit := (.int .i64 p.1, .lit (.float .f64 p.2))
def datL (L : Rc) : DataW Unit := .map (L.map entF)
def RF (v : Value) : Option (DataW Unit × List MemPlace) := match v with | .float .f64 b => some (.lit (.float .f64 b), []) | _ => none
theorem RF_inv {v : Value} {z : DataW Unit × List MemPlace} (h : RF v = some z) : ∃ b, v = .float .f64 b ∧ z = (.lit (.float .f64 b), []) := by
  unfold RF at h
  split at h
  · cases h; exact ⟨_, rfl, rfl⟩
  · cases h
theorem same_int (a b : Int) : (Lit.int .i64 a).sameKey (.int .i64 b) = (a == b) := by
  rw [Bool.eq_iff_iff]; simp [Lit.sameKey]
theorem has_dat (L : Rc) (t : Int) : Maps.has (datL L) (.int .i64 t) = hasT L t := by
  unfold datL hasT
  rw [Maps.has_eq, List.any_map]
  congr 1
  funext p
  exact same_int _ _
theorem at_dat (L : Rc) (t : Int) : (datL L).atKey (.int .i64 t) (.lit (.float .f64 0)) = .lit (.float .f64 (atT L t)) := by
  unfold datL atT DataW.atKey
  simp only
  rw [List.find?_map]
  have hc : ((fun p : Lit × DataW Unit => p.1.sameKey (.int .i64 t)) ∘ entF) = (fun p : Int × Nat => p.1 == t) := by
    funext p; exact same_int _ _
  rw [hc]
  cases L.find? (fun p => p.1 == t) <;> rfl
theorem size_dat (L : Rc) : Maps.size (datL L) = L.length := by
  unfold datL; rw [Maps.size_eq]; simp
theorem before_int (a b : Int) : (Lit.int .i64 a).before (.int .i64 b) = decide (a < b) := rfl
theorem ins_cons (p : Int × Nat) (L : Rc) (t : Int) (h : Nat) : insT (p :: L) t h = if p.1 < t then p :: insT L t h else (t, h) :: p :: L := by
  unfold insT plc
  by_cases hp : p.1 < t
  · simp [hp]
  · simp [hp]
theorem insert_dat (t : Int) (h : Nat) : ∀ L : Rc, hasT L t = false → DataW.insert (entF (t, h)) (L.map entF) = (insT L t h).map entF
  | [], _ => rfl
  | p :: L, hn => by
    unfold hasT at hn
    simp only [List.any_cons, Bool.or_eq_false_iff, beq_eq_false_iff_ne] at hn
    rw [ins_cons]
    simp only [List.map_cons, DataW.insert]
    have hb : (entF (t, h)).1.before (entF p).1 = decide (t < p.1) := rfl
    rw [hb]
    by_cases hp : p.1 < t
    · rw [if_pos hp, if_neg (by simp; omega), List.map_cons, insert_dat t h L hn.2]
    · rw [if_neg hp, if_pos (by simp; have := hn.1; omega)]
      rfl
theorem filter_none {L : Rc} {t : Int} (hn : hasT L t = false) : (L.map entF).filter (fun p => !p.1.sameKey (.int .i64 t)) = L.map entF := by
  rw [List.filter_eq_self]
  intro x hx
  obtain ⟨p, hp, rfl⟩ := List.mem_map.1 hx
  unfold hasT at hn
  rw [List.any_eq_false] at hn
  have := hn p hp
  rw [show (entF p).1 = .int .i64 p.1 from rfl, same_int]
  simpa using this
theorem put_dat {L : Rc} {t : Int} (h : Nat) (hn : hasT L t = false) : (datL L).put (.int .i64 t) (.lit (.float .f64 h)) = datL (insT L t h) := by
  unfold datL DataW.put
  simp only
  rw [filter_none hn]
  exact congrArg DataW.map (insert_dat t h L hn)
theorem del_dat (L : Rc) (t : Int) : (datL L).del (.int .i64 t) = datL (delT L t) := by
  unfold datL DataW.del delT
  simp only
  rw [List.filter_map]
  congr 3
  funext p
  simp only [Function.comp]
  rw [show (entF p).1 = .int .i64 p.1 from rfl, same_int]
/-! ### lists -/
theorem mem_ins {L : Rc} {t : Int} {h : Nat} {p : Int × Nat} : p ∈ insT L t h ↔ p = (t, h) ∨ p ∈ L := by
  unfold insT
  rw [List.mem_append, List.mem_cons]
  constructor
  · rintro (h1 | h1 | h1)
    · exact .inr (List.mem_of_mem_take h1)
    · exact .inl h1
    · exact .inr (List.mem_of_mem_drop h1)
  · rintro (h1 | h1)
    · exact .inr (.inl h1)
    · rw [← List.take_append_drop (plc L t) L, List.mem_append] at h1
      exact h1.imp id .inr
theorem len_ins (L : Rc) (t : Int) (h : Nat) : (insT L t h).length = L.length + 1 := by
  have e := congrArg List.length (List.take_append_drop (plc L t) L)
  unfold insT
  rw [List.length_append] at e
  rw [List.length_append, List.length_cons]
  omega
theorem asc_ins {t : Int} {h : Nat} : ∀ {L : Rc}, Asc L → hasT L t = false → Asc (insT L t h)
  | [], _, _ => by simp [insT, plc, Asc]
  | p :: L, ha, hn => by
    unfold hasT at hn
    simp only [List.any_cons, Bool.or_eq_false_iff, beq_eq_false_iff_ne] at hn
    obtain ⟨h1, h2⟩ := List.pairwise_cons.1 ha
    rw [ins_cons]
    split
    · rename_i hp
      refine List.pairwise_cons.2 ⟨fun q hq => ?_, asc_ins h2 hn.2⟩
      rcases mem_ins.1 hq with rfl | hq
      · exact hp
      · exact h1 q hq
    · rename_i hp
      refine List.pairwise_cons.2 ⟨fun q hq => ?_, ha⟩
      have := hn.1
      rcases List.mem_cons.1 hq with rfl | hq
      · simp only; omega
      · have := h1 q hq; simp only; omega
theorem Ok.nil : Ok [] := ⟨List.Pairwise.nil, by simp, by simp, by simp⟩
theorem Ok.ins {L : Rc} {t : Int} {h : Nat} (hL : Ok L) (he : addE L t = 0) (hh : h < 2 ^ 64) : Ok (insT L t h) := by
  unfold addE at he
  split at he
  · cases he
  split at he
  · cases he
  split at he
  · cases he
  rename_i h1 h2 h3
  refine ⟨asc_ins hL.asc (by simpa using h2), ?_, ?_, by rw [len_ins]; omega⟩
  · intro p hp
    rcases mem_ins.1 hp with rfl | hp
    · simp only; omega
    · exact hL.rng p hp
  · intro p hp
    rcases mem_ins.1 hp with rfl | hp
    · exact hh
    · exact hL.w64 p hp
theorem Ok.del {L : Rc} {t : Int} (hL : Ok L) : Ok (delT L t) :=
  ⟨hL.asc.filter _, fun p hp => hL.rng p (List.mem_filter.1 hp).1, fun p hp => hL.w64 p (List.mem_filter.1 hp).1, Nat.le_trans (List.length_filter_le _ _) hL.len⟩
theorem plc_le (L : Rc) (t : Int) : plc L t ≤ L.length := by
  have h := congrArg List.length (List.takeWhile_append_dropWhile (p := fun p : Int × Nat => decide (p.1 < t)) (l := L))
  rw [List.length_append] at h
  unfold plc; omega
theorem plc_below {L : Rc} {t : Int} {j : Nat} (hj : j < plc L t) : (L.getD j (0, 0)).1 < t := by
  unfold plc at hj
  have h1 : (L.takeWhile (fun p => decide (p.1 < t)))[j]? = some (L.takeWhile (fun p => decide (p.1 < t)))[j] := List.getElem?_eq_getElem hj
  have h2 := (List.takeWhile_prefix (p := fun p : Int × Nat => decide (p.1 < t)) (l := L))
  obtain ⟨r, hr⟩ := h2
  have h3 : L[j]? = some (L.takeWhile (fun p => decide (p.1 < t)))[j] := by
    conv => lhs; rw [← hr]
    rw [List.getElem?_append_left hj, h1]
  rw [List.getD_eq_getElem?_getD, h3]
  have := List.all_takeWhile (p := fun p : Int × Nat => decide (p.1 < t)) (l := L)
  have := List.all_eq_true.1 this _ (List.getElem_mem hj)
  simpa using this
theorem plc_at : ∀ {L : Rc} {t : Int}, plc L t < L.length → ¬ (L.getD (plc L t) (0, 0)).1 < t
  | [], t, h => by simp [plc] at h
  | p :: L, t, h => by
    unfold plc at h ⊢
    by_cases hp : p.1 < t
    · simp only [List.takeWhile_cons, hp, decide_true, if_true, List.length_cons, List.getD_cons_succ] at h ⊢
      exact plc_at (L := L) (by unfold plc; omega)
    · simp only [List.takeWhile_cons, hp, decide_false, Bool.false_eq_true, if_false, List.length_nil, List.getD_cons_zero, not_false_eq_true]
/-- What is found at the place. -/
theorem has_plc : ∀ {L : Rc} {t : Int}, Asc L → hasT L t = (decide (plc L t < L.length) && (L.getD (plc L t) (0, 0)).1 == t)
  | [], t, _ => by simp [hasT, plc]
  | p :: L, t, ha => by
    obtain ⟨h1, h2⟩ := List.pairwise_cons.1 ha
    have ih := has_plc (L := L) (t := t) h2
    unfold hasT plc at *
    by_cases hp : p.1 < t
    · have hne : (p.1 == t) = false := by rw [beq_eq_false_iff_ne]; omega
      simp only [List.any_cons, List.takeWhile_cons, hp, decide_true, if_true, List.length_cons, List.getD_cons_succ, hne, Bool.false_or, Nat.add_lt_add_iff_right]
      exact ih
    · simp only [List.any_cons, List.takeWhile_cons, hp, decide_false, Bool.false_eq_true, if_false, List.length_nil, List.length_cons, List.getD_cons_zero]
      have : L.any (fun q => q.1 == t) = false := by
        rw [List.any_eq_false]
        intro q hq
        have := h1 q hq
        simp only [beq_iff_eq]
        omega
      rw [this]
      simp
theorem at_plc : ∀ {L : Rc} {t : Int}, Asc L → hasT L t = true → atT L t = (L.getD (plc L t) (0, 0)).2
  | [], t, _, h => by simp [hasT] at h
  | p :: L, t, ha, h => by
    obtain ⟨h1, h2⟩ := List.pairwise_cons.1 ha
    unfold hasT at h
    unfold atT plc
    by_cases hp : p.1 < t
    · have hne : (p.1 == t) = false := by rw [beq_eq_false_iff_ne]; omega
      simp only [List.any_cons, hne, Bool.false_or] at h
      have ih := at_plc (L := L) (t := t) h2 h
      unfold atT plc at ih
      simp only [List.find?_cons, hne, List.takeWhile_cons, hp, decide_true, if_true, List.length_cons, List.getD_cons_succ]
      exact ih
    · have hq : (p.1 == t) = true := by
        rw [beq_iff_eq]
        simp only [List.any_cons, Bool.or_eq_true, beq_iff_eq] at h
        rcases h with h | h
        · exact h
        · obtain ⟨q, hq, e⟩ := List.any_eq_true.1 h
          have := h1 q hq
          simp only [beq_iff_eq] at e
          omega
      simp only [List.find?_cons, hq, List.takeWhile_cons, hp, decide_false, Bool.false_eq_true, if_false, List.length_nil, List.getD_cons_zero]
theorem del_plc : ∀ {L : Rc} {t : Int}, Asc L → hasT L t = true → delT L t = L.take (plc L t) ++ L.drop (plc L t + 1)
  | [], t, _, h => by simp [hasT] at h
  | p :: L, t, ha, h => by
    obtain ⟨h1, h2⟩ := List.pairwise_cons.1 ha
    unfold hasT at h
    unfold delT plc
    by_cases hp : p.1 < t
    · have hne : (p.1 == t) = false := by rw [beq_eq_false_iff_ne]; omega
      simp only [List.any_cons, hne, Bool.false_or] at h
      have ih := del_plc (L := L) (t := t) h2 h
      unfold delT plc at ih
      simp only [List.filter_cons, hne, Bool.not_false, if_true, List.takeWhile_cons, hp, decide_true, List.length_cons, List.take_succ_cons, List.drop_succ_cons, List.cons_append, ih]
    · have hq : (p.1 == t) = true := by
        rw [beq_iff_eq]
        simp only [List.any_cons, Bool.or_eq_true, beq_iff_eq] at h
        rcases h with h | h
        · exact h
        · obtain ⟨q, hq, e⟩ := List.any_eq_true.1 h
          have := h1 q hq
          simp only [beq_iff_eq] at e
          omega
      simp only [List.filter_cons, hq, Bool.not_true, Bool.false_eq_true, if_false, List.takeWhile_cons, hp, decide_false, List.length_nil, List.take_zero, List.drop_succ_cons, List.nil_append, Nat.zero_add, List.drop_zero]
      rw [List.filter_eq_self]
      intro q hq'
      have := h1 q hq'
      rw [beq_iff_eq] at hq
      simp only [Bool.not_eq_true', beq_eq_false_iff_ne]
      omega
theorem has_mem {L : Rc} {p : Int × Nat} (hp : p ∈ L) : hasT L p.1 = true := by
  unfold hasT
  rw [List.any_eq_true]
  exact ⟨p, hp, by simp⟩
theorem at_mem {L : Rc} (ha : Asc L) {p : Int × Nat} (hp : p ∈ L) : atT L p.1 = p.2 := by
  induction L with
  | nil => cases hp
  | cons q L ih =>
    obtain ⟨h1, h2⟩ := List.pairwise_cons.1 ha
    unfold atT
    rcases List.mem_cons.1 hp with rfl | hp
    · simp
    · have hne : (q.1 == p.1) = false := by rw [beq_eq_false_iff_ne]; have := h1 p hp; omega
      rw [List.find?_cons, hne]
      exact ih h2 hp
end Go.Proofs.Ytlgnidjkilbdfaa
