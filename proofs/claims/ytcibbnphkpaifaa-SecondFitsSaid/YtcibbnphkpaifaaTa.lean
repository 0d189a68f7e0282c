/- Plain laws of second: the curve's shape; sound waters. -/
import Derived.Test.YtcibbnphkpaifaaSc
namespace Go.Proofs.Ytcibbnphkpaifaa
set_option linter.unusedVariables false
set_option maxRecDepth 100000
def smooth (x : Rat) : Rat := (x * x) * (3 - 2 * x)
theorem smooth_zero : smooth 0 = 0 := by unfold smooth; grind
theorem smooth_one : smooth 1 = 1 := by unfold smooth; grind
theorem smooth_lt {x y : Rat} (h0 : 0 ≤ x) (h1 : x < y) (h2 : y ≤ 1) : smooth x < smooth y := by
  have e : smooth y - smooth x = (y - x) * (x * (1 - y) + y * (1 - x) + 2 * (x * (1 - x)) + 2 * (y * (1 - y))) := by unfold smooth; grind
  have a1 : 0 ≤ x * (1 - y) := Rat.mul_nonneg h0 (by grind)
  have a2 : 0 < y * (1 - x) := Rat.mul_pos (by grind) (by grind)
  have a3 : 0 ≤ x * (1 - x) := Rat.mul_nonneg h0 (by grind)
  have a4 : 0 ≤ y * (1 - y) := Rat.mul_nonneg (by grind) (by grind)
  have a5 : 0 < (y - x) * (x * (1 - y) + y * (1 - x) + 2 * (x * (1 - x)) + 2 * (y * (1 - y))) := Rat.mul_pos (by grind) (by grind)
  grind
def curveQ (u v x : Rat) : Rat := u + (v - u) * smooth x
theorem curve_zero (u v : Rat) : curveQ u v 0 = u := by unfold curveQ; rw [smooth_zero]; grind
theorem curve_one (u v : Rat) : curveQ u v 1 = v := by unfold curveQ; rw [smooth_one]; grind
theorem curve_up {u v x y : Rat} (hu : u < v) (h0 : 0 ≤ x) (h1 : x < y) (h2 : y ≤ 1) : curveQ u v x < curveQ u v y := by
  have h := smooth_lt h0 h1 h2
  have a : 0 < (v - u) * (smooth y - smooth x) := Rat.mul_pos (by grind) (by grind)
  unfold curveQ
  grind
theorem curve_down {u v x y : Rat} (hu : v < u) (h0 : 0 ≤ x) (h1 : x < y) (h2 : y ≤ 1) : curveQ u v y < curveQ u v x := by
  have h := smooth_lt h0 h1 h2
  have a : 0 < (u - v) * (smooth y - smooth x) := Rat.mul_pos (by grind) (by grind)
  unfold curveQ
  grind
/-- What is made on the way. -/
def StepsFit (u v x : Rat) : Prop := Fits (2 * x) ∧ Fits (3 - 2 * x) ∧ Fits (x * x) ∧ Fits ((x * x) * (3 - 2 * x)) ∧ Fits (v - u) ∧ Fits ((v - u) * ((x * x) * (3 - 2 * x))) ∧ Fits (u + (v - u) * ((x * x) * (3 - 2 * x)))
instance (x : Rat) : Decidable (Fits x) := inferInstanceAs (Decidable (_ ∧ _))
instance (u v x : Rat) : Decidable (StepsFit u v x) := inferInstanceAs (Decidable (_ ∧ _))
/-- Waters that may be. -/
def Snd (L : List Wt) : Prop := ∀ i, ∀ h : i < L.length, errW (prevW L i) L[i] = 0
theorem errW_pos {a : Option Wt} {x : Wt} : errW a x = 0 ∨ errW a x = 2 ∨ errW a x = 3 ∨ errW a x = 11 := by
  have hc : ∀ n A D, chkR n A D = 0 ∨ chkR n A D = 3 ∨ chkR n A D = 11 := by
    intro n A D
    unfold chkR
    repeat' split
    all_goals simp
  cases a with
  | none => rw [errW_nil]; unfold wrongN; have := hc x.neg x.A x.D; split <;> omega
  | some a =>
    rw [errW_some]
    unfold wrongS
    have := hc x.neg x.A x.D
    split
    · omega
    · split
      · omega
      · split <;> omega
theorem checkW_from (L : List Wt) : ∀ (m k : Nat), k + m = L.length → (checkW (prevW L k) k (L.drop k)).1 = 0 → ∀ i, ∀ h : i < L.length, k ≤ i → errW (prevW L i) L[i] = 0 := by
  intro m
  induction m with
  | zero => intro k hk _ i h hi; omega
  | succ m ih =>
    intro k hk h0 i h hi
    have hk1 : k < L.length := by omega
    rw [checkW_step hk1] at h0
    by_cases hE : errW (prevW L k) L[k] = 0
    · rw [if_pos hE] at h0
      rcases Nat.lt_or_ge k i with hlt | hge
      · refine ih (k + 1) (by omega) ?_ i h (by omega)
        have : prevW L (k + 1) = some L[k] := by unfold prevW; rw [if_neg (by omega), Nat.add_sub_cancel, List.getElem?_eq_getElem hk1]
        rw [this]
        exact h0
      · have : i = k := by omega
        subst this
        exact hE
    · rw [if_neg hE] at h0
      exact absurd h0 hE
theorem checkW_to (L : List Wt) (hs : Snd L) : ∀ (m k : Nat), k + m = L.length → checkW (prevW L k) k (L.drop k) = (0, 0) := by
  intro m
  induction m with
  | zero => intro k hk; rw [List.drop_of_length_le (by omega)]; rfl
  | succ m ih =>
    intro k hk
    have hk1 : k < L.length := by omega
    rw [checkW_step hk1, if_pos (hs k hk1)]
    have : prevW L (k + 1) = some L[k] := by unfold prevW; rw [if_neg (by omega), Nat.add_sub_cancel, List.getElem?_eq_getElem hk1]
    rw [← this]
    exact ih (k + 1) (by omega)
theorem snd_of {L : List Wt} (h : (checkW none 0 L).1 = 0) : Snd L := fun i hi => checkW_from L L.length 0 (by omega) (by simpa [prevW] using h) i hi (Nat.zero_le _)
theorem Snd.zero {L : List Wt} (h : Snd L) : checkW none 0 L = (0, 0) := by simpa [prevW] using checkW_to L h L.length 0 (by omega)
theorem checkW_cases (L : List Wt) : checkW none 0 L = (0, 0) ∨ (checkW none 0 L).1 ≠ 0 := by
  by_cases h : (checkW none 0 L).1 = 0
  · exact .inl (snd_of h).zero
  · exact .inr h
theorem errN_facts {x : Wt} (h : errW none x = 0) : badW x.t x.l = false ∧ chkR x.neg x.A x.D = 0 := by
  refine ⟨?_, errW_chk h⟩
  rw [errW_nil] at h
  unfold wrongN at h
  cases hb : badW x.t x.l
  · rfl
  · rw [hb, if_pos rfl] at h; cases h
theorem errS_facts {a x : Wt} (h : errW (some a) x = 0) : badW x.t x.l = false ∧ a.l < x.t ∧ chkR x.neg x.A x.D = 0 ∧ x.top ≠ a.top ∧ cmpQ x.h a.h = wantW x.top := by
  have hk := errW_chk h
  rw [errW_some] at h
  unfold wrongS at h
  by_cases hb : (badW x.t x.l || decide (x.t ≤ a.l)) = true
  · rw [if_pos hb] at h; cases h
  · rw [if_neg hb, hk] at h
    rw [Bool.not_eq_true, Bool.or_eq_false_iff] at hb
    have h2 := of_decide_eq_false hb.2
    by_cases hc : ((x.top == a.top) || (cmpQ x.h a.h != wantW x.top)) = true
    · rw [if_neg (by simp), if_pos hc] at h; cases h
    · rw [Bool.not_eq_true, Bool.or_eq_false_iff] at hc
      exact ⟨hb.1, by omega, hk, by simpa using hc.1, by simpa using hc.2⟩
theorem Snd.one {L : List Wt} (h : Snd L) {i : Nat} (hi : i < L.length) : 0 ≤ L[i].t ∧ L[i].t ≤ L[i].l ∧ L[i].l ≤ 1048576 ∧ chkR L[i].neg L[i].A L[i].D = 0 := by
  have h1 := h i hi
  have hb : badW L[i].t L[i].l = false ∧ chkR L[i].neg L[i].A L[i].D = 0 := by
    rcases hp : prevW L i with _ | a
    · rw [hp] at h1; exact errN_facts h1
    · rw [hp] at h1; have := errS_facts h1; exact ⟨this.1, this.2.2.1⟩
  obtain ⟨d1, d2, d3⟩ := badW_false hb.1
  have := of_decide_eq_false d1
  have := of_decide_eq_false d2
  have := of_decide_eq_false d3
  exact ⟨by omega, by omega, by omega, hb.2⟩
theorem Snd.two {L : List Wt} (h : Snd L) {i : Nat} (hi : i + 1 < L.length) : L[i].l < L[i + 1].t ∧ L[i + 1].top ≠ L[i].top ∧ cmpQ L[i + 1].h L[i].h = wantW L[i + 1].top := by
  have h1 := h (i + 1) hi
  have hp : prevW L (i + 1) = some L[i] := by unfold prevW; rw [if_neg (by omega), Nat.add_sub_cancel, List.getElem?_eq_getElem (by omega)]
  rw [hp] at h1
  have := errS_facts h1
  exact ⟨this.2.1, this.2.2.2⟩
theorem Snd.mono {L : List Wt} (h : Snd L) : ∀ (m i : Nat) (hi : i + m < L.length), L[i].l ≤ L[i + m].l ∧ L[i].t ≤ L[i + m].t := by
  intro m
  induction m with
  | zero => intro i hi; exact ⟨Int.le_refl _, Int.le_refl _⟩
  | succ m ih =>
    intro i hi
    have a := ih i (by omega)
    have b := h.two (i := i + m) (by omega)
    have c := h.one (i := i + m) (by omega)
    have d := h.one (i := i + m + 1) (by omega)
    simp only [Nat.add_assoc] at *
    omega
theorem Snd.le {L : List Wt} (h : Snd L) {i j : Nat} (hij : i ≤ j) (hj : j < L.length) : L[i].l ≤ L[j].l ∧ L[i].t ≤ L[j].t := by
  obtain ⟨m, rfl⟩ := Nat.exists_eq_add_of_le hij
  exact h.mono m i hj
theorem Snd.lt {L : List Wt} (h : Snd L) {i j : Nat} (hij : i < j) (hj : j < L.length) : L[i].l < L[j].t := by
  have a := h.two (i := i) (by omega)
  have b := h.le (i := i + 1) (j := j) (by omega) hj
  omega
/-- The curve of sound waters at a tick, from one of them on: the height, or an error. -/
def atF (t : Int) : Option Wt → List Wt → Rat × Int
  | _, [] => (0, 6)
  | none, y :: L => if y.t ≤ t ∧ t ≤ y.l then (y.h, 0) else atF t (some y) L
  | some x, y :: L => if y.t ≤ t ∧ t ≤ y.l then (y.h, 0) else if x.l < t ∧ t < y.t then
      (if StepsFit x.h y.h (((t - x.l : Int) : Rat) / ((y.t - x.l : Int) : Rat)) then (curveQ x.h y.h (((t - x.l : Int) : Rat) / ((y.t - x.l : Int) : Rat)), 0) else (0, 3)) else atF t (some y) L
def atQ (L : List Wt) (t : Int) : Rat × Int := atF t none L
def curW (x y : Wt) (t : Int) : Rat × Int := if StepsFit x.h y.h (((t - x.l : Int) : Rat) / ((y.t - x.l : Int) : Rat)) then (curveQ x.h y.h (((t - x.l : Int) : Rat) / ((y.t - x.l : Int) : Rat)), 0) else (0, 3)
theorem atF_on {t : Int} {a : Option Wt} {y : Wt} {L : List Wt} (h : y.t ≤ t ∧ t ≤ y.l) : atF t a (y :: L) = (y.h, 0) := by
  cases a <;> unfold atF <;> rw [if_pos h]
theorem atF_in {t : Int} {x y : Wt} {L : List Wt} (h : ¬ (y.t ≤ t ∧ t ≤ y.l)) (h2 : x.l < t ∧ t < y.t) : atF t (some x) (y :: L) = curW x y t := by
  unfold atF; rw [if_neg h, if_pos h2]; rfl
theorem atF_off {t : Int} {a : Option Wt} {y : Wt} {L : List Wt} (h : ¬ (y.t ≤ t ∧ t ≤ y.l)) (h2 : ∀ x, a = some x → ¬ (x.l < t ∧ t < y.t)) : atF t a (y :: L) = atF t (some y) L := by
  cases a with
  | none => show (if _ then _ else _) = _; rw [if_neg h]
  | some x => show (if _ then _ else if _ then _ else _) = _; rw [if_neg h, if_neg (h2 x rfl)]
theorem prevW_succ {L : List Wt} {k : Nat} (h : k < L.length) : prevW L (k + 1) = some L[k] := by unfold prevW; rw [if_neg (by omega), Nat.add_sub_cancel, List.getElem?_eq_getElem h]
theorem prevW_some {L : List Wt} {k : Nat} {x : Wt} (h : k < L.length) (hp : prevW L k = some x) : ∃ h2 : k - 1 < L.length, 0 < k ∧ x = L[k - 1] := by
  unfold prevW at hp
  by_cases h0 : k = 0
  · rw [if_pos h0] at hp; cases hp
  · rw [if_neg h0, List.getElem?_eq_getElem (by omega)] at hp
    exact ⟨by omega, by omega, by injection hp with e; exact e.symm⟩
/-- From water k on, where the tick lies behind it: it goes on. -/
theorem atF_step {L : List Wt} {t : Int} {k : Nat} (hs : Snd L) (h : k < L.length) (hl : L[k].l < t) : atF t (prevW L k) (L.drop k) = atF t (prevW L (k + 1)) (L.drop (k + 1)) := by
  rw [List.drop_eq_getElem_cons h, prevW_succ h]
  have h1 := hs.one h
  exact atF_off (by omega) (fun x _ => by omega)
theorem atF_to {L : List Wt} {t : Int} (hs : Snd L) : ∀ (k : Nat), k ≤ L.length → (∀ j, ∀ h : j < L.length, j < k → L[j].l < t) → atQ L t = atF t (prevW L k) (L.drop k) := by
  intro k
  induction k with
  | zero => intro _ _; simp [atQ, prevW]
  | succ k ih =>
    intro hk hb
    rw [ih (by omega) (fun j h hj => hb j h (by omega))]
    exact atF_step hs (by omega) (hb k (by omega) (by omega))
theorem atQ_on {L : List Wt} {t : Int} {k : Nat} (hs : Snd L) (h : k < L.length) (h1 : L[k].t ≤ t) (h2 : t ≤ L[k].l) : atQ L t = (L[k].h, 0) := by
  rw [atF_to hs k (by omega) (fun j hj hjk => by have := hs.lt hjk h; omega), List.drop_eq_getElem_cons h]
  exact atF_on ⟨h1, h2⟩
theorem atQ_in {L : List Wt} {t : Int} {k : Nat} (hs : Snd L) (h : k + 1 < L.length) (h1 : L[k].l < t) (h2 : t < L[k + 1].t) : atQ L t = curW L[k] L[k + 1] t := by
  rw [atF_to hs (k + 1) (by omega) (fun j hj hjk => by have := (hs.le (i := j) (j := k) (by omega) (by omega)).1; omega), List.drop_eq_getElem_cons h, prevW_succ (by omega)]
  exact atF_in (by omega) ⟨h1, h2⟩
theorem atF_low {L : List Wt} {t : Int} (hs : Snd L) (h0 : ∀ h : 0 < L.length, t < L[0].t) : ∀ (m k : Nat), k + m = L.length → atF t (prevW L k) (L.drop k) = (0, 6) := by
  intro m
  induction m with
  | zero => intro k hk; rw [List.drop_of_length_le (by omega)]; cases prevW L k <;> rfl
  | succ m ih =>
    intro k hk
    have hk1 : k < L.length := by omega
    have h1 := h0 (by omega)
    have h2 := (hs.le (i := 0) (j := k) (by omega) hk1).2
    rw [List.drop_eq_getElem_cons hk1, atF_off (by omega) (fun x hx => ?_), ← prevW_succ hk1]
    · exact ih (k + 1) (by omega)
    · obtain ⟨hk2, hk3, rfl⟩ := prevW_some hk1 hx
      have h3 := (hs.le (i := 0) (j := k - 1) (by omega) hk2).2
      have h4 := hs.one hk2
      omega
theorem atQ_low {L : List Wt} {t : Int} (hs : Snd L) (h0 : ∀ h : 0 < L.length, t < L[0].t) : atQ L t = (0, 6) := by
  simpa [atQ, prevW] using atF_low hs h0 L.length 0 (by omega)
theorem atQ_high {L : List Wt} {t : Int} (hs : Snd L) (h : L.length - 1 < L.length) (h0 : L[L.length - 1].l < t) : atQ L t = (0, 6) := by
  rw [atF_to hs L.length (Nat.le_refl _) (fun j hj _ => by have := (hs.le (i := j) (j := L.length - 1) (by omega) h).1; omega), List.drop_of_length_le (Nat.le_refl _)]
  cases prevW L L.length <;> rfl
end Go.Proofs.Ytcibbnphkpaifaa

