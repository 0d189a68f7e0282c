/- Chapter 20: the plain law of medians. No program walked. -/
import Derived.Test.YtlgnidjkilbdfaaFn
namespace Go.Proofs.Ytlgnidjkilbdfaa
open Ieee Go
set_option linter.unusedVariables false
set_option maxRecDepth 100000
def negF (x : Nat) : Nat := Op.negFloat .f64 x
theorem neg_word (s : Bool) {R : Nat} (h : R < 2 ^ 63) : negF (double.word s R) = double.word (!s) R := by
  have e : ∀ x, negF x = x ^^^ 2 ^ 63 := fun _ => rfl
  cases s
  · rw [e, word_false, Bool.not_false, word_true h, xor_top h]; omega
  · rw [e, word_true h, Bool.not_true, word_false, Nat.add_comm (2 ^ 63) R, ← xor_top h, Nat.xor_assoc, Nat.xor_self, Nat.xor_zero]
theorem word_parts (s : Bool) {R : Nat} (h : R < 2 ^ 63) : negB (double.word s R) = s ∧ double.word s R % 2 ^ 63 = R := by
  unfold negB
  cases s
  · rw [word_false]; exact ⟨decide_eq_false (by omega), by omega⟩
  · rw [word_true h]; exact ⟨decide_eq_true (by omega), by omega⟩
theorem one_word (s : Bool) {R : Nat} (h : R < 2047 * 2 ^ 52) : oneB (double.word s R) = true := by
  unfold oneB; rw [read_at s h]
theorem val_word (s : Bool) {R : Nat} (h : R < 2 ^ 63) : valW (double.word s R) = sv s R := by
  obtain ⟨h1, h2⟩ := word_parts s h
  unfold valW
  rw [h1, h2]
  rfl
theorem rk_word (s : Bool) {R : Nat} (h : R < 2 ^ 63) : rkW (double.word s R) = if s then -(R : Int) - 1 else R := by
  obtain ⟨h1, h2⟩ := word_parts s h
  unfold rkW
  rw [h1, h2]
/-- A finite height is a sign and a rung. -/
theorem one_form {x : Nat} (hx : x < 2 ^ 64) (h : oneB x = true) : ∃ s R, R < 2047 * 2 ^ 52 ∧ x = double.word s R := ⟨_, _, one_rung h, (word_of hx).symm⟩
theorem oneB_neg {x : Nat} (hx : x < 2 ^ 64) : oneB (negF x) = oneB x ∧ negF x < 2 ^ 64 := by
  have h63 : x % 2 ^ 63 < 2 ^ 63 := Nat.mod_lt _ (by decide)
  have e := neg_word (negB x) h63
  rw [word_of hx] at e
  refine ⟨?_, by rw [e]; exact word_lt _ h63⟩
  have hb : double.binade = 2 ^ 52 := rfl
  have hi : double.infRung = 2047 * 2 ^ 52 := by decide
  have hs : double.signWeight = 2 ^ 63 := by decide
  have key : ∀ y, y < 2 ^ 64 → oneB y = decide (y % 2 ^ 63 < 2047 * 2 ^ 52) := by
    intro y hy
    cases h : oneB y
    · symm
      rw [decide_eq_false_iff_not]
      intro hlt
      have := one_word (negB y) hlt
      rw [word_of hy, h] at this
      cases this
    · rw [decide_eq_true (one_rung h)]
  rw [key _ hx, key _ (by rw [e]; exact word_lt _ h63), e, (word_parts _ h63).2]
theorem rk_neg {x : Nat} (hx : x < 2 ^ 64) : rkW (negF x) = -rkW x - 1 := by
  have h63 : x % 2 ^ 63 < 2 ^ 63 := Nat.mod_lt _ (by decide)
  have e := neg_word (negB x) h63
  rw [word_of hx] at e
  rw [e, rk_word _ h63]
  unfold rkW
  cases negB x <;> simp <;> omega
theorem w64_neg {L : List Nat} (h : W64 L) : W64 (L.map negF) := by
  intro x hx
  obtain ⟨y, hy, rfl⟩ := List.mem_map.1 hx
  exact (oneB_neg (h y hy)).2
theorem srt_neg {L : List Nat} (h : W64 L) : srt (L.map negF) = (srt L).reverse.map negF := by
  symm
  refine srt_eq (w64_neg h) ?_ ?_
  · have e : (L.map negF).filter oneB = (L.filter oneB).map negF := by
      rw [List.filter_map]
      congr 1
      exact List.filter_congr fun x hx => (oneB_neg (h x hx)).1
    rw [e]
    exact (((srt L).reverse_perm).trans (srt_perm L)).map negF
  · rw [List.pairwise_map, List.pairwise_reverse]
    refine (srt_sorted L).imp_of_mem fun {a b} ha hb hab => ?_
    rw [rk_neg (srt_w64 h a ha), rk_neg (srt_w64 h b hb)]
    omega
theorem srt_back {L : List Nat} (h : W64 L) : srt L.reverse = srt L := srt_congr h L.reverse_perm
theorem rk_val {x y : Nat} (h : rkW x ≤ rkW y) : valW x ≤ valW y := by
  unfold rkW at h
  unfold valW
  generalize x % 2 ^ 63 = X at *
  generalize y % 2 ^ 63 = Y at *
  cases hx : negB x <;> cases hy : negB y <;> rw [hx, hy] at h <;> simp only [if_true, Bool.false_eq_true, if_false] at h ⊢
  · have := valR_mono (A := X) (B := Y) (by omega); omega
  · omega
  · omega
  · have := valR_mono (A := Y) (B := X) (by omega); omega
theorem sv_abs (s : Bool) (R : Nat) : (sv s R).natAbs = valR R := by
  unfold sv
  cases s <;> simp
theorem valR_zero : valR 0 = 0 := valR_low (by decide)
theorem sum_top (s t : Bool) {R T : Nat} (h1 : R < 2047 * 2 ^ 52) (h2 : T < 2047 * 2 ^ 52) : ((sv s (hR R) + sv t (hR T)).natAbs : Int) ≤ valR (2047 * 2 ^ 52 - 1) := by
  have a := valR_mono (hR_le h1)
  have b := valR_mono (hR_le h2)
  have c := valR_dbl (R := 2046 * 2 ^ 52 - 1) (by decide)
  rw [show 2046 * 2 ^ 52 - 1 + 2 ^ 52 = 2047 * 2 ^ 52 - 1 by decide] at c
  have d := sv_abs s (hR R)
  have e := sv_abs t (hR T)
  rw [c]
  generalize valR (2046 * 2 ^ 52 - 1) = V at *
  omega
def sgn (s t : Bool) (R T : Nat) : Bool := if tot s t R T = 0 then s && t else decide (tot s t R T < 0)
theorem hR_fin {R : Nat} (h : R < 2047 * 2 ^ 52) : hR R < 2047 * 2 ^ 52 := by have := hR_le h; omega
theorem sum_fin (s t : Bool) {R T : Nat} (h1 : R < 2047 * 2 ^ 52) (h2 : T < 2047 * 2 ^ 52) : sumR s t (hR R) (hR T) < 2047 * 2 ^ 52 := by
  have := (sumR_between (s := s) (t := t) (R := hR R) (T := hR T) (A := 0) (B := 2047 * 2 ^ 52 - 1) (by decide) (by rw [valR_zero]; omega) (sum_top s t h1 h2)).2
  omega
/-- The median of two words. -/
theorem mid_word (s t : Bool) {R T : Nat} (h1 : R < 2047 * 2 ^ 52) (h2 : T < 2047 * 2 ^ 52) :
    plus (half (double.word s R)) (half (double.word t T)) = double.word (sgn s t (hR R) (hR T)) (sumR s t (hR R) (hR T)) := by
  unfold half
  rw [div_two s h1, div_two t h2, Option.getD_some, Option.getD_some]
  unfold plus
  rw [add_word s t (hR_fin h1) (hR_fin h2), Option.getD_some]
  rfl
theorem mid_between (s t : Bool) {R T : Nat} (h1 : R < 2047 * 2 ^ 52) (h2 : T < 2047 * 2 ^ 52) (e1 : R = 0 ∨ 2 ^ 53 ≤ R) (e2 : T = 0 ∨ 2 ^ 53 ≤ T) (hle : sv s R ≤ sv t T) :
    sv s R ≤ sv (sgn s t (hR R) (hR T)) (sumR s t (hR R) (hR T)) ∧ sv (sgn s t (hR R) (hR T)) (sumR s t (hR R) (hR T)) ≤ sv t T := by
  have x1 := hR_exact h1 e1
  have x2 := hR_exact h2 e2
  have hb := fun A B (hB : B < 2047 * 2 ^ 52) => sumR_between (s := s) (t := t) (R := hR R) (T := hR T) (A := A) (B := B) hB
  obtain ⟨z1, z2⟩ := tot_sign s t (hR R) (hR T)
  have htop := sum_top s t h1 h2
  have d1 : 2 * sv s (hR R) = sv s R := by unfold sv; rw [← x1]; cases s <;> simp <;> omega
  have d2 : 2 * sv t (hR T) = sv t T := by unfold sv; rw [← x2]; cases t <;> simp <;> omega
  have q1 := sv_abs s R
  have q2 := sv_abs t T
  generalize sumR s t (hR R) (hR T) = K at *
  generalize hsg : sgn s t (hR R) (hR T) = sg at *
  unfold sgn at hsg
  generalize tot s t (hR R) (hR T) = to at *
  generalize sv s (hR R) = a at *
  generalize sv t (hR T) = b at *
  generalize sv s R = va at *
  generalize sv t T = vb at *
  have hK : ∀ A B : Nat, A ≤ K → K ≤ B → (valR A : Int) ≤ valR K ∧ (valR K : Int) ≤ valR B := fun A B h1 h2 => ⟨Int.ofNat_le.2 (valR_mono h1), Int.ofNat_le.2 (valR_mono h2)⟩
  have hlt : (2047 * 2 ^ 52 - 1 : Nat) < 2047 * 2 ^ 52 := by decide
  generalize (2047 * 2 ^ 52 - 1 : Nat) = top at *
  rcases Int.lt_trichotomy (a + b) 0 with h | h | h
  · rw [if_neg (by omega), decide_eq_true (z2.2 h)] at hsg
    subst hsg
    have hA := (hb 0 R h1 (by rw [valR_zero]; omega) (by omega)).2
    have hA' := hK 0 R (Nat.zero_le _) hA
    unfold sv
    simp only [if_true]
    refine ⟨by omega, ?_⟩
    rcases Int.lt_or_le 0 vb with hv | hv
    · have := hK 0 K (Nat.zero_le _) (Nat.le_refl _)
      omega
    · have hB := (hb T top hlt (by omega) htop).1
      have := hK T K hB (Nat.le_refl _)
      omega
  · have hA := (hb 0 0 (by decide) (by rw [valR_zero]; omega) (by rw [valR_zero]; omega)).2
    obtain rfl : K = 0 := by omega
    unfold sv
    rw [valR_zero]
    cases sg <;> simp <;> omega
  · rw [if_neg (by omega), decide_eq_false (by omega)] at hsg
    subst hsg
    have hA := (hb 0 T h2 (by rw [valR_zero]; omega) (by omega)).2
    have hA' := hK 0 T (Nat.zero_le _) hA
    unfold sv
    simp only [Bool.false_eq_true, if_false]
    refine ⟨?_, by omega⟩
    rcases Int.lt_or_le va 0 with hv | hv
    · have := hK 0 K (Nat.zero_le _) (Nat.le_refl _)
      omega
    · have hB := (hb R top hlt (by omega) htop).1
      have := hK R K hB (Nat.le_refl _)
      omega
/-- The negatives' median of two words. -/
theorem mid_neg (s t : Bool) {R T : Nat} (h1 : R < 2047 * 2 ^ 52) (h2 : T < 2047 * 2 ^ 52) :
    valW (plus (half (double.word (!t) T)) (half (double.word (!s) R))) = -valW (plus (half (double.word s R)) (half (double.word t T))) ∧
    plus (half (double.word (!t) T)) (half (double.word (!s) R)) < 2 ^ 64 ∧ oneB (plus (half (double.word (!t) T)) (half (double.word (!s) R))) = true := by
  have hK := sum_fin s t h1 h2
  rw [mid_word s t h1 h2, mid_word (!t) (!s) h2 h1, sumR_neg]
  have hsv : ∀ R, sv (!true) R = -sv true R ∧ sv (!false) R = -sv false R := fun R => by unfold sv; simp
  refine ⟨?_, word_lt _ (by omega), one_word _ hK⟩
  rw [val_word _ (by omega), val_word _ (by omega)]
  unfold sgn
  rw [tot_neg]
  by_cases h0 : tot s t (hR R) (hR T) = 0
  · obtain ⟨z1, z2⟩ := tot_sign s t (hR R) (hR T)
    have hz := z1.1 h0
    have := (sumR_between (s := s) (t := t) (R := hR R) (T := hR T) (A := 0) (B := 0) (by decide) (by rw [valR_zero]; omega) (by rw [valR_zero]; omega)).2
    rw [show sumR s t (hR R) (hR T) = 0 by omega]
    have hs0 : ∀ b, sv b 0 = 0 := fun b => by unfold sv; rw [valR_zero]; cases b <;> rfl
    rw [hs0, hs0]; rfl
  · rw [if_neg (by omega), if_neg h0]
    generalize tot s t (hR R) (hR T) = to at *
    rcases Int.lt_or_le to 0 with h | h
    · rw [decide_eq_false (by omega), decide_eq_true h]; exact (hsv _).1
    · rw [decide_eq_true (by omega), decide_eq_false (by omega)]; exact (hsv _).2
/-- The median of a list is a finite height. -/
theorem med_one {S : List Nat} (hS : ∀ k, k < S.length → S.getD k 0 < 2 ^ 64 ∧ oneB (S.getD k 0) = true) : medL S < 2 ^ 64 ∧ oneB (medL S) = true := by
  unfold medL
  by_cases h0 : S.length = 0
  · rw [if_pos h0]; decide +kernel
  · rw [if_neg h0]
    by_cases h1 : S.length % 2 = 1
    · rw [if_pos h1]; exact hS _ (by omega)
    · rw [if_neg h1]
      obtain ⟨a1, a2⟩ := hS (S.length / 2 - 1) (by omega)
      obtain ⟨b1, b2⟩ := hS (S.length / 2) (by omega)
      obtain ⟨s, R, hR', e1⟩ := one_form a1 a2
      obtain ⟨t, T, hT', e2⟩ := one_form b1 b2
      rw [e1, e2, mid_word s t hR' hT']
      have := sum_fin s t hR' hT'
      exact ⟨word_lt _ (by omega), one_word _ this⟩
theorem srt_ok {L : List Nat} (h : W64 L) : ∀ k, k < (srt L).length → (srt L).getD k 0 < 2 ^ 64 ∧ oneB ((srt L).getD k 0) = true := fun k hk => ⟨h _ (srt_mem.1 (getD_mem hk)).1, (srt_mem.1 (getD_mem hk)).2⟩
theorem val_negF {x : Nat} (hx : x < 2 ^ 64) : valW (negF x) = -valW x := by
  have h63 : x % 2 ^ 63 < 2 ^ 63 := Nat.mod_lt _ (by decide)
  have e := neg_word (negB x) h63
  rw [word_of hx] at e
  rw [e, val_word _ h63]
  unfold valW sv
  cases negB x <;> simp
theorem getD_revneg {S : List Nat} {k : Nat} (hk : k < S.length) : ((S.reverse.map negF).getD k 0) = negF (S.getD (S.length - 1 - k) 0) := by
  rw [List.getD_eq_getElem?_getD, List.getElem?_map, List.getElem?_reverse hk, List.getElem?_eq_getElem (by omega), List.getD_eq_getElem?_getD, List.getElem?_eq_getElem (by omega)]
  rfl
/-- The negatives' median has the negative's value. -/
theorem med_neg {L : List Nat} (h : W64 L) : valW (medL (srt (L.map negF))) = -valW (medL (srt L)) := by
  rw [srt_neg h]
  have hS := srt_ok h
  generalize srt L = S at *
  unfold medL
  rw [List.length_map, List.length_reverse]
  by_cases h0 : S.length = 0
  · rw [if_pos h0, if_pos h0]; decide +kernel
  · rw [if_neg h0, if_neg h0]
    by_cases h1 : S.length % 2 = 1
    · rw [if_pos h1, if_pos h1, getD_revneg (by omega), show S.length - 1 - S.length / 2 = S.length / 2 by omega]
      exact val_negF (hS _ (by omega)).1
    · rw [if_neg h1, if_neg h1, getD_revneg (by omega), getD_revneg (by omega), show S.length - 1 - (S.length / 2 - 1) = S.length / 2 by omega, show S.length - 1 - S.length / 2 = S.length / 2 - 1 by omega]
      obtain ⟨a1, a2⟩ := hS (S.length / 2 - 1) (by omega)
      obtain ⟨b1, b2⟩ := hS (S.length / 2) (by omega)
      obtain ⟨s, R, hR', e1⟩ := one_form a1 a2
      obtain ⟨t, T, hT', e2⟩ := one_form b1 b2
      rw [e1, e2, neg_word s (by omega), neg_word t (by omega)]
      exact (mid_neg s t hR' hT').1
/-- What is not tiny is nought, or no less than the least that is halved exactly. -/
theorem not_tiny {x : Nat} (hx : x < 2 ^ 64) (h : oneB x = true) (ht : tinyB x = false) {s : Bool} {R : Nat} (hR : R < 2047 * 2 ^ 52) (e : x = double.word s R) : R = 0 ∨ 2 ^ 53 ≤ R := by
  have f0 : Fin64 0 0 := by have := fin_word (neg := false) (R := 0) (by decide); rwa [word_false, valR_zero] at this
  have f1 : Fin64 9007199254740992 (valR (2 ^ 53)) := by
    have h1 := fin_word (neg := false) (R := 2 ^ 53) (by decide)
    rw [show double.word false (2 ^ 53) = 9007199254740992 by decide, if_neg (by decide)] at h1
    exact h1
  have f2 : Fin64 9232379236109516800 (-(valR (2 ^ 53) : Int)) := by
    have h1 := fin_word (neg := true) (R := 2 ^ 53) (by decide)
    rw [show double.word true (2 ^ 53) = 9232379236109516800 by decide, if_pos rfl] at h1
    exact h1
  have fx := fin_one hx h
  rw [e, val_word s (by omega)] at fx
  rcases Nat.eq_zero_or_pos R with h0 | h0
  · exact .inl h0
  · right
    rcases Nat.lt_or_ge R (2 ^ 53) with hlt | hge
    · exfalso
      have a := valR_lt hlt
      have b := valR_lt h0
      rw [valR_zero] at b
      have g0 : FloatKind.f64.format.order x 0 = some (compare (sv s R) 0) := by rw [e]; exact order_fin fx f0
      have g1 : FloatKind.f64.format.order x 9007199254740992 = some (compare (sv s R) (valR (2 ^ 53))) := by rw [e]; exact order_fin fx f1
      have g2 : FloatKind.f64.format.order x 9232379236109516800 = some (compare (sv s R) (-(valR (2 ^ 53) : Int))) := by rw [e]; exact order_fin fx f2
      have hsv := sv_abs s R
      unfold tinyB fltB fgtB at ht
      rw [g0, g1, g2, cmp_gt (show -(valR (2 ^ 53) : Int) < sv s R by omega), cmp_lt (show sv s R < (valR (2 ^ 53) : Int) by omega)] at ht
      rcases Int.lt_trichotomy (sv s R) 0 with h1 | h1 | h1
      · rw [cmp_lt h1] at ht; cases ht
      · omega
      · rw [cmp_gt h1] at ht; cases ht
    · exact hge
/-- The median lies between two of the list. -/
theorem med_between {L : List Nat} (h : W64 L) (ht : L.any tinyB = false) (h0 : 0 < (srt L).length) : ∃ a b, a ∈ srt L ∧ b ∈ srt L ∧ valW a ≤ valW (medL (srt L)) ∧ valW (medL (srt L)) ≤ valW b := by
  have hS := srt_ok h
  have hso := srt_sorted L
  have hm : ∀ x ∈ srt L, tinyB x = false := fun x hx => by
    cases hb : tinyB x
    · rfl
    · rw [List.any_eq_true.2 ⟨x, (srt_mem.1 hx).1, hb⟩] at ht; cases ht
  generalize srt L = S at *
  unfold medL
  rw [if_neg (by omega)]
  by_cases h1 : S.length % 2 = 1
  · rw [if_pos h1]
    exact ⟨_, _, getD_mem (k := S.length / 2) (by omega), getD_mem (k := S.length / 2) (by omega), Int.le_refl _, Int.le_refl _⟩
  · rw [if_neg h1]
    obtain ⟨a1, a2⟩ := hS (S.length / 2 - 1) (by omega)
    obtain ⟨b1, b2⟩ := hS (S.length / 2) (by omega)
    have am : S.getD (S.length / 2 - 1) 0 ∈ S := getD_mem (by omega)
    have bm : S.getD (S.length / 2) 0 ∈ S := getD_mem (by omega)
    have hab : rkW (S.getD (S.length / 2 - 1) 0) ≤ rkW (S.getD (S.length / 2) 0) := by
      rw [List.pairwise_iff_getElem] at hso
      have := hso (S.length / 2 - 1) (S.length / 2) (by omega) (by omega) (by omega)
      rw [List.getD_eq_getElem?_getD, List.getElem?_eq_getElem (by omega), List.getD_eq_getElem?_getD, List.getElem?_eq_getElem (by omega)]
      exact this
    refine ⟨_, _, am, bm, ?_⟩
    have hv := rk_val hab
    have ta := hm _ am
    have tb := hm _ bm
    generalize S.getD (S.length / 2 - 1) 0 = a at *
    generalize S.getD (S.length / 2) 0 = b at *
    obtain ⟨s, R, hR', e1⟩ := one_form a1 a2
    obtain ⟨t, T, hT', e2⟩ := one_form b1 b2
    have n1 := not_tiny a1 a2 ta hR' e1
    have n2 := not_tiny b1 b2 tb hT' e2
    subst e1 e2
    rw [val_word s (by omega), val_word t (by omega)] at hv
    rw [mid_word s t hR' hT', val_word s (by omega), val_word t (by omega), val_word _ (by have := sum_fin s t hR' hT'; omega)]
    exact mid_between s t hR' hT' n1 n2 hv
/-- What the law's own least and greatest are. -/
structure MInv (s : MM) (F : List Nat) : Prop where
  n : s.n = F.length
  mem : F ≠ [] → s.lo ∈ F ∧ s.hi ∈ F
  le : ∀ x ∈ F, valW s.lo ≤ valW x ∧ valW x ≤ valW s.hi
theorem MInv.to {L : List Nat} (h : W64 L) : ∀ k, k ≤ L.length → MInv (mmTo L k) ((L.take k).filter oneB)
  | 0, _ => ⟨rfl, fun h => absurd rfl h, fun x hx => by simp at hx⟩
  | k + 1, hk => by
    have ih := MInv.to h k (by omega)
    rw [mmTo_succ (by omega), List.take_succ_eq_append_getElem (by omega), List.filter_append]
    have hx : L.getD k 0 = L[k] := by rw [List.getD_eq_getElem?_getD, List.getElem?_eq_getElem (by omega)]; rfl
    have hx64 : L[k] < 2 ^ 64 := h _ (List.getElem_mem _)
    have hF : ∀ y ∈ (L.take k).filter oneB, y < 2 ^ 64 ∧ oneB y = true := fun y hy => by
      rw [List.mem_filter] at hy
      exact ⟨h y (List.mem_of_mem_take hy.1), hy.2⟩
    rw [hx]
    generalize L[k] = x at *
    generalize mmTo L k = s at *
    generalize (L.take k).filter oneB = F at *
    unfold stepM
    cases h1 : oneB x
    · rw [if_neg (by simp), List.filter_cons_of_neg (by rw [h1]; simp), List.filter_nil, List.append_nil]
      exact ih
    · rw [if_pos rfl, List.filter_cons_of_pos h1, List.filter_nil]
      have hn := ih.n
      by_cases h0 : s.n = 0
      · rw [if_pos (.inl h0), if_pos (.inl h0)]
        obtain rfl : F = [] := List.eq_nil_of_length_eq_zero (by omega)
        refine ⟨by simp; omega, fun _ => by simp, fun y hy => ?_⟩
        simp at hy
        subst hy
        exact ⟨Int.le_refl _, Int.le_refl _⟩
      · have hne : F ≠ [] := by rintro rfl; exact h0 (by simpa using hn)
        obtain ⟨m1, m2⟩ := ih.mem hne
        obtain ⟨l1, l2⟩ := hF _ m1
        obtain ⟨g1, g2⟩ := hF _ m2
        have o1 : FloatKind.f64.format.order x s.lo = some (compare (valW x) (valW s.lo)) := order_fin (fin_one hx64 h1) (fin_one l1 l2)
        have o2 : FloatKind.f64.format.order x s.hi = some (compare (valW x) (valW s.hi)) := order_fin (fin_one hx64 h1) (fin_one g1 g2)
        have q1 : fltB x s.lo = decide (valW x < valW s.lo) := by
          unfold fltB
          rw [o1]
          rcases Int.lt_trichotomy (valW x) (valW s.lo) with h | h | h
          · rw [cmp_lt h, decide_eq_true h]; rfl
          · rw [h, cmp_eq]; simp
          · rw [cmp_gt h, decide_eq_false (by omega)]; rfl
        have q2 : fgtB x s.hi = decide (valW s.hi < valW x) := by
          unfold fgtB
          rw [o2]
          rcases Int.lt_trichotomy (valW x) (valW s.hi) with h | h | h
          · rw [cmp_lt h, decide_eq_false (by omega)]; rfl
          · rw [h, cmp_eq]; simp
          · rw [cmp_gt h, decide_eq_true h]; rfl
        simp only [h0, false_or, q1, q2, decide_eq_true_eq]
        refine ⟨by simp [hn], fun _ => ⟨?_, ?_⟩, fun y hy => ?_⟩
        · show (if valW x < valW s.lo then x else s.lo) ∈ F ++ [x]
          split
          · simp
          · simp [m1]
        · show (if valW s.hi < valW x then x else s.hi) ∈ F ++ [x]
          split
          · simp
          · simp [m2]
        · show valW (if valW x < valW s.lo then x else s.lo) ≤ valW y ∧ valW y ≤ valW (if valW s.hi < valW x then x else s.hi)
          have hbo : valW s.lo ≤ valW s.hi := Int.le_trans (ih.le _ m1).1 (ih.le _ m1).2
          rw [List.mem_append, List.mem_singleton] at hy
          have hy2 : y = x ∨ (valW s.lo ≤ valW y ∧ valW y ≤ valW s.hi) := by
            rcases hy with hy | hy
            · exact .inr (ih.le y hy)
            · exact .inl hy
          rcases hy2 with rfl | ⟨y1, y2⟩ <;> split <;> split <;> omega
theorem fcmp {x y : Nat} (hx : x < 2 ^ 64) (hy : y < 2 ^ 64) (h1 : oneB x = true) (h2 : oneB y = true) : FloatKind.f64.format.order x y = some (compare (valW x) (valW y)) := order_fin (fin_one hx h1) (fin_one hy h2)
end Go.Proofs.Ytlgnidjkilbdfaa
