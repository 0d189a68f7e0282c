/- Chapter 20, texts joined: Chapter 20: the law's own words on heights: the least, the greatest, the tiny ones. Chapter 20: the plain law of medians. No program walked. Chapter 20: half by the product, sums and means. No program walked. Chapter 20: the reference's order of heights. Chapter 20: the reference's order of heights, the walk. Chapter 20: means and medians, the program's and the reference's. Chapter 20: two lists of samples that are one. Chapter 20: the reference's median; heights that are lent. Chapter 20: the plain law of Fill. No program walked. Opening a slice of heights, of samples that came in. -/
import Derived.Test.YtlgnidjkilbdfaaKc
import Derived.StillTailTactics
import Derived.BigRegion
import Derived.Test.YtlgnidjkilbdfaaOpen
import Derived.Deep.Slices
namespace Go.Proofs.Ytlgnidjkilbdfaa
open Go.RowKit Ieee
set_option linter.unusedVariables false
set_option maxRecDepth 100000
theorem still_tail {P : Program} {id : Nat} {Q : Exit → Act → World → Prop} {a : Act} {w : World} {l : List Oper} (n : Nat) (hm : P.follows .mixedOrders = true) (hB : Region.lexTailB .any l.toArray n = true)
    (h : wpStill P l.toArray w.drew (fun a' => wpList P l.toArray Q (l.drop n) a' w.drew) (l.take n) a) : (Code.region id l.toArray true).wp P Q a w := wp_region_still_tail n hm hB h
def fltB (x y : Nat) : Bool := FloatKind.f64.format.order x y == some .lt
def fgtB (x y : Nat) : Bool := FloatKind.f64.format.order x y == some .gt
structure MM where
  n : Nat
  lo : Nat
  hi : Nat
def stepM (s : MM) (x : Nat) : MM := if oneB x then ⟨s.n + 1, if s.n = 0 ∨ fltB x s.lo = true then x else s.lo, if s.n = 0 ∨ fgtB x s.hi = true then x else s.hi⟩ else s
def mmTo (L : List Nat) (k : Nat) : MM := (L.take k).foldl stepM ⟨0, 0, 0⟩
theorem mmTo_succ {L : List Nat} {k : Nat} (h : k < L.length) : mmTo L (k + 1) = stepM (mmTo L k) (L.getD k 0) := by
  unfold mmTo
  rw [List.take_succ_eq_append_getElem h, List.foldl_append, List.getD_eq_getElem?_getD, List.getElem?_eq_getElem h]
  rfl
theorem mmTo_n {L : List Nat} : ∀ {k : Nat}, k ≤ L.length → (mmTo L k).n ≤ k
  | 0, _ => Nat.le_refl _
  | k + 1, h => by
    rw [mmTo_succ (by omega)]
    have := mmTo_n (L := L) (k := k) (by omega)
    unfold stepM
    split
    · show (mmTo L k).n + 1 ≤ k + 1; omega
    · omega
set_option maxHeartbeats 3200000 in
theorem finite_law (p : Option Addr) (n c : Nat) (L : List Nat) (w : World) (hn : n = L.length) (hp : FL w p L) (hs : n ≤ 1000000) :
    Calls Try.prog 44 #[.slice p n c] w fun e w' => e = .returned (.tuple #[.int .i64 (mmTo L L.length).n, .float .f64 (mmTo L L.length).lo, .float .f64 (mmTo L L.length).hi]) ∧ ∃ q, w' = w.drewN q := by
  subst hn
  have HP := hide_ hp
  clear hp
  go_enter Try.func44, Try.ntmps44
  go_wp2
  go_loopw [5, 6, 7, 8] (fun vn vl vh i wr => ∃ k : Nat, k ≤ L.length ∧ i = .int .i64 k ∧ vn = .int .i64 (mmTo L k).n ∧ vl = .float .f64 (mmTo L k).lo ∧ vh = .float .f64 (mmTo L k).hi ∧ ∃ q, wr = w.drewN q) (fun _ _ _ i _ => L.length - (intOf i).toNat)
  case atStart => exact ⟨0, by omega, rfl, rfl, rfl, rfl, 0, rfl⟩
  case round =>
    obtain ⟨k, hk, rfl, rfl, rfl, rfl, q, rfl⟩ := hrel
    by_cases hlt : k < L.length
    · obtain ⟨g, o, rfl, hg, hc⟩ := HP.out.some_ (by omega)
      have c0 := hc k hlt
      have hmn := mmTo_n hk
      have HM := hide_ (mmTo_succ hlt)
      have i3 : (k : Int) < (L.length : Int) := by omega
      have i4 : (0 : Int) ≤ (k : Int) := by omega
      clear hc
      generalize mmTo L k = s at *
      obtain ⟨m, lo, hi⟩ := s
      simp only at hmn
      generalize L.getD k 0 = x at *
      cases hone : oneB x
      · obtain ⟨r, hr, hrun⟩ := run_nan (P := Try.prog) (w.drewN (q + 1)) .sub 24 x x (.inr (.inl rfl)) (sub_not hone)
        have hcmp : FloatKind.f64.format.order r 0 = none := nan_order hr 0
        have hst : mmTo L (k + 1) = ⟨m, lo, hi⟩ := by rw [HM.out]; unfold stepM; rw [hone]; rfl
        have HS := hide_ hst
        clear hr hone hst HM
        go_wp2
        (refine still_tail 8 (by kernel_rfl) (by kernel_rfl) ?_; simp only [List.take_succ_cons, List.take_zero, List.drop_succ_cons, List.drop_zero]; (repeat still_step); refine wpStill_nil ?_)
        go_wp2
        go_roundw
        case rel => exact ⟨k + 1, by omega, by go_num, by rw [HS.out], by rw [HS.out], by rw [HS.out], q + 2, rfl⟩
        case measure => simp [intOf]; omega
      · have hrun := fun wx => run_float_arith (P := Try.prog) wx .sub 24 .f64 x x 0 (sub_one hone)
        have hcmp : FloatKind.f64.format.order 0 0 = some .eq := by decide +kernel
        have hst : mmTo L (k + 1) = ⟨m + 1, if m = 0 ∨ fltB x lo = true then x else lo, if m = 0 ∨ fgtB x hi = true then x else hi⟩ := by rw [HM.out]; unfold stepM; rw [hone]; rfl
        have HS := hide_ hst
        clear hone hst HM
        by_cases hm0 : m = 0
        · subst hm0
          go_wp2
          go_quiet (fail)
          go_wp2
          go_roundw
          case rel => exact ⟨k + 1, by omega, by go_num, by rw [HS.out]; rfl, by rw [HS.out]; rfl, by rw [HS.out]; rfl, _, rfl⟩
          case measure => simp [intOf]; omega
        · have hm1 : ((m : Int) == 0) = false := by rw [beq_eq_false_iff_ne]; omega
          have hm2 : (0 : Int) ≤ (m : Int) ∧ (m : Int) ≤ 1000000 := by omega
          cases hl : fltB x lo <;> cases hh : fgtB x hi
          all_goals
            have HS2 := HS.out
            rw [hl, hh] at HS2
            simp only [hm0, false_or, Bool.false_eq_true, if_true, if_false] at HS2
            have HS3 := hide_ HS2
            unfold fltB at hl
            unfold fgtB at hh
            clear HS2 HS hm0
            go_wp2
            go_quiet (fail)
            go_wp2
            go_roundw
            case rel => exact ⟨k + 1, by omega, by go_num, by rw [HS3.out]; go_num, by rw [HS3.out], by rw [HS3.out], _, rfl⟩
            case measure => simp [intOf]; omega
    · obtain rfl : k = L.length := by omega
      have hge : ¬ L.length < L.length := by omega
      go_wp2
      exact bodyPost_ret (results_tmp3 rfl _ _ _) rfl ⟨rfl, _, rfl⟩
def tinyB (x : Nat) : Bool := (FloatKind.f64.format.order x 0 != some .eq) && fgtB x 9232379236109516800 && fltB x 9007199254740992
theorem any_take {L : List Nat} {k : Nat} {pd : Nat → Bool} (hk : k < L.length) : (L.take (k + 1)).any pd = ((L.take k).any pd || pd (L.getD k 0)) := by
  rw [List.take_succ_eq_append_getElem hk, List.any_append, List.getD_eq_getElem?_getD, List.getElem?_eq_getElem hk]
  simp
theorem any_of {L : List Nat} {k : Nat} {pd : Nat → Bool} (hk : k < L.length) (h : pd (L.getD k 0) = true) : L.any pd = true :=
  List.any_eq_true.2 ⟨_, getD_mem hk, h⟩
set_option maxHeartbeats 1600000 in
theorem tiny_law (p : Option Addr) (n c : Nat) (L : List Nat) (w : World) (hn : n = L.length) (hp : FL w p L) (hs : n ≤ 1000000) :
    Calls Try.prog 46 #[.slice p n c] w fun e w' => e = .returned (.bool (L.any tinyB)) ∧ w = w' := by
  subst hn
  have HP := hide_ hp
  clear hp
  go_enter Try.func46, Try.ntmps46
  go_wp2
  go_loop [3] (fun i => ∃ k : Nat, k ≤ L.length ∧ i = .int .i64 k ∧ (L.take k).any tinyB = false) (fun i => L.length - (intOf i).toNat)
  case atStart => exact ⟨0, by omega, rfl, by simp⟩
  case round =>
    obtain ⟨k, hk, rfl, ht⟩ := hrel
    by_cases hlt : k < L.length
    · obtain ⟨g, o, rfl, hg, hc⟩ := HP.out.some_ (by omega)
      have c0 := hc k hlt
      have HA := hide_ (any_of (pd := tinyB) hlt)
      have HN := hide_ (any_take (pd := tinyB) hlt)
      have HT := hide_ ht
      have i3 : (k : Int) < (L.length : Int) := by omega
      have i4 : (0 : Int) ≤ (k : Int) := by omega
      clear hc ht
      generalize hx : L.getD k 0 = x at *
      clear hx
      cases ht : tinyB x
      · have HB : Hid ((L.take (k + 1)).any tinyB = false) := hide_ (by rw [HN.out, HT.out, ht]; rfl)
        unfold tinyB fltB fgtB at ht
        generalize hz : (FloatKind.f64.format.order x 0 != some .eq) = z at *
        generalize hgt : (FloatKind.f64.format.order x 9232379236109516800 == some .gt) = gt at *
        generalize hl : (FloatKind.f64.format.order x 9007199254740992 == some .lt) = lt at *
        cases z <;> cases gt <;> cases lt
        all_goals first
          | (exact absurd ht (by decide))
          | (clear ht
             go_wp2
             go_round
             case rel => exact ⟨k + 1, by omega, by go_num, HB.out⟩
             case measure => simp [intOf]; omega)
      · have HB := hide_ (HA.out ht)
        unfold tinyB fltB fgtB at ht
        simp only [Bool.and_eq_true] at ht
        obtain ⟨⟨h1, h2⟩, h3⟩ := ht
        go_wp2
        go_ret
        exact ⟨by rw [HB.out]; rfl, rfl⟩
    · obtain rfl : k = L.length := by omega
      have hge : ¬ L.length < L.length := by omega
      have HT := hide_ ht
      clear ht
      go_wp2
      go_ret
      exact ⟨by have := HT.out; rw [List.take_length] at this; rw [this]; rfl, rfl⟩
end Go.Proofs.Ytlgnidjkilbdfaa

namespace Go.Proofs.Ytlgnidjkilbdfaa
open Ieee Go
set_option linter.unusedVariables false
set_option maxRecDepth 100000
def negF (x : Nat) : Nat := Op.negFloat .f64 x
theorem neg_word (s : Bool) {R : Nat} (h : R < 2 ^ 63) : negF (double.word s R) = double.word (!s) R := by
  have e : ∀ x, negF x = x ^^^ 2 ^ 63 := fun _ => rfl
  cases s
  · rw [e, word_false, Bool.not_false, word_true h, xor_top h]; omega
  · rw [e, word_true h, Bool.not_true, word_false, Nat.add_comm (2 ^ 63) R, ← xor_top h, Nat.xor_assoc, Nat.xor_self, Nat.xor_zero]
theorem word_parts (s : Bool) {R : Nat} (h : R < 2 ^ 63) : negB (double.word s R) = s ∧ double.word s R % 2 ^ 63 = R := by
  unfold negB
  cases s
  · rw [word_false]; exact ⟨decide_eq_false (by omega), by omega⟩
  · rw [word_true h]; exact ⟨decide_eq_true (by omega), by omega⟩
theorem one_word (s : Bool) {R : Nat} (h : R < 2047 * 2 ^ 52) : oneB (double.word s R) = true := by
  unfold oneB; rw [read_at s h]
theorem val_word (s : Bool) {R : Nat} (h : R < 2 ^ 63) : valW (double.word s R) = sv s R := by
  obtain ⟨h1, h2⟩ := word_parts s h
  unfold valW
  rw [h1, h2]
  rfl
theorem rk_word (s : Bool) {R : Nat} (h : R < 2 ^ 63) : rkW (double.word s R) = if s then -(R : Int) - 1 else R := by
  obtain ⟨h1, h2⟩ := word_parts s h
  unfold rkW
  rw [h1, h2]
/-- A finite height is a sign and a rung. -/
theorem one_form {x : Nat} (hx : x < 2 ^ 64) (h : oneB x = true) : ∃ s R, R < 2047 * 2 ^ 52 ∧ x = double.word s R := ⟨_, _, one_rung h, (word_of hx).symm⟩
theorem oneB_neg {x : Nat} (hx : x < 2 ^ 64) : oneB (negF x) = oneB x ∧ negF x < 2 ^ 64 := by
  have h63 : x % 2 ^ 63 < 2 ^ 63 := Nat.mod_lt _ (by decide)
  have e := neg_word (negB x) h63
  rw [word_of hx] at e
  refine ⟨?_, by rw [e]; exact word_lt _ h63⟩
  have hb : double.binade = 2 ^ 52 := rfl
  have hi : double.infRung = 2047 * 2 ^ 52 := by decide
  have hs : double.signWeight = 2 ^ 63 := by decide
  have key : ∀ y, y < 2 ^ 64 → oneB y = decide (y % 2 ^ 63 < 2047 * 2 ^ 52) := by
    intro y hy
    cases h : oneB y
    · symm
      rw [decide_eq_false_iff_not]
      intro hlt
      have := one_word (negB y) hlt
      rw [word_of hy, h] at this
      cases this
    · rw [decide_eq_true (one_rung h)]
  rw [key _ hx, key _ (by rw [e]; exact word_lt _ h63), e, (word_parts _ h63).2]
theorem rk_neg {x : Nat} (hx : x < 2 ^ 64) : rkW (negF x) = -rkW x - 1 := by
  have h63 : x % 2 ^ 63 < 2 ^ 63 := Nat.mod_lt _ (by decide)
  have e := neg_word (negB x) h63
  rw [word_of hx] at e
  rw [e, rk_word _ h63]
  unfold rkW
  cases negB x <;> simp <;> omega
theorem w64_neg {L : List Nat} (h : W64 L) : W64 (L.map negF) := by
  intro x hx
  obtain ⟨y, hy, rfl⟩ := List.mem_map.1 hx
  exact (oneB_neg (h y hy)).2
theorem srt_neg {L : List Nat} (h : W64 L) : srt (L.map negF) = (srt L).reverse.map negF := by
  symm
  refine srt_eq (w64_neg h) ?_ ?_
  · have e : (L.map negF).filter oneB = (L.filter oneB).map negF := by
      rw [List.filter_map]
      congr 1
      exact List.filter_congr fun x hx => (oneB_neg (h x hx)).1
    rw [e]
    exact (((srt L).reverse_perm).trans (srt_perm L)).map negF
  · rw [List.pairwise_map, List.pairwise_reverse]
    refine (srt_sorted L).imp_of_mem fun {a b} ha hb hab => ?_
    rw [rk_neg (srt_w64 h a ha), rk_neg (srt_w64 h b hb)]
    omega
theorem srt_back {L : List Nat} (h : W64 L) : srt L.reverse = srt L := srt_congr h L.reverse_perm
theorem rk_val {x y : Nat} (h : rkW x ≤ rkW y) : valW x ≤ valW y := by
  unfold rkW at h
  unfold valW
  generalize x % 2 ^ 63 = X at *
  generalize y % 2 ^ 63 = Y at *
  cases hx : negB x <;> cases hy : negB y <;> rw [hx, hy] at h <;> simp only [if_true, Bool.false_eq_true, if_false] at h ⊢
  · have := valR_mono (A := X) (B := Y) (by omega); omega
  · omega
  · omega
  · have := valR_mono (A := Y) (B := X) (by omega); omega
theorem sv_abs (s : Bool) (R : Nat) : (sv s R).natAbs = valR R := by
  unfold sv
  cases s <;> simp
theorem valR_zero : valR 0 = 0 := valR_low (by decide)
theorem sum_top (s t : Bool) {R T : Nat} (h1 : R < 2047 * 2 ^ 52) (h2 : T < 2047 * 2 ^ 52) : ((sv s (hR R) + sv t (hR T)).natAbs : Int) ≤ valR (2047 * 2 ^ 52 - 1) := by
  have a := valR_mono (hR_le h1)
  have b := valR_mono (hR_le h2)
  have c := valR_dbl (R := 2046 * 2 ^ 52 - 1) (by decide)
  rw [show 2046 * 2 ^ 52 - 1 + 2 ^ 52 = 2047 * 2 ^ 52 - 1 by decide] at c
  have d := sv_abs s (hR R)
  have e := sv_abs t (hR T)
  rw [c]
  generalize valR (2046 * 2 ^ 52 - 1) = V at *
  omega
def sgn (s t : Bool) (R T : Nat) : Bool := if tot s t R T = 0 then s && t else decide (tot s t R T < 0)
theorem hR_fin {R : Nat} (h : R < 2047 * 2 ^ 52) : hR R < 2047 * 2 ^ 52 := by have := hR_le h; omega
theorem sum_fin (s t : Bool) {R T : Nat} (h1 : R < 2047 * 2 ^ 52) (h2 : T < 2047 * 2 ^ 52) : sumR s t (hR R) (hR T) < 2047 * 2 ^ 52 := by
  have := (sumR_between (s := s) (t := t) (R := hR R) (T := hR T) (A := 0) (B := 2047 * 2 ^ 52 - 1) (by decide) (by rw [valR_zero]; omega) (sum_top s t h1 h2)).2
  omega
/-- The median of two words. -/
theorem mid_word (s t : Bool) {R T : Nat} (h1 : R < 2047 * 2 ^ 52) (h2 : T < 2047 * 2 ^ 52) :
    plus (half (double.word s R)) (half (double.word t T)) = double.word (sgn s t (hR R) (hR T)) (sumR s t (hR R) (hR T)) := by
  unfold half
  rw [div_two s h1, div_two t h2, Option.getD_some, Option.getD_some]
  unfold plus
  rw [add_word s t (hR_fin h1) (hR_fin h2), Option.getD_some]
  rfl
theorem mid_between (s t : Bool) {R T : Nat} (h1 : R < 2047 * 2 ^ 52) (h2 : T < 2047 * 2 ^ 52) (e1 : R = 0 ∨ 2 ^ 53 ≤ R) (e2 : T = 0 ∨ 2 ^ 53 ≤ T) (hle : sv s R ≤ sv t T) :
    sv s R ≤ sv (sgn s t (hR R) (hR T)) (sumR s t (hR R) (hR T)) ∧ sv (sgn s t (hR R) (hR T)) (sumR s t (hR R) (hR T)) ≤ sv t T := by
  have x1 := hR_exact h1 e1
  have x2 := hR_exact h2 e2
  have hb := fun A B (hB : B < 2047 * 2 ^ 52) => sumR_between (s := s) (t := t) (R := hR R) (T := hR T) (A := A) (B := B) hB
  obtain ⟨z1, z2⟩ := tot_sign s t (hR R) (hR T)
  have htop := sum_top s t h1 h2
  have d1 : 2 * sv s (hR R) = sv s R := by unfold sv; rw [← x1]; cases s <;> simp <;> omega
  have d2 : 2 * sv t (hR T) = sv t T := by unfold sv; rw [← x2]; cases t <;> simp <;> omega
  have q1 := sv_abs s R
  have q2 := sv_abs t T
  generalize sumR s t (hR R) (hR T) = K at *
  generalize hsg : sgn s t (hR R) (hR T) = sg at *
  unfold sgn at hsg
  generalize tot s t (hR R) (hR T) = to at *
  generalize sv s (hR R) = a at *
  generalize sv t (hR T) = b at *
  generalize sv s R = va at *
  generalize sv t T = vb at *
  have hK : ∀ A B : Nat, A ≤ K → K ≤ B → (valR A : Int) ≤ valR K ∧ (valR K : Int) ≤ valR B := fun A B h1 h2 => ⟨Int.ofNat_le.2 (valR_mono h1), Int.ofNat_le.2 (valR_mono h2)⟩
  have hlt : (2047 * 2 ^ 52 - 1 : Nat) < 2047 * 2 ^ 52 := by decide
  generalize (2047 * 2 ^ 52 - 1 : Nat) = top at *
  rcases Int.lt_trichotomy (a + b) 0 with h | h | h
  · rw [if_neg (by omega), decide_eq_true (z2.2 h)] at hsg
    subst hsg
    have hA := (hb 0 R h1 (by rw [valR_zero]; omega) (by omega)).2
    have hA' := hK 0 R (Nat.zero_le _) hA
    unfold sv
    simp only [if_true]
    refine ⟨by omega, ?_⟩
    rcases Int.lt_or_le 0 vb with hv | hv
    · have := hK 0 K (Nat.zero_le _) (Nat.le_refl _)
      omega
    · have hB := (hb T top hlt (by omega) htop).1
      have := hK T K hB (Nat.le_refl _)
      omega
  · have hA := (hb 0 0 (by decide) (by rw [valR_zero]; omega) (by rw [valR_zero]; omega)).2
    obtain rfl : K = 0 := by omega
    unfold sv
    rw [valR_zero]
    cases sg <;> simp <;> omega
  · rw [if_neg (by omega), decide_eq_false (by omega)] at hsg
    subst hsg
    have hA := (hb 0 T h2 (by rw [valR_zero]; omega) (by omega)).2
    have hA' := hK 0 T (Nat.zero_le _) hA
    unfold sv
    simp only [Bool.false_eq_true, if_false]
    refine ⟨?_, by omega⟩
    rcases Int.lt_or_le va 0 with hv | hv
    · have := hK 0 K (Nat.zero_le _) (Nat.le_refl _)
      omega
    · have hB := (hb R top hlt (by omega) htop).1
      have := hK R K hB (Nat.le_refl _)
      omega
/-- The negatives' median of two words. -/
theorem mid_neg (s t : Bool) {R T : Nat} (h1 : R < 2047 * 2 ^ 52) (h2 : T < 2047 * 2 ^ 52) :
    valW (plus (half (double.word (!t) T)) (half (double.word (!s) R))) = -valW (plus (half (double.word s R)) (half (double.word t T))) ∧
    plus (half (double.word (!t) T)) (half (double.word (!s) R)) < 2 ^ 64 ∧ oneB (plus (half (double.word (!t) T)) (half (double.word (!s) R))) = true := by
  have hK := sum_fin s t h1 h2
  rw [mid_word s t h1 h2, mid_word (!t) (!s) h2 h1, sumR_neg]
  have hsv : ∀ R, sv (!true) R = -sv true R ∧ sv (!false) R = -sv false R := fun R => by unfold sv; simp
  refine ⟨?_, word_lt _ (by omega), one_word _ hK⟩
  rw [val_word _ (by omega), val_word _ (by omega)]
  unfold sgn
  rw [tot_neg]
  by_cases h0 : tot s t (hR R) (hR T) = 0
  · obtain ⟨z1, z2⟩ := tot_sign s t (hR R) (hR T)
    have hz := z1.1 h0
    have := (sumR_between (s := s) (t := t) (R := hR R) (T := hR T) (A := 0) (B := 0) (by decide) (by rw [valR_zero]; omega) (by rw [valR_zero]; omega)).2
    rw [show sumR s t (hR R) (hR T) = 0 by omega]
    have hs0 : ∀ b, sv b 0 = 0 := fun b => by unfold sv; rw [valR_zero]; cases b <;> rfl
    rw [hs0, hs0]; rfl
  · rw [if_neg (by omega), if_neg h0]
    generalize tot s t (hR R) (hR T) = to at *
    rcases Int.lt_or_le to 0 with h | h
    · rw [decide_eq_false (by omega), decide_eq_true h]; exact (hsv _).1
    · rw [decide_eq_true (by omega), decide_eq_false (by omega)]; exact (hsv _).2
/-- The median of a list is a finite height. -/
theorem med_one {S : List Nat} (hS : ∀ k, k < S.length → S.getD k 0 < 2 ^ 64 ∧ oneB (S.getD k 0) = true) : medL S < 2 ^ 64 ∧ oneB (medL S) = true := by
  unfold medL
  by_cases h0 : S.length = 0
  · rw [if_pos h0]; decide +kernel
  · rw [if_neg h0]
    by_cases h1 : S.length % 2 = 1
    · rw [if_pos h1]; exact hS _ (by omega)
    · rw [if_neg h1]
      obtain ⟨a1, a2⟩ := hS (S.length / 2 - 1) (by omega)
      obtain ⟨b1, b2⟩ := hS (S.length / 2) (by omega)
      obtain ⟨s, R, hR', e1⟩ := one_form a1 a2
      obtain ⟨t, T, hT', e2⟩ := one_form b1 b2
      rw [e1, e2, mid_word s t hR' hT']
      have := sum_fin s t hR' hT'
      exact ⟨word_lt _ (by omega), one_word _ this⟩
theorem srt_ok {L : List Nat} (h : W64 L) : ∀ k, k < (srt L).length → (srt L).getD k 0 < 2 ^ 64 ∧ oneB ((srt L).getD k 0) = true := fun k hk => ⟨h _ (srt_mem.1 (getD_mem hk)).1, (srt_mem.1 (getD_mem hk)).2⟩
theorem val_negF {x : Nat} (hx : x < 2 ^ 64) : valW (negF x) = -valW x := by
  have h63 : x % 2 ^ 63 < 2 ^ 63 := Nat.mod_lt _ (by decide)
  have e := neg_word (negB x) h63
  rw [word_of hx] at e
  rw [e, val_word _ h63]
  unfold valW sv
  cases negB x <;> simp
theorem getD_revneg {S : List Nat} {k : Nat} (hk : k < S.length) : ((S.reverse.map negF).getD k 0) = negF (S.getD (S.length - 1 - k) 0) := by
  rw [List.getD_eq_getElem?_getD, List.getElem?_map, List.getElem?_reverse hk, List.getElem?_eq_getElem (by omega), List.getD_eq_getElem?_getD, List.getElem?_eq_getElem (by omega)]
  rfl
/-- The negatives' median has the negative's value. -/
theorem med_neg {L : List Nat} (h : W64 L) : valW (medL (srt (L.map negF))) = -valW (medL (srt L)) := by
  rw [srt_neg h]
  have hS := srt_ok h
  generalize srt L = S at *
  unfold medL
  rw [List.length_map, List.length_reverse]
  by_cases h0 : S.length = 0
  · rw [if_pos h0, if_pos h0]; decide +kernel
  · rw [if_neg h0, if_neg h0]
    by_cases h1 : S.length % 2 = 1
    · rw [if_pos h1, if_pos h1, getD_revneg (by omega), show S.length - 1 - S.length / 2 = S.length / 2 by omega]
      exact val_negF (hS _ (by omega)).1
    · rw [if_neg h1, if_neg h1, getD_revneg (by omega), getD_revneg (by omega), show S.length - 1 - (S.length / 2 - 1) = S.length / 2 by omega, show S.length - 1 - S.length / 2 = S.length / 2 - 1 by omega]
      obtain ⟨a1, a2⟩ := hS (S.length / 2 - 1) (by omega)
      obtain ⟨b1, b2⟩ := hS (S.length / 2) (by omega)
      obtain ⟨s, R, hR', e1⟩ := one_form a1 a2
      obtain ⟨t, T, hT', e2⟩ := one_form b1 b2
      rw [e1, e2, neg_word s (by omega), neg_word t (by omega)]
      exact (mid_neg s t hR' hT').1
/-- What is not tiny is nought, or no less than the least that is halved exactly. -/
theorem not_tiny {x : Nat} (hx : x < 2 ^ 64) (h : oneB x = true) (ht : tinyB x = false) {s : Bool} {R : Nat} (hR : R < 2047 * 2 ^ 52) (e : x = double.word s R) : R = 0 ∨ 2 ^ 53 ≤ R := by
  have f0 : Fin64 0 0 := by have := fin_word (neg := false) (R := 0) (by decide); rwa [word_false, valR_zero] at this
  have f1 : Fin64 9007199254740992 (valR (2 ^ 53)) := by
    have h1 := fin_word (neg := false) (R := 2 ^ 53) (by decide)
    rw [show double.word false (2 ^ 53) = 9007199254740992 by decide, if_neg (by decide)] at h1
    exact h1
  have f2 : Fin64 9232379236109516800 (-(valR (2 ^ 53) : Int)) := by
    have h1 := fin_word (neg := true) (R := 2 ^ 53) (by decide)
    rw [show double.word true (2 ^ 53) = 9232379236109516800 by decide, if_pos rfl] at h1
    exact h1
  have fx := fin_one hx h
  rw [e, val_word s (by omega)] at fx
  rcases Nat.eq_zero_or_pos R with h0 | h0
  · exact .inl h0
  · right
    rcases Nat.lt_or_ge R (2 ^ 53) with hlt | hge
    · exfalso
      have a := valR_lt hlt
      have b := valR_lt h0
      rw [valR_zero] at b
      have g0 : FloatKind.f64.format.order x 0 = some (compare (sv s R) 0) := by rw [e]; exact order_fin fx f0
      have g1 : FloatKind.f64.format.order x 9007199254740992 = some (compare (sv s R) (valR (2 ^ 53))) := by rw [e]; exact order_fin fx f1
      have g2 : FloatKind.f64.format.order x 9232379236109516800 = some (compare (sv s R) (-(valR (2 ^ 53) : Int))) := by rw [e]; exact order_fin fx f2
      have hsv := sv_abs s R
      unfold tinyB fltB fgtB at ht
      rw [g0, g1, g2, cmp_gt (show -(valR (2 ^ 53) : Int) < sv s R by omega), cmp_lt (show sv s R < (valR (2 ^ 53) : Int) by omega)] at ht
      rcases Int.lt_trichotomy (sv s R) 0 with h1 | h1 | h1
      · rw [cmp_lt h1] at ht; cases ht
      · omega
      · rw [cmp_gt h1] at ht; cases ht
    · exact hge
/-- The median lies between two of the list. -/
theorem med_between {L : List Nat} (h : W64 L) (ht : L.any tinyB = false) (h0 : 0 < (srt L).length) : ∃ a b, a ∈ srt L ∧ b ∈ srt L ∧ valW a ≤ valW (medL (srt L)) ∧ valW (medL (srt L)) ≤ valW b := by
  have hS := srt_ok h
  have hso := srt_sorted L
  have hm : ∀ x ∈ srt L, tinyB x = false := fun x hx => by
    cases hb : tinyB x
    · rfl
    · rw [List.any_eq_true.2 ⟨x, (srt_mem.1 hx).1, hb⟩] at ht; cases ht
  generalize srt L = S at *
  unfold medL
  rw [if_neg (by omega)]
  by_cases h1 : S.length % 2 = 1
  · rw [if_pos h1]
    exact ⟨_, _, getD_mem (k := S.length / 2) (by omega), getD_mem (k := S.length / 2) (by omega), Int.le_refl _, Int.le_refl _⟩
  · rw [if_neg h1]
    obtain ⟨a1, a2⟩ := hS (S.length / 2 - 1) (by omega)
    obtain ⟨b1, b2⟩ := hS (S.length / 2) (by omega)
    have am : S.getD (S.length / 2 - 1) 0 ∈ S := getD_mem (by omega)
    have bm : S.getD (S.length / 2) 0 ∈ S := getD_mem (by omega)
    have hab : rkW (S.getD (S.length / 2 - 1) 0) ≤ rkW (S.getD (S.length / 2) 0) := by
      rw [List.pairwise_iff_getElem] at hso
      have := hso (S.length / 2 - 1) (S.length / 2) (by omega) (by omega) (by omega)
      rw [List.getD_eq_getElem?_getD, List.getElem?_eq_getElem (by omega), List.getD_eq_getElem?_getD, List.getElem?_eq_getElem (by omega)]
      exact this
    refine ⟨_, _, am, bm, ?_⟩
    have hv := rk_val hab
    have ta := hm _ am
    have tb := hm _ bm
    generalize S.getD (S.length / 2 - 1) 0 = a at *
    generalize S.getD (S.length / 2) 0 = b at *
    obtain ⟨s, R, hR', e1⟩ := one_form a1 a2
    obtain ⟨t, T, hT', e2⟩ := one_form b1 b2
    have n1 := not_tiny a1 a2 ta hR' e1
    have n2 := not_tiny b1 b2 tb hT' e2
    subst e1 e2
    rw [val_word s (by omega), val_word t (by omega)] at hv
    rw [mid_word s t hR' hT', val_word s (by omega), val_word t (by omega), val_word _ (by have := sum_fin s t hR' hT'; omega)]
    exact mid_between s t hR' hT' n1 n2 hv
/-- What the law's own least and greatest are. -/
structure MInv (s : MM) (F : List Nat) : Prop where
  n : s.n = F.length
  mem : F ≠ [] → s.lo ∈ F ∧ s.hi ∈ F
  le : ∀ x ∈ F, valW s.lo ≤ valW x ∧ valW x ≤ valW s.hi
theorem MInv.to {L : List Nat} (h : W64 L) : ∀ k, k ≤ L.length → MInv (mmTo L k) ((L.take k).filter oneB)
  | 0, _ => ⟨rfl, fun h => absurd rfl h, fun x hx => by simp at hx⟩
  | k + 1, hk => by
    have ih := MInv.to h k (by omega)
    rw [mmTo_succ (by omega), List.take_succ_eq_append_getElem (by omega), List.filter_append]
    have hx : L.getD k 0 = L[k] := by rw [List.getD_eq_getElem?_getD, List.getElem?_eq_getElem (by omega)]; rfl
    have hx64 : L[k] < 2 ^ 64 := h _ (List.getElem_mem _)
    have hF : ∀ y ∈ (L.take k).filter oneB, y < 2 ^ 64 ∧ oneB y = true := fun y hy => by
      rw [List.mem_filter] at hy
      exact ⟨h y (List.mem_of_mem_take hy.1), hy.2⟩
    rw [hx]
    generalize L[k] = x at *
    generalize mmTo L k = s at *
    generalize (L.take k).filter oneB = F at *
    unfold stepM
    cases h1 : oneB x
    · rw [if_neg (by simp), List.filter_cons_of_neg (by rw [h1]; simp), List.filter_nil, List.append_nil]
      exact ih
    · rw [if_pos rfl, List.filter_cons_of_pos h1, List.filter_nil]
      have hn := ih.n
      by_cases h0 : s.n = 0
      · rw [if_pos (.inl h0), if_pos (.inl h0)]
        obtain rfl : F = [] := List.eq_nil_of_length_eq_zero (by omega)
        refine ⟨by simp; omega, fun _ => by simp, fun y hy => ?_⟩
        simp at hy
        subst hy
        exact ⟨Int.le_refl _, Int.le_refl _⟩
      · have hne : F ≠ [] := by rintro rfl; exact h0 (by simpa using hn)
        obtain ⟨m1, m2⟩ := ih.mem hne
        obtain ⟨l1, l2⟩ := hF _ m1
        obtain ⟨g1, g2⟩ := hF _ m2
        have o1 : FloatKind.f64.format.order x s.lo = some (compare (valW x) (valW s.lo)) := order_fin (fin_one hx64 h1) (fin_one l1 l2)
        have o2 : FloatKind.f64.format.order x s.hi = some (compare (valW x) (valW s.hi)) := order_fin (fin_one hx64 h1) (fin_one g1 g2)
        have q1 : fltB x s.lo = decide (valW x < valW s.lo) := by
          unfold fltB
          rw [o1]
          rcases Int.lt_trichotomy (valW x) (valW s.lo) with h | h | h
          · rw [cmp_lt h, decide_eq_true h]; rfl
          · rw [h, cmp_eq]; simp
          · rw [cmp_gt h, decide_eq_false (by omega)]; rfl
        have q2 : fgtB x s.hi = decide (valW s.hi < valW x) := by
          unfold fgtB
          rw [o2]
          rcases Int.lt_trichotomy (valW x) (valW s.hi) with h | h | h
          · rw [cmp_lt h, decide_eq_false (by omega)]; rfl
          · rw [h, cmp_eq]; simp
          · rw [cmp_gt h, decide_eq_true h]; rfl
        simp only [h0, false_or, q1, q2, decide_eq_true_eq]
        refine ⟨by simp [hn], fun _ => ⟨?_, ?_⟩, fun y hy => ?_⟩
        · show (if valW x < valW s.lo then x else s.lo) ∈ F ++ [x]
          split
          · simp
          · simp [m1]
        · show (if valW s.hi < valW x then x else s.hi) ∈ F ++ [x]
          split
          · simp
          · simp [m2]
        · show valW (if valW x < valW s.lo then x else s.lo) ≤ valW y ∧ valW y ≤ valW (if valW s.hi < valW x then x else s.hi)
          have hbo : valW s.lo ≤ valW s.hi := Int.le_trans (ih.le _ m1).1 (ih.le _ m1).2
          rw [List.mem_append, List.mem_singleton] at hy
          have hy2 : y = x ∨ (valW s.lo ≤ valW y ∧ valW y ≤ valW s.hi) := by
            rcases hy with hy | hy
            · exact .inr (ih.le y hy)
            · exact .inl hy
          rcases hy2 with rfl | ⟨y1, y2⟩ <;> split <;> split <;> omega
theorem fcmp {x y : Nat} (hx : x < 2 ^ 64) (hy : y < 2 ^ 64) (h1 : oneB x = true) (h2 : oneB y = true) : FloatKind.f64.format.order x y = some (compare (valW x) (valW y)) := order_fin (fin_one hx h1) (fin_one hy h2)
end Go.Proofs.Ytlgnidjkilbdfaa

namespace Go.Proofs.Ytlgnidjkilbdfaa
open Ieee Go
set_option linter.unusedVariables false
set_option maxRecDepth 100000
theorem log_shift (R a : Nat) (h : R ≠ 0) : (R * 2 ^ a).log2 = R.log2 + a := by
  have h1 := Nat.log2_self_le h
  have h2 : R < 2 ^ (R.log2 + 1) := Nat.lt_log2_self
  have hp := Nat.two_pow_pos a
  have hne : R * 2 ^ a ≠ 0 := Nat.mul_ne_zero h (by omega)
  have lo : R.log2 + a ≤ (R * 2 ^ a).log2 := (Nat.le_log2 hne).2 (by rw [Nat.pow_add]; exact Nat.mul_le_mul_right _ h1)
  have hi : (R * 2 ^ a).log2 < R.log2 + a + 1 := (Nat.log2_lt hne).2 (by rw [show R.log2 + a + 1 = R.log2 + 1 + a by omega, Nat.pow_add]; exact Nat.mul_lt_mul_of_pos_right h2 hp)
  omega
/-- Half of a small number of units: to the nearest, and to the even one. -/
theorem near_half {R : Nat} (h0 : R ≠ 0) (h : R < 2 ^ 53) (a : Nat) : double.nearest false (R * 2 ^ a) (-1075 - (a : Int)) = R / 2 + (decide (R % 2 = 1) && decide (R / 2 % 2 = 1)).toNat := by
  have hl := log_shift R a h0
  have hR : R.log2 ≤ 52 := by have := (Nat.log2_lt h0).2 h; omega
  have hp := Nat.two_pow_pos a
  have hf : double.fractionBits = 52 := rfl
  have hlp : double.leastPlace = -1074 := by decide
  have hb : double.binade = 2 ^ 52 := rfl
  have hi : double.infRung = 2047 * 2 ^ 52 := by decide
  have hlast : max (-1075 - (a : Int) + ((R * 2 ^ a).log2 : Nat) - (52 : Nat)) (-1074) = -1074 := by rw [hl]; omega
  unfold Format.nearest
  rw [if_neg (Nat.mul_ne_zero h0 (by omega)), hf, hlp]
  simp only [hlast]
  rw [show (-1075 - (a : Int) - -1074).toNat = 0 by omega, show ((-1074 : Int) - (-1075 - (a : Int))).toNat = a + 1 by omega, show ((-1074 : Int) - -1074).toNat = 0 by omega, Nat.shiftLeft_zero, Nat.zero_mul, Nat.zero_add, word_false, hi]
  have hc : Toward.even.cut false (R * 2 ^ a) (a + 1) = R / 2 + (decide (R % 2 = 1) && decide (R / 2 % 2 = 1)).toNat := by
    unfold Toward.cut
    simp only
    rw [hl, Nat.min_eq_left (by omega), Nat.shiftLeft_eq, Nat.one_mul, Nat.pow_succ, Nat.mul_comm (2 ^ a) 2, Nat.mul_div_mul_right _ _ hp, Nat.mul_mod_mul_right]
    congr 2
    rcases Nat.mod_two_eq_zero_or_one R with h2 | h2
    · rw [h2]
      have e1 : decide (2 * 2 ^ a < 2 * (0 * 2 ^ a)) = false := decide_eq_false (by omega)
      have e2 : (2 * 2 ^ a == 2 * (0 * 2 ^ a)) = false := by rw [beq_eq_false_iff_ne]; omega
      rw [e1, e2]; simp
    · rw [h2, Nat.one_mul]
      have e1 : decide (2 * 2 ^ a < 2 * 2 ^ a) = false := decide_eq_false (by omega)
      rw [e1, beq_self_eq_true]
      simp
      rfl
  rw [hc]
  refine Nat.min_eq_left ?_
  have : (decide (R % 2 = 1) && decide (R / 2 % 2 = 1)).toNat ≤ 1 := by cases (decide (R % 2 = 1) && decide (R / 2 % 2 = 1)) <;> decide
  omega
theorem read_half : double.read 4602678819172646912 = .number false (2 ^ 52) (-53) := by decide +kernel
theorem hR_small {R : Nat} (h0 : R ≠ 0) (h : R < 2 ^ 53) : hR R = R / 2 + (decide (R % 2 = 1) && decide (R / 2 % 2 = 1)).toNat := by
  have hl := log_rm R
  have e1 : rm R = R := by unfold rm; split <;> omega
  have e2 : rp R = -1074 := by unfold rp; split <;> omega
  obtain ⟨k, hk⟩ : ∃ k, more R = 52 + k := ⟨more R - 52, by unfold more; omega⟩
  have hd : R <<< more R = 2 ^ 52 * (R * 2 ^ k) := by rw [Nat.shiftLeft_eq, hk, Nat.pow_add]; ac_rfl
  have hg : 2 * (R <<< more R / 2 ^ 52) + (R <<< more R % 2 ^ 52 != 0).toNat = R * 2 ^ (k + 1) := by
    rw [hd, Nat.mul_div_cancel_left _ (by decide), Nat.mul_mod_right, Nat.pow_succ]
    show 2 * (R * 2 ^ k) + 0 = _
    rw [Nat.add_zero]; ac_rfl
  unfold hR
  rw [e1, e2, hg, ← near_half h0 h (k + 1)]
  congr 1
  omega
theorem mul_half (s : Bool) {R : Nat} (h : R < 2047 * 2 ^ 52) : double.mul (double.word s R) 4602678819172646912 = some (double.word s (hR R)) := by
  have hm : double.mul (double.word s R) 4602678819172646912 = some (double.word s (double.nearest false (rm R * 2 ^ 52) (rp R + -53))) := by
    unfold Format.mul
    rw [read_at s h, read_half]
    simp only [Datum.product, Option.map_some, Format.write, Bool.xor_false]
    rw [nearest_word]
  rw [hm]
  congr 2
  rcases Nat.lt_or_ge R (2 ^ 53) with h1 | h1
  · rcases Nat.eq_zero_or_pos R with h0 | h0
    · subst h0
      decide +kernel
    · have e1 : rm R = R := by unfold rm; split <;> omega
      have e2 : rp R = -1074 := by unfold rp; split <;> omega
      rw [hR_small (by omega) h1, ← near_half (by omega) h1 52, e1, e2]
      congr 1
  · obtain ⟨T, rfl⟩ : ∃ T, R = T + 2 ^ 52 := ⟨R - 2 ^ 52, by omega⟩
    have hd := valR_dbl (R := T) (by omega)
    have a := hR_between (R := T + 2 ^ 52) (A := T) (B := T) (by omega) (by rw [hd]; exact Nat.le_refl _) (by rw [hd]; exact Nat.le_refl _)
    have hp := rp_ge (T + 2 ^ 52)
    have hT : T < 2047 * 2 ^ 52 := by omega
    have hu : (((rp (T + 2 ^ 52) + 1074).toNat : Nat) : Int) = rp (T + 2 ^ 52) + -53 + 1074 + (53 : Nat) := by omega
    have hv : rm (T + 2 ^ 52) * 2 ^ 52 * 2 ^ ((rp (T + 2 ^ 52) + 1074).toNat) = valR T * 2 ^ 53 := by
      have := rm_val (T + 2 ^ 52)
      rw [hd] at this
      rw [Nat.mul_right_comm, this, Nat.mul_comm 2 (valR T), Nat.mul_assoc]
    obtain ⟨K, f1, f2, f3⟩ := nearest_between (neg := false) (mag := rm (T + 2 ^ 52) * 2 ^ 52) (p := rp (T + 2 ^ 52) + -53) (A := T) (B := T) (u := (rp (T + 2 ^ 52) + 1074).toNat) (s := 53) hT hu
      (by rw [hv]; exact Nat.le_refl _) (by rw [hv]; exact Nat.le_refl _)
    rw [f3, word_false]
    clear hv hd
    omega
theorem half_mul {x : Nat} (hx : x < 2 ^ 64) (h : oneB x = true) : double.mul x 4602678819172646912 = some (half x) := by
  have h1 := mul_half (negB x) (one_rung h)
  rw [word_of hx, ← (half_word hx h).1] at h1
  exact h1
theorem log_rm_top {T : Nat} (h : 2 ^ 52 ≤ T) : (rm T).log2 = 52 ∧ 2 ^ 52 ≤ rm T := by
  have h1 : 2 ^ 52 ≤ rm T := by unfold rm; rw [if_neg (by omega)]; omega
  have h2 := rm_lt T
  exact ⟨(Nat.log2_eq_iff (by omega)).2 ⟨h1, h2⟩, h1⟩
/-- A quotient by one or more is no farther from nought. -/
theorem div_le (s : Bool) {R T : Nat} (h : R < 2047 * 2 ^ 52) (h1 : 1023 * 2 ^ 52 ≤ T) (h2 : T < 2047 * 2 ^ 52) : ∃ K, K ≤ R ∧ double.div (double.word s R) (double.word false T) = some (double.word s K) := by
  have hl := log_rm R
  obtain ⟨ht, ht2⟩ := log_rm_top (T := T) (by omega)
  have hpT : -52 ≤ rp T := by unfold rp; rw [if_neg (by omega)]; omega
  have hpR := rp_ge R
  have hf : double.fractionBits = 52 := rfl
  obtain ⟨mo, hmo⟩ : ∃ mo, mo = double.fractionBits + 2 + (rm T).log2 - (rm R).log2 := ⟨_, rfl⟩
  have hm1 : 54 ≤ mo := by rw [hmo, ht, hf]; omega
  obtain ⟨e, he⟩ : ∃ e : Nat, (e : Int) = rp T + mo := ⟨(rp T + mo).toNat, by omega⟩
  have hdiv : double.div (double.word s R) (double.word false T) = some (double.word s (double.nearest false (2 * (rm R <<< mo / rm T) + (rm R <<< mo % rm T != 0).toNat) (rp R - rp T - mo - 1))) := by
    unfold Format.div
    rw [read_at s h, read_at false h2]
    simp only [Datum.quotient, if_neg (show ¬ rm T = 0 by omega), Option.map_some, Format.write, Bool.xor_false]
    rw [nearest_word, ← hmo]
  rw [hdiv]
  obtain ⟨D, hD⟩ : ∃ D, D = rm R * 2 ^ mo := ⟨_, rfl⟩
  obtain ⟨V, hV⟩ : ∃ V, V = rm R * 2 ^ e := ⟨_, rfl⟩
  have hDV : D ≤ rm T * V := by
    have a : 2 ^ mo ≤ 2 ^ (52 + e) := Nat.pow_le_pow_right (by decide) (by omega)
    rw [Nat.pow_add] at a
    have b : 2 ^ 52 * 2 ^ e ≤ rm T * 2 ^ e := Nat.mul_le_mul_right _ ht2
    rw [hD, hV, Nat.mul_left_comm]
    exact Nat.mul_le_mul_left _ (Nat.le_trans a b)
  have hg : 2 * (D / rm T) + (D % rm T != 0).toNat ≤ 2 * V := by
    have hdm := Nat.div_add_mod D (rm T)
    have hql : D / rm T ≤ V := Nat.div_le_of_le_mul hDV
    by_cases hr : D % rm T = 0
    · rw [hr]
      have : ((0 : Nat) != 0).toNat = 0 := rfl
      omega
    · have : D / rm T < V := by
        rcases Nat.lt_or_ge (D / rm T) V with h' | h'
        · exact h'
        · exfalso
          have e1 : D / rm T = V := Nat.le_antisymm hql h'
          rw [e1] at hdm
          omega
      have hb : (D % rm T != 0).toNat ≤ 1 := by cases (D % rm T != 0) <;> decide
      omega
  rw [Nat.shiftLeft_eq, ← hD]
  generalize 2 * (D / rm T) + (D % rm T != 0).toNat = G at *
  have hu : (((rp R + 1074).toNat : Nat) : Int) = rp R - rp T - mo - 1 + 1074 + ((e + 1 : Nat) : Int) := by omega
  have hval : G * 2 ^ (rp R + 1074).toNat ≤ valR R * 2 ^ (e + 1) := by
    have a := Nat.mul_le_mul_right (2 ^ (rp R + 1074).toNat) hg
    have b : 2 * V * 2 ^ (rp R + 1074).toNat = valR R * 2 ^ (e + 1) := by
      rw [hV, ← rm_val R, Nat.pow_succ]
      generalize 2 ^ (rp R + 1074).toNat = x
      generalize 2 ^ e = y
      generalize rm R = m
      rw [show 2 * (m * y) * x = m * x * (y * 2) by ac_rfl]
    rw [b] at a
    exact a
  obtain ⟨K, f1, f2, f3⟩ := nearest_between (neg := false) (mag := G) (p := rp R - rp T - mo - 1) (A := 0) (B := R) (u := (rp R + 1074).toNat) (s := e + 1) h hu (by rw [valR_zero]; omega) hval
  rw [f3, word_false]
  exact ⟨K, f2, rfl⟩
theorem ofInt_word {N : Nat} (h : N < 2 ^ 53) (h1 : 0 < N) : ∃ T, 1023 * 2 ^ 52 ≤ T ∧ T < 2047 * 2 ^ 52 ∧ floatOfInt .f64 (N : Int) = double.word false T := by
  obtain ⟨R, hR, hv⟩ := int_rung N h
  obtain ⟨R', f1, f2, f3⟩ := nearest_between (neg := false) (mag := N) (p := 0) (A := R) (B := R) (u := 1074) (s := 0) hR (by omega) (by rw [hv, Nat.pow_zero, Nat.mul_one]; exact Nat.le_refl _) (by rw [hv, Nat.pow_zero, Nat.mul_one]; exact Nat.le_refl _)
  obtain rfl : R' = R := by omega
  refine ⟨R', ?_, hR, ?_⟩
  · rcases Nat.lt_or_ge R' (1023 * 2 ^ 52) with hlt | hge
    · exfalso
      have a := valR_lt hlt
      have b := valR_two 0 (by decide)
      rw [show (1022 + 0 + 1) * 2 ^ 52 = 1023 * 2 ^ 52 from rfl, Nat.add_zero] at b
      rw [b, hv] at a
      have := Nat.le_mul_of_pos_left (2 ^ 1074) h1
      generalize 2 ^ 1074 = P at *
      omega
    · exact hge
  · have e : floatOfInt .f64 (N : Int) = double.nearest (decide ((N : Int) < 0)) (N : Int).natAbs 0 := rfl
    rw [e, decide_eq_false (by omega), Int.natAbs_natCast]
    exact f3
/-- A sum over how many there are. -/
theorem over_ok {x N : Nat} (hx : x < 2 ^ 64) (h : oneB x = true) (hN : N < 2 ^ 53) (h1 : 0 < N) :
    double.div x (floatOfInt .f64 (N : Int)) = some (over x (floatOfInt .f64 (N : Int))) ∧ over x (floatOfInt .f64 (N : Int)) < 2 ^ 64 ∧ oneB (over x (floatOfInt .f64 (N : Int))) = true := by
  obtain ⟨s, R, hR', rfl⟩ := one_form hx h
  obtain ⟨T, t1, t2, e⟩ := ofInt_word hN h1
  obtain ⟨K, k1, k2⟩ := div_le s hR' t1 t2
  unfold over
  rw [e, k2]
  exact ⟨rfl, word_lt _ (by omega), one_word _ (by omega)⟩
def sums (S : List Nat) (k : Nat) : Nat := (S.take k).foldl plus 0
theorem sums_succ {S : List Nat} {k : Nat} (h : k < S.length) : sums S (k + 1) = plus (sums S k) (S.getD k 0) := by
  unfold sums
  rw [List.take_succ_eq_append_getElem h, List.foldl_append, List.getD_eq_getElem?_getD, List.getElem?_eq_getElem h]
  rfl
def sumOk (S : List Nat) : Bool := (List.range (S.length + 1)).all fun j => oneB (sums S j)
def meanE (S : List Nat) : Int := if S.length = 0 then 0 else if sumOk S then 0 else 9
def meanV (S : List Nat) : Nat := if S.length = 0 then 0 else if sumOk S then over (sums S S.length) (floatOfInt .f64 (S.length : Int)) else 0
/-- Up to k each sum is finite. -/
def SumTo (S : List Nat) (k : Nat) : Prop := sums S k < 2 ^ 64 ∧ ∀ j, j ≤ k → oneB (sums S j) = true
theorem SumTo.zero (S : List Nat) : SumTo S 0 := by
  refine ⟨by show (0 : Nat) < 2 ^ 64; decide, fun j hj => ?_⟩
  obtain rfl : j = 0 := by omega
  show oneB 0 = true
  decide +kernel
theorem SumTo.ok {S : List Nat} (h : SumTo S S.length) : sumOk S = true := by
  unfold sumOk
  rw [List.all_eq_true]
  intro j hj
  rw [List.mem_range] at hj
  exact h.2 j (by omega)
theorem sum_bad {S : List Nat} {j : Nat} (hj : j ≤ S.length) (h : oneB (sums S j) = false) : sumOk S = false := by
  rw [Bool.eq_false_iff]
  intro hs
  unfold sumOk at hs
  rw [List.all_eq_true] at hs
  have := hs j (List.mem_range.2 (by omega))
  rw [h] at this
  cases this
end Go.Proofs.Ytlgnidjkilbdfaa

namespace Go.Proofs.Ytlgnidjkilbdfaa
open Go.RowKit Ieee
set_option linter.unusedVariables false
set_option maxRecDepth 100000
theorem rfin_any (h : Nat) (w : World) : Calls Try.prog 91 #[.float .f64 h] w fun e w' => e = .returned (.bool (oneB h)) ∧ ∃ n, w' = w.drewN n := by
  cases ho : oneB h
  · obtain ⟨r, hr, hrun⟩ := run_nan (P := Try.prog) w .sub 24 h h (.inr (.inl rfl)) (sub_not ho)
    have hc : FloatKind.f64.format.order r 0 = none := nan_order hr 0
    clear hr ho
    go_enter Try.func91, Try.ntmps91
    go_wp2
    go_ret
    exact ⟨rfl, 1, rfl⟩
  · have hrun := fun wx => run_float_arith (P := Try.prog) wx .sub 24 .f64 h h 0 (sub_one ho)
    have hc : FloatKind.f64.format.order 0 0 = some .eq := by decide +kernel
    clear ho
    go_enter Try.func91, Try.ntmps91
    go_wp2
    go_ret
    exact ⟨rfl, 0, rfl⟩
def aheadB (a b : Nat) : Bool := fltB a b || (feqB a 0 && feqB b 0 && negB a && !negB b)
theorem ahead_raw (a b : Nat) (ha : a < 2 ^ 64) (hb : b < 2 ^ 64) (w : World) : Calls Try.prog 115 #[.float .f64 a, .float .f64 b] w fun e w' => e = .returned (.bool (aheadB a b)) ∧ w = w' := by
  have HA := hide_ (signbit_any a ha)
  have HB := hide_ (signbit_any b hb)
  clear ha hb
  unfold aheadB fltB feqB
  generalize h1 : (FloatKind.f64.format.order a b == some .lt) = f1
  generalize h2 : (FloatKind.f64.format.order a 0 == some .eq) = f2
  generalize h3 : (FloatKind.f64.format.order b 0 == some .eq) = f3
  generalize negB a = f4 at *
  generalize negB b = f5 at *
  have tok : True := trivial
  cases f1
  · cases f2
    · go_enter Try.func115, Try.ntmps115
      go_wp2
      go_ret
      exact ⟨rfl, rfl⟩
    · cases f3
      · go_enter Try.func115, Try.ntmps115
        go_wp2
        go_ret
        exact ⟨rfl, rfl⟩
      · cases f4
        · go_enter Try.func115, Try.ntmps115
          go_wp2_with (go_at_call 126; (with_reducible refine (HA.out _).mono ?_); rintro e w1 ⟨rfl, rfl⟩)
          go_ret
          exact ⟨rfl, rfl⟩
        · cases f5
          all_goals go_enter Try.func115, Try.ntmps115
          all_goals go_wp2_with (first
            | (go_at_call 126; have _t := tok; (with_reducible refine (HA.out _).mono ?_); rintro e w1 ⟨rfl, rfl⟩; clear tok)
            | (go_at_call 126; (with_reducible refine (HB.out _).mono ?_); rintro e w1 ⟨rfl, rfl⟩))
          all_goals go_ret
          all_goals exact ⟨rfl, rfl⟩
  · go_enter Try.func115, Try.ntmps115
    go_wp2
    go_ret
    exact ⟨by simp, rfl⟩
theorem ahead_rk {a b : Nat} (ha : a < 2 ^ 64) (hb : b < 2 ^ 64) (h1 : oneB a = true) (h2 : oneB b = true) : aheadB a b = decide (rkW a < rkW b) := by
  have f0 : Fin64 0 0 := by have := fin_word (neg := false) (R := 0) (by decide); rwa [word_false, valR_zero] at this
  have o1 := fcmp ha hb h1 h2
  have o2 : FloatKind.f64.format.order a 0 = some (compare (valW a) 0) := order_fin (fin_one ha h1) f0
  have o3 : FloatKind.f64.format.order b 0 = some (compare (valW b) 0) := order_fin (fin_one hb h2) f0
  have hr := ord_rk (x := a) (y := b)
  have hno : ∀ x, negB x = true → valW x ≤ 0 := fun x h => by unfold valW; rw [if_pos h]; omega
  have hpo : ∀ x, negB x = false → 0 ≤ valW x := fun x h => by unfold valW; rw [if_neg (by rw [h]; simp)]; omega
  have na := hno a
  have pa := hpo a
  have nb := hno b
  have pb := hpo b
  unfold aheadB fltB feqB
  rw [o1, o2, o3]
  rcases Int.lt_trichotomy (valW a) (valW b) with h | h | h
  · rw [cmp_lt h] at hr ⊢
    rw [show ordO a b .lt = .lt from rfl] at hr
    rw [decide_eq_true ((Int.compare_eq_lt).1 hr.symm)]
    simp
  · rw [h, cmp_eq] at hr ⊢
    rw [ord_eq _ _ rfl rfl] at hr
    cases hna : negB a <;> cases hnb : negB b <;> rw [hna, hnb] at hr <;> simp only [if_true, Bool.false_eq_true, if_false] at hr
    · rw [cmp_eq] at hr
      rw [decide_eq_false (by have := (Int.compare_eq_eq).1 hr.symm; omega)]
      simp
    · rw [cmp_gt (by decide)] at hr
      rw [decide_eq_false (by have := (Int.compare_eq_gt).1 hr.symm; omega)]
      simp
    · rw [cmp_lt (by decide)] at hr
      have h0 : valW b = 0 := by have := na hna; have := pb hnb; omega
      rw [decide_eq_true ((Int.compare_eq_lt).1 hr.symm), h0, cmp_eq]
      rfl
    · rw [cmp_eq] at hr
      rw [decide_eq_false (by have := (Int.compare_eq_eq).1 hr.symm; omega)]
      simp
  · rw [cmp_gt h] at hr ⊢
    rw [show ordO a b .gt = .gt from rfl] at hr
    rw [decide_eq_false (by have := (Int.compare_eq_gt).1 hr.symm; omega)]
    rcases Int.lt_trichotomy (valW b) 0 with hb' | hb' | hb'
    · rw [cmp_lt hb']; simp
    · rw [cmp_gt (show 0 < valW a by omega)]; simp
    · rw [cmp_gt hb']; simp
/-- x put into a list at place k. -/
def insY (X : List Nat) (x k : Nat) : List Nat := X.take k ++ x :: X.drop k
theorem insY_len {X : List Nat} {x k : Nat} (h : k ≤ X.length) : (insY X x k).length = X.length + 1 := by
  unfold insY; simp; omega
theorem insY_end (X : List Nat) (x : Nat) : insY X x X.length = X ++ [x] := by unfold insY; simp
theorem insY_at {X : List Nat} {x k : Nat} (h : k ≤ X.length) : (insY X x k)[k]? = some x := by
  unfold insY
  rw [List.getElem?_append_right (by rw [List.length_take]; omega), show k - (X.take k).length = 0 by rw [List.length_take]; omega]
  rfl
theorem insY_low {X : List Nat} {x k j : Nat} (h : k ≤ X.length) (hj : j < k) : (insY X x k)[j]? = X[j]? := by
  unfold insY
  rw [List.getElem?_append_left (by rw [List.length_take]; omega), List.getElem?_take, if_pos hj]
theorem insY_swap {X : List Nat} {x k : Nat} (h : k + 1 ≤ X.length) : ((insY X x (k + 1)).set (k + 1) (X.getD k 0)).set k x = insY X x k := by
  unfold insY
  have e : X.take (k + 1) = X.take k ++ [X.getD k 0] := by
    rw [List.take_succ_eq_append_getElem (by omega), List.getD_eq_getElem?_getD, List.getElem?_eq_getElem (by omega)]; rfl
  have e2 : X.drop k = X.getD k 0 :: X.drop (k + 1) := by
    rw [List.drop_eq_getElem_cons (by omega), List.getD_eq_getElem?_getD, List.getElem?_eq_getElem (by omega)]; rfl
  have l1 : (X.take k).length = k := by simp; omega
  rw [e, e2]
  generalize X.getD k 0 = y at *
  generalize X.take k = P at *
  generalize X.drop (k + 1) = D at *
  subst l1
  rw [List.append_assoc, List.set_append_right _ _ (by omega), show P.length + 1 - P.length = 1 by omega]
  rw [show ([y] ++ x :: D).set 1 y = y :: y :: D from rfl, List.set_append_right _ _ (Nat.le_refl _), Nat.sub_self]
  rfl
/-- From place k on all are behind x. -/
def Bhd (X : List Nat) (x k : Nat) : Prop := ∀ j, k ≤ j → j < X.length → rkW x < rkW (X.getD j 0)
theorem insY_sorted {X : List Nat} {x k : Nat} (hs : X.Pairwise (fun a b => rkW a ≤ rkW b)) (hk : k ≤ X.length) (hb : Bhd X x k) (hl : 0 < k → rkW (X.getD (k - 1) 0) ≤ rkW x) : (insY X x k).Pairwise (fun a b => rkW a ≤ rkW b) := by
  unfold insY
  rw [List.pairwise_append]
  refine ⟨hs.sublist (List.take_sublist _ _), ?_, ?_⟩
  · rw [List.pairwise_cons]
    refine ⟨fun b hb' => ?_, hs.sublist (List.drop_sublist _ _)⟩
    obtain ⟨j, hj, rfl⟩ := List.getElem_of_mem hb'
    rw [List.length_drop] at hj
    have := hb (k + j) (by omega) (by omega)
    rw [List.getD_eq_getElem?_getD, List.getElem?_eq_getElem (by omega)] at this
    rw [List.getElem_drop]
    exact Int.le_of_lt this
  · intro a ha b hb'
    obtain ⟨i, hi, rfl⟩ := List.getElem_of_mem ha
    rw [List.length_take] at hi
    rw [List.pairwise_iff_getElem] at hs
    have hax : rkW ((X.take k)[i]'(by rw [List.length_take]; exact hi)) ≤ rkW x := by
      have h1 := hl (by omega)
      rw [List.getD_eq_getElem?_getD, List.getElem?_eq_getElem (by omega)] at h1
      rw [List.getElem_take]
      rcases Nat.lt_or_ge i (k - 1) with h2 | h2
      · exact Int.le_trans (hs i (k - 1) (by omega) (by omega) h2) h1
      · have : i = k - 1 := by omega
        subst this
        exact h1
    rw [List.mem_cons] at hb'
    rcases hb' with rfl | hb'
    · exact hax
    · obtain ⟨j, hj, rfl⟩ := List.getElem_of_mem hb'
      rw [List.length_drop] at hj
      rw [List.getElem_take, List.getElem_drop]
      exact hs i (k + j) (by omega) (by omega) (by omega)
theorem insY_srt {L : List Nat} {i x k : Nat} (hw : W64 L) (hi : i < L.length) (hx : L.getD i 0 = x) (h1 : oneB x = true) (hk : k ≤ (srt (L.take i)).length) (hb : Bhd (srt (L.take i)) x k)
    (hl : 0 < k → rkW ((srt (L.take i)).getD (k - 1) 0) ≤ rkW x) : insY (srt (L.take i)) x k = srt (L.take (i + 1)) := by
  have ht : L.take (i + 1) = L.take i ++ [x] := by
    rw [List.take_succ_eq_append_getElem hi, ← hx, List.getD_eq_getElem?_getD, List.getElem?_eq_getElem hi]; rfl
  refine srt_eq (fun y hy => hw y (List.mem_of_mem_take hy)) ?_ (insY_sorted (srt_sorted _) hk hb hl)
  rw [ht, List.filter_append, List.filter_cons_of_pos h1, List.filter_nil]
  have p1 : (insY (srt (L.take i)) x k).Perm (x :: srt (L.take i)) := by
    unfold insY
    refine List.perm_middle.trans ?_
    rw [List.take_append_drop]
  have p2 : ((L.take i).filter oneB ++ [x]).Perm (x :: (L.take i).filter oneB) := List.perm_append_singleton _ _
  exact p1.trans (((srt_perm _).cons x).trans p2.symm)
theorem srt_skip {L : List Nat} {i : Nat} (hw : W64 L) (hi : i < L.length) (h1 : oneB (L.getD i 0) = false) : srt (L.take (i + 1)) = srt (L.take i) := by
  have ht : L.take (i + 1) = L.take i ++ [L.getD i 0] := by
    rw [List.take_succ_eq_append_getElem hi, List.getD_eq_getElem?_getD, List.getElem?_eq_getElem hi]; rfl
  unfold srt
  rw [ht, List.filter_append, List.filter_cons_of_neg (by rw [h1]; simp), List.filter_nil, List.append_nil]
end Go.Proofs.Ytlgnidjkilbdfaa

namespace Go.Proofs.Ytlgnidjkilbdfaa
open Go.RowKit Ieee
set_option linter.unusedVariables false
set_option maxRecDepth 100000
theorem map_set (l : List Nat) (k v : Nat) : (l.map encF).set k (encF v) = (l.set k v).map encF := by rw [List.map_set]
theorem quiet_left0 {P : Program} {f : FuncId} {args : Array Value} {w : World} {n : Nat} {v : Value}
    (h : Calls P f args (w.drewN n) fun e w' => e = .returned v ∧ w.drewN n = w') : Calls P f args (w.drewN n) fun e w'' => e = .returned v ∧ ∃ m, w'' = w.drewN m :=
  h.mono fun _ _ ⟨he, hm⟩ => ⟨he, n, hm.symm⟩
set_option maxHeartbeats 6400000 in
theorem rorder_any (p : Option Addr) (n c : Nat) (L : List Nat) (w : World) (hn : n = L.length) (hp : FL w p L) (hw : W64 L) (hsz : n ≤ 1000000) :
    Calls Try.prog 90 #[.slice p n c] w fun e w' => (∃ q c', e = .returned (.slice q (srt L).length c') ∧ FL w' q (srt L)) ∧ Below w.heap.size w w' := by
  subst hn
  have HP := hide_ hp
  have HW := hide_ hw
  clear hp hw
  obtain ⟨i0, hi0, hz0, hz1, hz2⟩ := info_parts info24
  go_enter Try.func90, Try.ntmps90
  go_wp2
  go_loopw [3, 4] (fun u vi wr => ∃ i : Nat, i ≤ L.length ∧ vi = .int .i64 i ∧ wr.ownsRow w.heap.size 24 1 u (srt (L.take i)).length ((srt (L.take i)).map encF) ∧ Grew w.heap.size w wr) (fun _ vi _ => L.length - (intOf vi).toNat)
  case atStart =>
    have h0 : srt (L.take 0) = [] := List.eq_nil_of_length_eq_zero (by rw [srt_len]; rfl)
    exact ⟨0, by omega, rfl, (by rw [h0]; exact World.ownsRow_nil _ _ _ _), Grew.refl _⟩
  case round =>
    obtain ⟨i, hi, rfl, hu, hgr⟩ := hrel
    by_cases hlt : i < L.length
    · obtain ⟨g, o, rfl, hg, hc⟩ := HP.out.some_ (by omega)
      have hgw : g < wr.heap.size := by have := hgr.2; omega
      have c0 := (hgr.1.cell (p := ⟨g, o + i, none⟩) hg).trans (hc i hlt)
      have HX : Hid (∀ k, oneB (L.getD i 0) = true → k ≤ (srt (L.take i)).length → Bhd (srt (L.take i)) (L.getD i 0) k → (0 < k → rkW ((srt (L.take i)).getD (k - 1) 0) ≤ rkW (L.getD i 0)) → insY (srt (L.take i)) (L.getD i 0) k = srt (L.take (i + 1))) := hide_ (fun k h1 hk hb hl => insY_srt HW.out hlt rfl h1 hk hb hl)
      have HSk := hide_ (fun h => srt_skip HW.out hlt h)
      have hx64 : L.getD i 0 < 2 ^ 64 := HW.out _ (getD_mem hlt)
      have hXok : ∀ k, k < (srt (L.take i)).length → (srt (L.take i)).getD k 0 < 2 ^ 64 ∧ oneB ((srt (L.take i)).getD k 0) = true := srt_ok (fun y hy => HW.out y (List.mem_of_mem_take hy))
      have hXl : (srt (L.take i)).length ≤ 1000000 := by have := srt_le (L.take i); rw [List.length_take] at this; omega
      have i4 : (0 : Int) ≤ (i : Int) := by omega
      have i5 : (i : Int) < (L.length : Int) := by omega
      have HF := hide_ (fun wx => rfin_any (L.getD i 0) wx)
      generalize hS1 : srt (L.take (i + 1)) = S1 at *
      generalize srt (L.take i) = X at *
      generalize L.getD i 0 = x at *
      have HS1 := hide_ hS1
      have HXO := hide_ hXok
      have HX64 := hide_ hx64
      clear hc hS1 hXok hx64
      cases hone : oneB x
      · rw [hone] at HF
        have HE := hide_ (HSk.out hone)
        clear hone
        go_wp2_with (go_at_call 91; (with_reducible refine (HF.out _).mono ?_); rintro e w2 ⟨rfl, q2, rfl⟩)
        exact ⟨⟨i + 1, hlt, by simp, by rw [HS1.out, HE.out]; exact own_below hu (below_drewN (Below.refl _ _) _), hgr.drewN _⟩, by simp [intOf]; omega⟩
      · rw [hone] at HF
        have HO := hide_ hone
        have hkb : (X.length + 1) * 8 ≤ 140737488355328 := by omega
        clear hone
        go_wp2_with (first
          | (go_at_call 91; (with_reducible refine (HF.out _).mono ?_); rintro e w2 ⟨rfl, q2, rfl⟩
             have hu2 := own_below hu (below_drewN (Below.refl wr.heap.size wr) q2)
             have hgr2 := hgr.drewN q2)
          | (at_builtin; go_must (
              refine wpList_push2 rfl _ _ 80 rfl w.heap.size 24 i0 (.float .f64 0) 1 8 Try.underlying80 hi0 hz0 hz1 hz2 rfl (by decide) (by decide) _ X.length _ rfl (hu2.alloc _) wr.heap.size #[.float .f64 x] 24 1 1 rfl (heap_alloc_last _ _) rfl (by kernel_rfl) hkb (hgr2.alloc _).2 ?_
              intro v' w3 ho3 hg3 hf3 hn3
              have hgA := hgr2.alloc (.cells #[.float .f64 x] 24)
              have hgr3 := own_grew hgA (hu2.alloc (.cells #[.float .f64 x] 24)) hg3
              obtain ⟨p3, c3, rfl⟩ := row_slice ho3)))
        obtain ⟨g3, rfl, hB3, hg3l, _⟩ := row_cells ho3 (by omega)
        have hrow : w3.ownsRow w.heap.size 24 1 (.slice (some ⟨g3, 0, none⟩) (X.length + 1) c3) (X.length + 1) ((insY X x X.length).map encF) := by
          rw [insY_end, List.map_append]; exact ho3
        clear hg3 hf3 hn3 hu2 hgr2 hgA ho3 hu hgr hkb
        go_loopw [5] (fun vk wr => ∃ k : Nat, k ≤ X.length ∧ vk = .int .i64 k ∧ wr.ownsRow w.heap.size 24 1 (.slice (some ⟨g3, 0, none⟩) (X.length + 1) c3) (X.length + 1) ((insY X x k).map encF) ∧ Bhd X x k ∧ Grew w.heap.size w wr) (fun vk _ => (intOf vk).toNat)
        case atStart => exact ⟨X.length, Nat.le_refl _, rfl, hrow, fun j hj hl => by omega, hgr3⟩
        case round =>
          obtain ⟨k, hk, rfl, hrw, hbh, hg4⟩ := hrel
          have HBH := hide_ hbh
          rcases Nat.eq_zero_or_pos k with h0 | h0
          · subst h0
            have HY := hide_ (HX.out 0 HO.out (Nat.zero_le _) HBH.out (fun h => by omega))
            clear hbh
            go_wp2
            go_quiet (fail)
            go_wp2
            exact ⟨⟨i + 1, hlt, by simp, by rw [HS1.out, ← HY.out, insY_len (by omega)]; exact own_below hrw (below_drewN (Below.refl _ _) _), hg4.drewN _⟩, by simp [intOf]; omega⟩
          · obtain ⟨j, hj⟩ : ∃ j, k = j + 1 := ⟨k - 1, by omega⟩
            have hj2 : j < X.length := by omega
            obtain ⟨b1, b2⟩ := HXO.out j hj2
            have cx := hrw.cells (g := g3) rfl k (encF x) (by rw [List.getElem?_map, insY_at hk]; rfl)
            have cb := hrw.cells (g := g3) rfl j (encF (X.getD j 0)) (by
              rw [List.getElem?_map, insY_low hk (by omega), List.getElem?_eq_getElem hj2, List.getD_eq_getElem?_getD, List.getElem?_eq_getElem hj2]; rfl)
            rw [Addr.add_lit, Nat.zero_add] at cx cb
            have fx := hrw.frozenAt k
            have fb := hrw.frozenAt j
            have HA := hide_ (ahead_raw x (X.getD j 0) HX64.out b1)
            rw [ahead_rk HX64.out b1 HO.out b2] at HA
            have HR := hide_ hrw
            have HJ := hide_ hj
            have hsw : ((insY X x k).set k (X.getD j 0)).set j x = insY X x j := by rw [hj]; exact insY_swap (by omega)
            have HSW := hide_ hsw
            have i6 : (k : Int) - 1 = (j : Int) := by omega
            have i7 : (0 : Int) ≤ (j : Int) := by omega
            have i8 : (0 : Int) ≤ (k : Int) := by omega
            have i9 : (k : Int) < ((X.length + 1 : Nat) : Int) := by omega
            have i10 : (j : Int) < ((X.length + 1 : Nat) : Int) := by omega
            have i11 : IntKind.i64.wrap (j : Int) = (j : Int) := IntWalk.i64_in _ (by omega)
            have i12 : (0 : Int) < (k : Int) := by omega
            have i13 : 0 < k := h0
            have hjk : (⟨g3, j, none⟩ : Addr) ≠ ⟨g3, k, none⟩ := by intro e; injection e; omega
            have hkj : (⟨g3, k, none⟩ : Addr) ≠ ⟨g3, j, none⟩ := fun e => hjk e.symm
            unfold encF at cx cb
            cases hah : decide (rkW x < rkW (X.getD j 0))
            · rw [hah] at HA
              have hle : rkW (X.getD j 0) ≤ rkW x := by rw [decide_eq_false_iff_not] at hah; omega
              have HY := hide_ (HX.out k HO.out hk HBH.out (fun _ => by rw [HJ.out, Nat.add_sub_cancel]; exact hle))
              generalize X.getD j 0 = b at *
              clear hbh hj hsw hah hle b1 b2 hjk hkj
              go_wp2
              go_quiet ((go_at_call 115; exact quiet_left0 (HA.out _)))
              go_wp2
              exact ⟨⟨i + 1, hlt, by simp, by rw [HS1.out, ← HY.out, insY_len hk]; exact own_below HR.out (below_drewN (Below.refl _ _) _), hg4.drewN _⟩, by simp [intOf]; omega⟩
            · rw [hah] at HA
              have hlt2 : rkW x < rkW (X.getD j 0) := by simpa using hah
              have HB2 : Hid (Bhd X x j) := hide_ (fun j' h1 h2 => by
                rcases Nat.lt_or_ge j j' with h3 | h3
                · exact HBH.out j' (by omega) h2
                · obtain rfl : j' = j := by omega
                  exact hlt2)
              generalize X.getD j 0 = b at *
              clear hbh hj hsw hah hlt2 b1 b2
              go_wp2
              go_quiet ((go_at_call 115; exact quiet_left0 (HA.out _)))
              go_wp2
              go_region
              go_wp2
              have r1 := own_below HR.out (below_drewN (Below.refl wr.heap.size wr) (nq + 1))
              have r2 := (r1.stored k (encF b)).1
              have r3 := (r2.stored j (encF x)).1
              rw [map_set, map_set, HSW.out] at r3
              have hj' : j < k := by have := HJ.out; omega
              exact ⟨⟨j, by omega, rfl, r3, HB2.out, ((hg4.drewN _).setCell hB3 _).setCell hB3 _⟩, by simp [intOf]; omega⟩
    · have hge : ¬ i < L.length := hlt
      have hil : i = L.length := by omega
      rw [hil, List.take_length] at hu
      obtain ⟨p4, c4, rfl⟩ := row_slice hu
      have HU := hide_ (own_fl hu).2
      clear hu hil
      go_wp2
      go_ret
      exact ⟨⟨_, _, rfl, HU.out⟩, hgr.below⟩
end Go.Proofs.Ytlgnidjkilbdfaa

namespace Go.Proofs.Ytlgnidjkilbdfaa
open Go.RowKit Ieee
set_option linter.unusedVariables false
set_option maxRecDepth 100000
theorem mean_long (p : Option Addr) (n c : Nat) (w : World) (h : 65536 < n) : Calls Try.prog 50 #[.slice p n c] w fun e w' => e = .returned (.tuple #[.float .f64 0, .int .i64 3]) ∧ w = w' := by
  have h1 : decide ((65536 : Int) < (n : Int)) = true := decide_eq_true (by omega)
  go_enter Try.func50, Try.ntmps50
  go_wp2
  go_ret2
  exact ⟨rfl, rfl⟩
theorem mean_bad {S : List Nat} (h0 : 0 < S.length) (h : sumOk S = false) : meanV S = 0 ∧ meanE S = 9 := by
  have hn : ¬ S.length = 0 := by omega
  unfold meanV meanE
  rw [h, if_neg hn, if_neg hn]
  exact ⟨rfl, rfl⟩
theorem mean_good {S : List Nat} (h0 : 0 < S.length) (h : sumOk S = true) : meanV S = over (sums S S.length) (floatOfInt .f64 (S.length : Int)) ∧ meanE S = 0 := by
  have hn : ¬ S.length = 0 := by omega
  unfold meanV meanE
  rw [h, if_neg hn, if_neg hn]
  exact ⟨rfl, rfl⟩
set_option maxHeartbeats 3200000 in
theorem mean_any (p : Option Addr) (n c : Nat) (L : List Nat) (w : World) (hn : n = L.length) (hp : FL w p L) (hw : W64 L) (hsz : n ≤ 65536) :
    Calls Try.prog 50 #[.slice p n c] w fun e w' => e = .returned (.tuple #[.float .f64 (meanV (srt L)), .int .i64 (meanE (srt L))]) ∧ Below w.heap.size w w' := by
  have HS := hide_ (sorted_any p n c L w hn hp hw (by omega))
  have hok := hide_ (srt_ok hw)
  have hl : (srt L).length ≤ 65536 := by have := srt_le L; omega
  have hd : decide ((65536 : Int) < (n : Int)) = false := decide_eq_false (by omega)
  generalize srt L = S at *
  clear hn hp hw
  rcases Nat.eq_zero_or_pos S.length with h0 | h0
  · have e1 : meanV S = 0 := if_pos h0
    have e2 : meanE S = 0 := if_pos h0
    rw [e1, e2]
    rw [h0] at HS
    clear e1 e2
    go_enter Try.func50, Try.ntmps50
    go_wp2_with (go_at_call 83; (with_reducible refine (HS.out).mono ?_); rintro e w1 ⟨⟨q, c', rfl, hf⟩, hb1⟩)
    go_ret2
    exact ⟨rfl, hb1⟩
  · have hnz : (((S.length : Nat) : Int) == 0) = false := by rw [beq_eq_false_iff_ne]; omega
    go_enter Try.func50, Try.ntmps50
    go_wp2_with (go_at_call 83; (with_reducible refine (HS.out).mono ?_); rintro e w1 ⟨⟨q, c', rfl, hf⟩, hb1⟩)
    obtain ⟨g, o, rfl, hg, hc⟩ := hf.some_ h0
    have HC := hide_ hc
    clear hc hf
    go_loop [5, 18] (fun vs vi => ∃ i : Nat, i ≤ S.length ∧ vi = .int .i64 i ∧ vs = .float .f64 (sums S i) ∧ SumTo S i) (fun _ vi => S.length - (intOf vi).toNat)
    case atStart => exact ⟨0, by omega, rfl, rfl, SumTo.zero S⟩
    case round =>
      obtain ⟨i, hi, rfl, rfl, hst⟩ := hrel
      have HST := hide_ hst
      by_cases hlt : i < S.length
      · have c0 := HC.out i hlt
        obtain ⟨x1, x2⟩ := hok.out i hlt
        obtain ⟨a1, a2, a3⟩ := plus_ok (hst.2 i (Nat.le_refl _)) (one_nan x2)
        have hsu := sums_succ hlt
        rw [← hsu] at a1 a3
        have f1 := fun wx => run_float_arith (P := Try.prog) wx .add 24 .f64 _ _ _ a1
        have HF := hide_ (finite_any _ a3)
        have i4 : (0 : Int) ≤ (i : Int) := by omega
        have i5 : (i : Int) < (S.length : Int) := by omega
        have HN : Hid (oneB (sums S (i + 1)) = true → SumTo S (i + 1)) := hide_ (fun h => ⟨a3, fun j hj => by
          rcases Nat.lt_or_ge i j with h1 | h1
          · obtain rfl : j = i + 1 := by omega
            exact h
          · exact HST.out.2 j h1⟩)
        have HB : Hid (oneB (sums S (i + 1)) = false → sumOk S = false) := hide_ (fun h => sum_bad (by omega) h)
        generalize hs1 : sums S (i + 1) = s1 at *
        have HS1 := hide_ hs1
        generalize sums S i = s0 at *
        generalize S.getD i 0 = x at *
        cases ho : oneB s1
        · rw [ho] at HF
          have HE := hide_ (HB.out ho)
          clear hst hsu a1 a2 a3 x1 x2 hs1 ho
          go_wp2_with (go_at_call 86; (with_reducible refine (HF.out _).mono ?_); rintro e w2 ⟨rfl, rfl⟩)
          go_ret2
          exact ⟨by rw [(mean_bad h0 HE.out).1, (mean_bad h0 HE.out).2]; rfl, hb1⟩
        · rw [ho] at HF
          have HE := hide_ (HN.out ho)
          clear hst hsu a1 a2 a3 x1 x2 hs1 ho
          go_wp2_with (go_at_call 86; (with_reducible refine (HF.out _).mono ?_); rintro e w2 ⟨rfl, rfl⟩)
          go_round
          case rel => exact ⟨i + 1, hlt, by go_num, by rw [HS1.out], HE.out⟩
          case measure => simp [intOf]; omega
      · have hil : i = S.length := by omega
        rw [hil] at hst HST ⊢
        obtain ⟨a1, a2, a3⟩ := over_ok hst.1 (hst.2 _ (Nat.le_refl _)) (show S.length < 2 ^ 53 by omega) h0
        have f1 := fun wx => run_float_arith (P := Try.prog) wx .quo 24 .f64 _ _ _ a1
        have HE := hide_ hst.ok
        have hge : ¬ S.length < S.length := by omega
        clear hst a1 a2 a3 hil hlt hi
        go_wp2
        go_ret2
        exact ⟨by rw [(mean_good h0 HE.out).1, (mean_good h0 HE.out).2]; rfl, hb1⟩
set_option maxHeartbeats 3200000 in
theorem rmean_any (p : Option Addr) (n c : Nat) (L : List Nat) (w : World) (hn : n = L.length) (hp : FL w p L) (hw : W64 L) (hsz : n ≤ 65536) :
    Calls Try.prog 52 #[.slice p n c] w fun e w' => e = .returned (.tuple #[.float .f64 (meanV (srt L)), .int .i64 (meanE (srt L))]) ∧ Below w.heap.size w w' := by
  have HS := hide_ (rorder_any p n c L w hn hp hw (by omega))
  have hok := hide_ (srt_ok hw)
  have hl : (srt L).length ≤ 65536 := by have := srt_le L; omega
  have hd : decide ((65536 : Int) < (n : Int)) = false := decide_eq_false (by omega)
  generalize srt L = S at *
  clear hn hp hw
  rcases Nat.eq_zero_or_pos S.length with h0 | h0
  · have e1 : meanV S = 0 := if_pos h0
    have e2 : meanE S = 0 := if_pos h0
    rw [e1, e2]
    rw [h0] at HS
    clear e1 e2
    go_enter Try.func52, Try.ntmps52
    go_wp2_with (go_at_call 90; (with_reducible refine (HS.out).mono ?_); rintro e w1 ⟨⟨q, c', rfl, hf⟩, hb1⟩)
    go_ret2
    exact ⟨rfl, hb1⟩
  · have hnz : (((S.length : Nat) : Int) == 0) = false := by rw [beq_eq_false_iff_ne]; omega
    go_enter Try.func52, Try.ntmps52
    go_wp2_with (go_at_call 90; (with_reducible refine (HS.out).mono ?_); rintro e w1 ⟨⟨q, c', rfl, hf⟩, hb1⟩)
    obtain ⟨g, o, rfl, hg, hc⟩ := hf.some_ h0
    have HC := hide_ hc
    clear hc hf
    go_loopw [5, 6] (fun vs vi wr => ∃ i : Nat, i ≤ S.length ∧ vi = .int .i64 i ∧ vs = .float .f64 (sums S i) ∧ SumTo S i ∧ ∃ q, wr = w1.drewN q) (fun _ vi _ => S.length - (intOf vi).toNat)
    case atStart => exact ⟨0, by omega, rfl, rfl, SumTo.zero S, 0, rfl⟩
    case round =>
      obtain ⟨i, hi, rfl, rfl, hst, qq, rfl⟩ := hrel
      have HST := hide_ hst
      by_cases hlt : i < S.length
      · have c0 := HC.out i hlt
        obtain ⟨x1, x2⟩ := hok.out i hlt
        obtain ⟨a1, a2, a3⟩ := plus_ok (hst.2 i (Nat.le_refl _)) (one_nan x2)
        have hsu := sums_succ hlt
        rw [← hsu] at a1 a3
        have f1 := fun wx => run_float_arith (P := Try.prog) wx .add 24 .f64 _ _ _ a1
        have HF := hide_ (rfin_any (sums S (i + 1)))
        have i4 : (0 : Int) ≤ (i : Int) := by omega
        have i5 : (i : Int) < (S.length : Int) := by omega
        have HN : Hid (oneB (sums S (i + 1)) = true → SumTo S (i + 1)) := hide_ (fun h => ⟨a3, fun j hj => by
          rcases Nat.lt_or_ge i j with h1 | h1
          · obtain rfl : j = i + 1 := by omega
            exact h
          · exact HST.out.2 j h1⟩)
        have HB : Hid (oneB (sums S (i + 1)) = false → sumOk S = false) := hide_ (fun h => sum_bad (by omega) h)
        generalize hs1 : sums S (i + 1) = s1 at *
        have HS1 := hide_ hs1
        generalize sums S i = s0 at *
        generalize S.getD i 0 = x at *
        cases ho : oneB s1
        · rw [ho] at HF
          have HE := hide_ (HB.out ho)
          clear hst hsu a1 a2 a3 x1 x2 hs1 ho
          go_wp2_with (go_at_call 91; (with_reducible refine (HF.out _).mono ?_); rintro e w2 ⟨rfl, q2, rfl⟩)
          go_ret2
          exact ⟨by rw [(mean_bad h0 HE.out).1, (mean_bad h0 HE.out).2]; rfl, below_drewN hb1 _⟩
        · rw [ho] at HF
          have HE := hide_ (HN.out ho)
          clear hst hsu a1 a2 a3 x1 x2 hs1 ho
          go_wp2_with (go_at_call 91; (with_reducible refine (HF.out _).mono ?_); rintro e w2 ⟨rfl, q2, rfl⟩)
          go_roundw
          case rel => exact ⟨i + 1, hlt, by go_num, by rw [HS1.out], HE.out, _, rfl⟩
          case measure => simp [intOf]; omega
      · have hil : i = S.length := by omega
        rw [hil] at hst HST ⊢
        obtain ⟨a1, a2, a3⟩ := over_ok hst.1 (hst.2 _ (Nat.le_refl _)) (show S.length < 2 ^ 53 by omega) h0
        have f1 := fun wx => run_float_arith (P := Try.prog) wx .quo 24 .f64 _ _ _ a1
        have HE := hide_ hst.ok
        have hge : ¬ S.length < S.length := by omega
        have HF := hide_ (rfin_any (over (sums S S.length) (floatOfInt .f64 (S.length : Int))))
        rw [a3] at HF
        clear hst a1 a2 a3 hil hlt hi
        go_wp2_with (go_at_call 91; (with_reducible refine (HF.out _).mono ?_); rintro e w2 ⟨rfl, q2, rfl⟩)
        go_ret2
        exact ⟨by rw [(mean_good h0 HE.out).1, (mean_good h0 HE.out).2]; rfl, below_drewN hb1 _⟩
end Go.Proofs.Ytlgnidjkilbdfaa

namespace Go.Proofs.Ytlgnidjkilbdfaa
open Go.RowKit Ieee
set_option linter.unusedVariables false
set_option maxRecDepth 100000
/-- SameFloat: equal, or both NaN. -/
def sfB (a b : Nat) : Bool := feqB a b || (nanB a && nanB b)
theorem quiet_same_left {P : Program} {f : FuncId} {args : Array Value} {w : World} {a n : Nat} {v : Value}
    (h : Calls P f args (w.drewN (a + n)) fun e w' => e = .returned v ∧ w.drewN (a + n) = w') : Calls P f args (w.drewN (a + n)) fun e w'' => e = .returned v ∧ ∃ m, w'' = w.drewN (a + m) :=
  h.mono fun _ _ ⟨he, hm⟩ => ⟨he, n, hm.symm⟩
theorem sfB_self (a : Nat) : sfB a a = true := by
  unfold sfB feqB
  rw [show FloatKind.f64.format.order a a = double.order a a from rfl, order_self]
  cases nanB a <;> rfl
theorem sf_any (a b : Nat) (w : World) : Calls Try.prog 54 #[.float .f64 a, .float .f64 b] w fun e w' => e = .returned (.bool (sfB a b)) ∧ w = w' := by
  have g2 := ne_self a
  have g3 := ne_self b
  unfold sfB feqB
  generalize h1 : (FloatKind.f64.format.order a b == some .eq) = e1
  cases e1 <;> cases h2 : nanB a <;> rw [h2] at g2 <;> cases h3 : nanB b <;> rw [h3] at g3
  all_goals clear h2 h3
  all_goals go_enter Try.func54, Try.ntmps54
  all_goals go_wp2
  all_goals go_ret
  all_goals exact ⟨rfl, rfl⟩
theorem sf_self (a : Nat) (w : World) : Calls Try.prog 54 #[.float .f64 a, .float .f64 a] w fun e w' => e = .returned (.bool true) ∧ w = w' := by
  have h := sf_any a a w
  rw [sfB_self] at h
  exact h
set_option maxHeartbeats 1600000 in
theorem samel_any (p q : Option Addr) (n c d : Nat) (S : Rc) (w : World) (hn : n = S.length) (hp : TL w p S) (hq : TL w q S) (hs : n ≤ 1000000) :
    Calls Try.prog 48 #[.slice p n c, .slice q n d] w fun e w' => e = .returned (.bool true) ∧ ∃ k, w' = w.drewN k := by
  subst hn
  have HP := hide_ (fun k hk => hp.some_ (k := k) hk)
  have HQ := hide_ (fun k hk => hq.some_ (k := k) hk)
  clear hp hq
  go_enter Try.func48, Try.ntmps48
  go_wp2
  go_loopw [5] (fun i wr => ∃ k : Nat, k ≤ S.length ∧ i = .int .i64 k ∧ ∃ q, wr = w.drewN q) (fun i _ => S.length - (intOf i).toNat)
  case atStart => exact ⟨0, by omega, rfl, 0, rfl⟩
  case round =>
    obtain ⟨k, hk, rfl, q', rfl⟩ := hrel
    by_cases hlt : k < S.length
    · obtain ⟨g, o, rfl, hg, hc⟩ := HP.out _ hlt
      obtain ⟨g', o', rfl, hg', hc'⟩ := HQ.out _ hlt
      obtain ⟨c1, c2⟩ := hc k hlt
      obtain ⟨d1, d2⟩ := hc' k hlt
      clear hc hc'
      generalize (S.getD k (0, 0)).1 = a at *
      generalize (S.getD k (0, 0)).2 = b at *
      have H := hide_ (sf_self b)
      have i4 : (0 : Int) ≤ (k : Int) := by omega
      have i5 : (k : Int) < (S.length : Int) := by omega
      have hne : (a != a) = false := by simp
      go_wp2
      go_quiet ((go_at_call 54; exact quiet_same_left (H.out _)))
      go_wp2
      go_roundw
      case rel => exact ⟨k + 1, by omega, by go_num, _, rfl⟩
      case measure => simp [intOf]; omega
    · have hge : ¬ k < S.length := hlt
      go_wp2
      go_ret
      exact ⟨rfl, _, rfl⟩
end Go.Proofs.Ytlgnidjkilbdfaa

namespace Go.Proofs.Ytlgnidjkilbdfaa
open Go.RowKit Ieee
set_option linter.unusedVariables false
set_option maxRecDepth 100000
theorem rmedian_any (p : Option Addr) (n c : Nat) (L : List Nat) (w : World) (hn : n = L.length) (hp : FL w p L) (hw : W64 L) (hsz : n ≤ 1000000) :
    Calls Try.prog 53 #[.slice p n c] w fun e w' => e = .returned (.tuple #[.float .f64 (medL (srt L)), .bool (decide (0 < (srt L).length))]) ∧ Below w.heap.size w w' := by
  have H := hide_ (rorder_any p n c L w hn hp hw hsz)
  have hb : (srt L).length ≤ 140737488355328 := by have := srt_le L; omega
  have hS : Hid (∀ k, k < (srt L).length → (srt L).getD k 0 < 2 ^ 64 ∧ oneB ((srt L).getD k 0) = true) := hide_ (fun k hk => ⟨hw _ (srt_mem.1 (getD_mem hk)).1, (srt_mem.1 (getD_mem hk)).2⟩)
  generalize srt L = S at *
  clear hn hp hw
  rcases Nat.eq_zero_or_pos S.length with h0 | h0
  · have hm : medL S = 0 := if_pos h0
    rw [hm]
    rw [h0] at H ⊢
    clear hm h0 hb hS
    go_enter Try.func53, Try.ntmps53
    go_wp2_with (go_at_call 90; (with_reducible refine (H.out).mono ?_); rintro e w1 ⟨⟨q, c', rfl, hf⟩, hb1⟩)
    go_ret2
    exact ⟨rfl, hb1⟩
  · rw [decide_eq_true h0]
    rcases Nat.mod_two_eq_zero_or_one S.length with h2 | h2
    · obtain ⟨k, hk⟩ : ∃ k, S.length = 2 * (k + 1) := ⟨S.length / 2 - 1, by omega⟩
      have hm : medL S = plus (half (S.getD k 0)) (half (S.getD (k + 1) 0)) := by
        unfold medL
        rw [if_neg (by omega), if_neg (by omega), show S.length / 2 - 1 = k by omega, show S.length / 2 = k + 1 by omega]
      rw [hm]
      obtain ⟨a1, a2⟩ := hS.out k (by omega)
      obtain ⟨b1, b2⟩ := hS.out (k + 1) (by omega)
      have e1 := fun wx => run_float_arith (P := Try.prog) wx .mul 24 .f64 (S.getD k 0) 4602678819172646912 _ (half_mul a1 a2)
      have e2 := fun wx => run_float_arith (P := Try.prog) wx .mul 24 .f64 (S.getD (k + 1) 0) 4602678819172646912 _ (half_mul b1 b2)
      have e3 := fun wx => run_float_arith (P := Try.prog) wx .add 24 .f64 _ _ _ (plus_of a1 b1 a2 b2)
      generalize plus (half (S.getD k 0)) (half (S.getD (k + 1) 0)) = r at *
      generalize half (S.getD k 0) = x at *
      generalize half (S.getD (k + 1) 0) = y at *
      have HC : Hid (∀ (w : World) q, FL w q S → ∃ g o, q = some ⟨g, o, none⟩ ∧ g < w.heap.size ∧ w.cell? ⟨g, o + k, none⟩ = some (.float .f64 (S.getD k 0)) ∧ w.cell? ⟨g, o + (k + 1), none⟩ = some (.float .f64 (S.getD (k + 1) 0))) := hide_ (fun w q h => by
        obtain ⟨g, o, h1, h2, h3⟩ := h.some_ h0
        exact ⟨g, o, h1, h2, h3 k (by omega), h3 (k + 1) (by omega)⟩)
      generalize S.getD k 0 = u at *
      generalize S.getD (k + 1) 0 = v at *
      obtain ⟨j, hj⟩ : ∃ j, j = k + 1 := ⟨_, rfl⟩
      rw [← hj] at hk HC
      have i0 : ((S.length : Nat) : Int) / 2 = (j : Int) := by omega
      have i1 : ((S.length : Nat) : Int) % 2 = 0 := by omega
      have i2 : (j : Int) - 1 = (k : Int) := by omega
      have i3 : (k : Int) < ((S.length : Nat) : Int) := by omega
      have i4 : (j : Int) < ((S.length : Nat) : Int) := by omega
      have i5 : ((S.length : Nat) : Int).tdiv 2 = (j : Int) := by rw [Int.tdiv_eq_ediv_of_nonneg (by omega)]; exact i0
      have i6 : IntKind.i64.wrap ((j : Int) - 1) = (k : Int) := by rw [i2]; exact IntWalk.i64_in _ (by omega)
      have i7 : (0 : Int) ≤ (k : Int) := by omega
      have i8 : (0 : Int) ≤ (j : Int) := by omega
      have i9 : k < S.length := by omega
      have i10 : j < S.length := by omega
      have i11 : (((S.length : Nat) : Int) == 0) = false := by rw [beq_eq_false_iff_ne]; omega
      clear hm hS a1 a2 b1 b2 hk h0 h2 hj
      generalize S.length = m at *
      go_enter Try.func53, Try.ntmps53
      go_wp2_with (go_at_call 90; (with_reducible refine (H.out).mono ?_); rintro e w1 ⟨⟨q, c', rfl, hf⟩, hb1⟩; obtain ⟨g, o, rfl, hg, c1, c2⟩ := HC.out _ _ hf)
      go_quiet (fail)
      go_wp2
      go_ret2
      exact ⟨rfl, below_drewN hb1 _⟩
    · obtain ⟨j, hk⟩ : ∃ j, S.length = 2 * j + 1 := ⟨S.length / 2, by omega⟩
      have hm : medL S = S.getD j 0 := by
        unfold medL
        rw [if_neg (by omega), if_pos h2, show S.length / 2 = j by omega]
      rw [hm]
      have HC : Hid (∀ (w : World) q, FL w q S → ∃ g o, q = some ⟨g, o, none⟩ ∧ g < w.heap.size ∧ w.cell? ⟨g, o + j, none⟩ = some (.float .f64 (S.getD j 0))) := hide_ (fun w q h => by
        obtain ⟨g, o, h1, h2, h3⟩ := h.some_ h0
        exact ⟨g, o, h1, h2, h3 j (by omega)⟩)
      generalize S.getD j 0 = v at *
      have i0 : ((S.length : Nat) : Int) / 2 = (j : Int) := by omega
      have i1 : ((S.length : Nat) : Int) % 2 = 1 := by omega
      have i4 : (j : Int) < ((S.length : Nat) : Int) := by omega
      have i8 : (0 : Int) ≤ (j : Int) := by omega
      have i10 : j < S.length := by omega
      have i11 : (((S.length : Nat) : Int) == 0) = false := by rw [beq_eq_false_iff_ne]; omega
      clear hm hS hk h0 h2
      generalize S.length = m at *
      go_enter Try.func53, Try.ntmps53
      go_wp2_with (go_at_call 90; (with_reducible refine (H.out).mono ?_); rintro e w1 ⟨⟨q, c', rfl, hf⟩, hb1⟩; obtain ⟨g, o, rfl, hg, c2⟩ := HC.out _ _ hf)
      go_ret2
      exact ⟨rfl, hb1⟩
/-- CopyFloats. -/
theorem copyf_any (p : Option Addr) (n c : Nat) (L : List Nat) (w : World) (hn : n = L.length) (hp : FL w p L) (hsz : n ≤ 1000000) :
    Calls Try.prog 89 #[.slice p n c] w fun e w' => (∃ v, e = .returned v ∧ w'.ownsRow w.heap.size 24 1 v n (L.map encF)) ∧ Below w.heap.size w w' := by
  obtain ⟨i0, hi, hz0, hz1, hz2⟩ := info_parts info24
  have hown : (w.alloc (.cells #[] 24)).ownsRow w.heap.size 24 1 (.slice (some ⟨w.heap.size, 0, none⟩) 0 0) 0 [] := row_lit w w.heap.size 24 1 0 #[] (Nat.le_refl _) rfl (Nat.zero_le _)
  have hrun : ∃ v' w', (Builtin.append_ #[80, 80] 80 #[.slice (some ⟨w.heap.size, 0, none⟩) 0 0, .slice p n c]).run Try.prog (w.alloc (.cells #[] 24)) = .ok v' w' ∧ w'.ownsRow w.heap.size 24 1 v' n (L.map encF) ∧ (w.alloc (.cells #[] 24)).grownBy w' (some w.heap.size) := by
    rcases p with _ | a
    · have hL : L = [] := by
        rcases hp with h | ⟨g, o, h, _⟩
        · exact h
        · cases h
      subst hL
      subst hn
      refine ⟨_, _, ?_, by simpa using hown, ⟨rfl, rfl, rfl, Nat.le_refl _, fun _ _ _ => rfl⟩⟩
      simp [Builtin.append_, run_underlying Try.underlying80, sizeOf, typeInfo, hi, Builtin.lenOf, Builtin.firstCells, storeCells]
    · have hc : ∀ j u, (L.map encF)[j]? = some u → (w.alloc (.cells #[] 24)).cell? (a.add j) = some u := by
        intro j u hu
        rcases hp with rfl | ⟨g, o, h, hg, hc⟩
        · simp at hu
        · cases h
          have hj : j < L.length := by
            rcases Nat.lt_or_ge j L.length with h | h
            · exact h
            · rw [List.getElem?_eq_none (by simpa using h)] at hu; cases hu
          refine cell_past ?_
          rw [Addr.add_lit, hc j hj]
          rw [List.getElem?_map, List.getElem?_eq_getElem hj] at hu
          simp only [Option.map_some, Option.some.injEq] at hu
          rw [← hu, List.getD_eq_getElem?_getD, List.getElem?_eq_getElem hj]
          rfl
      obtain ⟨v', w', hr, r1, r2, _⟩ := run_append_own (P := Try.prog) (w.alloc (.cells #[] 24)) w.heap.size 80 80 24 i0 (.float .f64 0) 1 8 Try.underlying80 hi hz0 hz1 hz2 rfl (by decide) _ 0 [] hown a n c (L.map encF) (by simp [hn]) hc
        (by intro u hu; obtain ⟨x, _, rfl⟩ := List.mem_map.1 hu; rfl) (by unfold maxLen; omega) (by omega) (by simp)
      exact ⟨v', w', hr, by simpa using r1, r2⟩
  obtain ⟨v', w', hr, r1, r2⟩ := hrun
  have HR := hide_ hr
  have H1 := hide_ r1
  have H2 := hide_ r2
  clear hr r1 r2 hp hn hown
  go_enter Try.func89, Try.ntmps89
  go_wp2_with (at_builtin; go_must (refine wpList_app rfl _ _ 80 rfl HR.out ?_))
  go_ret
  exact ⟨⟨_, rfl, H1.out⟩, ((Below.refl _ _).alloc (Nat.le_refl _) _).grown H2.out (by simp) (fun k hk => by cases hk; exact Nat.le_refl _)⟩
/-- What stands behind a list that is lent. -/
def spareF : List Nat := [4593671619917905920, 4607745368753438720, 4611967493404098560]
theorem spare_at : ∀ i : Nat, i < 3 → double.add 4593671619917905920 (floatOfInt .f64 (i : Int)) = some (spareF.getD i 0) := by decide +kernel
theorem spare_snoc {i : Nat} (h : i < 3) (L : List Nat) : (L ++ spareF.take (i + 1)) = (L ++ spareF.take i) ++ [spareF.getD i 0] := by
  have hl : spareF.length = 3 := rfl
  rw [List.take_succ_eq_append_getElem (by omega), List.append_assoc, List.getD_eq_getElem?_getD, List.getElem?_eq_getElem (by omega)]
  rfl
set_option maxHeartbeats 1600000 in
theorem lentf_any (p : Option Addr) (n c : Nat) (L : List Nat) (w : World) (hn : n = L.length) (hp : FL w p L) (hsz : n ≤ 1000) :
    Calls Try.prog 51 #[.slice p n c] w fun e w' => (∃ v, e = .returned v ∧ w'.ownsRow w.heap.size 24 1 v (n + 3) ((L ++ spareF).map encF)) ∧ Below w.heap.size w w' := by
  have HC := hide_ (copyf_any p n c L w hn hp (by omega))
  have HN := hide_ hn
  obtain ⟨i0, hi0, hz0, hz1, hz2⟩ := info_parts info24
  clear hp hn
  go_enter Try.func51, Try.ntmps51
  go_wp2_with (go_at_call 89; (with_reducible refine (HC.out).mono ?_); rintro e w1 ⟨⟨v1, rfl, ho1⟩, hb1⟩)
  have hg1 := Grew.of hb1
  clear hb1
  go_loopw [3, 4] (fun u vi wr => ∃ i : Nat, i ≤ 3 ∧ vi = .int .i64 i ∧ wr.ownsRow w.heap.size 24 1 u (n + i) ((L ++ spareF.take i).map encF) ∧ Grew w.heap.size w wr) (fun _ vi _ => 3 - (intOf vi).toNat)
  case atStart => exact ⟨0, by omega, rfl, by simpa using ho1, hg1⟩
  case round =>
    obtain ⟨i, hi, rfl, hu, hgr⟩ := hrel
    by_cases hlt : i < 3
    · have f1 := fun wx => run_float_arith (P := Try.prog) wx .add 24 .f64 _ _ _ (spare_at i hlt)
      have HS := hide_ (spare_snoc hlt L)
      have hkb : (n + i + 1) * 8 ≤ 140737488355328 := by omega
      have i4 : (0 : Int) ≤ (i : Int) := by omega
      have i5 : (i : Int) < 3 := by omega
      generalize spareF.getD i 0 = x at *
      clear ho1 hg1
      go_wp2_with (at_builtin; go_must (
        refine wpList_push2 rfl _ _ 80 rfl w.heap.size 24 i0 (.float .f64 0) 1 8 Try.underlying80 hi0 hz0 hz1 hz2 rfl (by decide) (by decide) _ (n + i) _ rfl (hu.alloc _) wr.heap.size #[.float .f64 x] 24 1 1 rfl (heap_alloc_last _ _) rfl (by kernel_rfl) hkb (hgr.alloc _).2 ?_
        intro v' w3 ho3 hg3 hf3 hn3
        have hgA := hgr.alloc (.cells #[.float .f64 x] 24)
        have hgr3 := own_grew hgA (hu.alloc (.cells #[.float .f64 x] 24)) hg3))
      exact ⟨⟨i + 1, hlt, by simp, by rw [HS.out, List.map_append]; exact ho3, hgr3⟩, by simp [intOf]; omega⟩
    · have hi3 : i = 3 := by omega
      rw [hi3] at hu ⊢
      clear ho1 hg1 hlt hi
      go_wp2
      go_ret
      exact ⟨⟨_, rfl, hu⟩, hgr.below⟩
set_option maxHeartbeats 1600000 in
/-- SameFloats: one list twice. -/
theorem samef_any (p q : Option Addr) (n c d : Nat) (L : List Nat) (w : World) (hn : n = L.length) (hp : FL w p L) (hq : FL w q L) (hs : n ≤ 1000000) :
    Calls Try.prog 92 #[.slice p n c, .slice q n d] w fun e w' => e = .returned (.bool true) ∧ ∃ k, w' = w.drewN k := by
  subst hn
  have HP := hide_ hp
  have HQ := hide_ hq
  clear hp hq
  go_enter Try.func92, Try.ntmps92
  go_wp2
  go_loopw [5] (fun i wr => ∃ k : Nat, k ≤ L.length ∧ i = .int .i64 k ∧ ∃ q, wr = w.drewN q) (fun i _ => L.length - (intOf i).toNat)
  case atStart => exact ⟨0, by omega, rfl, 0, rfl⟩
  case round =>
    obtain ⟨k, hk, rfl, q', rfl⟩ := hrel
    by_cases hlt : k < L.length
    · obtain ⟨g, o, rfl, hg, hc⟩ := HP.out.some_ (by omega)
      obtain ⟨g', o', rfl, hg', hc'⟩ := HQ.out.some_ (by omega)
      have c1 := hc k hlt
      have d1 := hc' k hlt
      clear hc hc'
      generalize L.getD k 0 = b at *
      have H : Hid (∀ w, Calls Try.prog 38 #[.float .f64 b, .float .f64 b] w fun e w' => e = .returned (.bool true) ∧ w = w') := hide_ (fun w => by
        have h := same_any b b w
        rw [show sameB b b = true by unfold sameB; simp] at h
        exact h)
      have i4 : (0 : Int) ≤ (k : Int) := by omega
      have i5 : (k : Int) < (L.length : Int) := by omega
      go_wp2
      go_quiet ((go_at_call 38; exact quiet_same_left (H.out _)))
      go_wp2
      go_roundw
      case rel => exact ⟨k + 1, by omega, by go_num, _, rfl⟩
      case measure => simp [intOf]; omega
    · have hge : ¬ k < L.length := hlt
      go_wp2
      go_ret
      exact ⟨rfl, _, rfl⟩
/-- KeptFloats: what was lent is as it was. -/
theorem keptf_any (p q : Option Addr) (n c d : Nat) (L : List Nat) (w : World) (hn : n = L.length) (hp : FL w p L) (hq : FL w q (L ++ spareF)) (hs : n ≤ 1000) :
    Calls Try.prog 55 #[.slice q (n + 3) d, .slice p n c] w fun e w' => e = .returned (.bool true) ∧ Below w.heap.size w w' := by
  have HL := hide_ (lentf_any p n c L w hn hp hs)
  have HS := hide_ (fun wx q' d' (h1 : FL wx q (L ++ spareF)) (h2 : FL wx q' (L ++ spareF)) => samef_any q q' (n + 3) d d' (L ++ spareF) wx (by rw [List.length_append, hn]; rfl) h1 h2 (by omega))
  have HQ := hide_ hq
  clear hp hq hn
  go_enter Try.func55, Try.ntmps55
  go_wp2_with (first
    | (go_at_call 51; go_must (
        (with_reducible refine (HL.out).mono ?_)
        rintro e w1 ⟨⟨v1, rfl, ho1⟩, hb1⟩
        obtain ⟨p1, c1, rfl⟩ := row_slice ho1
        have F1 := (own_fl ho1).2
        have F2 := HQ.out.below hb1))
    | (go_at_call 92; go_must (
        (with_reducible refine (HS.out _ _ _ F2 F1).mono ?_)
        rintro e w2 ⟨rfl, q2, rfl⟩)))
  go_ret
  exact ⟨rfl, below_drewN hb1 _⟩
end Go.Proofs.Ytlgnidjkilbdfaa

namespace Go.Proofs.Ytlgnidjkilbdfaa
open Ieee
set_option linter.unusedVariables false
set_option maxRecDepth 100000
/-- One behind the other: ticks rise, and no small gap is open. -/
def Rl (p q : Int × Nat) : Prop := p.1 < q.1 ∧ (gapN p q < 1 ∨ 3 < gapN p q)
def Lnk (L : Rc) : Prop := ∀ i, (h : i + 1 < L.length) → Rl L[i] L[i + 1]
theorem lastT_eq {A : Rc} (h : 0 < A.length) : lastT A = A[A.length - 1] := by
  unfold lastT
  rw [List.getD_eq_getElem?_getD, List.getElem?_eq_getElem (by omega)]
  rfl
theorem lnk_snoc {A : Rc} {s : Int × Nat} (h : Lnk A) (hl : A ≠ [] → Rl (lastT A) s) : Lnk (A ++ [s]) := by
  intro i hi
  rw [List.length_append, List.length_singleton] at hi
  rcases Nat.lt_or_ge (i + 1) A.length with h1 | h1
  · rw [List.getElem_append_left (by omega), List.getElem_append_left h1]
    exact h i h1
  · have hA : 0 < A.length := by omega
    have hr := hl (by rintro rfl; cases hA)
    rw [lastT_eq hA] at hr
    have e : i = A.length - 1 := by omega
    subst e
    rw [List.getElem_append_left (by omega), List.getElem_append_right (by omega)]
    simpa using hr
theorem put_lnk {o : Rc} {la s : Int × Nat} (h : Lnk o) (hne : o ≠ []) (hla : lastT o = la) : ∀ k, Lnk (o ++ putTo la s k) ∧ (lastT (o ++ putTo la s k)).1 = la.1 + (k : Int)
  | 0 => by
    have e : putTo la s 0 = [] := rfl
    rw [e, List.append_nil, hla]
    exact ⟨h, by simp⟩
  | k + 1 => by
    obtain ⟨h1, h2⟩ := put_lnk (s := s) h hne hla k
    rw [putTo_succ, ← List.append_assoc, lastT_snoc]
    refine ⟨lnk_snoc h1 fun _ => ?_, by show la.1 + 1 + (k : Int) = _; omega⟩
    unfold Rl gapN
    rw [h2]
    show la.1 + (k : Int) < la.1 + 1 + (k : Int) ∧ (la.1 + 1 + (k : Int) - (la.1 + (k : Int)) - 1 < 1 ∨ _)
    exact ⟨by omega, .inl (by omega)⟩
structure GInv2 (S o : Rc) (k : Nat) : Prop where
  lnk : Lnk o
  last : o ≠ [] → ∀ j, k ≤ j → (h : j < S.length) → (lastT o).1 < S[j].1
  mem : ∀ i, i < k → (h : i < S.length) → oneB S[i].2 = true → S[i] ∈ o
theorem asc_at {S : Rc} (ha : Asc S) {i j : Nat} (hij : i < j) (hj : j < S.length) : (S[i]'(by omega)).1 < S[j].1 := by
  unfold Asc at ha
  rw [List.pairwise_iff_getElem] at ha
  exact ha i j (by omega) hj hij
theorem GInv2.to {S : Rc} (ha : Asc S) : ∀ k, k ≤ S.length → GInv2 S (fillTo S k) k
  | 0, _ => ⟨(by rw [fillTo_zero]; intro i hi; cases hi), fun h => absurd (fillTo_zero S) h, fun i hi => by omega⟩
  | k + 1, hk => by
    have ih := GInv2.to ha k (by omega)
    have hS : S.getD k (0, 0) = S[k] := by rw [List.getD_eq_getElem?_getD, List.getElem?_eq_getElem (by omega)]; rfl
    rw [fillTo_succ (by omega), hS]
    generalize fillTo S k = o at *
    unfold stepF
    cases h1 : oneB S[k].2
    · rw [if_neg (by simp)]
      refine ⟨ih.lnk, fun h j hj hl => ih.last h j (by omega) hl, fun i hi hl h => ?_⟩
      rcases Nat.lt_or_ge i k with h2 | h2
      · exact ih.mem i h2 hl h
      · obtain rfl : i = k := by omega
        rw [h1] at h; cases h
    · rw [if_pos rfl]
      have hlast : ∀ j, k + 1 ≤ j → (h : j < S.length) → S[k].1 < S[j].1 := fun j hj hl => asc_at ha (by omega) hl
      by_cases h0 : o = []
      · subst h0
        rw [if_pos rfl]
        refine ⟨lnk_snoc (by intro i hi; cases hi) (fun h => absurd rfl h), fun _ => by rw [lastT_snoc]; exact hlast, fun i hi hl h => ?_⟩
        rcases Nat.lt_or_ge i k with h2 | h2
        · have := ih.mem i h2 hl h; cases this
        · obtain rfl : i = k := by omega
          simp
      · rw [if_neg h0]
        have hlt := ih.last h0 k (Nat.le_refl _) (by omega)
        refine ⟨?_, fun _ => by rw [lastT_snoc]; exact hlast, fun i hi hl h => ?_⟩
        · unfold putIn
          by_cases hg : gapN (lastT o) S[k] < 1 ∨ 3 < gapN (lastT o) S[k]
          · rw [if_pos hg, List.append_nil]
            exact lnk_snoc ih.lnk fun _ => ⟨hlt, hg⟩
          · rw [if_neg hg]
            obtain ⟨n, hn⟩ : ∃ n : Nat, gapN (lastT o) S[k] = n := ⟨(gapN (lastT o) S[k]).toNat, by omega⟩
            rw [hn, Int.toNat_natCast]
            obtain ⟨q1, q2⟩ := put_lnk (s := S[k]) ih.lnk h0 rfl n
            refine lnk_snoc q1 fun _ => ?_
            unfold Rl gapN
            rw [q2]
            unfold gapN at hn
            exact ⟨by omega, .inl (by omega)⟩
        · rcases Nat.lt_or_ge i k with h2 | h2
          · exact List.mem_append_left _ (List.mem_append_left _ (ih.mem i h2 hl h))
          · obtain rfl : i = k := by omega
            simp
/-- What Fill tells, it tells again. -/
theorem fill_twice {A : Rc} (hl : Lnk A) (h1 : ∀ x ∈ A, oneB x.2 = true) : ∀ k, k ≤ A.length → fillTo A k = A.take k
  | 0, _ => rfl
  | k + 1, hk => by
    have ih := fill_twice hl h1 k (by omega)
    have hA : A.getD k (0, 0) = A[k] := by rw [List.getD_eq_getElem?_getD, List.getElem?_eq_getElem (by omega)]; rfl
    rw [fillTo_succ (by omega), ih, hA, List.take_succ_eq_append_getElem (by omega)]
    unfold stepF
    rw [if_pos (h1 _ (List.getElem_mem _))]
    by_cases h0 : A.take k = []
    · rw [if_pos h0, h0]
    · rw [if_neg h0]
      have hk0 : 0 < k := by
        rcases Nat.eq_zero_or_pos k with h | h
        · subst h; exact absurd rfl h0
        · exact h
      have hlt : lastT (A.take k) = A[k - 1] := by
        rw [lastT_eq (by rw [List.length_take]; omega), List.getElem_take]
        congr 1
        rw [List.length_take]; omega
      have hr := hl (k - 1) (by omega)
      have e : A[k - 1 + 1]'(by omega) = A[k] := by congr 1; omega
      rw [e] at hr
      have hp : putIn (A[k - 1]'(by omega)) A[k] = [] := if_pos hr.2
      rw [hlt, hp, List.append_nil]
theorem lnk_asc {A : Rc} (h : Lnk A) : Asc A := by
  refine upto.asc (k := A.length) ?_ (Nat.le_refl _)
  intro j hj hl
  rw [List.getD_eq_getElem?_getD, List.getD_eq_getElem?_getD, List.getElem?_eq_getElem hl, List.getElem?_eq_getElem (by omega)]
  exact (h j hl).1
/-- All that CleanFills asks. -/
structure Told (S A : Rc) : Prop where
  one : ∀ x ∈ A, oneB x.2 = true
  w64 : ∀ x ∈ A, x.2 < 2 ^ 64
  rng : RngL A
  len : A.length ≤ 4 * S.length
  asc : Asc A
  e : fillE A = 0
  twice : fillL A = A
  lnk : Lnk A
  mem : ∀ i, (h : i < S.length) → oneB S[i].2 = true → S[i] ∈ A
theorem any_bad {A : Rc} (h : RngL A) : A.any badT = false := by
  rw [List.any_eq_false]
  intro x hx
  have := (h x hx).1
  unfold badT
  simp
  omega
theorem told_of {S : Rc} (h64 : ∀ x ∈ S, x.2 < 2 ^ 64) (he : fillE S = 0) : Told S (fillL S) ∧ Asc S := by
  unfold fillE at he
  by_cases ha : Asc S
  · rw [if_pos ha] at he
    cases hb : S.any badT
    · rw [hb] at he
      simp only [Bool.false_eq_true, if_false] at he
      cases hi : (fillL S).any (fun x => !oneB x.2)
      · have hr := rng_of hb h64
        have hI := FInv.to hr S.length (Nat.le_refl _)
        have hG := GInv2.to ha S.length (Nat.le_refl _)
        have h1 : ∀ x ∈ fillL S, oneB x.2 = true := fun x hx => by
          cases h : oneB x.2
          · rw [List.any_eq_true.2 ⟨x, hx, by rw [h]; rfl⟩] at hi; cases hi
          · rfl
        have ht : fillL (fillL S) = fillL S := by
          have := fill_twice hG.lnk h1 (fillL S).length (Nat.le_refl _)
          unfold fillL at this ⊢
          rw [this, List.take_length]
        refine ⟨⟨h1, fun x hx => (hI.rng x hx).2, hI.rng, hI.len, lnk_asc hG.lnk, ?_, ht, hG.lnk, fun i h => hG.mem i h h⟩, ha⟩
        have ha2 : Asc (fillL S) := lnk_asc hG.lnk
        have hb2 : (fillL S).any badT = false := any_bad hI.rng
        unfold fillE
        rw [if_pos ha2, hb2, ht, hi]
        rfl
      · rw [hi] at he; cases he
    · rw [hb] at he; cases he
  · rw [if_neg ha] at he; cases he
end Go.Proofs.Ytlgnidjkilbdfaa

namespace Go.Proofs.Ytlgnidjkilbdfaa
open Go.RowKit Go.ChangeShapes Go.WideShapes Go.Deep
set_option linter.unusedVariables false
theorem wf_f64 {b : Nat} (h : (Lit.float .f64 b).wf = true) : b < 2 ^ 64 := by
  simp [Lit.wf] at h
  exact h
theorem trod_f64 {H : Type} {enc : TypeId × Value → H} {w : World} {base n : Nat} {spare : Nat → Bool} {held : Bool} {v : Value} {y : DataW H × List MemPlace}
    (h : DataW.trod enc Try.prog w base spare held n 24 [v] = some y) : ∃ b, v = .float .f64 b ∧ b < 2 ^ 64 := by
  cases n with
  | zero => simp [DataW.trod] at h
  | succ n =>
    simp only [DataW.trod, Try.underlying24] at h
    cases v <;> simp at h
    exact ⟨_, by rw [h.1.1], wf_f64 h.1.2⟩
/-- A slice of heights. -/
theorem open_f64s_ {H : Type} {enc : TypeId × Value → H} {w : World} {base : Nat} {held : Bool} {a : Option Addr} {len cap : Nat} {d : DataW H} {ps : List MemPlace}
    (h : DataW.Trod enc Try.prog w base (fun _ => true) held 80 (.slice a len cap) d ps) : ∃ L : List Nat, len = L.length ∧ len ≤ cap ∧ cap ≤ maxLen ∧ FL w a L ∧ W64 L := by
  obtain ⟨fuel, hf⟩ := h
  rcases open_slice1 Try.underlying80 (by kernel_rfl) hf with ⟨hcs, _⟩ | ⟨x, l, c, m, n, V, D, Pl, hcs, _, hlc, hcm, hm, _, hall⟩
  · simp [Value.cells] at hcs
    obtain ⟨rfl, rfl, rfl⟩ := hcs
    exact ⟨[], rfl, Nat.le_refl _, by unfold maxLen; omega, .inl rfl, fun x hx => by cases hx⟩
  · simp only [Value.cells, List.cons.injEq, Value.slice.injEq, and_true] at hcs
    obtain ⟨rfl, rfl, rfl⟩ := hcs
    simp only [if_true] at hm
    subst hm
    have hT : ∀ i, ∃ b : Nat, i < len → (V i = .float .f64 b ∧ b < 2 ^ 64) := by
      intro i
      by_cases hi : i < len
      · obtain ⟨_, h2⟩ := hall i (by omega)
        obtain ⟨b, e1, e2⟩ := trod_f64 h2
        exact ⟨b, fun _ => ⟨e1, e2⟩⟩
      · exact ⟨0, fun h => absurd h hi⟩
    obtain ⟨B, hT⟩ := Classical.axiomOfChoice hT
    have hlen : len = ((List.range len).map B).length := by simp
    have hget : ∀ i, i < len → ((List.range len).map B).getD i 0 = B i := fun i hi => by simp [List.getD_eq_getElem?_getD, hi]
    refine ⟨(List.range len).map B, hlen, hlc, hcm, ?_, ?_⟩
    · rcases Nat.eq_zero_or_pos len with h0 | hp
      · left; subst h0; rfl
      · obtain ⟨g, o, sp⟩ := x
        have c0 := (hall 0 (by omega)).1
        have e0 : (⟨g, o, sp⟩ : Addr).add 0 = ⟨g, o, sp⟩ := by unfold Addr.add; simp
        rw [e0] at c0
        have hsp : sp = none := by
          cases sp with
          | none => rfl
          | some q =>
            unfold World.cell? at c0
            split at c0 <;> simp at c0
        subst hsp
        refine .inr ⟨g, o, rfl, World.block_lt_of_cell? w _ c0, fun k hk => ?_⟩
        rw [← hlen] at hk
        obtain ⟨h1, _⟩ := hall k (by omega)
        rw [hget k hk]
        rw [Addr.add_lit] at h1
        rw [h1, (hT k hk).1]
    · intro p hp
      obtain ⟨i, hi, rfl⟩ := List.mem_map.1 hp
      exact (hT i (by simpa using hi)).2
/-- A slice of samples. -/
theorem open_smps_ {H : Type} {enc : TypeId × Value → H} {w : World} {base : Nat} {held : Bool} {a : Option Addr} {len cap : Nat} {d : DataW H} {ps : List MemPlace}
    (h : DataW.Trod enc Try.prog w base (fun _ => true) held 23 (.slice a len cap) d ps) : ∃ S : Rc, len = S.length ∧ len ≤ cap ∧ cap ≤ maxLen ∧ TL w a S ∧ In64 S := by
  obtain ⟨fuel, hf⟩ := h
  rcases open_slice_pairs Try.underlying23 Try.underlying26 (by kernel_rfl) rfl rfl (by kernel_rfl) (by kernel_rfl) hf with ⟨hcs, _⟩ | ⟨x, l, c, m, n, V0, V1, D0, D1, P0, P1, hcs, _, hlc, hcm, hm, _, hall⟩
  · simp [Value.cells] at hcs
    obtain ⟨rfl, rfl, rfl⟩ := hcs
    exact ⟨[], rfl, Nat.le_refl _, by unfold maxLen; omega, .inl rfl, ⟨by simp, by simp⟩⟩
  · simp only [Value.cells, List.cons.injEq, Value.slice.injEq, and_true] at hcs
    obtain ⟨rfl, rfl, rfl⟩ := hcs
    simp only [if_true] at hm
    subst hm
    have hT : ∀ i, ∃ t : Int, ∃ b : Nat, i < len → (V0 i = .int .i64 t ∧ V1 i = .float .f64 b ∧ I64 t ∧ b < 2 ^ 64) := by
      intro i
      by_cases hi : i < len
      · obtain ⟨_, _, h3, h4⟩ := hall i (by omega)
        obtain ⟨t, e1, _, w1⟩ := DataW.trod_int Try.underlying3 h3
        obtain ⟨b, e2, hb⟩ := trod_f64 h4
        simp at e1
        exact ⟨t, b, fun _ => ⟨e1, e2, i64_of w1, hb⟩⟩
      · exact ⟨0, 0, fun h => absurd h hi⟩
    obtain ⟨T, hT⟩ := Classical.axiomOfChoice hT
    obtain ⟨B, hT⟩ := Classical.axiomOfChoice hT
    have hlen : len = ((List.range len).map fun i => (T i, B i)).length := by simp
    have hget : ∀ i, i < len → ((List.range len).map fun i => (T i, B i)).getD i (0, 0) = (T i, B i) := fun i hi => by simp [List.getD_eq_getElem?_getD, hi]
    refine ⟨(List.range len).map fun i => (T i, B i), hlen, hlc, hcm, ?_, ⟨?_, ?_⟩⟩
    · rcases Nat.eq_zero_or_pos len with h0 | hp
      · left; subst h0; rfl
      · obtain ⟨g, o, sp⟩ := x
        have c0 := (hall 0 (by omega)).1
        have e0 : (⟨g, o, sp⟩ : Addr).add (0 * 2) = ⟨g, o, sp⟩ := by unfold Addr.add; simp
        rw [e0] at c0
        have hsp : sp = none := by
          cases sp with
          | none => rfl
          | some q =>
            unfold World.cell? at c0
            split at c0 <;> simp at c0
        subst hsp
        refine .inr ⟨g, o, rfl, World.block_lt_of_cell? w _ c0, fun k hk => ?_⟩
        rw [← hlen] at hk
        obtain ⟨h1, h2, _, _⟩ := hall k (by omega)
        obtain ⟨e1, e2, _, _⟩ := hT k hk
        rw [hget k hk]
        rw [Addr.add_lit] at h1
        rw [Addr.add_lit, ← Nat.add_assoc] at h2
        rw [e1] at h1
        rw [e2] at h2
        exact ⟨h1, h2⟩
    · intro p hp
      obtain ⟨i, hi, rfl⟩ := List.mem_map.1 hp
      exact (hT i (by simpa using hi)).2.2.1
    · intro p hp
      obtain ⟨i, hi, rfl⟩ := List.mem_map.1 hp
      exact (hT i (by simpa using hi)).2.2.2
end Go.Proofs.Ytlgnidjkilbdfaa
