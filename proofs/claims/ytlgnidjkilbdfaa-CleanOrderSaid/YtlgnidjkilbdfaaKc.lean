/- Chapter 20, texts joined: Chapter 20: lists of samples: do ticks rise. Chapter 20: ContainsFunc at samples, with the closures of the package. Chapter 20: which sums, differences, products of heights are no NaN. No program walked. Chapter 20: what is put in between two samples. Chapter 20: what Fill tells, as a list; a row appended to a row. Chapter 20: Fill. Chapter 20: two of the chapter's examples. -/
import Derived.Test.YtlgnidjkilbdfaaKb
import Derived.Test.YtlgnidjkilbdfaaRf
import Derived.Test.YtlgnidjkilbdfaaAp
import Derived.Laws.StructEq
namespace Go.Proofs.Ytlgnidjkilbdfaa
open Go.RowKit Ieee
set_option linter.unusedVariables false
set_option maxRecDepth 100000
/-- A slice of samples that reads as a list. -/
def TL (w : World) (p : Option Addr) (S : Rc) : Prop := S = [] ∨ ∃ g o, p = some ⟨g, o, none⟩ ∧ g < w.heap.size ∧ ∀ k, k < S.length → w.cell? ⟨g, o + k * 2, none⟩ = some (.int .i64 (S.getD k (0, 0)).1) ∧ w.cell? ⟨g, o + k * 2 + 1, none⟩ = some (.float .f64 (S.getD k (0, 0)).2)
theorem TL.below {w w' : World} {p : Option Addr} {S : Rc} (h : TL w p S) (hb : Below w.heap.size w w') : TL w' p S := by
  rcases h with rfl | ⟨g, o, rfl, hg, hc⟩
  · exact .inl rfl
  · exact .inr ⟨g, o, rfl, Nat.lt_of_lt_of_le hg hb.size, fun k hk => ⟨(hb.cell (p := ⟨g, _, none⟩) hg).trans (hc k hk).1, (hb.cell (p := ⟨g, _, none⟩) hg).trans (hc k hk).2⟩⟩
theorem TL.some_ {w : World} {p : Option Addr} {S : Rc} (h : TL w p S) {k : Nat} (hk : k < S.length) : ∃ g o, p = some ⟨g, o, none⟩ ∧ g < w.heap.size ∧ ∀ k, k < S.length → w.cell? ⟨g, o + k * 2, none⟩ = some (.int .i64 (S.getD k (0, 0)).1) ∧ w.cell? ⟨g, o + k * 2 + 1, none⟩ = some (.float .f64 (S.getD k (0, 0)).2) := by
  rcases h with rfl | h
  · cases hk
  · exact h
theorem SL.tl {w : World} {base c : Nat} {p : Option Addr} {S : Rc} (h : SL w base (.slice p S.length c) S) : TL w p S := by
  rcases Nat.eq_zero_or_pos S.length with h0 | h0
  · exact .inl (List.eq_nil_of_length_eq_zero h0)
  · obtain ⟨g, rfl, hg, _⟩ := h.cells h0
    refine .inr ⟨g, 0, rfl, hg, fun k hk => ?_⟩
    obtain ⟨g', h1, _, h2, h3⟩ := h.cells hk
    cases h1
    rw [Nat.zero_add]
    exact ⟨h2, h3⟩
instance (L : Rc) : Decidable (Asc L) := by unfold Asc; infer_instance
/-- Up to place k ticks rise. -/
def upto (S : Rc) (k : Nat) : Prop := ∀ j, j + 1 < k → j + 1 < S.length → (S.getD j (0, 0)).1 < (S.getD (j + 1) (0, 0)).1
theorem upto.one (S : Rc) : upto S 1 := fun j h => by omega
theorem upto.succ {S : Rc} {j : Nat} (h : upto S (j + 1)) (hj : (S.getD j (0, 0)).1 < (S.getD (j + 1) (0, 0)).1) : upto S (j + 1 + 1) := fun i hi hl => by
  rcases Nat.lt_or_ge (i + 1) (j + 1) with h1 | h1
  · exact h i h1 hl
  · obtain rfl : i = j := by omega
    exact hj
theorem upto.asc : ∀ {S : Rc} {k : Nat}, upto S k → S.length ≤ k → Asc S := by
  intro S k h hk
  unfold Asc
  rw [List.pairwise_iff_getElem]
  have hs : ∀ i, (hi : i + 1 < S.length) → (S[i]'(by omega)).1 < S[i + 1].1 := fun i hi => by
    have := h i (by omega) hi
    rwa [List.getD_eq_getElem?_getD, List.getD_eq_getElem?_getD, List.getElem?_eq_getElem hi, List.getElem?_eq_getElem (by omega)] at this
  intro i j hi hj hij
  induction j with
  | zero => omega
  | succ j ih =>
    have h1 := hs j hj
    rcases Nat.lt_or_ge i j with h2 | h2
    · have := ih (by omega) h2; omega
    · obtain rfl : i = j := by omega
      exact h1
theorem not_asc {S : Rc} {j : Nat} (hj : j + 1 < S.length) (h : (S.getD (j + 1) (0, 0)).1 ≤ (S.getD j (0, 0)).1) : ¬ Asc S := by
  intro ha
  unfold Asc at ha
  rw [List.pairwise_iff_getElem] at ha
  have := ha j (j + 1) (by omega) hj (by omega)
  rw [List.getD_eq_getElem?_getD, List.getD_eq_getElem?_getD, List.getElem?_eq_getElem hj, List.getElem?_eq_getElem (by omega)] at h
  simp at h
  omega
set_option maxHeartbeats 1600000 in
theorem rising_any (p : Option Addr) (n c : Nat) (S : Rc) (w : World) (hn : n = S.length) (hp : TL w p S) (hs : n ≤ 1000000) :
    Calls Try.prog 49 #[.slice p n c] w fun e w' => e = .returned (.bool (decide (Asc S))) ∧ ∃ q, w' = w.drewN q := by
  subst hn
  have HP := hide_ (fun k hk => hp.some_ (k := k) hk)
  clear hp
  go_enter Try.func49, Try.ntmps49
  go_wp2
  go_loopw [3] (fun i wr => ∃ k : Nat, 1 ≤ k ∧ i = .int .i64 k ∧ upto S k ∧ ∃ q, wr = w.drewN q) (fun i _ => S.length - (intOf i).toNat)
  case atStart => exact ⟨1, by omega, rfl, upto.one S, 0, rfl⟩
  case round =>
    obtain ⟨k, hk, rfl, hu, q, rfl⟩ := hrel
    obtain ⟨j, rfl⟩ : ∃ j, k = j + 1 := ⟨k - 1, by omega⟩
    by_cases hlt : j + 1 < S.length
    · obtain ⟨g, o, rfl, hg, hc⟩ := HP.out _ hlt
      obtain ⟨c1, _⟩ := hc (j + 1) hlt
      obtain ⟨c2, _⟩ := hc j (by omega)
      clear hc
      have HU := hide_ (fun h => hu.succ (j := j) h)
      have HN := hide_ (fun h => not_asc (S := S) (j := j) hlt h)
      clear hu
      generalize (S.getD j (0, 0)).1 = a at *
      generalize (S.getD (j + 1) (0, 0)).1 = b at *
      have i1 : IntKind.i64.wrap (((j + 1 : Nat) : Int) - 1) = (j : Int) := by rw [IntWalk.i64_in _ (by omega)]; omega
      have i2 : (0 : Int) ≤ (j : Int) := by omega
      have i3 : (j : Int) < (S.length : Int) := by omega
      have i4 : (0 : Int) ≤ ((j + 1 : Nat) : Int) := by omega
      have i5 : ((j + 1 : Nat) : Int) < (S.length : Int) := by omega
      by_cases hab : a < b
      · have hd : decide (b ≤ a) = false := decide_eq_false (by omega)
        go_wp2
        go_quiet (fail)
        go_wp2
        go_roundw
        case rel => exact ⟨j + 1 + 1, by omega, by go_num, HU.out hab, _, rfl⟩
        case measure => simp [intOf]; omega
      · have hd : decide (b ≤ a) = true := decide_eq_true (by omega)
        have HD := hide_ (decide_eq_false (HN.out (by omega)))
        go_wp2
        go_quiet (fail)
        go_wp2
        go_ret
        exact ⟨by rw [HD.out]; rfl, _, by first | exact World.drewN_drewN _ _ _ | rfl⟩
    · have HD := hide_ (decide_eq_true (hu.asc (by omega)))
      have i5 : ¬ ((j + 1 : Nat) : Int) < (S.length : Int) := by omega
      clear hu
      go_wp2
      go_ret
      exact ⟨by rw [HD.out]; rfl, _, by first | exact World.drewN_drewN _ _ _ | rfl⟩
set_option maxHeartbeats 1600000 in
theorem rrising_any (p : Option Addr) (n c : Nat) (S : Rc) (w : World) (hn : n = S.length) (hp : TL w p S) (hs : n ≤ 1000000) :
    Calls Try.prog 59 #[.slice p n c] w fun e w' => e = .returned (.bool (decide (Asc S))) ∧ ∃ q, w' = w.drewN q := by
  subst hn
  have HP := hide_ (fun k hk => hp.some_ (k := k) hk)
  clear hp
  go_enter Try.func59, Try.ntmps59
  go_wp2
  go_loopw [3] (fun i wr => ∃ k : Nat, 1 ≤ k ∧ i = .int .i64 k ∧ upto S k ∧ ∃ q, wr = w.drewN q) (fun i _ => S.length - (intOf i).toNat)
  case atStart => exact ⟨1, by omega, rfl, upto.one S, 0, rfl⟩
  case round =>
    obtain ⟨k, hk, rfl, hu, q, rfl⟩ := hrel
    obtain ⟨j, rfl⟩ : ∃ j, k = j + 1 := ⟨k - 1, by omega⟩
    by_cases hlt : j + 1 < S.length
    · obtain ⟨g, o, rfl, hg, hc⟩ := HP.out _ hlt
      obtain ⟨c1, _⟩ := hc (j + 1) hlt
      obtain ⟨c2, _⟩ := hc j (by omega)
      clear hc
      have HU := hide_ (fun h => hu.succ (j := j) h)
      have HN := hide_ (fun h => not_asc (S := S) (j := j) hlt h)
      clear hu
      generalize (S.getD j (0, 0)).1 = a at *
      generalize (S.getD (j + 1) (0, 0)).1 = b at *
      have i1 : IntKind.i64.wrap (((j + 1 : Nat) : Int) - 1) = (j : Int) := by rw [IntWalk.i64_in _ (by omega)]; omega
      have i2 : (0 : Int) ≤ (j : Int) := by omega
      have i3 : (j : Int) < (S.length : Int) := by omega
      have i4 : (0 : Int) ≤ ((j + 1 : Nat) : Int) := by omega
      have i5 : ((j + 1 : Nat) : Int) < (S.length : Int) := by omega
      by_cases hab : a < b
      · have hd : decide (b ≤ a) = false := decide_eq_false (by omega)
        go_wp2
        go_quiet (fail)
        go_wp2
        go_roundw
        case rel => exact ⟨j + 1 + 1, by omega, by go_num, HU.out hab, _, rfl⟩
        case measure => simp [intOf]; omega
      · have hd : decide (b ≤ a) = true := decide_eq_true (by omega)
        have HD := hide_ (decide_eq_false (HN.out (by omega)))
        go_wp2
        go_quiet (fail)
        go_wp2
        go_ret
        exact ⟨by rw [HD.out]; rfl, _, by first | exact World.drewN_drewN _ _ _ | rfl⟩
    · have HD := hide_ (decide_eq_true (hu.asc (by omega)))
      have i5 : ¬ ((j + 1 : Nat) : Int) < (S.length : Int) := by omega
      clear hu
      go_wp2
      go_ret
      exact ⟨by rw [HD.out]; rfl, _, by first | exact World.drewN_drewN _ _ _ | rfl⟩
end Go.Proofs.Ytlgnidjkilbdfaa

namespace Go.Proofs.Ytlgnidjkilbdfaa
open Go.RowKit Ieee Go.Shelf Go.Lib
set_option linter.unusedVariables false
set_option maxRecDepth 100000
theorem index_none (p : Option Addr) (c : Nat) (fv : Value) (w : World) : Calls Try.prog 114 #[.slice p 0 c, fv] w fun e w' => e = .returned (.int .i64 (-1)) ∧ w = w' := by
  go_enter Try.func114, Try.ntmps114
  go_wp2
  refine wp_loop_rounds 1 ?_
  rw [rounds_succ]
  go_wp2
  go_ret
  exact ⟨rfl, rfl⟩
theorem contains_none (p : Option Addr) (c : Nat) (fv : Value) (w : World) : Calls Try.prog 84 #[.slice p 0 c, fv] w fun e w' => e = .returned (.bool false) ∧ w = w' := by
  have H := hide_ (index_none p c fv)
  go_enter Try.func84, Try.ntmps84
  go_wp2_with (go_at_call 114; (with_reducible refine (H.out _).mono ?_); rintro e w1 ⟨rfl, rfl⟩)
  go_ret
  exact ⟨rfl, rfl⟩
def encT (x : Int × Nat) : List Value := [.int .i64 x.1, .float .f64 (wd x.2)]
theorem contains_any (g : Nat) (eg : ∀ args w, (callFunc g args).run Try.prog w = .ok (.enter g args) w) (pd : Int × Nat → Bool)
    (hpd : ∀ (x : Int × Nat) (W : World), Calls Try.prog g #[.agg #[.int .i64 x.1, .float .f64 (wd x.2)]] W fun e w' => e = .returned (.bool (pd x)) ∧ Below W.heap.size W w')
    (p : Option Addr) (n c : Nat) (S : Rc) (w : World) (hn : n = S.length) (hp : TL w p S) (h64 : ∀ x ∈ S, x.2 < 2 ^ 64) (hs : n ≤ 1000000) :
    Calls Try.prog 84 #[.slice p n c, .func (.func g) #[] #[]] w fun e w' => e = .returned (.bool (S.any pd)) ∧ Below w.heap.size w w' := by
  rcases hp with rfl | ⟨b, o, rfl, hb, hc⟩
  · subst hn
    exact (contains_none p c _ w).mono fun e w' ⟨he, hw⟩ => ⟨he, hw ▸ Below.refl _ _⟩
  · have h := AnyQ.slices_ContainsFunc Try.con84 2 Try.isAgg26 Try.sizeOf26 encT (fun _ => rfl) pd g #[] eg b o n c S w
      (fun W x hW => (hpd x W).mono fun e w' ⟨he, hb'⟩ => ⟨he, hW.trans (hb'.mono hW.size)⟩) (by omega) (by omega) hb
      (fun j hj i v hi => by
        have h1 := hc j hj
        have e1 : S[j]! = S.getD j (0, 0) := by rw [getElem!_pos S j hj, List.getD_eq_getElem?_getD, List.getElem?_eq_getElem hj]; rfl
        rw [e1] at hi
        have hm : (S.getD j (0, 0)).2 < 2 ^ 64 := h64 _ (mem_getD hj)
        generalize S.getD j (0, 0) = y at hi h1 hm
        match i, hi with
        | 0, hi => simp [encT] at hi; rw [← hi]; exact h1.1
        | 1, hi => simp [encT] at hi; rw [← hi, wd_of hm]; exact h1.2
        | i + 2, hi => simp [encT] at hi)
    change Calls Try.prog 84 #[.slice (some ⟨b, o, none⟩) n c, .func (.func g) #[] #[]] w _ at h
    rw [show S.take n = S from List.take_of_length_le (by omega)] at h
    exact h
/-- No tick of a record's. -/
def badT (x : Int × Nat) : Bool := decide (x.1 < 0) || decide (1048576 < x.1)
def infT (x : Int × Nat) : Bool := !oneB (wd x.2)
theorem closure85 (x : Int × Nat) (w : World) : Calls Try.prog 85 #[.agg #[.int .i64 x.1, .float .f64 (wd x.2)]] w fun e w' => e = .returned (.bool (badT x)) ∧ Below w.heap.size w w' := by
  unfold badT
  generalize x.1 = t
  generalize wd x.2 = h
  by_cases h1 : t < 0
  · rw [decide_eq_true h1]
    go_enter Try.func85, Try.ntmps85
    go_wp2
    go_ret
    exact ⟨rfl, by (repeat (first | exact Below.refl _ _ | assumption | refine Below.setCell ?_ (by first | assumption | (simp; done) | (simp; omega) | omega) _ | refine below_drewN ?_ _ | refine Below.drew ?_ | refine Below.alloc ?_ (by first | assumption | (simp; done) | (simp; omega) | omega) _))⟩
  · rw [decide_eq_false h1]
    generalize hd : decide (1048576 < t) = d
    cases d
    all_goals have hd' := hide_ hd
    all_goals go_enter Try.func85, Try.ntmps85
    all_goals go_wp2
    all_goals go_ret
    all_goals exact ⟨by first | rfl | (show Ending.returned (.bool (decide (1048576 < t))) = _; rw [hd'.out]; rfl), by (repeat (first | exact Below.refl _ _ | assumption | refine Below.setCell ?_ (by first | assumption | (simp; done) | (simp; omega) | omega) _ | refine below_drewN ?_ _ | refine Below.drew ?_ | refine Below.alloc ?_ (by first | assumption | (simp; done) | (simp; omega) | omega) _))⟩
theorem closure97 (x : Int × Nat) (w : World) : Calls Try.prog 97 #[.agg #[.int .i64 x.1, .float .f64 (wd x.2)]] w fun e w' => e = .returned (.bool (badT x)) ∧ Below w.heap.size w w' := by
  unfold badT
  generalize x.1 = t
  generalize wd x.2 = h
  by_cases h1 : t < 0
  · rw [decide_eq_true h1]
    go_enter Try.func97, Try.ntmps97
    go_wp2
    go_ret
    exact ⟨rfl, by (repeat (first | exact Below.refl _ _ | assumption | refine Below.setCell ?_ (by first | assumption | (simp; done) | (simp; omega) | omega) _ | refine below_drewN ?_ _ | refine Below.drew ?_ | refine Below.alloc ?_ (by first | assumption | (simp; done) | (simp; omega) | omega) _))⟩
  · rw [decide_eq_false h1]
    generalize hd : decide (1048576 < t) = d
    cases d
    all_goals have hd' := hide_ hd
    all_goals go_enter Try.func97, Try.ntmps97
    all_goals go_wp2
    all_goals go_ret
    all_goals exact ⟨by first | rfl | (show Ending.returned (.bool (decide (1048576 < t))) = _; rw [hd'.out]; rfl), by (repeat (first | exact Below.refl _ _ | assumption | refine Below.setCell ?_ (by first | assumption | (simp; done) | (simp; omega) | omega) _ | refine below_drewN ?_ _ | refine Below.drew ?_ | refine Below.alloc ?_ (by first | assumption | (simp; done) | (simp; omega) | omega) _))⟩
theorem closure88 (x : Int × Nat) (w : World) : Calls Try.prog 88 #[.agg #[.int .i64 x.1, .float .f64 (wd x.2)]] w fun e w' => e = .returned (.bool (infT x)) ∧ Below w.heap.size w w' := by
  have HF := hide_ (finite_any (wd x.2) (wd_lt x.2))
  unfold infT
  generalize x.1 = t
  generalize wd x.2 = h at *
  generalize oneB h = b at *
  go_enter Try.func88, Try.ntmps88
  go_wp2_with (go_at_call 86; (with_reducible refine (HF.out _).mono ?_); rintro e w1 ⟨rfl, rfl⟩)
  go_ret
  exact ⟨rfl, by (repeat (first | exact Below.refl _ _ | assumption | refine Below.setCell ?_ (by first | assumption | (simp; done) | (simp; omega) | omega) _ | refine below_drewN ?_ _ | refine Below.drew ?_ | refine Below.alloc ?_ (by first | assumption | (simp; done) | (simp; omega) | omega) _))⟩
theorem contains85 (p : Option Addr) (n c : Nat) (S : Rc) (w : World) (hn : n = S.length) (hp : TL w p S) (h64 : ∀ x ∈ S, x.2 < 2 ^ 64) (hs : n ≤ 1000000) :
    Calls Try.prog 84 #[.slice p n c, .func (.func 85) #[] #[]] w fun e w' => e = .returned (.bool (S.any badT)) ∧ Below w.heap.size w w' :=
  contains_any 85 (enters_of Try.func85 (by kernel_rfl) rfl) badT closure85 p n c S w hn hp h64 hs
theorem contains97 (p : Option Addr) (n c : Nat) (S : Rc) (w : World) (hn : n = S.length) (hp : TL w p S) (h64 : ∀ x ∈ S, x.2 < 2 ^ 64) (hs : n ≤ 1000000) :
    Calls Try.prog 84 #[.slice p n c, .func (.func 97) #[] #[]] w fun e w' => e = .returned (.bool (S.any badT)) ∧ Below w.heap.size w w' :=
  contains_any 97 (enters_of Try.func97 (by kernel_rfl) rfl) badT closure97 p n c S w hn hp h64 hs
theorem contains88 (p : Option Addr) (n c : Nat) (S : Rc) (w : World) (hn : n = S.length) (hp : TL w p S) (h64 : ∀ x ∈ S, x.2 < 2 ^ 64) (hs : n ≤ 1000000) :
    Calls Try.prog 84 #[.slice p n c, .func (.func 88) #[] #[]] w fun e w' => e = .returned (.bool (S.any fun x => !oneB x.2)) ∧ Below w.heap.size w w' := by
  have h := contains_any 88 (enters_of Try.func88 (by kernel_rfl) rfl) infT closure88 p n c S w hn hp h64 hs
  have e : (S.any fun x => !oneB x.2) = S.any infT := by
    rw [Bool.eq_iff_iff, List.any_eq_true, List.any_eq_true]
    constructor <;> rintro ⟨x, hx, h⟩ <;> refine ⟨x, hx, ?_⟩ <;> unfold infT at * <;> rw [wd_of (h64 x hx)] at * <;> exact h
  rw [e]
  exact h
end Go.Proofs.Ytlgnidjkilbdfaa

namespace Go.Proofs.Ytlgnidjkilbdfaa
open Ieee
set_option linter.unusedVariables false
set_option maxRecDepth 100000
theorem nearest_le (m : Nat) (p : Int) : double.nearest false m p ≤ 2047 * 2 ^ 52 := by
  have hi : double.infRung = 2047 * 2 ^ 52 := by decide
  unfold Format.nearest
  split
  · rw [word_false]; omega
  · rw [word_false, hi]; omega
theorem word_lt (s : Bool) {R : Nat} (h : R < 2 ^ 63) : double.word s R < 2 ^ 64 := by
  cases s
  · rw [word_false]; omega
  · rw [word_true h]; omega
theorem nan_word (s : Bool) {R : Nat} (h : R ≤ 2047 * 2 ^ 52) : nanB (double.word s R) = false := by
  rcases Nat.lt_or_ge R (2047 * 2 ^ 52) with h1 | h1
  · unfold nanB; rw [read_at s h1]
  · obtain rfl : R = 2047 * 2 ^ 52 := by omega
    cases s <;> decide +kernel
theorem near_ok (s : Bool) (m : Nat) (p : Int) : nanB (double.nearest s m p) = false ∧ double.nearest s m p < 2 ^ 64 := by
  have h := nearest_le m p
  rw [nearest_word]
  exact ⟨nan_word s h, word_lt s (by omega)⟩
theorem inf_ok (s : Bool) : nanB (double.word s double.infRung) = false ∧ double.word s double.infRung < 2 ^ 64 := by cases s <;> decide +kernel
theorem one_read {x : Nat} (h : oneB x = true) : ∃ s m p, double.read x = .number s m p := by
  unfold oneB at h
  split at h
  · rename_i s m p e; exact ⟨s, m, p, e⟩
  · cases h
theorem ok_read {x : Nat} (h : nanB x = false) : (∃ s m p, double.read x = .number s m p) ∨ ∃ s, double.read x = .infinity s := by
  unfold nanB at h
  cases hr : double.read x with
  | number s m p => exact .inl ⟨s, m, p, rfl⟩
  | infinity s => exact .inr ⟨s, rfl⟩
  | nan s f => rw [hr] at h; cases h
def less (x y : Nat) : Nat := (double.sub x y).getD 0
def times (x y : Nat) : Nat := (double.mul x y).getD 0
def over (x y : Nat) : Nat := (double.div x y).getD 0
theorem less_ok {x y : Nat} (hx : oneB x = true) (hy : oneB y = true) : double.sub x y = some (less x y) ∧ nanB (less x y) = false ∧ less x y < 2 ^ 64 := by
  obtain ⟨s, m, p, e⟩ := one_read hx
  obtain ⟨t, n, q, f⟩ := one_read hy
  unfold less Format.sub
  rw [e, f]
  simp only [Datum.opposite, Datum.sum, Option.map_some, Format.write, Option.getD_some, true_and]
  exact near_ok _ _ _
theorem plus_ok {x y : Nat} (hx : oneB x = true) (hy : nanB y = false) : double.add x y = some (plus x y) ∧ nanB (plus x y) = false ∧ plus x y < 2 ^ 64 := by
  obtain ⟨s, m, p, e⟩ := one_read hx
  rcases ok_read hy with ⟨t, n, q, f⟩ | ⟨t, f⟩
  · unfold plus Format.add
    rw [e, f]
    simp only [Datum.sum, Option.map_some, Format.write, Option.getD_some, true_and]
    exact near_ok _ _ _
  · unfold plus Format.add
    rw [e, f]
    simp only [Datum.sum, Option.map_some, Format.write, Option.getD_some, true_and]
    exact inf_ok _
/-- A number that is not nought. -/
def posB (x : Nat) : Bool := match double.read x with | .number _ m _ => m != 0 | _ => false
theorem times_ok {x y : Nat} (hx : nanB x = false) (hy : posB y = true) : double.mul x y = some (times x y) ∧ nanB (times x y) = false ∧ times x y < 2 ^ 64 := by
  obtain ⟨t, n, q, f, hn⟩ : ∃ t n q, double.read y = .number t n q ∧ n ≠ 0 := by
    unfold posB at hy
    split at hy
    · rename_i s m p e; exact ⟨s, m, p, e, by simpa using hy⟩
    · cases hy
  rcases ok_read hx with ⟨s, m, p, e⟩ | ⟨s, e⟩
  · unfold times Format.mul
    rw [e, f]
    simp only [Datum.product, Option.map_some, Format.write, Option.getD_some, true_and]
    exact near_ok _ _ _
  · unfold times Format.mul
    rw [e, f]
    simp only [Datum.product, if_neg hn, Option.map_some, Format.write, Option.getD_some, true_and]
    exact inf_ok _
open Go in
/-- The parts of a small gap. -/
theorem part_ok : ∀ d : Nat, d < 5 → ∀ k : Nat, k < d → 0 < k → double.div (floatOfInt .f64 (k : Int)) (floatOfInt .f64 (d : Int)) = some (over (floatOfInt .f64 (k : Int)) (floatOfInt .f64 (d : Int))) ∧ posB (over (floatOfInt .f64 (k : Int)) (floatOfInt .f64 (d : Int))) = true := by decide +kernel
/-- The height put in at x. -/
def lineB (a b : Int × Nat) (x : Int) : Nat := plus a.2 (times (less b.2 a.2) (over (floatOfInt .f64 (x - a.1)) (floatOfInt .f64 (b.1 - a.1))))
end Go.Proofs.Ytlgnidjkilbdfaa

namespace Go.Proofs.Ytlgnidjkilbdfaa
open Go.RowKit Ieee
set_option linter.unusedVariables false
set_option maxRecDepth 100000
/-- How many ticks are missing between two. -/
def gapN (a b : Int × Nat) : Int := b.1 - a.1 - 1
def putTo (a b : Int × Nat) (k : Nat) : Rc := (List.range k).map fun (i : Nat) => (a.1 + 1 + (i : Int), lineB a b (a.1 + 1 + (i : Int)))
def putIn (a b : Int × Nat) : Rc := if gapN a b < 1 ∨ 3 < gapN a b then [] else putTo a b (gapN a b).toNat
theorem putTo_succ (a b : Int × Nat) (k : Nat) : putTo a b (k + 1) = putTo a b k ++ [(a.1 + 1 + (k : Int), lineB a b (a.1 + 1 + (k : Int)))] := by
  unfold putTo
  rw [List.range_succ, List.map_append]
  rfl
theorem putTo_len (a b : Int × Nat) (k : Nat) : (putTo a b k).length = k := by unfold putTo; simp
set_option maxHeartbeats 1600000 in
theorem between_any (a b : Int × Nat) (ha : 0 ≤ a.1 ∧ a.1 ≤ 1048576) (hb : 0 ≤ b.1 ∧ b.1 ≤ 1048576) (h1 : oneB a.2 = true) (h2 : oneB b.2 = true) (w : World) :
    Calls Try.prog 87 #[.agg #[.int .i64 a.1, .float .f64 a.2], .agg #[.int .i64 b.1, .float .f64 b.2]] w fun e w' => ∃ v, e = .returned v ∧ SL w' w.heap.size v (putIn a b) ∧ Below w.heap.size w w' := by
  obtain ⟨i0, hi, hz0, hz1, hz2⟩ := info_parts info26
  by_cases hn : gapN a b < 1 ∨ 3 < gapN a b
  · have hp : putIn a b = [] := if_pos hn
    rw [hp]
    clear hp
    unfold gapN at hn
    generalize a.2 = x at *
    generalize b.2 = y at *
    generalize a.1 = s at *
    generalize b.1 = t at *
    clear h1 h2
    rcases Decidable.em (t - s - 1 < 1) with h | h
    · have hd : decide (t - s - 1 < 1) = true := decide_eq_true h
      clear hn
      go_enter Try.func87, Try.ntmps87
      go_wp2
      go_ret
      exact ⟨_, rfl, ⟨rfl, .inl ⟨rfl, rfl⟩⟩, by (repeat (first | exact Below.refl _ _ | assumption | refine Below.setCell ?_ (by first | assumption | (simp; done) | (simp; omega) | omega) _ | refine below_drewN ?_ _ | refine Below.drew ?_ | refine Below.alloc ?_ (by first | assumption | (simp; done) | (simp; omega) | omega) _))⟩
    · have hd : decide (t - s - 1 < 1) = false := decide_eq_false h
      have hd2 : decide (3 < t - s - 1) = true := decide_eq_true (by omega)
      clear hn
      go_enter Try.func87, Try.ntmps87
      go_wp2
      go_ret
      exact ⟨_, rfl, ⟨rfl, .inl ⟨rfl, rfl⟩⟩, by (repeat (first | exact Below.refl _ _ | assumption | refine Below.setCell ?_ (by first | assumption | (simp; done) | (simp; omega) | omega) _ | refine below_drewN ?_ _ | refine Below.drew ?_ | refine Below.alloc ?_ (by first | assumption | (simp; done) | (simp; omega) | omega) _))⟩
  · have hp : putIn a b = putTo a b (gapN a b).toNat := if_neg hn
    rw [hp]
    obtain ⟨n, hn1⟩ : ∃ n : Nat, gapN a b = n := ⟨(gapN a b).toNat, by omega⟩
    rw [hn1]
    rw [hn1] at hn
    unfold gapN at hn1
    have hk : 1 ≤ n ∧ n ≤ 3 := by omega
    have HL := hide_ (fun (k : Nat) => putTo_succ a b k)
    have HN := hide_ (putTo_len a b)
    have HZ : Hid (putTo a b 0 = []) := hide_ rfl
    have HF := hide_ (less_ok h2 h1)
    have HV : Hid (∀ k : Nat, k < n → ∃ P M R : Nat, lineB a b (a.1 + 1 + (k : Int)) = R ∧
        double.div (floatOfInt .f64 ((k + 1 : Nat) : Int)) (floatOfInt .f64 ((n + 1 : Nat) : Int)) = some P ∧ double.mul (less b.2 a.2) P = some M ∧ double.add a.2 M = some R) := hide_ (fun k hk' => by
      obtain ⟨p1, p2⟩ := part_ok (n + 1) (by omega) (k + 1) (by omega) (by omega)
      obtain ⟨q1, q2, q3⟩ := times_ok (less_ok h2 h1).2.1 p2
      obtain ⟨r1, r2, r3⟩ := plus_ok h1 q2
      refine ⟨_, _, _, rfl, p1, q1, ?_⟩
      rw [r1]
      unfold lineB
      rw [show a.1 + 1 + (k : Int) - a.1 = ((k + 1 : Nat) : Int) by omega, show b.1 - a.1 = ((n + 1 : Nat) : Int) by omega])
    generalize putTo a b = pt at *
    generalize less b.2 a.2 = dl at *
    generalize lineB a b = ln at *
    clear hp h1 h2
    generalize a.2 = x at *
    generalize b.2 = y at *
    generalize a.1 = s at *
    generalize b.1 = t at *
    obtain ⟨e1, _, _⟩ := HF.out
    have f1 := fun wx => run_float_arith (P := Try.prog) wx .sub 24 .f64 y x _ e1
    have hd : decide (t - s - 1 < 1) = false := decide_eq_false (by omega)
    have hd2 : decide (3 < t - s - 1) = false := decide_eq_false (by omega)
    have HE := hide_ hn1
    clear hn hn1 e1
    have hts : t - s - 1 = (n : Int) := HE.out
    go_enter Try.func87, Try.ntmps87
    go_wp2
    clear hts hd hd2
    have c0 := heap_past (o' := .cells #[.int .i64 t, .float .f64 y] 26) (heap_alloc_last w (.cells #[.int .i64 s, .float .f64 x] 26))
    have c1 := heap_at1 w (.cells #[.int .i64 s, .float .f64 x] 26) (.cells #[.int .i64 t, .float .f64 y] 26)
    have hbl := ((Grew.refl w).alloc (.cells #[.int .i64 s, .float .f64 x] 26)).alloc (.cells #[.int .i64 t, .float .f64 y] 26)
    have hsz : w.heap.size + 1 < ((w.alloc (.cells #[.int .i64 s, .float .f64 x] 26)).alloc (.cells #[.int .i64 t, .float .f64 y] 26)).heap.size := by simp
    generalize (w.alloc (.cells #[.int .i64 s, .float .f64 x] 26)).alloc (.cells #[.int .i64 t, .float .f64 y] 26) = w2 at *
    have HC0 := hide_ c0
    have HC1 := hide_ c1
    clear c0 c1
    go_loopw [5, 7] (fun out xi wr => ∃ k : Nat, k ≤ n ∧ xi = .int .i64 (s + 1 + (k : Int)) ∧ wr.ownsRow w2.heap.size 26 2 out (pt k).length (flat (pt k)) ∧ Grew w2.heap.size w2 wr)
      (fun _ xi _ => (t - intOf xi).toNat)
    case atStart => exact ⟨0, by omega, by simp, by rw [HZ.out]; exact World.ownsRow_nil _ _ _ _, Grew.refl _⟩
    case round =>
      obtain ⟨k, hkn, rfl, hown, hgr⟩ := hrel
      have hts := HE.out
      obtain ⟨xi, hxi⟩ : ∃ xi, s + 1 + (k : Int) = xi := ⟨_, rfl⟩
      rw [hxi]
      have d0 := (hgr.1.block w.heap.size (by omega)).trans HC0.out
      have d1 := (hgr.1.block (w.heap.size + 1) hsz).trans HC1.out
      obtain ⟨p0, p1⟩ := cells_two d0
      obtain ⟨p2, p3⟩ := cells_two d1
      clear d0 d1
      by_cases hlt : k < n
      · obtain ⟨P, M, R, v1, v2, v3, v4⟩ := HV.out k hlt
        obtain ⟨j1, hj1⟩ : ∃ j1 : Nat, k + 1 = j1 := ⟨_, rfl⟩
        obtain ⟨n1, hn1⟩ : ∃ n1 : Nat, n + 1 = n1 := ⟨_, rfl⟩
        rw [hj1, hn1] at v2
        have f2 := fun wx => run_float_arith (P := Try.prog) wx .quo 24 .f64 _ _ _ v2
        have f3 := fun wx => run_float_arith (P := Try.prog) wx .mul 24 .f64 _ _ _ v3
        have f4 := fun wx => run_float_arith (P := Try.prog) wx .add 24 .f64 _ _ _ v4
        have HS := HL.out k
        rw [v1, hxi] at HS
        have HS := hide_ HS
        have g1 : xi - s = (j1 : Int) := by omega
        have g2 : t - s = (n1 : Int) := by omega
        have g3 : decide (xi < t) = true := decide_eq_true (by omega)
        have g4 : 0 ≤ xi ∧ xi ≤ 1048576 := by omega
        have hkb : ((pt k).length + 1) * 16 ≤ 140737488355328 := by rw [HN.out]; omega
        have hgr2 := hgr.2
        have HX := hide_ hxi
        have HT := hide_ (show xi < t by omega)
        have HK := hide_ (show k + 1 ≤ n from hlt)
        clear v1 v2 v3 v4 hxi hts hkn hj1 hn1
        go_wp2_with (at_builtin; go_must (refine wpList_push rfl _ _ 23 rfl w2.heap.size 26 i0 (.agg #[.int .i64 0, .float .f64 0]) 2 16 Try.underlying23 hi hz0 hz1 hz2 rfl (by decide) (by decide) _ (pt k).length _ rfl hown #[.int .i64 xi, .float .f64 R] 26 1 1 rfl rfl (by kernel_rfl) hkb hgr2 ?_; intro v' w3 ho3 hb3 hg3 hn3))
        go_roundw
        case rel =>
          refine ⟨k + 1, HK.out, ?_, ?_, hgr.more hb3⟩
          · have := HX.out; simp; omega
          · rw [HS.out, flat_append, flat_one, List.length_append]; exact ho3
        case measure => have := HT.out; simp [intOf]; omega
      · have hkn' : k = n := by omega
        have g3 : decide (xi < t) = false := decide_eq_false (by omega)
        rw [hkn'] at hown
        clear hxi hts hkn'
        go_wp2
        go_ret
        exact ⟨_, rfl, ownsRow_base_a hown (by omega), hbl.below.trans (hgr.1.mono (by omega))⟩
end Go.Proofs.Ytlgnidjkilbdfaa

namespace Go.Proofs.Ytlgnidjkilbdfaa
open Go.RowKit Ieee
set_option linter.unusedVariables false
set_option maxRecDepth 100000
def lastT (o : Rc) : Int × Nat := o.getD (o.length - 1) (0, 0)
def stepF (o : Rc) (s : Int × Nat) : Rc := if oneB s.2 then (if o = [] then [] else o ++ putIn (lastT o) s) ++ [s] else o
def fillTo (S : Rc) (k : Nat) : Rc := (S.take k).foldl stepF []
def fillL (S : Rc) : Rc := fillTo S S.length
theorem fillTo_zero (S : Rc) : fillTo S 0 = [] := rfl
theorem fillTo_succ {S : Rc} {k : Nat} (h : k < S.length) : fillTo S (k + 1) = stepF (fillTo S k) (S.getD k (0, 0)) := by
  unfold fillTo
  rw [take_snoc S k h, List.foldl_append]
  rfl
/-- Ticks of a record, words of 64 bits. -/
def RngL (S : Rc) : Prop := ∀ p ∈ S, (0 ≤ p.1 ∧ p.1 ≤ 1048576) ∧ p.2 < 2 ^ 64
structure FInv (o : Rc) (k : Nat) : Prop where
  len : o.length ≤ 4 * k
  rng : RngL o
  last : o ≠ [] → oneB (lastT o).2 = true ∧ lastT o ∈ o
theorem lastT_snoc (o : Rc) (s : Int × Nat) : lastT (o ++ [s]) = s := by
  unfold lastT
  rw [List.length_append, List.getD_eq_getElem?_getD]
  simp
theorem putIn_len (a b : Int × Nat) : (putIn a b).length ≤ 3 := by
  unfold putIn
  split
  · simp
  · rw [putTo_len]; omega
theorem putIn_mem {a b : Int × Nat} {p : Int × Nat} (h : p ∈ putIn a b) : ∃ i : Nat, (i : Int) < gapN a b ∧ 1 ≤ gapN a b ∧ gapN a b ≤ 3 ∧ p = (a.1 + 1 + (i : Int), lineB a b (a.1 + 1 + (i : Int))) := by
  unfold putIn at h
  split at h
  · cases h
  · unfold putTo at h
    rw [List.mem_map] at h
    obtain ⟨i, hi, rfl⟩ := h
    rw [List.mem_range] at hi
    exact ⟨i, by omega, by omega, by omega, rfl⟩
theorem lineB_ok {a b : Int × Nat} (h1 : oneB a.2 = true) (h2 : oneB b.2 = true) {i : Nat} (hi : (i : Int) < gapN a b) (hn : gapN a b ≤ 3) : lineB a b (a.1 + 1 + (i : Int)) < 2 ^ 64 := by
  unfold gapN at hi hn
  unfold lineB
  obtain ⟨d, hd⟩ : ∃ d : Nat, b.1 - a.1 = d := ⟨(b.1 - a.1).toNat, by omega⟩
  rw [hd, show a.1 + 1 + (i : Int) - a.1 = ((i + 1 : Nat) : Int) by omega]
  exact (plus_ok h1 (times_ok (less_ok h2 h1).2.1 (part_ok d (by omega) (i + 1) (by omega) (by omega)).2).2.1).2.2
theorem FInv.step {o : Rc} {k : Nat} (h : FInv o k) {s : Int × Nat} (hs : (0 ≤ s.1 ∧ s.1 ≤ 1048576) ∧ s.2 < 2 ^ 64) : FInv (stepF o s) (k + 1) := by
  unfold stepF
  cases h1 : oneB s.2
  · rw [if_neg (by simp)]
    exact ⟨by have := h.len; omega, h.rng, h.last⟩
  · rw [if_pos rfl]
    refine ⟨?_, ?_, fun _ => by rw [lastT_snoc]; exact ⟨h1, by simp⟩⟩
    · have := h.len
      have := putIn_len (lastT o) s
      split <;> simp <;> omega
    · intro p hp
      rw [List.mem_append] at hp
      rcases hp with hp | hp
      · split at hp
        · cases hp
        · rename_i h0
          rw [List.mem_append] at hp
          rcases hp with hp | hp
          · exact h.rng p hp
          · obtain ⟨i, i1, i2, i3, rfl⟩ := putIn_mem hp
            obtain ⟨l1, l2⟩ := h.last h0
            have l3 := h.rng _ l2
            refine ⟨?_, lineB_ok l1 h1 i1 i3⟩
            unfold gapN at i1 i2 i3
            show 0 ≤ (lastT o).1 + 1 + (i : Int) ∧ (lastT o).1 + 1 + (i : Int) ≤ 1048576
            omega
      · rw [List.mem_singleton] at hp
        subst hp
        exact hs
theorem FInv.to {S : Rc} (h : RngL S) : ∀ k, k ≤ S.length → FInv (fillTo S k) k
  | 0, _ => ⟨by simp [fillTo_zero], (by rw [fillTo_zero]; intro p hp; cases hp), fun h => absurd (fillTo_zero S) h⟩
  | k + 1, hk => by
    rw [fillTo_succ (by omega)]
    exact (FInv.to h k (by omega)).step (h _ (mem_getD (by omega)))
theorem rng_of {S : Rc} (h : S.any badT = false) (h64 : ∀ x ∈ S, x.2 < 2 ^ 64) : RngL S := fun p hp => by
  have h1 : badT p = false := by
    rw [Bool.eq_false_iff]
    intro hb
    rw [List.any_eq_true.2 ⟨p, hp, hb⟩] at h
    cases h
  unfold badT at h1
  simp at h1
  exact ⟨h1, h64 p hp⟩
def fillE (S : Rc) : Int := if Asc S then (if S.any badT then 2 else if (fillL S).any (fun x => !oneB x.2) then 9 else 0) else 2
/-- A row of samples appended to a row of samples. -/
theorem flat_one' : ∀ {S : Rc}, ∀ u ∈ flat S, u.oneCell' = true := by
  intro S u hu
  unfold flat at hu
  rw [List.mem_flatMap] at hu
  obtain ⟨p, _, hu⟩ := hu
  simp at hu
  rcases hu with rfl | rfl <;> rfl
theorem app_row {w : World} {base b2 : Nat} {v v2 : Value} {o M : Rc} {i0 : TypeInfo} {ty : TypeId} (hi : Try.prog.info? 26 = some i0) (hz0 : i0.zero = some (.agg #[.int .i64 0, .float .f64 0])) (hz1 : i0.size = 2) (hz2 : i0.bytes = 16)
    (hown : SL w base v o) (hb : base ≤ w.heap.size) (h2 : SL w b2 v2 M) (hn : o.length + M.length ≤ 1000000) :
    ∃ v' w', (Builtin.append_ #[23, 23] ty #[v, v2]).run Try.prog w = .ok v' w' ∧ SL w' base v' (o ++ M) ∧ w.grownBy w' v.ownBlock := by
  unfold SL at *
  rcases row_block h2 with ⟨rfl, hz⟩ | ⟨g, c, cur, rfl, _, _, _⟩
  · obtain rfl := List.eq_nil_of_length_eq_zero hz
    exact ⟨v, w, run_append_owned_none (P := Try.prog) w base 23 ty 26 i0 2 Try.underlying23 hi v o.length _ hown, by simpa using hown, ⟨rfl, rfl, rfl, Nat.le_refl _, fun _ _ _ => rfl⟩⟩
  · obtain ⟨v', w', hr, r1, r2, _⟩ := run_append_own (P := Try.prog) w base 23 ty 26 i0 (.agg #[.int .i64 0, .float .f64 0]) 2 16 Try.underlying23 hi hz0 hz1 hz2 rfl (by decide) v o.length _ hown ⟨g, 0, none⟩ M.length c (flat M) (flat_len M) (row_news h2) flat_one' (by unfold maxLen; omega) (by omega) hb
    exact ⟨v', w', hr, by rw [flat_append, List.length_append]; exact r1, r2⟩
theorem step_app {P : Program} {ops : Array Oper} {o : Oper} {a : Act} {w w' : World} {v' : Value} {K : Act → World → Prop} {Q : Exit → Act → World → Prop} {E : Prop} (hgd : o.guard = none) (s x : Operand) (t : TypeId)
    (ho : o.op = .call { callee := .builtin .append, args := #[s, x], argTypes := #[t, t] })
    (hr : (Builtin.append_ #[t, t] o.type #[a.eval s, a.eval x]).run P w = .ok v' w') (h : K (a.put o.dst v') w') :
    if Region.wanted o (yielded ops a.tmps) = true then Oper.wp P o a w K Q else E := by
  have hw : Region.wanted o (yielded ops a.tmps) = true := by simp [Region.wanted, hgd]
  rw [if_pos hw]
  unfold Oper.wp
  simp [execOp, ho, resolve, invoke, builtin, hr, Result.andThen]
  exact h
end Go.Proofs.Ytlgnidjkilbdfaa

namespace Go.Proofs.Ytlgnidjkilbdfaa
open Go.RowKit Ieee
set_option linter.unusedVariables false
set_option maxRecDepth 100000
theorem SL.grown {w w' : World} {base : Nat} {v : Value} {S : Rc} (h : SL w base v S) {row : Option Nat} (hg : w.grownBy w' row) (hr : v.ownBlock = none ∨ v.ownBlock ≠ row) : SL w' base v S := h.kept hg hr
theorem SL.alloc {w : World} {base : Nat} {v : Value} {S : Rc} (h : SL w base v S) (o : Obj) : SL (w.alloc o) base v S := World.ownsRow.alloc h o
theorem SL.lt {w : World} {base k : Nat} {v : Value} {S : Rc} (h : SL w base v S) (hk : v.ownBlock = some k) : base ≤ k ∧ k < w.heap.size := World.ownsRow.lt h k hk
set_option maxHeartbeats 3200000 in
theorem fill_any (p : Option Addr) (n c : Nat) (S : Rc) (w : World) (hn : n = S.length) (hp : TL w p S) (h64 : ∀ x ∈ S, x.2 < 2 ^ 64) (hs : n ≤ 1000) :
    Calls Try.prog 47 #[.slice p n c] w fun e w' => (∃ v, e = .returned (.tuple #[v, .int .i64 (fillE S)]) ∧ (fillE S = 0 → SL w' w.heap.size v (fillL S)) ∧ (fillE S ≠ 0 → v = .slice none 0 0)) ∧ Below w.heap.size w w' := by
  have HR := hide_ (fun wx (h : TL wx p S) => rising_any p n c S wx hn h (by omega))
  have HC := hide_ (fun wx (h : TL wx p S) => contains85 p n c S wx hn h h64 (by omega))
  have HP := hide_ hp
  by_cases ha : Asc S
  · by_cases hb : S.any badT = true
    · have he : fillE S = 2 := by unfold fillE; rw [if_pos ha, if_pos hb]
      rw [he]
      have HR2 : Hid (∀ wx, TL wx p S → Calls Try.prog 49 #[.slice p n c] wx fun e w' => e = .returned (.bool true) ∧ ∃ q, w' = wx.drewN q) := hide_ (fun wx h => by have := HR.out wx h; rw [decide_eq_true ha] at this; exact this)
      have HC2 : Hid (∀ wx, TL wx p S → Calls Try.prog 84 #[.slice p n c, .func (.func 85) #[] #[]] wx fun e w' => e = .returned (.bool true) ∧ Below wx.heap.size wx w') := hide_ (fun wx h => by have := HC.out wx h; rw [hb] at this; exact this)
      clear HR HC ha hb he hp hn h64
      go_enter Try.func47, Try.ntmps47
      go_wp2_with (first
        | (go_at_call 49; (with_reducible refine (HR2.out _ HP.out).mono ?_); rintro e w1 ⟨rfl, q, rfl⟩)
        | (go_at_call 84; (with_reducible refine (HC2.out _ (HP.out.below (below_drewN (Below.refl _ _) _))).mono ?_); rintro e w2 ⟨rfl, hb2⟩))
      go_ret2
      exact ⟨⟨_, rfl, fun h => by omega, fun _ => rfl⟩, (below_drewN (Below.refl _ _) q).trans hb2⟩
    · have hb : S.any badT = false := by simpa using hb
      have hrng := rng_of hb h64
      have HR2 : Hid (∀ wx, TL wx p S → Calls Try.prog 49 #[.slice p n c] wx fun e w' => e = .returned (.bool true) ∧ ∃ q, w' = wx.drewN q) := hide_ (fun wx h => by have := HR.out wx h; rw [decide_eq_true ha] at this; exact this)
      have HC2 : Hid (∀ wx, TL wx p S → Calls Try.prog 84 #[.slice p n c, .func (.func 85) #[] #[]] wx fun e w' => e = .returned (.bool false) ∧ Below wx.heap.size wx w') := hide_ (fun wx h => by have := HC.out wx h; rw [hb] at this; exact this)
      have HE : Hid (fillE S = if (fillL S).any (fun x => !oneB x.2) = true then 9 else 0) := hide_ (by unfold fillE; rw [if_pos ha, hb]; simp)
      have HI := hide_ (fun k hk => FInv.to hrng k hk)
      have HSt := hide_ (fun k (h : k < S.length) => fillTo_succ h)
      have HG : Hid (∀ k, k < S.length → (0 ≤ (S.getD k (0, 0)).1 ∧ (S.getD k (0, 0)).1 ≤ 1048576) ∧ (S.getD k (0, 0)).2 < 2 ^ 64) := hide_ (fun k hk => hrng _ (mem_getD hk))
      have HL : Hid (fillL S = fillTo S S.length) := hide_ rfl
      have HQ := hide_ (fun k hk => hp.some_ (k := k) hk)
      obtain ⟨i0, hi, hz0, hz1, hz2⟩ := info_parts info26
      subst hn
      clear HR HC ha hb hp h64 hrng
      go_enter Try.func47, Try.ntmps47
      go_wp2_with (first
        | (go_at_call 49; (with_reducible refine (HR2.out _ HP.out).mono ?_); rintro e w1 ⟨rfl, q, rfl⟩)
        | (go_at_call 84; (with_reducible refine (HC2.out _ (HP.out.below (below_drewN (Below.refl _ _) _))).mono ?_); rintro e w2 ⟨rfl, hb2⟩))
      have hg2 : Grew w.heap.size w w2 := ((Grew.refl w).drewN q).step hb2
      clear hb2 HP
      go_loopw [4, 20] (fun out i wr => ∃ k : Nat, k ≤ S.length ∧ i = .int .i64 k ∧ SL wr w.heap.size out (fillTo S k) ∧ Grew w.heap.size w wr) (fun _ i _ => S.length - (intOf i).toNat)
      case atStart => exact ⟨0, by omega, rfl, by rw [fillTo_zero]; exact World.ownsRow_nil _ _ _ _, hg2⟩
      case round =>
        obtain ⟨k, hk, rfl, hown, hgr⟩ := hrel
        have hI := HI.out k hk
        have hlen := hI.len
        by_cases hlt : k < S.length
        · obtain ⟨g, o, rfl, hg, hc⟩ := HQ.out _ hlt
          obtain ⟨c0, c1⟩ := hc k hlt
          have hgw : g < wr.heap.size := by have := hgr.2; omega
          have d0 := (hgr.1.cell (p := ⟨g, o + k * 2, none⟩) hg).trans c0
          have d1 := (hgr.1.cell (p := ⟨g, o + k * 2 + 1, none⟩) hg).trans c1
          obtain ⟨hr1, hr2⟩ := HG.out k hlt
          have hst := HSt.out k hlt
          obtain ⟨p', c', rfl⟩ := hown.slice
          have hF := finite_any _ hr2
          generalize hgd : S.getD k (0, 0) = s at *
          obtain ⟨t, h⟩ := s
          simp only at hr1 hr2 d0 d1 hF
          have HD := hide_ hI
          generalize hoo : fillTo S k = oo at *
          cases hone : oneB h
          · have hs1 : stepF oo (t, h) = oo := if_neg (by rw [hone]; simp)
            rw [hone] at hF
            have HF := hide_ hF
            have HT := hide_ (hst.trans hs1)
            clear c0 c1 hc hst hs1 hF hone hgd hoo hI hr1 hr2
            go_wp2_with (go_at_call 86; (with_reducible refine (HF.out _).mono ?_); rintro e w4 ⟨rfl, rfl⟩)
            exact ⟨⟨k + 1, hlt, by simp, by rw [HT.out]; exact hown.alloc _, hgr.alloc _⟩, by simp [intOf]; omega⟩
          · rw [hone] at hF
            have HF := hide_ hF
            have HB := hide_ (fun (h0 : oo ≠ []) => (hI.last h0))
            have HRG := hide_ hI.rng
            have HT := hide_ hst
            have HO := hide_ hone
            have HRT := hide_ hr1
            clear c0 c1 hc hst hF hone hgd hoo hI hr1 hr2
            rcases Nat.eq_zero_or_pos oo.length with h0 | h0
            · obtain rfl := List.eq_nil_of_length_eq_zero h0
              have hown' : SL wr w.heap.size (.slice p' 0 c') [] := hown
              rw [h0]
              clear hown hlen h0
              have hkb : (0 + 1) * 16 ≤ 140737488355328 := by omega
              have hgA := hgr.alloc (.cells #[.int .i64 t, .float .f64 h] 26)
              have hB := hgA.2
              have hoA : World.ownsRow (wr.alloc (.cells #[.int .i64 t, .float .f64 h] 26)) w.heap.size 26 2 (.slice p' 0 c') 0 [] := hown'.alloc (.cells #[.int .i64 t, .float .f64 h] 26)
              go_wp2_with (first
                | (go_at_call 86; (with_reducible refine (HF.out _).mono ?_); rintro e w4 ⟨rfl, rfl⟩)
                | (at_builtin; go_must (refine wpList_push2 rfl _ _ 23 rfl w.heap.size 26 i0 (.agg #[.int .i64 0, .float .f64 0]) 2 16 Try.underlying23 hi hz0 hz1 hz2 rfl (by decide) (by decide) _ 0 _ rfl (hoA.alloc _) (wr.heap.size + 1) #[.int .i64 t, .float .f64 h] 26 1 1 rfl (heap_at1 _ _ _) rfl (by kernel_rfl) hkb (hgA.alloc _).2 ?_; intro v' w3 ho3 hg3 hf3 hn3)))
              have hs1 : stepF [] (t, h) = [(t, h)] := by unfold stepF; rw [if_pos HO.out]; rfl
              exact ⟨⟨k + 1, hlt, by simp, by rw [HT.out, hs1]; exact ho3, own_grew (hgA.alloc _) (hoA.alloc (.cells #[.int .i64 t, .float .f64 h] 26)) hg3⟩, by simp [intOf]; omega⟩
            · obtain ⟨m, hm⟩ : ∃ m, oo.length = m + 1 := ⟨oo.length - 1, by omega⟩
              have hne : oo ≠ [] := by rintro rfl; cases h0
              obtain ⟨b1, b2⟩ := HB.out hne
              have hlast : lastT oo = oo.getD m (0, 0) := by unfold lastT; rw [hm]; rfl
              obtain ⟨go, rfl, hgo, e0, e1⟩ := SL.cells hown (k := m) (by omega)
              rw [← hlast] at e0 e1
              have hrl := HRG.out _ b2
              have HBW := hide_ (fun wx => between_any (lastT oo) (t, h) hrl.1 HRT.out b1 HO.out wx)
              have hs1 : stepF oo (t, h) = (oo ++ putIn (lastT oo) (t, h)) ++ [(t, h)] := by unfold stepF; rw [if_pos HO.out, if_neg hne]
              have HS1 := hide_ hs1
              have hpl := putIn_len (lastT oo) (t, h)
              generalize putIn (lastT oo) (t, h) = M at *
              generalize lastT oo = la at *
              obtain ⟨tl, hl⟩ := la
              simp only at e0 e1 HBW
              have hkb : ((oo ++ M).length + 1) * 16 ≤ 140737488355328 := by rw [List.length_append]; omega
              have hnm : oo.length + M.length ≤ 1000000 := by omega
              have HM := hide_ hm
              have i1 : ((oo.length : Nat) : Int) - 1 = (m : Int) := by omega
              have i2 : (0 : Int) < ((oo.length : Nat) : Int) := by omega
              have i3 : (0 : Int) ≤ (m : Int) := by omega
              have i4 : (m : Int) < ((oo.length : Nat) : Int) := by omega
              have i5 : ((oo.length : Nat) : Int) ≤ 10000 := by omega
              have i6 : m < oo.length := by omega
              have i7 : IntKind.i64.wrap (m : Int) = (m : Int) := IntWalk.i64_in _ (by omega)
              have hgA := hgr.alloc (.cells #[.int .i64 t, .float .f64 h] 26)
              have hoA := hown.alloc (.cells #[.int .i64 t, .float .f64 h] 26)
              have eA0 := cell_past (o := .cells #[.int .i64 t, .float .f64 h] 26) e0
              have eA1 := cell_past (o := .cells #[.int .i64 t, .float .f64 h] 26) e1
              have hblk := heap_alloc_last wr (.cells #[.int .i64 t, .float .f64 h] 26)
              have hszA : wr.heap.size < (wr.alloc (.cells #[.int .i64 t, .float .f64 h] 26)).heap.size := by simp
              have HBK := hide_ hblk
              have HSA := hide_ hoA
              clear hown hs1 hlast b1 b2 hne hm hlen h0 hrl HB hpl hoA hblk
              go_wp2_with (first
                | (go_at_call 86; (with_reducible refine (HF.out _).mono ?_); rintro e w4 ⟨rfl, rfl⟩))
              have tok1 : True := trivial
              have tok2 : True := trivial
              go_region_law (first
                | (have _t := tok1; refine step_in rfl ?_; go_simp; go_at_call 87; go_must (
                    (with_reducible refine (HBW.out _).mono ?_)
                    rintro e w4 ⟨vM, rfl, hM4, hb4⟩
                    have hbA : Below (wr.alloc (.cells #[.int .i64 t, .float .f64 h] 26)).heap.size (wr.alloc (.cells #[.int .i64 t, .float .f64 h] 26)) w4 := ⟨hb4.os, hb4.tape, hb4.output, hb4.size, hb4.block⟩
                    have ho4 := HSA.out.below hbA
                    have hg4 := hgA.step hbA
                    have hbk4 := (hbA.block wr.heap.size hszA).trans HBK.out
                    have hsz4 : wr.heap.size < w4.heap.size := lt_of_heap hbk4
                    obtain ⟨v5, w5, hr5, ho5, hg5⟩ := app_row (ty := 23) hi hz0 hz1 hz2 ho4 hg4.2 hM4 hnm
                    have HR5 := hide_ hr5
                    have HO4 := hide_ ho4
                    have HBK4 := hide_ hbk4
                    clear hr5 ho4 hbk4 hM4 tok1))
                | (have _t := tok2; go_must (
                    refine step_app rfl _ _ 23 rfl HR5.out ?_
                    have hgr5 := own_grew hg4 HO4.out hg5
                    have hbk5 := (hg5.block wr.heap.size hsz4 (by simp [Value.ownBlock]; omega)).trans HBK4.out
                    obtain ⟨r0, r1⟩ := cells_two hbk5
                    clear tok2)))
              all_goals have ho6 : World.ownsRow w5 w.heap.size 26 2 v5 (oo ++ M).length (flat (oo ++ M)) := ho5
              all_goals clear i1 i2 i3 i4 i5 i6 i7 ho5
              all_goals go_wp2_with (at_builtin; go_must (refine wpList_push2 rfl _ _ 23 rfl w.heap.size 26 i0 (.agg #[.int .i64 0, .float .f64 0]) 2 16 Try.underlying23 hi hz0 hz1 hz2 rfl (by decide) (by decide) _ (oo ++ M).length _ rfl (ho6.alloc _) w5.heap.size #[.int .i64 t, .float .f64 h] 26 1 1 rfl (heap_alloc_last _ _) rfl (by kernel_rfl) hkb (hgr5.alloc _).2 ?_; intro v' w6 ho7 hg7 hf7 hn7))
              all_goals exact ⟨⟨k + 1, hlt, by simp, by rw [HT.out, HS1.out]; unfold SL; rw [flat_append, flat_one, List.length_append]; exact ho7, own_grew (hgr5.alloc _) (ho6.alloc (.cells #[.int .i64 t, .float .f64 h] 26)) hg7⟩, by simp [intOf]; omega⟩
        · have hkS : k = S.length := by omega
          rw [hkS, ← HL.out] at hown hI hlen
          obtain ⟨p', c', rfl⟩ := hown.slice
          have hI64 : ∀ x ∈ fillL S, x.2 < 2 ^ 64 := fun x hx => (hI.rng x hx).2
          have hCC := contains88 p' (fillL S).length c' (fillL S) wr rfl hown.tl hI64 (by omega)
          generalize hbad : ((fillL S).any fun x => !oneB x.2) = bad at *
          have HCC := hide_ hCC
          have HSL := hide_ hown
          have hlim : (((fillL S).length : Nat) : Int) ≤ 4000 := by omega
          have hnk : ¬ k < S.length := hlt
          clear hCC hI64 hown hI hkS
          generalize (fillL S).length = fl at *
          cases bad
          · have hE : fillE S = 0 := by rw [HE.out]; rfl
            have HEE := hide_ hE
            clear hE
            go_wp2_with (go_at_call 84; (with_reducible refine (HCC.out).mono ?_); rintro e w7 ⟨rfl, hb7⟩)
            go_ret2
            refine ⟨⟨_, by rw [HEE.out]; rfl, fun _ => SL.below HSL.out hb7, fun h => absurd HEE.out h⟩, (hgr.step hb7).below⟩
          · have hE : fillE S = 9 := by rw [HE.out]; rfl
            have HEE := hide_ hE
            clear hE
            go_wp2_with (go_at_call 84; (with_reducible refine (HCC.out).mono ?_); rintro e w7 ⟨rfl, hb7⟩)
            go_ret2
            refine ⟨⟨_, by rw [HEE.out]; rfl, fun h => absurd (HEE.out.symm.trans h) (by omega), fun _ => rfl⟩, (hgr.step hb7).below⟩
  · have he : fillE S = 2 := by unfold fillE; rw [if_neg ha]
    rw [he]
    have HR2 : Hid (∀ wx, TL wx p S → Calls Try.prog 49 #[.slice p n c] wx fun e w' => e = .returned (.bool false) ∧ ∃ q, w' = wx.drewN q) := hide_ (fun wx h => by have := HR.out wx h; rw [decide_eq_false ha] at this; exact this)
    clear HR HC ha he hp hn h64
    go_enter Try.func47, Try.ntmps47
    go_wp2_with (go_at_call 49; (with_reducible refine (HR2.out _ HP.out).mono ?_); rintro e w1 ⟨rfl, q, rfl⟩)
    go_ret2
    exact ⟨⟨_, rfl, fun h => by omega, fun _ => rfl⟩, below_drewN (Below.refl _ _) q⟩
end Go.Proofs.Ytlgnidjkilbdfaa

namespace Go.Proofs.Ytlgnidjkilbdfaa
open Go.RowKit Ieee
set_option linter.unusedVariables false
set_option maxRecDepth 100000
/-- Two heights are equal. -/
def feqB (x y : Nat) : Bool := FloatKind.f64.format.order x y == some .eq
theorem run_eq24 (d x y : Nat) (w : World) : (Op.equalIn (d + 1) 24 (.float .f64 x) (.float .f64 y)).run Try.prog w = .ok (feqB x y) w := by
  simp [Op.equalIn, run_underlying Try.underlying24, feqB]
  rfl
theorem run_eq26 (a b : Int) (x y : Nat) (w : World) : (Op.equalIn 10000 26 (.agg #[.int .i64 a, .float .f64 x]) (.agg #[.int .i64 b, .float .f64 y])).run Try.prog w = .ok (a == b && feqB x y) w := by
  have hS : Try.prog.underlying 26 = some (.struct (Try.prog.fieldsOf 26)) := by kernel_rfl
  have hp : Try.prog.stoodInHeld 26 = false := by kernel_rfl
  rw [show (10000 : Nat) = 9999 + 1 from rfl, run_equalIn_struct w 9999 26 _ _ hS hp]
  have p0 : (part 3 #[.int .i64 a, .float .f64 x] 0).run Try.prog w = .ok (.int .i64 a) w := by kernel_rfl
  have p1 : (part 3 #[.int .i64 b, .float .f64 y] 0).run Try.prog w = .ok (.int .i64 b) w := by kernel_rfl
  have q0 : (part 24 #[.int .i64 a, .float .f64 x] 1).run Try.prog w = .ok (.float .f64 x) w := by kernel_rfl
  have q1 : (part 24 #[.int .i64 b, .float .f64 y] 1).run Try.prog w = .ok (.float .f64 y) w := by kernel_rfl
  have e0 : (Op.equalIn 9999 3 (.int .i64 a) (.int .i64 b)).run Try.prog w = .ok (a == b) w := run_equalIn_int w 9998 3 .i64 .i64 a b Try.underlying3
  have e1 := run_eq24 9998 x y w
  simp only [Program.fieldsOf, Try.underlying26]
  cases h : (a == b) <;> rw [h] at e0 <;> simp [Op.eqFields, Sem.run_bind, p0, p1, q0, q1, e0, e1, Result.andThen]
  cases feqB x y <;> rfl
def LV : Rc := [(1, 0), (4, 4613937818241073152)]
theorem lv_fill : fillE LV = 0 ∧ fillL LV = [(1, 0), (2, 4607182418800017408), (3, 4611686018427387904), (4, 4613937818241073152)] := by decide +kernel
theorem lv_srt : srt [4616189618054758400, 4607182418800017408] = [4607182418800017408, 4616189618054758400] :=
  (srt_eq (by unfold W64; decide +kernel) (by decide +kernel) (by decide +kernel)).symm
theorem lv_med : medL [4607182418800017408, 4616189618054758400] = 4612811918334230528 := by decide +kernel
theorem lv_eq : feqB 4611686018427387904 4611686018427387904 = true ∧ feqB 4612811918334230528 4612811918334230528 = true := by decide +kernel
theorem TL.lit (w : World) (S : Rc) (cs : Array Value) (h : cs.toList = flat S) (hs : S.length ≤ 1000000) : TL (w.alloc (.cells cs 26)) (some ⟨w.heap.size, 0, none⟩) S := by
  have hl : cs.size = S.length * 2 := by rw [← flat_len, ← h]; simp
  have hr := row_lit w 0 26 2 S.length cs (Nat.zero_le _) hl (by unfold maxLen; omega)
  rw [h] at hr
  exact SL.tl (base := 0) (c := S.length) hr
theorem own_fl {w : World} {B n c : Nat} {p : Option Addr} {L : List Nat} (h : w.ownsRow B 24 1 (.slice p n c) n (L.map encF)) : n = L.length ∧ FL w p L := by
  have hn : n = L.length := by have := h.1; simpa using this.symm
  refine ⟨hn, ?_⟩
  rcases id h.2 with ⟨_, h0⟩ | ⟨g, cap, cur, he, hB, hg, _⟩
  · exact .inl (List.eq_nil_of_length_eq_zero (by omega))
  · simp only [Value.slice.injEq] at he
    obtain ⟨rfl, _, _⟩ := he
    refine .inr ⟨g, 0, rfl, lt_of_heap hg, fun k hk => ?_⟩
    have h1 := h.cells (g := g) rfl k (encF L[k]) (by rw [List.getElem?_map, List.getElem?_eq_getElem hk]; rfl)
    rw [Addr.add_lit] at h1
    rw [h1, List.getD_eq_getElem?_getD, List.getElem?_eq_getElem hk]
    rfl
theorem FL.lit (w : World) (L : List Nat) (cs : Array Value) (h : cs.toList = L.map encF) (hs : L.length ≤ 1000000) : FL (w.alloc (.cells cs 24)) (some ⟨w.heap.size, 0, none⟩) L := by
  have hl : cs.size = L.length * 1 := by have : cs.toList.length = (L.map encF).length := by rw [h]
                                         simpa using this
  have hr := row_lit w 0 24 1 L.length cs (Nat.zero_le _) hl (by unfold maxLen; omega)
  rw [h] at hr
  exact (own_fl hr).2
theorem lives_any (w : World) : Calls Try.prog 43 #[] w fun e w' => e = .returned (.bool true) ∧ Below w.heap.size w w' := by
  have H1 := hide_ (fun (W : World) (h : TL W (some ⟨w.heap.size, 0, none⟩) LV) => fill_any (some ⟨w.heap.size, 0, none⟩) 2 2 LV W rfl h (by decide) (by decide))
  have H2 := hide_ (fun (W : World) (g : Nat) (h : FL W (some ⟨g, 0, none⟩) [4616189618054758400, 4607182418800017408]) => median_any (some ⟨g, 0, none⟩) 2 2 [4616189618054758400, 4607182418800017408] W rfl h (by unfold W64; decide) (by decide))
  have h3 := fun wx => run_eq26 3 3 4611686018427387904 4611686018427387904 wx
  rw [lv_eq.1] at h3
  have h4 : (FloatKind.f64.format.order 4612811918334230528 4612811918334230528 == some .eq) = true := lv_eq.2
  simp only [lv_fill.1, lv_fill.2, lv_srt, lv_med] at H1 H2
  have HT := hide_ (TL.lit w LV #[.int .i64 1, .float .f64 0, .int .i64 4, .float .f64 4613937818241073152] rfl (by decide))
  go_enter Try.func43, Try.ntmps43
  go_wp2_with (first
    | (go_at_call 47; go_must (
       (with_reducible refine (H1.out _ HT.out).mono ?_)
       rintro e w1 ⟨⟨v, rfl, hs, _⟩, hb1⟩
       replace hs := hs trivial
       obtain ⟨p, c, rfl⟩ := hs.slice
       obtain ⟨g, rfl, hg, c0, c1⟩ := SL.cells hs (k := 2) (by decide)
       have HF := hide_ (FL.lit w1 [4616189618054758400, 4607182418800017408] #[.float .f64 4616189618054758400, .float .f64 4607182418800017408] rfl (by decide))
       have hbA : Below w.heap.size w w1 := ((Below.refl _ _).alloc (Nat.le_refl _) _).trans (hb1.mono (by simp))))
    | (go_at_call 45; go_must (
       (with_reducible refine (H2.out _ _ HF.out).mono ?_)
       rintro e w2 ⟨rfl, hb2⟩
       have d0 : w2.cell? ⟨g, 4, none⟩ = some (.int .i64 3) := (hb2.cell (p := ⟨g, _, none⟩) (by simp; omega)).trans (cell_past c0)
       have d1 : w2.cell? ⟨g, 5, none⟩ = some (.float .f64 4611686018427387904) := (hb2.cell (p := ⟨g, _, none⟩) (by simp; omega)).trans (cell_past c1))))
  go_ret
  have hsz := hbA.size
  exact ⟨rfl, (hbA.alloc hsz _).trans (hb2.mono (by simp; omega))⟩
end Go.Proofs.Ytlgnidjkilbdfaa
