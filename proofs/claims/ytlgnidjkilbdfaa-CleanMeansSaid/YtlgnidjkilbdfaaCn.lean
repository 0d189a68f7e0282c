/- Chapter 20: ContainsFunc at samples, with the closures of the package. -/
import Derived.Test.YtlgnidjkilbdfaaSm
namespace Go.Proofs.Ytlgnidjkilbdfaa
open Go.RowKit Ieee Go.Shelf Go.Lib
set_option linter.unusedVariables false
set_option maxRecDepth 100000
theorem index_none (p : Option Addr) (c : Nat) (fv : Value) (w : World) : Calls Try.prog 114 #[.slice p 0 c, fv] w fun e w' => e = .returned (.int .i64 (-1)) ∧ w = w' := by
  go_enter Try.func114, Try.ntmps114
  go_wp2
  refine wp_loop_rounds 1 ?_
  rw [rounds_succ]
  go_wp2
  go_ret
  exact ⟨rfl, rfl⟩
theorem contains_none (p : Option Addr) (c : Nat) (fv : Value) (w : World) : Calls Try.prog 84 #[.slice p 0 c, fv] w fun e w' => e = .returned (.bool false) ∧ w = w' := by
  have H := hide_ (index_none p c fv)
  go_enter Try.func84, Try.ntmps84
  go_wp2_with (go_at_call 114; (with_reducible refine (H.out _).mono ?_); rintro e w1 ⟨rfl, rfl⟩)
  go_ret
  exact ⟨rfl, rfl⟩
def encT (x : Int × Nat) : List Value := [.int .i64 x.1, .float .f64 (wd x.2)]
theorem contains_any (g : Nat) (eg : ∀ args w, (callFunc g args).run Try.prog w = .ok (.enter g args) w) (pd : Int × Nat → Bool)
    (hpd : ∀ (x : Int × Nat) (W : World), Calls Try.prog g #[.agg #[.int .i64 x.1, .float .f64 (wd x.2)]] W fun e w' => e = .returned (.bool (pd x)) ∧ Below W.heap.size W w')
    (p : Option Addr) (n c : Nat) (S : Rc) (w : World) (hn : n = S.length) (hp : TL w p S) (h64 : ∀ x ∈ S, x.2 < 2 ^ 64) (hs : n ≤ 1000000) :
    Calls Try.prog 84 #[.slice p n c, .func (.func g) #[] #[]] w fun e w' => e = .returned (.bool (S.any pd)) ∧ Below w.heap.size w w' := by
  rcases hp with rfl | ⟨b, o, rfl, hb, hc⟩
  · subst hn
    exact (contains_none p c _ w).mono fun e w' ⟨he, hw⟩ => ⟨he, hw ▸ Below.refl _ _⟩
  · have h := AnyQ.slices_ContainsFunc Try.con84 2 Try.isAgg26 Try.sizeOf26 encT (fun _ => rfl) pd g #[] eg b o n c S w
      (fun W x hW => (hpd x W).mono fun e w' ⟨he, hb'⟩ => ⟨he, hW.trans (hb'.mono hW.size)⟩) (by omega) (by omega) hb
      (fun j hj i v hi => by
        have h1 := hc j hj
        have e1 : S[j]! = S.getD j (0, 0) := by rw [getElem!_pos S j hj, List.getD_eq_getElem?_getD, List.getElem?_eq_getElem hj]; rfl
        rw [e1] at hi
        have hm : (S.getD j (0, 0)).2 < 2 ^ 64 := h64 _ (mem_getD hj)
        generalize S.getD j (0, 0) = y at hi h1 hm
        match i, hi with
        | 0, hi => simp [encT] at hi; rw [← hi]; exact h1.1
        | 1, hi => simp [encT] at hi; rw [← hi, wd_of hm]; exact h1.2
        | i + 2, hi => simp [encT] at hi)
    change Calls Try.prog 84 #[.slice (some ⟨b, o, none⟩) n c, .func (.func g) #[] #[]] w _ at h
    rw [show S.take n = S from List.take_of_length_le (by omega)] at h
    exact h
/-- No tick of a record's. -/
def badT (x : Int × Nat) : Bool := decide (x.1 < 0) || decide (1048576 < x.1)
def infT (x : Int × Nat) : Bool := !oneB (wd x.2)
theorem closure85 (x : Int × Nat) (w : World) : Calls Try.prog 85 #[.agg #[.int .i64 x.1, .float .f64 (wd x.2)]] w fun e w' => e = .returned (.bool (badT x)) ∧ Below w.heap.size w w' := by
  unfold badT
  generalize x.1 = t
  generalize wd x.2 = h
  by_cases h1 : t < 0
  · rw [decide_eq_true h1]
    go_enter Try.func85, Try.ntmps85
    go_wp2
    go_ret
    exact ⟨rfl, by (repeat (first | exact Below.refl _ _ | assumption | refine Below.setCell ?_ (by first | assumption | (simp; done) | (simp; omega) | omega) _ | refine below_drewN ?_ _ | refine Below.drew ?_ | refine Below.alloc ?_ (by first | assumption | (simp; done) | (simp; omega) | omega) _))⟩
  · rw [decide_eq_false h1]
    generalize hd : decide (1048576 < t) = d
    cases d
    all_goals have hd' := hide_ hd
    all_goals go_enter Try.func85, Try.ntmps85
    all_goals go_wp2
    all_goals go_ret
    all_goals exact ⟨by first | rfl | (show Ending.returned (.bool (decide (1048576 < t))) = _; rw [hd'.out]; rfl), by (repeat (first | exact Below.refl _ _ | assumption | refine Below.setCell ?_ (by first | assumption | (simp; done) | (simp; omega) | omega) _ | refine below_drewN ?_ _ | refine Below.drew ?_ | refine Below.alloc ?_ (by first | assumption | (simp; done) | (simp; omega) | omega) _))⟩
theorem closure97 (x : Int × Nat) (w : World) : Calls Try.prog 97 #[.agg #[.int .i64 x.1, .float .f64 (wd x.2)]] w fun e w' => e = .returned (.bool (badT x)) ∧ Below w.heap.size w w' := by
  unfold badT
  generalize x.1 = t
  generalize wd x.2 = h
  by_cases h1 : t < 0
  · rw [decide_eq_true h1]
    go_enter Try.func97, Try.ntmps97
    go_wp2
    go_ret
    exact ⟨rfl, by (repeat (first | exact Below.refl _ _ | assumption | refine Below.setCell ?_ (by first | assumption | (simp; done) | (simp; omega) | omega) _ | refine below_drewN ?_ _ | refine Below.drew ?_ | refine Below.alloc ?_ (by first | assumption | (simp; done) | (simp; omega) | omega) _))⟩
  · rw [decide_eq_false h1]
    generalize hd : decide (1048576 < t) = d
    cases d
    all_goals have hd' := hide_ hd
    all_goals go_enter Try.func97, Try.ntmps97
    all_goals go_wp2
    all_goals go_ret
    all_goals exact ⟨by first | rfl | (show Ending.returned (.bool (decide (1048576 < t))) = _; rw [hd'.out]; rfl), by (repeat (first | exact Below.refl _ _ | assumption | refine Below.setCell ?_ (by first | assumption | (simp; done) | (simp; omega) | omega) _ | refine below_drewN ?_ _ | refine Below.drew ?_ | refine Below.alloc ?_ (by first | assumption | (simp; done) | (simp; omega) | omega) _))⟩
theorem closure88 (x : Int × Nat) (w : World) : Calls Try.prog 88 #[.agg #[.int .i64 x.1, .float .f64 (wd x.2)]] w fun e w' => e = .returned (.bool (infT x)) ∧ Below w.heap.size w w' := by
  have HF := hide_ (finite_any (wd x.2) (wd_lt x.2))
  unfold infT
  generalize x.1 = t
  generalize wd x.2 = h at *
  generalize oneB h = b at *
  go_enter Try.func88, Try.ntmps88
  go_wp2_with (go_at_call 86; (with_reducible refine (HF.out _).mono ?_); rintro e w1 ⟨rfl, rfl⟩)
  go_ret
  exact ⟨rfl, by (repeat (first | exact Below.refl _ _ | assumption | refine Below.setCell ?_ (by first | assumption | (simp; done) | (simp; omega) | omega) _ | refine below_drewN ?_ _ | refine Below.drew ?_ | refine Below.alloc ?_ (by first | assumption | (simp; done) | (simp; omega) | omega) _))⟩
theorem contains85 (p : Option Addr) (n c : Nat) (S : Rc) (w : World) (hn : n = S.length) (hp : TL w p S) (h64 : ∀ x ∈ S, x.2 < 2 ^ 64) (hs : n ≤ 1000000) :
    Calls Try.prog 84 #[.slice p n c, .func (.func 85) #[] #[]] w fun e w' => e = .returned (.bool (S.any badT)) ∧ Below w.heap.size w w' :=
  contains_any 85 (enters_of Try.func85 (by kernel_rfl) rfl) badT closure85 p n c S w hn hp h64 hs
theorem contains97 (p : Option Addr) (n c : Nat) (S : Rc) (w : World) (hn : n = S.length) (hp : TL w p S) (h64 : ∀ x ∈ S, x.2 < 2 ^ 64) (hs : n ≤ 1000000) :
    Calls Try.prog 84 #[.slice p n c, .func (.func 97) #[] #[]] w fun e w' => e = .returned (.bool (S.any badT)) ∧ Below w.heap.size w w' :=
  contains_any 97 (enters_of Try.func97 (by kernel_rfl) rfl) badT closure97 p n c S w hn hp h64 hs
theorem contains88 (p : Option Addr) (n c : Nat) (S : Rc) (w : World) (hn : n = S.length) (hp : TL w p S) (h64 : ∀ x ∈ S, x.2 < 2 ^ 64) (hs : n ≤ 1000000) :
    Calls Try.prog 84 #[.slice p n c, .func (.func 88) #[] #[]] w fun e w' => e = .returned (.bool (S.any fun x => !oneB x.2)) ∧ Below w.heap.size w w' := by
  have h := contains_any 88 (enters_of Try.func88 (by kernel_rfl) rfl) infT closure88 p n c S w hn hp h64 hs
  have e : (S.any fun x => !oneB x.2) = S.any infT := by
    rw [Bool.eq_iff_iff, List.any_eq_true, List.any_eq_true]
    constructor <;> rintro ⟨x, hx, h⟩ <;> refine ⟨x, hx, ?_⟩ <;> unfold infT at * <;> rw [wd_of (h64 x hx)] at * <;> exact h
  rw [e]
  exact h
end Go.Proofs.Ytlgnidjkilbdfaa
