/- Chapter 20: two lists of samples that are one. -/
import Derived.Test.YtlgnidjkilbdfaaLv
namespace Go.Proofs.Ytlgnidjkilbdfaa
open Go.RowKit Ieee
set_option linter.unusedVariables false
set_option maxRecDepth 100000
/-- SameFloat: equal, or both NaN. -/
def sfB (a b : Nat) : Bool := feqB a b || (nanB a && nanB b)
theorem quiet_same_left {P : Program} {f : FuncId} {args : Array Value} {w : World} {a n : Nat} {v : Value}
    (h : Calls P f args (w.drewN (a + n)) fun e w' => e = .returned v ∧ w.drewN (a + n) = w') : Calls P f args (w.drewN (a + n)) fun e w'' => e = .returned v ∧ ∃ m, w'' = w.drewN (a + m) :=
  h.mono fun _ _ ⟨he, hm⟩ => ⟨he, n, hm.symm⟩
theorem sfB_self (a : Nat) : sfB a a = true := by
  unfold sfB feqB
  rw [show FloatKind.f64.format.order a a = double.order a a from rfl, order_self]
  cases nanB a <;> rfl
theorem sf_any (a b : Nat) (w : World) : Calls Try.prog 54 #[.float .f64 a, .float .f64 b] w fun e w' => e = .returned (.bool (sfB a b)) ∧ w = w' := by
  have g2 := ne_self a
  have g3 := ne_self b
  unfold sfB feqB
  generalize h1 : (FloatKind.f64.format.order a b == some .eq) = e1
  cases e1 <;> cases h2 : nanB a <;> rw [h2] at g2 <;> cases h3 : nanB b <;> rw [h3] at g3
  all_goals clear h2 h3
  all_goals go_enter Try.func54, Try.ntmps54
  all_goals go_wp2
  all_goals go_ret
  all_goals exact ⟨rfl, rfl⟩
theorem sf_self (a : Nat) (w : World) : Calls Try.prog 54 #[.float .f64 a, .float .f64 a] w fun e w' => e = .returned (.bool true) ∧ w = w' := by
  have h := sf_any a a w
  rw [sfB_self] at h
  exact h
set_option maxHeartbeats 1600000 in
theorem samel_any (p q : Option Addr) (n c d : Nat) (S : Rc) (w : World) (hn : n = S.length) (hp : TL w p S) (hq : TL w q S) (hs : n ≤ 1000000) :
    Calls Try.prog 48 #[.slice p n c, .slice q n d] w fun e w' => e = .returned (.bool true) ∧ ∃ k, w' = w.drewN k := by
  subst hn
  have HP := hide_ (fun k hk => hp.some_ (k := k) hk)
  have HQ := hide_ (fun k hk => hq.some_ (k := k) hk)
  clear hp hq
  go_enter Try.func48, Try.ntmps48
  go_wp2
  go_loopw [5] (fun i wr => ∃ k : Nat, k ≤ S.length ∧ i = .int .i64 k ∧ ∃ q, wr = w.drewN q) (fun i _ => S.length - (intOf i).toNat)
  case atStart => exact ⟨0, by omega, rfl, 0, rfl⟩
  case round =>
    obtain ⟨k, hk, rfl, q', rfl⟩ := hrel
    by_cases hlt : k < S.length
    · obtain ⟨g, o, rfl, hg, hc⟩ := HP.out _ hlt
      obtain ⟨g', o', rfl, hg', hc'⟩ := HQ.out _ hlt
      obtain ⟨c1, c2⟩ := hc k hlt
      obtain ⟨d1, d2⟩ := hc' k hlt
      clear hc hc'
      generalize (S.getD k (0, 0)).1 = a at *
      generalize (S.getD k (0, 0)).2 = b at *
      have H := hide_ (sf_self b)
      have i4 : (0 : Int) ≤ (k : Int) := by omega
      have i5 : (k : Int) < (S.length : Int) := by omega
      have hne : (a != a) = false := by simp
      go_wp2
      go_quiet ((go_at_call 54; exact quiet_same_left (H.out _)))
      go_wp2
      go_roundw
      case rel => exact ⟨k + 1, by omega, by go_num, _, rfl⟩
      case measure => simp [intOf]; omega
    · have hge : ¬ k < S.length := hlt
      go_wp2
      go_ret
      exact ⟨rfl, _, rfl⟩
end Go.Proofs.Ytlgnidjkilbdfaa
