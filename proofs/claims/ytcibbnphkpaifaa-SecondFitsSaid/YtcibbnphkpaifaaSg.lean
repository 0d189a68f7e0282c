/- second.at: its search. -/
import Derived.Test.YtcibbnphkpaifaaSf
namespace Go.Proofs.Ytcibbnphkpaifaa
open Go.RowKit
set_option linter.unusedVariables false
set_option maxRecDepth 100000
set_option maxHeartbeats 3200000 in
theorem at1_any (bl bt g o : Nat) (n c i : Nat) (t l : Int) (W : World) (hl : W.cell? ⟨bl, 0, none⟩ = some (.slice (some ⟨g, o, none⟩) n c)) (ht : W.cell? ⟨bt, 0, none⟩ = some (.int .i64 t)) (hc : W.cell? ⟨g, o + i * 6 + 1, none⟩ = some (.int .i64 l)) (hi : i < n) :
    Calls Try.prog 83 #[.int .i64 (i : Int), .pointer (some ⟨bl, 0, none⟩), .pointer (some ⟨bt, 0, none⟩)] W fun e w' => e = .returned (.bool (decide (t ≤ l))) ∧ ∃ k, w' = W.drewN k := by
  have i4 : (0 : Int) ≤ (i : Int) := by omega
  have i5 : (i : Int) < (n : Int) := by omega
  go_enter Try.func83, Try.ntmps83
  go_wp2
  go_quiet (fail)
  go_wp2
  go_ret
  exact ⟨by simp, by first | exact ⟨0, rfl⟩ | exact ⟨_, rfl⟩ | exact ⟨_, World.drewN_drewN _ _ _⟩ | (simp only [World.drewN_drewN]; exact ⟨_, rfl⟩)⟩
set_option maxHeartbeats 3200000 in
theorem search_any (bl bt n : Nat) (p : Nat → Bool) (w : World) (hsz : n < 4611686018427387904)
    (hf : ∀ m i, i < n → Calls Try.prog 83 #[.int .i64 (i : Int), .pointer (some ⟨bl, 0, none⟩), .pointer (some ⟨bt, 0, none⟩)] (w.drewN m) fun e w' => e = .returned (.bool (p i)) ∧ ∃ k, w' = (w.drewN m).drewN k)
    (hmono : ∀ a b, a ≤ b → b < n → p a = true → p b = true) :
    Calls Try.prog 82 #[.int .i64 (n : Int), .func (.func 83) #[] #[.pointer (some ⟨bl, 0, none⟩), .pointer (some ⟨bt, 0, none⟩)]] w
      fun e w' => (∃ k : Nat, e = .returned (.int .i64 (k : Int)) ∧ k ≤ n ∧ (∀ t, t < k → p t = false) ∧ (∀ t, k ≤ t → t < n → p t = true)) ∧ ∃ q, w' = w.drewN q := by
  have HF := hide_ hf
  have HM := hide_ hmono
  clear hf hmono
  go_enter Try.func82, Try.ntmps82
  go_wp2
  go_loopw [5, 6] (fun i j wr => ∃ lo hi : Nat, i = .int .i64 (lo : Int) ∧ j = .int .i64 (hi : Int) ∧ lo ≤ hi ∧ hi ≤ n ∧ Hid (∀ t, t < lo → p t = false) ∧ Hid (∀ t, hi ≤ t → t < n → p t = true) ∧ ∃ q, wr = w.drewN q) (fun i j _ => (intOf j).toNat - (intOf i).toNat)
  case atStart => exact ⟨0, n, rfl, rfl, Nat.zero_le _, Nat.le_refl _, hide_ (fun t ht => absurd ht (Nat.not_lt_zero _)), hide_ (fun t h1 h2 => by omega), 0, rfl⟩
  case round =>
    obtain ⟨lo, hi, rfl, rfl, hlh, hin, H1, H2, q, rfl⟩ := hrel
    by_cases hlt : lo < hi
    · have HC := hide_ (HF.out q ((lo + hi) / 2) (by omega))
      have hlt' : (lo : Int) < (hi : Int) := by omega
      rw [show (((lo + hi) / 2 : Nat) : Int) = ((lo : Int) + (hi : Int)) / 2 by omega] at HC
      cases hp : p ((lo + hi) / 2) <;> rw [hp] at HC
      · have HP := hide_ hp
        clear hp
        go_wp2_with (go_at_call 83; go_must ((with_reducible refine (HC.out).mono ?_); rintro e w1 ⟨rfl, k, rfl⟩))
        exact ⟨⟨(lo + hi) / 2 + 1, hi, by rw [show ((lo : Int) + (hi : Int)) / 2 + 1 = (((lo + hi) / 2 + 1 : Nat) : Int) by omega], rfl, by omega, hin, hide_ (fun t ht => by
            cases h : p t with
            | false => rfl
            | true => have := HM.out t ((lo + hi) / 2) (by omega) (by omega) h; rw [HP.out] at this; cases this), H2, by first | exact ⟨0, rfl⟩ | exact ⟨_, rfl⟩ | exact ⟨_, World.drewN_drewN _ _ _⟩ | (simp only [World.drewN_drewN]; exact ⟨_, rfl⟩)⟩, by simp [intOf]; omega⟩
      · have HP := hide_ hp
        clear hp
        go_wp2_with (go_at_call 83; go_must ((with_reducible refine (HC.out).mono ?_); rintro e w1 ⟨rfl, k, rfl⟩))
        exact ⟨⟨lo, (lo + hi) / 2, rfl, by rw [show ((lo : Int) + (hi : Int)) / 2 = (((lo + hi) / 2 : Nat) : Int) by omega], by omega, by omega, H1, hide_ (fun t ht htn => HM.out ((lo + hi) / 2) t ht htn HP.out), by first | exact ⟨0, rfl⟩ | exact ⟨_, rfl⟩ | exact ⟨_, World.drewN_drewN _ _ _⟩ | (simp only [World.drewN_drewN]; exact ⟨_, rfl⟩)⟩, by simp [intOf]; omega⟩
    · obtain rfl : hi = lo := by omega
      go_wp2
      go_ret
      exact ⟨⟨hi, rfl, hin, H1.out, H2.out⟩, q, rfl⟩
end Go.Proofs.Ytcibbnphkpaifaa
