/- The kit's small functions: long, Long, LongWaters. -/
import Derived.Test.YtcibbnphkpaifaaTc
namespace Go.Proofs.Ytcibbnphkpaifaa
open Go.RowKit
set_option linter.unusedVariables false
set_option maxRecDepth 100000
def longB (n : Nat) : Bool := decide (60 < n) && (decide (n ≤ 2048) || decide (2057 ≤ n))
theorem longB_false {n : Nat} (h : longB n = false) : n ≤ 2056 := by
  unfold longB at h
  rcases Nat.lt_or_ge 60 n with h1 | h1
  · rw [decide_eq_true h1, Bool.true_and, Bool.or_eq_false_iff] at h
    have := of_decide_eq_false h.2
    omega
  · omega
set_option maxHeartbeats 3200000 in
theorem long1_any (p : Option Addr) (n c : Nat) (w : World) : Calls Try.prog 56 #[.slice p n c] w fun e w' => e = .returned (.bool (longB n)) ∧ w' = w := by
  have e1 : decide (60 < n) = decide ((60 : Int) < (n : Int)) := by rw [decide_eq_decide]; omega
  have e2 : decide (n ≤ 2048) = decide ((n : Int) ≤ (2048 : Int)) := by rw [decide_eq_decide]; omega
  have e3 : decide (2057 ≤ n) = decide ((2057 : Int) ≤ (n : Int)) := by rw [decide_eq_decide]; omega
  unfold longB
  rw [e1, e2, e3]
  clear e1 e2 e3
  cases z1 : decide ((60 : Int) < (n : Int)) <;> cases z2 : decide ((n : Int) ≤ (2048 : Int)) <;> cases z3 : decide ((2057 : Int) ≤ (n : Int))
  all_goals
    go_enter Try.func56, Try.ntmps56
    go_wp2
    go_ret
    exact ⟨by simp, rfl⟩
/-- Fractions whose lengths can be read. -/
def RLen (w : World) (p : Option Addr) (N : List (Nat × Nat)) : Prop := N = [] ∨ ∃ g o, p = some ⟨g, o, none⟩ ∧ g < w.heap.size ∧ ∀ i, ∀ h : i < N.length, ∃ p1 c1 q1 d1, w.cell? ⟨g, o + i * 3 + 1, none⟩ = some (.slice p1 N[i].1 c1) ∧ w.cell? ⟨g, o + i * 3 + 2, none⟩ = some (.slice q1 N[i].2 d1)
def longs (N : List (Nat × Nat)) : Bool := N.any fun x => longB x.1 || longB x.2
theorem longs_step {N : List (Nat × Nat)} {k : Nat} (h : k < N.length) : longs (N.drop k) = ((longB N[k].1 || longB N[k].2) || longs (N.drop (k + 1))) := by
  rw [List.drop_eq_getElem_cons h]; rfl
set_option maxHeartbeats 6400000 in
theorem Long_any (p : Option Addr) (n c : Nat) (N : List (Nat × Nat)) (w : World) (hn : n = N.length) (hp : RLen w p N) (hl : n ≤ 1000000) :
    Calls Try.prog 19 #[.slice p n c] w fun e w' => e = .returned (.bool (longs N)) ∧ ∃ k, w' = w.drewN k := by
  subst hn
  have HP := hide_ hp
  have HL1 := hide_ (fun p n c W => long1_any p n c W)
  clear hp
  go_enter Try.func19, Try.ntmps19
  go_wp2
  go_loopw [3] (fun i wr => ∃ k : Nat, k ≤ N.length ∧ i = .int .i64 (k : Int) ∧ Hid (longs N = longs (N.drop k)) ∧ ∃ q, wr = w.drewN q) (fun i _ => N.length - (intOf i).toNat)
  case atStart => exact ⟨0, Nat.zero_le _, rfl, hide_ rfl, 0, rfl⟩
  case round =>
    obtain ⟨k, hk, rfl, HE, q, rfl⟩ := hrel
    by_cases h0 : k = N.length
    · subst h0
      have hE : longs N = false := by rw [HE.out, List.drop_length]; rfl
      have HE2 := hide_ hE
      clear hE
      have d1 : decide ((N.length : Int) < (N.length : Int)) = false := decide_eq_false (by omega)
      have hlt : ¬ (N.length : Int) < (N.length : Int) := by omega
      go_wp2
      go_ret
      exact ⟨by rw [HE2.out]; simp, by first | exact ⟨0, rfl⟩ | exact ⟨_, rfl⟩ | exact ⟨_, World.drewN_drewN _ _ _⟩ | (simp only [World.drewN_drewN]; exact ⟨_, rfl⟩)⟩
    · have hk1 : k < N.length := by omega
      obtain ⟨g, o, rfl, hg, hce⟩ : ∃ g o, p = some ⟨g, o, none⟩ ∧ g < w.heap.size ∧ ∀ i, ∀ h : i < N.length, ∃ p1 c1 q1 d1, w.cell? ⟨g, o + i * 3 + 1, none⟩ = some (.slice p1 N[i].1 c1) ∧ w.cell? ⟨g, o + i * 3 + 2, none⟩ = some (.slice q1 N[i].2 d1) := by
        rcases HP.out with h | h
        · subst h; cases hk1
        · exact h
      obtain ⟨p1, c1, q1, d1, y1, y2⟩ := hce k hk1
      have i4 : (0 : Int) ≤ (k : Int) := by omega
      have i5 : (k : Int) < (N.length : Int) := by omega
      have z1 : decide ((k : Int) < (N.length : Int)) = true := decide_eq_true i5
      have hw : IntKind.i64.wrap ((k : Int) + 1) = ((k + 1 : Nat) : Int) := by rw [IntWalk.i64_in _ (by omega)]; omega
      have hN := longs_step hk1
      rw [← HE.out] at hN
      clear hce
      generalize N[k].1 = a at *
      generalize N[k].2 = b at *
      have HA := hide_ (fun p c W => long1_any p a c W)
      have HBB := hide_ (fun p c W => long1_any p b c W)
      cases ha : longB a
      · cases hb : longB b
        · rw [ha] at HA
          rw [hb] at HBB
          rw [ha, hb, Bool.false_or, Bool.false_or] at hN
          have HN := hide_ hN
          clear hN ha hb
          go_wp2_with (first | (go_at_call 56; (with_reducible refine (HA.out p1 c1 _).mono ?_); rintro e w1 ⟨rfl, rfl⟩) | (go_at_call 56; go_must ((with_reducible refine (HBB.out q1 d1 _).mono ?_); rintro e w1 ⟨rfl, rfl⟩)))
          exact ⟨⟨k + 1, by omega, by simp, hide_ HN.out, by first | exact ⟨0, rfl⟩ | exact ⟨_, rfl⟩ | exact ⟨_, World.drewN_drewN _ _ _⟩ | (simp only [World.drewN_drewN]; exact ⟨_, rfl⟩)⟩, by simp [intOf]; omega⟩
        · rw [ha] at HA
          rw [hb] at HBB
          rw [ha, hb, Bool.false_or, Bool.true_or] at hN
          have HN := hide_ hN
          clear hN ha hb
          go_wp2_with (first | (go_at_call 56; (with_reducible refine (HA.out p1 c1 _).mono ?_); rintro e w1 ⟨rfl, rfl⟩) | (go_at_call 56; go_must ((with_reducible refine (HBB.out q1 d1 _).mono ?_); rintro e w1 ⟨rfl, rfl⟩)))
          go_ret
          exact ⟨by rw [HN.out]; simp, by first | exact ⟨0, rfl⟩ | exact ⟨_, rfl⟩ | exact ⟨_, World.drewN_drewN _ _ _⟩ | (simp only [World.drewN_drewN]; exact ⟨_, rfl⟩)⟩
      · rw [ha] at HA
        rw [ha, Bool.true_or, Bool.true_or] at hN
        have HN := hide_ hN
        clear hN ha
        go_wp2_with (first | (go_at_call 56; go_must ((with_reducible refine (HA.out p1 c1 _).mono ?_); rintro e w1 ⟨rfl, rfl⟩)))
        go_ret
        exact ⟨by rw [HN.out]; simp, by first | exact ⟨0, rfl⟩ | exact ⟨_, rfl⟩ | exact ⟨_, World.drewN_drewN _ _ _⟩ | (simp only [World.drewN_drewN]; exact ⟨_, rfl⟩)⟩
end Go.Proofs.Ytcibbnphkpaifaa
