/- Chapter 20: lists of samples: do ticks rise. -/
import Derived.Test.YtlgnidjkilbdfaaMd
import Derived.Test.YtlgnidjkilbdfaaRf
namespace Go.Proofs.Ytlgnidjkilbdfaa
open Go.RowKit Ieee
set_option linter.unusedVariables false
set_option maxRecDepth 100000
/-- A slice of samples that reads as a list. -/
def TL (w : World) (p : Option Addr) (S : Rc) : Prop := S = [] ∨ ∃ g o, p = some ⟨g, o, none⟩ ∧ g < w.heap.size ∧ ∀ k, k < S.length → w.cell? ⟨g, o + k * 2, none⟩ = some (.int .i64 (S.getD k (0, 0)).1) ∧ w.cell? ⟨g, o + k * 2 + 1, none⟩ = some (.float .f64 (S.getD k (0, 0)).2)
theorem TL.below {w w' : World} {p : Option Addr} {S : Rc} (h : TL w p S) (hb : Below w.heap.size w w') : TL w' p S := by
  rcases h with rfl | ⟨g, o, rfl, hg, hc⟩
  · exact .inl rfl
  · exact .inr ⟨g, o, rfl, Nat.lt_of_lt_of_le hg hb.size, fun k hk => ⟨(hb.cell (p := ⟨g, _, none⟩) hg).trans (hc k hk).1, (hb.cell (p := ⟨g, _, none⟩) hg).trans (hc k hk).2⟩⟩
theorem TL.some_ {w : World} {p : Option Addr} {S : Rc} (h : TL w p S) {k : Nat} (hk : k < S.length) : ∃ g o, p = some ⟨g, o, none⟩ ∧ g < w.heap.size ∧ ∀ k, k < S.length → w.cell? ⟨g, o + k * 2, none⟩ = some (.int .i64 (S.getD k (0, 0)).1) ∧ w.cell? ⟨g, o + k * 2 + 1, none⟩ = some (.float .f64 (S.getD k (0, 0)).2) := by
  rcases h with rfl | h
  · cases hk
  · exact h
theorem SL.tl {w : World} {base c : Nat} {p : Option Addr} {S : Rc} (h : SL w base (.slice p S.length c) S) : TL w p S := by
  rcases Nat.eq_zero_or_pos S.length with h0 | h0
  · exact .inl (List.eq_nil_of_length_eq_zero h0)
  · obtain ⟨g, rfl, hg, _⟩ := h.cells h0
    refine .inr ⟨g, 0, rfl, hg, fun k hk => ?_⟩
    obtain ⟨g', h1, _, h2, h3⟩ := h.cells hk
    cases h1
    rw [Nat.zero_add]
    exact ⟨h2, h3⟩
instance (L : Rc) : Decidable (Asc L) := by unfold Asc; infer_instance
/-- Up to place k ticks rise. -/
def upto (S : Rc) (k : Nat) : Prop := ∀ j, j + 1 < k → j + 1 < S.length → (S.getD j (0, 0)).1 < (S.getD (j + 1) (0, 0)).1
theorem upto.one (S : Rc) : upto S 1 := fun j h => by omega
theorem upto.succ {S : Rc} {j : Nat} (h : upto S (j + 1)) (hj : (S.getD j (0, 0)).1 < (S.getD (j + 1) (0, 0)).1) : upto S (j + 1 + 1) := fun i hi hl => by
  rcases Nat.lt_or_ge (i + 1) (j + 1) with h1 | h1
  · exact h i h1 hl
  · obtain rfl : i = j := by omega
    exact hj
theorem upto.asc : ∀ {S : Rc} {k : Nat}, upto S k → S.length ≤ k → Asc S := by
  intro S k h hk
  unfold Asc
  rw [List.pairwise_iff_getElem]
  have hs : ∀ i, (hi : i + 1 < S.length) → (S[i]'(by omega)).1 < S[i + 1].1 := fun i hi => by
    have := h i (by omega) hi
    rwa [List.getD_eq_getElem?_getD, List.getD_eq_getElem?_getD, List.getElem?_eq_getElem hi, List.getElem?_eq_getElem (by omega)] at this
  intro i j hi hj hij
  induction j with
  | zero => omega
  | succ j ih =>
    have h1 := hs j hj
    rcases Nat.lt_or_ge i j with h2 | h2
    · have := ih (by omega) h2; omega
    · obtain rfl : i = j := by omega
      exact h1
theorem not_asc {S : Rc} {j : Nat} (hj : j + 1 < S.length) (h : (S.getD (j + 1) (0, 0)).1 ≤ (S.getD j (0, 0)).1) : ¬ Asc S := by
  intro ha
  unfold Asc at ha
  rw [List.pairwise_iff_getElem] at ha
  have := ha j (j + 1) (by omega) hj (by omega)
  rw [List.getD_eq_getElem?_getD, List.getD_eq_getElem?_getD, List.getElem?_eq_getElem hj, List.getElem?_eq_getElem (by omega)] at h
  simp at h
  omega
set_option maxHeartbeats 1600000 in
theorem rising_any (p : Option Addr) (n c : Nat) (S : Rc) (w : World) (hn : n = S.length) (hp : TL w p S) (hs : n ≤ 1000000) :
    Calls Try.prog 49 #[.slice p n c] w fun e w' => e = .returned (.bool (decide (Asc S))) ∧ ∃ q, w' = w.drewN q := by
  subst hn
  have HP := hide_ (fun k hk => hp.some_ (k := k) hk)
  clear hp
  go_enter Try.func49, Try.ntmps49
  go_wp2
  go_loopw [3] (fun i wr => ∃ k : Nat, 1 ≤ k ∧ i = .int .i64 k ∧ upto S k ∧ ∃ q, wr = w.drewN q) (fun i _ => S.length - (intOf i).toNat)
  case atStart => exact ⟨1, by omega, rfl, upto.one S, 0, rfl⟩
  case round =>
    obtain ⟨k, hk, rfl, hu, q, rfl⟩ := hrel
    obtain ⟨j, rfl⟩ : ∃ j, k = j + 1 := ⟨k - 1, by omega⟩
    by_cases hlt : j + 1 < S.length
    · obtain ⟨g, o, rfl, hg, hc⟩ := HP.out _ hlt
      obtain ⟨c1, _⟩ := hc (j + 1) hlt
      obtain ⟨c2, _⟩ := hc j (by omega)
      clear hc
      have HU := hide_ (fun h => hu.succ (j := j) h)
      have HN := hide_ (fun h => not_asc (S := S) (j := j) hlt h)
      clear hu
      generalize (S.getD j (0, 0)).1 = a at *
      generalize (S.getD (j + 1) (0, 0)).1 = b at *
      have i1 : IntKind.i64.wrap (((j + 1 : Nat) : Int) - 1) = (j : Int) := by rw [IntWalk.i64_in _ (by omega)]; omega
      have i2 : (0 : Int) ≤ (j : Int) := by omega
      have i3 : (j : Int) < (S.length : Int) := by omega
      have i4 : (0 : Int) ≤ ((j + 1 : Nat) : Int) := by omega
      have i5 : ((j + 1 : Nat) : Int) < (S.length : Int) := by omega
      by_cases hab : a < b
      · have hd : decide (b ≤ a) = false := decide_eq_false (by omega)
        go_wp2
        go_quiet (fail)
        go_wp2
        go_roundw
        case rel => exact ⟨j + 1 + 1, by omega, by go_num, HU.out hab, _, rfl⟩
        case measure => simp [intOf]; omega
      · have hd : decide (b ≤ a) = true := decide_eq_true (by omega)
        have HD := hide_ (decide_eq_false (HN.out (by omega)))
        go_wp2
        go_quiet (fail)
        go_wp2
        go_ret
        exact ⟨by rw [HD.out]; rfl, _, by first | exact World.drewN_drewN _ _ _ | rfl⟩
    · have HD := hide_ (decide_eq_true (hu.asc (by omega)))
      have i5 : ¬ ((j + 1 : Nat) : Int) < (S.length : Int) := by omega
      clear hu
      go_wp2
      go_ret
      exact ⟨by rw [HD.out]; rfl, _, by first | exact World.drewN_drewN _ _ _ | rfl⟩
set_option maxHeartbeats 1600000 in
theorem rrising_any (p : Option Addr) (n c : Nat) (S : Rc) (w : World) (hn : n = S.length) (hp : TL w p S) (hs : n ≤ 1000000) :
    Calls Try.prog 59 #[.slice p n c] w fun e w' => e = .returned (.bool (decide (Asc S))) ∧ ∃ q, w' = w.drewN q := by
  subst hn
  have HP := hide_ (fun k hk => hp.some_ (k := k) hk)
  clear hp
  go_enter Try.func59, Try.ntmps59
  go_wp2
  go_loopw [3] (fun i wr => ∃ k : Nat, 1 ≤ k ∧ i = .int .i64 k ∧ upto S k ∧ ∃ q, wr = w.drewN q) (fun i _ => S.length - (intOf i).toNat)
  case atStart => exact ⟨1, by omega, rfl, upto.one S, 0, rfl⟩
  case round =>
    obtain ⟨k, hk, rfl, hu, q, rfl⟩ := hrel
    obtain ⟨j, rfl⟩ : ∃ j, k = j + 1 := ⟨k - 1, by omega⟩
    by_cases hlt : j + 1 < S.length
    · obtain ⟨g, o, rfl, hg, hc⟩ := HP.out _ hlt
      obtain ⟨c1, _⟩ := hc (j + 1) hlt
      obtain ⟨c2, _⟩ := hc j (by omega)
      clear hc
      have HU := hide_ (fun h => hu.succ (j := j) h)
      have HN := hide_ (fun h => not_asc (S := S) (j := j) hlt h)
      clear hu
      generalize (S.getD j (0, 0)).1 = a at *
      generalize (S.getD (j + 1) (0, 0)).1 = b at *
      have i1 : IntKind.i64.wrap (((j + 1 : Nat) : Int) - 1) = (j : Int) := by rw [IntWalk.i64_in _ (by omega)]; omega
      have i2 : (0 : Int) ≤ (j : Int) := by omega
      have i3 : (j : Int) < (S.length : Int) := by omega
      have i4 : (0 : Int) ≤ ((j + 1 : Nat) : Int) := by omega
      have i5 : ((j + 1 : Nat) : Int) < (S.length : Int) := by omega
      by_cases hab : a < b
      · have hd : decide (b ≤ a) = false := decide_eq_false (by omega)
        go_wp2
        go_quiet (fail)
        go_wp2
        go_roundw
        case rel => exact ⟨j + 1 + 1, by omega, by go_num, HU.out hab, _, rfl⟩
        case measure => simp [intOf]; omega
      · have hd : decide (b ≤ a) = true := decide_eq_true (by omega)
        have HD := hide_ (decide_eq_false (HN.out (by omega)))
        go_wp2
        go_quiet (fail)
        go_wp2
        go_ret
        exact ⟨by rw [HD.out]; rfl, _, by first | exact World.drewN_drewN _ _ _ | rfl⟩
    · have HD := hide_ (decide_eq_true (hu.asc (by omega)))
      have i5 : ¬ ((j + 1 : Nat) : Int) < (S.length : Int) := by omega
      clear hu
      go_wp2
      go_ret
      exact ⟨by rw [HD.out]; rfl, _, by first | exact World.drewN_drewN _ _ _ | rfl⟩
end Go.Proofs.Ytlgnidjkilbdfaa
