/- Chapter 12: Node, Turn, Times answer alike in the program and in the reference; the same number. -/
import Derived.Test.YtklhdpkofpkmjaaTl3
namespace Go.Proofs.Ytklhdpkofpkmjaa
open Go.RowKit Ieee
set_option linter.unusedVariables false
set_option maxRecDepth 100000
theorem fin_zero : Fin64 0 0 := by have h := pos_const 0 (by decide); rwa [valR_low (by decide)] at h
theorem node_alike (t : Int) : ∃ (re im : Nat) (a b e1 : Int), Fin64 re a ∧ Fin64 im b ∧
    (∀ wx : World, Calls Try.prog 66 #[.int .i64 t] wx fun e w' => e = .returned (.tuple #[.complex .f64 re im, .int .i64 e1]) ∧ Below wx.heap.size wx w') ∧
    (∀ wx : World, Calls Try.prog 67 #[.int .i64 t] wx fun e w' => e = .returned (.tuple #[.complex .f64 re im, .int .i64 e1]) ∧ Below wx.heap.size wx w') := by
  by_cases h : t < 0 ∨ 1048576 < t
  · exact ⟨0, 0, 0, 0, 2, fin_zero, fin_zero, fun wx => node_no t wx h, fun wx => rnode_no t wx h⟩
  · obtain ⟨a, ha, _⟩ := nRe_abs t
    obtain ⟨b, hb, _⟩ := nIm_abs t
    exact ⟨nRe t, nIm t, a, b, 0, ha, hb, fun wx => node_ok t wx (by omega) (by omega), fun wx => rnode_ok t wx (by omega) (by omega)⟩
theorem turn_alike12 (s : ByteArray) (t : Int) : ∃ (X Y e1 : Int),
    (∀ wx : World, Calls Try.prog 50 #[.string s, .int .i64 t] wx fun e w' => e = .returned (.tuple #[.agg #[.int .i64 X, .int .i64 Y], .int .i64 e1]) ∧ Below wx.heap.size wx w') ∧
    (∀ wx : World, Calls Try.prog 69 #[.string s, .int .i64 t] wx fun e w' => e = .returned (.tuple #[.agg #[.int .i64 X, .int .i64 Y], .int .i64 e1]) ∧ Below wx.heap.size wx w') := by
  by_cases h : t < 0 ∨ 1048576 < t
  · have HL := hide_ (fun wx => look_e s t 2 wx (by decide) (hide_ (fun wy => node_no t wy h)))
    exact ⟨0, 0, 2, fun wx => turn_e s t 2 wx (by decide) HL, fun wx => rturn_e s t 2 wx (by decide) (hide_ (fun wy => rnode_no t wy h))⟩
  · cases hb : isN s with
    | true => exact ⟨_, _, 0, (name_calls s t (by omega) (by omega) hb).2.2.2, (rname_calls s t (by omega) (by omega) hb).2⟩
    | false =>
      have hf := (find_ix s).1
      rw [hb] at hf
      have hL := hide_ (fun wx => look_m s t _ _ _ _ _ wx (hide_ (fun wy => node_ok t wy (by omega) (by omega))) (hide_ hf))
      exact ⟨0, 0, 6, fun wx => turn_e s t 6 wx (by decide) hL, (rname_none s t (by omega) (by omega) hb).2⟩
theorem times_alike12 (n : Nat) (S : Nat → ByteArray) (t : Int) (hn : n ≤ 1048576) : ∃ (f : Nat) (fv X Y a b : Int), Fin64 f fv ∧
    (∀ v c (wx : World), NamesAt v n S wx.heap.size wx → Calls Try.prog 70 #[.slice v n c, .int .i64 t] wx fun e w' => e = .returned (.tuple #[.float .f64 f, .agg #[.int .i64 X, .int .i64 Y], .agg #[.int .i64 a, .int .i64 b]]) ∧ Below wx.heap.size wx w') ∧
    (∀ v c (wx : World), NamesAt v n S wx.heap.size wx → Calls Try.prog 71 #[.slice v n c, .int .i64 t] wx fun e w' => e = .returned (.tuple #[.float .f64 f, .agg #[.int .i64 X, .int .i64 Y], .agg #[.int .i64 a, .int .i64 b]]) ∧ Below wx.heap.size wx w') := by
  by_cases h8 : 8 < n
  · exact ⟨0, 0, 0, 0, 3, -1, fin_zero, fun v c wx _ => times_long v n c t wx h8 hn, fun v c wx _ => rtimes_long v n c t wx h8 hn⟩
  by_cases h : t < 0 ∨ 1048576 < t
  · exact ⟨0, 0, 0, 0, 2, -1, fin_zero, fun v c wx _ => times_node v n c t 2 wx (by omega) (by decide) (hide_ (fun wy => node_no t wy h)), fun v c wx _ => rtimes_node v n c t 2 wx (by omega) (by decide) (hide_ (fun wy => rnode_no t wy h))⟩
  by_cases hall : ∀ j, j < n → isN (S j) = true
  · have hp := prodB_ok (F := fun j => sF t (S j)) (n := n) (fun j hj => (name_calls (S j) t (by omega) (by omega) (hall j hj)).1) (by omega) n (Nat.le_refl _)
    obtain ⟨fv, hfv, _⟩ := hp
    refine ⟨_, fv, tX (sumP (fun j => sT t (S j)) n), tY (sumP (fun j => sT t (S j)) n), 0, 0, hfv, fun v c wx hw => (times_ix v n c S t wx (by omega) hw (by omega) (by omega)).mono ?_, fun v c wx hw => (rtimes_ix v n c S t wx (by omega) hw (by omega) (by omega)).mono ?_⟩
    · rintro e w' ⟨⟨i, hi, _, hno, _⟩ | ⟨_, rfl⟩, hb⟩
      · rw [hall i hi] at hno; cases hno
      · exact ⟨rfl, hb⟩
    · rintro e w' ⟨⟨i, hi, _, hno, _⟩ | ⟨_, rfl⟩, hb⟩
      · rw [hall i hi] at hno; cases hno
      · exact ⟨rfl, hb⟩
  · -- the first name that is none
    have hex : ∃ i, i < n ∧ (∀ j, j < i → isN (S j) = true) ∧ isN (S i) = false := by
      have key : ∀ m, (∀ j, j < m → isN (S j) = true) ∨ ∃ i, i < m ∧ (∀ j, j < i → isN (S j) = true) ∧ isN (S i) = false := by
        intro m
        induction m with
        | zero => exact .inl (fun j hj => by omega)
        | succ m ih =>
          rcases ih with h1 | ⟨i, h1, h2, h3⟩
          · cases hb : isN (S m) with
            | true => exact .inl (fun j hj => by
                rcases (show j < m ∨ j = m by omega) with h' | rfl
                · exact h1 j h'
                · exact hb)
            | false => exact .inr ⟨m, by omega, h1, hb⟩
          · exact .inr ⟨i, by omega, h2, h3⟩
      rcases key n with h1 | h1
      · exact absurd h1 hall
      · exact h1
    obtain ⟨i, hi, h2, h3⟩ := hex
    have huniq : ∀ k, (∀ j, j < k → isN (S j) = true) → isN (S k) = false → k = i := by
      intro k h4 h5
      rcases Nat.lt_trichotomy k i with h' | h' | h'
      · rw [h2 k h'] at h5; cases h5
      · exact h'
      · rw [h4 i h'] at h3; cases h3
    refine ⟨0, 0, 0, 0, 6, (i : Int), fin_zero, fun v c wx hw => (times_ix v n c S t wx (by omega) hw (by omega) (by omega)).mono ?_, fun v c wx hw => (rtimes_ix v n c S t wx (by omega) hw (by omega) (by omega)).mono ?_⟩
    · rintro e w' ⟨⟨k, hk, h4, h5, rfl⟩ | ⟨h4, _⟩, hb⟩
      · rw [huniq k h4 h5]; exact ⟨rfl, hb⟩
      · exact absurd h4 hall
    · rintro e w' ⟨⟨k, hk, h4, h5, rfl⟩ | ⟨h4, _⟩, hb⟩
      · rw [huniq k h4 h5]; exact ⟨rfl, hb⟩
      · exact absurd h4 hall
theorem sameN {re im : Nat} {a b : Int} (ha : Fin64 re a) (hb : Fin64 im b) (w : World) : Calls Try.prog 72 #[.complex .f64 re im, .complex .f64 re im] w fun e w' => e = .returned (.bool true) ∧ w = w' := by
  have H1 := hide_ (fun wx => sameF ha wx)
  have H2 := hide_ (fun wx => sameF hb wx)
  clear ha hb
  have tok1 : True := trivial
  go_enter Try.func72, Try.ntmps72
  go_wp2_with (first
    | (go_at_call 38; have _t := tok1; (with_reducible refine (H1.out _).mono ?_); rintro e w1 ⟨rfl, rfl⟩; clear tok1)
    | (go_at_call 38; (with_reducible refine (H2.out _).mono ?_); rintro e w1 ⟨rfl, rfl⟩))
  go_ret
  exact ⟨rfl, rfl⟩
end Go.Proofs.Ytklhdpkofpkmjaa
