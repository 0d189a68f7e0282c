/- AngleCalls: of any number, tick and text all that is told, or the errors; lists are new memory. -/
import Derived.Test.YtklhdpkofpkmjaaRef10
import Derived.Test.YtklhdpkofpkmjaaGoes
namespace Go.Proofs.Ytklhdpkofpkmjaa
open Go.RowKit
/-- 'same' over two lists of the same numbers. -/
theorem same_ok (g1 c1 g2 c2 n : Nat) (f : Nat → Int) (w : World) (hn : n ≤ 4096) (h1 : ∀ j, j < n → w.cell? ⟨g1, j, none⟩ = some (.int .i64 (f j))) (h2 : ∀ j, j < n → w.cell? ⟨g2, j, none⟩ = some (.int .i64 (f j))) :
    Calls Try.prog 29 #[.slice (some ⟨g1, 0, none⟩) n c1, .slice (some ⟨g2, 0, none⟩) n c2] w fun e w' => e = .returned (.bool true) ∧ ∃ m, w' = w.drewN m := by
  have H1 := hide_ h1
  have H2 := hide_ h2
  clear h1 h2
  go_enter Try.func29, Try.ntmps29
  go_wp2
  go_loopw [5] (fun i wr => ∃ k m : Nat, k ≤ n ∧ i = .int .i64 k ∧ wr = w.drewN m) (fun i _ => n - (intOf i).toNat)
  case atStart => exact ⟨0, 0, by omega, rfl, rfl⟩
  case round =>
    obtain ⟨k, m, hk, rfl, rfl⟩ := hrel
    by_cases hlt : k < n
    · have c1 := H1.out k hlt
      have c2 := H2.out k hlt
      have hk0 : (0 : Int) ≤ (k : Int) := by omega
      have hkn : (k : Int) < (n : Int) := by omega
      go_wp2
      go_quiet (fail)
      go_wp2
      go_roundw
      case rel => exact ⟨k + 1, m + nq, by omega, by go_num, rfl⟩
      case measure => simp [intOf]; omega
    · obtain rfl : k = n := by omega
      go_wp2
      go_ret
      exact ⟨rfl, _, rfl⟩
theorem same_nil (w : World) : Calls Try.prog 29 #[.slice none 0 0, .slice none 0 0] w fun e w' => e = .returned (.bool true) ∧ ∃ m, w' = w.drewN m := by
  go_enter Try.func29, Try.ntmps29
  go_wp2
  refine wp_loop_rounds 1 ?_
  rw [rounds_succ]
  go_wp2
  go_ret
  exact ⟨rfl, 0, rfl⟩
theorem units_pair (k t : Int) : ∃ u e : Int, (∀ wx, Calls Try.prog 19 #[.int .i64 k, .int .i64 t] wx fun r w' => r = .returned (.tuple #[.int .i64 u, .int .i64 e]) ∧ Below wx.heap.size wx w') ∧
    (∀ wx, Calls Try.prog 23 #[.int .i64 k, .int .i64 t] wx fun r w' => r = .returned (.tuple #[.int .i64 u, .int .i64 e]) ∧ Below wx.heap.size wx w') := by
  by_cases h : k < 0 ∨ 6 ≤ k ∨ t < 0 ∨ 1048576 < t
  · exact ⟨_, _, fun wx => (units_no k t wx h).mono fun _ _ ⟨a, b⟩ => ⟨a, b ▸ Below.refl _ _⟩, fun wx => runits_no k t wx h⟩
  · obtain ⟨n, rfl⟩ := Int.eq_ofNat_of_zero_le (show 0 ≤ k by omega)
    exact ⟨_, _, fun wx => units_ok n t wx (by omega) (by omega) (by omega), fun wx => runits_ok n t wx (by omega) (by omega) (by omega)⟩
theorem angle_pair (k t : Int) : ∃ x y e : Int, (∀ wx, Calls Try.prog 22 #[.int .i64 k, .int .i64 t] wx fun r w' => r = .returned (.tuple #[.agg #[.int .i64 x, .int .i64 y], .int .i64 e]) ∧ Below wx.heap.size wx w') ∧
    (∀ wx, Calls Try.prog 24 #[.int .i64 k, .int .i64 t] wx fun r w' => r = .returned (.tuple #[.agg #[.int .i64 x, .int .i64 y], .int .i64 e]) ∧ Below wx.heap.size wx w') := by
  by_cases h : k < 0 ∨ 6 ≤ k ∨ t < 0 ∨ 1048576 < t
  · exact ⟨0, 0, 2, fun wx => angle_no k t wx h, fun wx => rangle_no k t wx h⟩
  · obtain ⟨n, rfl⟩ := Int.eq_ofNat_of_zero_le (show 0 ≤ k by omega)
    exact ⟨_, _, 0, fun wx => angle_ok n t wx (by omega) (by omega) (by omega), fun wx => rangle_ok n t wx (by omega) (by omega) (by omega)⟩
theorem speed_pair (k : Int) : ∃ x y e : Int, (∀ wx, Calls Try.prog 21 #[.int .i64 k] wx fun r w' => r = .returned (.tuple #[.agg #[.int .i64 x, .int .i64 y], .int .i64 e]) ∧ Below wx.heap.size wx w') ∧
    (∀ wx, Calls Try.prog 25 #[.int .i64 k] wx fun r w' => r = .returned (.tuple #[.agg #[.int .i64 x, .int .i64 y], .int .i64 e]) ∧ Below wx.heap.size wx w') := by
  by_cases h : k < 0 ∨ 6 ≤ k
  · exact ⟨0, 0, 2, fun wx => speed_no k wx h, fun wx => rspeed_no k wx h⟩
  · obtain ⟨n, rfl⟩ := Int.eq_ofNat_of_zero_le (show 0 ≤ k by omega)
    exact ⟨_, _, 0, fun wx => speed_ok n wx (by omega), fun wx => rspeed_ok n wx (by omega)⟩
theorem name_pair (k : Int) : ∃ s : ByteArray, (∀ wx, Calls Try.prog 20 #[.int .i64 k] wx fun r w' => r = .returned (.string s) ∧ Below wx.heap.size wx w') ∧
    (∀ wx, Calls Try.prog 27 #[.int .i64 k] wx fun r w' => r = .returned (.string s) ∧ Below wx.heap.size wx w') := by
  by_cases h : k < 0 ∨ 6 ≤ k
  · exact ⟨_, fun wx => (name_no k wx h).mono fun _ _ ⟨a, b⟩ => ⟨a, b ▸ Below.refl _ _⟩, fun wx => rname_no k wx h⟩
  · obtain ⟨n, rfl⟩ := Int.eq_ofNat_of_zero_le (show 0 ≤ k by omega)
    exact ⟨_, fun wx => name_ok n wx (by omega), fun wx => rname_ok n wx (by omega)⟩
theorem find_pair (s : ByteArray) : ∃ (n : Int) (b : Bool), (∀ wx, Calls Try.prog 18 #[.string s] wx fun r w' => r = .returned (.tuple #[.int .i64 n, .bool b]) ∧ Below wx.heap.size wx w') ∧
    (∀ wx, Calls Try.prog 26 #[.string s] wx fun r w' => r = .returned (.tuple #[.int .i64 n, .bool b]) ∧ Below wx.heap.size wx w') := by
  cases h : findFrom s 0 with
  | none => exact ⟨0, false, fun wx => by have := find_ok s wx; rw [h] at this; exact this, fun wx => by have := rfind_ok s wx; rw [h] at this; exact this⟩
  | some k => exact ⟨k, true, fun wx => by have := find_ok s wx; rw [h] at this; exact this, fun wx => by have := rfind_ok s wx; rw [h] at this; exact this⟩
/-- A list of the six units at a tick, made by a call. -/
structure Six (t : Int) (base g cap : Nat) (w : World) : Prop where
  own : w.ownsRow base 2 1 (.slice (some ⟨g, 0, none⟩) 6 cap) 6 ((List.range 6).map fun k => Value.int .i64 (unit k t))
  lo : base ≤ g
  hi : g < w.heap.size
theorem Six.cell {t : Int} {base g cap : Nat} {w : World} (h : Six t base g cap w) (j : Nat) (hj : j < 6) : w.cell? ⟨g, j, none⟩ = some (.int .i64 (unit j t)) := cells6 h.own j hj
theorem Six.below {t : Int} {base g cap : Nat} {w w' : World} (h : Six t base g cap w) (hb : Below w.heap.size w w') : Six t base g cap w' := ⟨own_below h.own hb, h.lo, Nat.lt_of_lt_of_le h.hi hb.size⟩
theorem Six.drewN {t : Int} {base g cap : Nat} {w : World} (h : Six t base g cap w) (n : Nat) : Six t base g cap (w.drewN n) := ⟨h.own, h.lo, h.hi⟩
theorem own_far {w w' : World} {base : Nat} {e : TypeId} {size n g : Nat} {c : Nat} {xs : List Value} {r : Nat} (h : w.ownsRow base e size (.slice (some ⟨g, 0, none⟩) n c) n xs) (hg : w.grownBy w' (some r)) (hne : g ≠ r) : w'.ownsRow base e size (.slice (some ⟨g, 0, none⟩) n c) n xs :=
  h.kept hg (.inr (by simpa [Value.ownBlock] using hne))
theorem Six.far {t : Int} {base g cap r : Nat} {w w' : World} (h : Six t base g cap w) (hg : w.grownBy w' (some r)) (hne : g ≠ r) : Six t base g cap w' := ⟨own_far h.own hg hne, h.lo, Nat.lt_of_lt_of_le h.hi hg.size⟩
theorem only_set {a w : World} {g j : Nat} {u : Value} (h : a.grownBy w (some g)) : a.grownBy (w.setCell ⟨g, j, none⟩ u) (some g) :=
  ⟨h.os, h.tape, h.output, by simpa [World.setCell] using h.size, fun i hi hne => (Below.heap_setCell w ⟨g, j, none⟩ u i (by rintro rfl; exact hne rfl)).trans (h.block i hi hne)⟩
theorem all_six (t : Int) (w : World) (h0 : 0 ≤ t) (h1 : t ≤ 1048576) :
    Calls Try.prog 17 #[.int .i64 t] w fun e w' => ∃ g cap, e = .returned (.tuple #[.slice (some ⟨g, 0, none⟩) 6 cap, .int .i64 0]) ∧ Six t w.heap.size g cap w' ∧ Below w.heap.size w w' := by
  refine (all_ok t w h0 h1).mono fun e w' ⟨v, he, ho, hb⟩ => ?_
  obtain ⟨g, cap, rfl, h3, h4⟩ := ho.form (by decide)
  exact ⟨g, cap, he, ⟨ho, h3, h4⟩, hb⟩
theorem rall_six (t : Int) (w : World) (h0 : 0 ≤ t) (h1 : t ≤ 1048576) :
    Calls Try.prog 28 #[.int .i64 t] w fun e w' => ∃ g cap, e = .returned (.tuple #[.slice (some ⟨g, 0, none⟩) 6 cap, .int .i64 0]) ∧ Six t w.heap.size g cap w' ∧ Below w.heap.size w w' := by
  refine (rall_ok t w h0 h1).mono fun e w' ⟨v, he, ho, hb⟩ => ?_
  obtain ⟨g, cap, rfl, h3, h4⟩ := ho.form (by decide)
  exact ⟨g, cap, he, ⟨ho, h3, h4⟩, hb⟩
theorem same_six {t : Int} {b1 b2 g1 g2 c1 c2 : Nat} {w : World} (h1 : Six t b1 g1 c1 w) (h2 : Six t b2 g2 c2 w) :
    Calls Try.prog 29 #[.slice (some ⟨g1, 0, none⟩) 6 c1, .slice (some ⟨g2, 0, none⟩) 6 c2] w fun e w' => e = .returned (.bool true) ∧ ∃ m, w' = w.drewN m :=
  same_ok g1 c1 g2 c2 6 (fun k => unit k t) w (by omega) (fun j hj => h1.cell j hj) (fun j hj => h2.cell j hj)
set_option maxHeartbeats 1600000 in
set_option maxRecDepth 100000 in
theorem calls_no (k t : Int) (s : ByteArray) (w : World) (ht : t < 0 ∨ 1048576 < t) :
    Calls Try.prog 5 #[.int .i64 k, .int .i64 t, .string s] w fun e w' => e = .returned (.bool true) ∧ Below w.heap.size w w' := by
  obtain ⟨u, e1, hu, hru⟩ := units_pair k t
  obtain ⟨ax, ay, e2, ha, hra⟩ := angle_pair k t
  obtain ⟨sx, sy, e3, hs, hrs⟩ := speed_pair k
  obtain ⟨nm, hn, hrn⟩ := name_pair k
  obtain ⟨fi, fb, hf, hrf⟩ := find_pair s
  have HU := hide_ hu
  have HRU := hide_ hru
  have HA := hide_ ha
  have HRA := hide_ hra
  have HS := hide_ hs
  have HRS := hide_ hrs
  have HN := hide_ hn
  have HRN := hide_ hrn
  have HF := hide_ hf
  have HRF := hide_ hrf
  have HT := hide_ ht
  clear hu hru ha hra hs hrs hn hrn hf hrf ht
  go_enter Try.func5, Try.ntmps5
  go_wp2_with (first
    | (go_at_call 19; (with_reducible refine (HU.out _).mono ?_); rintro e w1 ⟨rfl, hb1⟩)
    | (go_at_call 23; (with_reducible refine (HRU.out _).mono ?_); rintro e w2 ⟨rfl, hb2⟩)
    | (go_at_call 22; (with_reducible refine (HA.out _).mono ?_); rintro e w3 ⟨rfl, hb3⟩)
    | (go_at_call 24; (with_reducible refine (HRA.out _).mono ?_); rintro e w4 ⟨rfl, hb4⟩; have pc4 := P2.new hb4)
    | (go_at_call 21; (with_reducible refine (HS.out _).mono ?_); rintro e w5 ⟨rfl, hb5⟩; have pd5 := P2.new hb5; have pc5 := P2.step pc4 hb5)
    | (go_at_call 25; (with_reducible refine (HRS.out _).mono ?_); rintro e w6 ⟨rfl, hb6⟩; have pi6 := P2.new hb6; have pd6 := P2.step pd5 hb6; have pc6 := P2.step pc5 hb6)
    | (go_at_call 18; (with_reducible refine (HF.out _).mono ?_); rintro e w7 ⟨rfl, hb7⟩; have pl7 := P2.new hb7; have pi7 := P2.step pi6 hb7; have pd7 := P2.step pd6 hb7; have pc7 := P2.step pc6 hb7)
    | (go_at_call 26; (with_reducible refine (HRF.out _).mono ?_); rintro e w8 ⟨rfl, hb8⟩; obtain ⟨l0, l1, l2⟩ := P2.stay pl7 hb8; obtain ⟨i0, i1, i2⟩ := P2.stay pi7 hb8; obtain ⟨d0, d1, d2⟩ := P2.stay pd7 hb8; obtain ⟨c0, c1, c2⟩ := P2.stay pc7 hb8)
    | (go_at_call 20; (with_reducible refine (HN.out _).mono ?_); rintro e w9 ⟨rfl, hb9⟩)
    | (go_at_call 27; (with_reducible refine (HRN.out _).mono ?_); rintro e w10 ⟨rfl, hb10⟩)
    | (go_at_call 17; (with_reducible refine (all_no _ _ HT.out).mono ?_); rintro e w11 ⟨rfl, rfl⟩)
    | (go_at_call 28; (with_reducible refine (rall_no _ _ HT.out).mono ?_); rintro e w12 ⟨rfl, rfl⟩)
    | (go_at_call 29; (with_reducible refine (same_nil _).mono ?_); rintro e w13 ⟨rfl, m13, rfl⟩))
  refine wp_loop_rounds 1 ?_
  rw [rounds_succ]
  go_wp2_with (first
    | (go_at_call 17; (with_reducible refine (all_no _ _ HT.out).mono ?_); rintro e w14 ⟨rfl, rfl⟩)
    | (go_at_call 29; (with_reducible refine (same_nil _).mono ?_); rintro e w15 ⟨rfl, m15, rfl⟩))
  go_ret
  refine ⟨rfl, ?_⟩
  have hg0 := Grew.of hb1
  exact Grew.below (by repeat (first | exact Grew.refl _ | assumption | refine Grew.alloc ?_ _ | refine Grew.drewN ?_ _ | refine Grew.drew ?_ | refine Grew.setRow ?_ (by first | assumption | (simp; done) | (simp; omega) | omega) _ | refine Grew.setCell ?_ (by first | assumption | (simp; done) | (simp; omega) | omega) _ | refine Grew.step ?_ (by assumption)))
theorem same_below {t : Int} {b1 b2 g1 g2 c1 c2 : Nat} {w : World} (h1 : Six t b1 g1 c1 w) (h2 : Six t b2 g2 c2 w) :
    Calls Try.prog 29 #[.slice (some ⟨g1, 0, none⟩) 6 c1, .slice (some ⟨g2, 0, none⟩) 6 c2] w fun e w' => e = .returned (.bool true) ∧ Below w.heap.size w w' :=
  (same_six h1 h2).mono fun _ _ ⟨a, m, hm⟩ => ⟨a, hm ▸ below_drewN (Below.refl _ _) m⟩
set_option maxHeartbeats 1600000 in
set_option maxRecDepth 100000 in
theorem calls_ok (k t : Int) (s : ByteArray) (w : World) (ht0 : 0 ≤ t) (ht1 : t ≤ 1048576) :
    Calls Try.prog 5 #[.int .i64 k, .int .i64 t, .string s] w fun e w' => e = .returned (.bool true) ∧ Below w.heap.size w w' := by
  obtain ⟨u, e1, hu, hru⟩ := units_pair k t
  obtain ⟨ax, ay, e2, ha, hra⟩ := angle_pair k t
  obtain ⟨sx, sy, e3, hs, hrs⟩ := speed_pair k
  obtain ⟨nm, hn, hrn⟩ := name_pair k
  obtain ⟨fi, fb, hf, hrf⟩ := find_pair s
  have HU := hide_ hu
  have HRU := hide_ hru
  have HA := hide_ ha
  have HRA := hide_ hra
  have HS := hide_ hs
  have HRS := hide_ hrs
  have HN := hide_ hn
  have HRN := hide_ hrn
  have HF := hide_ hf
  have HRF := hide_ hrf
  clear hu hru ha hra hs hrs hn hrn hf hrf
  have tok1 : True := trivial
  go_enter Try.func5, Try.ntmps5
  go_wp2_with (first
    | (go_at_call 19; (with_reducible refine (HU.out _).mono ?_); rintro e w1 ⟨rfl, hb1⟩)
    | (go_at_call 23; (with_reducible refine (HRU.out _).mono ?_); rintro e w2 ⟨rfl, hb2⟩)
    | (go_at_call 22; (with_reducible refine (HA.out _).mono ?_); rintro e w3 ⟨rfl, hb3⟩)
    | (go_at_call 24; (with_reducible refine (HRA.out _).mono ?_); rintro e w4 ⟨rfl, hb4⟩; have pc4 := P2.new hb4)
    | (go_at_call 21; (with_reducible refine (HS.out _).mono ?_); rintro e w5 ⟨rfl, hb5⟩; have pd5 := P2.new hb5; have pc5 := P2.step pc4 hb5)
    | (go_at_call 25; (with_reducible refine (HRS.out _).mono ?_); rintro e w6 ⟨rfl, hb6⟩; have pi6 := P2.new hb6; have pd6 := P2.step pd5 hb6; have pc6 := P2.step pc5 hb6)
    | (go_at_call 18; (with_reducible refine (HF.out _).mono ?_); rintro e w7 ⟨rfl, hb7⟩; have pl7 := P2.new hb7; have pi7 := P2.step pi6 hb7; have pd7 := P2.step pd6 hb7; have pc7 := P2.step pc6 hb7)
    | (go_at_call 26; (with_reducible refine (HRF.out _).mono ?_); rintro e w8 ⟨rfl, hb8⟩; obtain ⟨l0, l1, l2⟩ := P2.stay pl7 hb8; obtain ⟨i0, i1, i2⟩ := P2.stay pi7 hb8; obtain ⟨d0, d1, d2⟩ := P2.stay pd7 hb8; obtain ⟨c0, c1, c2⟩ := P2.stay pc7 hb8)
    | (go_at_call 20; (with_reducible refine (HN.out _).mono ?_); rintro e w9 ⟨rfl, hb9⟩)
    | (go_at_call 27; (with_reducible refine (HRN.out _).mono ?_); rintro e w10 ⟨rfl, hb10⟩)
    | (go_at_call 17; have _t := tok1; (with_reducible refine (all_six _ _ ht0 ht1).mono ?_); rintro e w11 ⟨g1, k1, rfl, sx1, hb11⟩; clear tok1)
    | (go_at_call 17; (with_reducible refine (all_six _ _ ht0 ht1).mono ?_); rintro e w12 ⟨g2, k2, rfl, sy2, hb12⟩; have sx2 := sx1.below hb12)
    | (go_at_call 28; (with_reducible refine (rall_six _ _ ht0 ht1).mono ?_); rintro e w13 ⟨g3, k3, rfl, sz3, hb13⟩; have sx3 := sx2.below hb13; have sy3 := sy2.below hb13)
    | (go_at_call 29; (with_reducible refine (same_below sx3 sz3).mono ?_); rintro e w14 ⟨rfl, hb14⟩; have sy4 := sy3.below hb14; have sz4 := sz3.below hb14; have sx4 := sx3.below hb14)
    | (go_at_call 29; (with_reducible refine (same_below sy4 sz4).mono ?_); rintro e w15 ⟨rfl, hb15⟩; have sy5 := sy4.below hb15; have sz5 := sz4.below hb15; have sx5 := sx4.below hb15))
  have hg15 : Grew w.heap.size w w15 := ⟨by
    have hg0 := Grew.of hb1
    exact Grew.below (by repeat (first | exact Grew.refl _ | assumption | refine Grew.alloc ?_ _ | refine Grew.drewN ?_ _ | refine Grew.drew ?_ | refine Grew.setRow ?_ (by first | assumption | (simp; done) | (simp; omega) | omega) _ | refine Grew.setCell ?_ (by first | assumption | (simp; done) | (simp; omega) | omega) _ | refine Grew.step ?_ (by assumption))), by
    have h1 := hb1.size; have h2 := hb2.size; have h3 := hb3.size; have h4 := hb4.size; have h5 := hb5.size; have h6 := hb6.size; have h7 := hb7.size; have h8 := hb8.size; have h9 := hb9.size; have h10 := hb10.size; have h11 := hb11.size; have h12 := hb12.size; have h13 := hb13.size; have h14 := hb14.size; have h15 := hb15.size
    simp at h4 h5 h6 h7
    omega⟩
  have hd12 : g1 < g2 := Nat.lt_of_lt_of_le sx1.hi sy2.lo
  have hd13 : g1 < g3 := Nat.lt_of_lt_of_le sx2.hi sz3.lo
  have hx5 := sx5.own
  have hlo : w.heap.size ≤ g1 := by
    have h1 := hb1.size; have h2 := hb2.size; have h3 := hb3.size; have h4 := hb4.size; have h5 := hb5.size; have h6 := hb6.size; have h7 := hb7.size; have h8 := hb8.size; have h9 := hb9.size; have h10 := hb10.size; have h := sx1.lo
    simp at h4 h5 h6 h7
    omega
  have hb10s := sx1.lo
  clear sx1 sx2 sx3 sx4 sy2 sy3 sy4 sz3 sz4 HU HRU HA HRA HS HRS HN HRN HF HRF
  clear hb1 hb2 hb3 hb4 hb5 hb6 hb7 hb8 hb9 hb11 hb12 hb13 hb14 hb15
  clear l0 l1 l2 i0 i1 i2 d0 d1 d2 c0 c1 c2
  go_loopw [29] (fun i wr => ∃ (j : Nat) (xs : List Value), j ≤ 6 ∧ i = .int .i64 j ∧ wr.ownsRow w10.heap.size 2 1 (.slice (some ⟨g1, 0, none⟩) 6 k1) 6 xs ∧ w15.grownBy wr (some g1) ∧ Grew w.heap.size w wr) (fun i _ => 6 - (intOf i).toNat)
  case atStart => exact ⟨0, _, by omega, rfl, hx5, World.grownBy.refl _ _, hg15⟩
  case round =>
    obtain ⟨j, xs, hj, rfl, hown, hgr, hbl⟩ := hrel
    have hj0 : (0 : Int) ≤ (j : Int) := by omega
    by_cases hlt : j < 6
    · have hj6 : (j : Int) < 6 := by omega
      obtain ⟨v, hv⟩ : ∃ v, xs[j]? = some v := ⟨_, List.getElem?_eq_getElem (by have := hown.1; omega)⟩
      have hc := (hown.cellAt j (by omega)).trans hv
      have hf := hown.frozenAt j
      have hst := hown.stored j (.int .i64 (-1))
      go_wp2
      go_roundw
      case rel => exact ⟨j + 1, _, by omega, by go_num, hst.1, only_set hgr, hbl.setCell hlo _⟩
      case measure => simp [intOf]; omega
    · obtain rfl : j = 6 := by omega
      have sy6 : Six t _ g2 k2 wr := sy5.far hgr (by omega)
      have sz6 : Six t _ g3 k3 wr := sz5.far hgr (by omega)
      go_wp2_with (first
        | (go_at_call 17; (with_reducible refine (all_six _ _ ht0 ht1).mono ?_); rintro e w16 ⟨g4, k4, rfl, sw, hb16⟩; have sy7 := sy6.below hb16; have sz7 := sz6.below hb16)
        | (go_at_call 29; (with_reducible refine (same_below sy7 sz7).mono ?_); rintro e w17 ⟨rfl, hb17⟩; have sw8 := sw.below hb17; have sz8 := sz7.below hb17)
        | (go_at_call 29; (with_reducible refine (same_below sw8 sz8).mono ?_); rintro e w18 ⟨rfl, hb18⟩))
      go_ret
      refine ⟨rfl, ?_⟩
      exact Grew.below (by repeat (first | exact Grew.refl _ | assumption | refine Grew.alloc ?_ _ | refine Grew.drewN ?_ _ | refine Grew.drew ?_ | refine Grew.setRow ?_ (by first | assumption | (simp; done) | (simp; omega) | omega) _ | refine Grew.setCell ?_ (by first | assumption | (simp; done) | (simp; omega) | omega) _ | refine Grew.step ?_ (by assumption)))
theorem calls_walk (k t : Int) (s : ByteArray) (_w0 : (Lit.int .i64 k).wf = true) (_w1 : (Lit.int .i64 t).wf = true) (_w2 : s.size ≤ maxLen) (w : World) :
    Calls Try.prog 5 #[.int .i64 k, .int .i64 t, .string s] w fun e w' => e = .returned (.bool true) ∧ Below w.heap.size w w' := by
  by_cases h : t < 0 ∨ 1048576 < t
  · exact calls_no k t s w h
  · exact calls_ok k t s w (by omega) (by omega)
end Go.Proofs.Ytklhdpkofpkmjaa
