/- DoodsonGroup: all its ways together. -/
import Derived.Test.YtklhdpkofpkmjaaGrp2
import Derived.Test.YtklhdpkofpkmjaaGrp3
namespace Go.Proofs.Ytklhdpkofpkmjaa
open Go.RowKit
theorem left_c {n : Nat} {a : Array Value} {w : World} {h : Nat} {P : Prop} {A B : Ending} (hp : P) (H : Calls Try.prog n a w fun e w' => ((P ∧ e = A) ∨ (¬P ∧ e = B)) ∧ Below h w w') :
    Calls Try.prog n a w fun e w' => e = A ∧ Below h w w' :=
  H.mono fun _ _ hh => ⟨hh.1.elim (·.2) (fun x => absurd hp x.1), hh.2⟩
theorem right_c {n : Nat} {a : Array Value} {w : World} {h : Nat} {P : Prop} {A B : Ending} (hp : ¬P) (H : Calls Try.prog n a w fun e w' => ((P ∧ e = A) ∨ (¬P ∧ e = B)) ∧ Below h w w') :
    Calls Try.prog n a w fun e w' => e = B ∧ Below h w w' :=
  H.mono fun _ _ hh => ⟨hh.1.elim (fun x => absurd x.1 hp) (·.2), hh.2⟩
set_option maxRecDepth 100000 in
theorem group_c (f g : Nat → Int) (t : Int) (w : World) (hf : Good f) (hg : Good g) (h0 : 0 ≤ t) (h1 : t ≤ 1048576) :
    Calls Try.prog 8 #[.agg #[.int .i8 (f 0), .int .i8 (f 1), .int .i8 (f 2), .int .i8 (f 3), .int .i8 (f 4), .int .i8 (f 5)], .agg #[.int .i8 (g 0), .int .i8 (g 1), .int .i8 (g 2), .int .i8 (g 3), .int .i8 (g 4), .int .i8 (g 5)], .int .i64 t] w fun e w' => e = .returned (.bool true) ∧ Below w.heap.size w w' := by
  have hn : Good (op97 f f) := fun j hj => by have := hf j hj; simp only [op97]; omega
  obtain ⟨x1, y1, e1⟩ := turnV_two (du f (unitAt t)) 3600000000
  obtain ⟨x2, y2, e2⟩ := turnV_two (du g (unitAt t)) 3600000000
  obtain ⟨x3, y3, e3⟩ := turnV_two (du (op95 f g) (unitAt t)) 3600000000
  obtain ⟨x4, y4, e4⟩ := turnV_two (du (op96 f g) (unitAt t)) 3600000000
  obtain ⟨x5, y5, e5⟩ := turnV_two (du (op97 f f) (unitAt t)) 3600000000
  obtain ⟨x6, y6, e6⟩ := turnV_two (du f (unitAt (t + 1))) 3600000000
  obtain ⟨x7, y7, e7⟩ := turnV_two (du f rowAdds) 3600000000
  have HP := hide_ (fun wx => by have := phase_du f t wx hf h0 h1; rw [e1] at this; exact this)
  have HQ := hide_ (fun wx => by have := phase_du g t wx hg h0 h1; rw [e2] at this; exact this)
  have HA := hide_ (fun wx => by have := add_turn (du f (unitAt t)) (du g (unitAt t)) 3600000000 wx (du_lt _ _) (du_lt _ _) (by omega); rw [du_add, e1, e2, e3] at this; exact this)
  have HS := hide_ (fun wx => by have := sub_turn (du f (unitAt t)) (du g (unitAt t)) 3600000000 wx (du_lt _ _) (du_lt _ _) (by omega); rw [du_sub, e1, e2, e4] at this; exact this)
  have HN := hide_ (fun wx => by have := neg_turn (du f (unitAt t)) 3600000000 wx (du_lt _ _) (by omega); rw [du_neg f f, e1, e5] at this; exact this)
  have HR3 := hide_ (fun wx => by have := phase_du (op97 f f) t wx hn h0 h1; rw [e5] at this; exact this)
  have HC := hide_ (fun wx => left_c hn (dconj_ok f wx hf))
  have HV := hide_ (fun wx => by have := dspeed_ok f wx hf; rw [show (dsum f rowAdds 6 % 3600000000).toNat = du f rowAdds from rfl, e7] at this; exact this)
  have HA2 := hide_ (fun wx => by have := add_turn (du f (unitAt t)) (du f rowAdds) 3600000000 wx (du_lt _ _) (du_lt _ _) (by omega); rw [du_next, e1, e7, e6] at this; exact this)
  by_cases hHT : Good (op95 f g)
  · have HT1 := hide_ (fun wx => left_c hHT (dtimes_ok f g wx hf hg))
    have HR := hide_ (fun wx => by have := phase_du (op95 f g) t wx hHT h0 h1; rw [e3] at this; exact this)
    by_cases hHO : Good (op96 f g)
    · have HO1 := hide_ (fun wx => left_c hHO (dover_ok f g wx hf hg))
      have HR2 := hide_ (fun wx => by have := phase_du (op96 f g) t wx hHO h0 h1; rw [e4] at this; exact this)
      by_cases hl : 1048576 ≤ t
      · exact group_110 f g t w h0 h1 hl x1 y1 x2 y2 x3 y3 x4 y4 x5 y5 x6 y6 x7 y7 HP HQ HT1 HR HA HO1 HR2 HS HC HR3 HN
      · have HX := hide_ (fun wx => by have := phase_du f (t + 1) wx hf (by omega) (by omega); rw [e6] at this; exact this)
        exact group_111 f g t w h0 h1 (by omega) x1 y1 x2 y2 x3 y3 x4 y4 x5 y5 x6 y6 x7 y7 HP HQ HT1 HR HA HO1 HR2 HS HC HR3 HN HX HV HA2
    · have HO0 := hide_ (fun wx => right_c hHO (dover_ok f g wx hf hg))
      by_cases hl : 1048576 ≤ t
      · exact group_100 f g t w h0 h1 hl x1 y1 x2 y2 x3 y3 x4 y4 x5 y5 x6 y6 x7 y7 HP HQ HT1 HR HA HO0 HC HR3 HN
      · have HX := hide_ (fun wx => by have := phase_du f (t + 1) wx hf (by omega) (by omega); rw [e6] at this; exact this)
        exact group_101 f g t w h0 h1 (by omega) x1 y1 x2 y2 x3 y3 x4 y4 x5 y5 x6 y6 x7 y7 HP HQ HT1 HR HA HO0 HC HR3 HN HX HV HA2
  · have HT0 := hide_ (fun wx => right_c hHT (dtimes_ok f g wx hf hg))
    by_cases hHO : Good (op96 f g)
    · have HO1 := hide_ (fun wx => left_c hHO (dover_ok f g wx hf hg))
      have HR2 := hide_ (fun wx => by have := phase_du (op96 f g) t wx hHO h0 h1; rw [e4] at this; exact this)
      by_cases hl : 1048576 ≤ t
      · exact group_010 f g t w h0 h1 hl x1 y1 x2 y2 x3 y3 x4 y4 x5 y5 x6 y6 x7 y7 HP HQ HT0 HO1 HR2 HS HC HR3 HN
      · have HX := hide_ (fun wx => by have := phase_du f (t + 1) wx hf (by omega) (by omega); rw [e6] at this; exact this)
        exact group_011 f g t w h0 h1 (by omega) x1 y1 x2 y2 x3 y3 x4 y4 x5 y5 x6 y6 x7 y7 HP HQ HT0 HO1 HR2 HS HC HR3 HN HX HV HA2
    · have HO0 := hide_ (fun wx => right_c hHO (dover_ok f g wx hf hg))
      by_cases hl : 1048576 ≤ t
      · exact group_000 f g t w h0 h1 hl x1 y1 x2 y2 x3 y3 x4 y4 x5 y5 x6 y6 x7 y7 HP HQ HT0 HO0 HC HR3 HN
      · have HX := hide_ (fun wx => by have := phase_du f (t + 1) wx hf (by omega) (by omega); rw [e6] at this; exact this)
        exact group_001 f g t w h0 h1 (by omega) x1 y1 x2 y2 x3 y3 x4 y4 x5 y5 x6 y6 x7 y7 HP HQ HT0 HO0 HC HR3 HN HX HV HA2
theorem group_walk (f g : Nat → Int) (t : Int) (_w2 : (Lit.int .i64 t).wf = true) (w : World) :
    Calls Try.prog 8 #[.agg #[.int .i8 (f 0), .int .i8 (f 1), .int .i8 (f 2), .int .i8 (f 3), .int .i8 (f 4), .int .i8 (f 5)], .agg #[.int .i8 (g 0), .int .i8 (g 1), .int .i8 (g 2), .int .i8 (g 3), .int .i8 (g 4), .int .i8 (g 5)], .int .i64 t] w fun e w' => e = .returned (.bool true) ∧ Below w.heap.size w w' := by
  by_cases h : Good f ∧ 0 ≤ t ∧ t ≤ 1048576
  · by_cases hg : Good g
    · exact group_c f g t w h.1 hg h.2.1 h.2.2
    · exact group_b f g t w h hg
  · exact group_a f g t w h
end Go.Proofs.Ytklhdpkofpkmjaa
