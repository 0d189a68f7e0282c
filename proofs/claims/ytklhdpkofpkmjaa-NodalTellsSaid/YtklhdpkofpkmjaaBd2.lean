/- Chapter 12: factor and turn of a name of the table; the law's examples: contracts. -/
import Derived.Test.YtklhdpkofpkmjaaTn2
import Derived.Test.YtklhdpkofpkmjaaBd
namespace Go.Proofs.Ytklhdpkofpkmjaa
open Go.RowKit Ieee
set_option linter.unusedVariables false
set_option maxRecDepth 100000
theorem row_calls (s : ByteArray) (i : Nat) (t : Int) (h0 : 0 ≤ t) (h1 : t ≤ 1048576) (hr : RowOk i (nRe t) (nIm t))
    (hf : ∀ wx : World, Calls Try.prog 90 #[.string s] wx fun e w' => e = .returned (.tuple #[.agg #[.float .f64 (rc0 i), .float .f64 (rc1 i), .float .f64 (rc2 i)], .bool true]) ∧ Below wx.heap.size wx w') :
    (∀ wx : World, Calls Try.prog 49 #[.string s, .int .i64 t] wx fun e w' => e = .returned (.tuple #[.float .f64 (facR i (nRe t)), .int .i64 0]) ∧ Below wx.heap.size wx w') ∧
    (∀ wx : World, Calls Try.prog 50 #[.string s, .int .i64 t] wx fun e w' => e = .returned (.tuple #[.agg (turnV (tnR i (nIm t)) 3600000), .int .i64 0]) ∧ Below wx.heap.size wx w') := by
  have hN := hide_ (fun wx => node_ok t wx h0 h1)
  have hL := hide_ (fun wx => look_o s t _ _ _ _ _ wx hN (hide_ hf))
  exact ⟨fun wx => factor_o s t _ _ _ _ _ _ _ wx hr.m1 hr.a1 hL, fun wx => turn_o s t _ _ _ _ _ wx hr.m2 hr.n2 hL⟩
theorem m4_none : ∀ wx : World, Calls Try.prog 90 #[.string ⟨#[77, 52]⟩] wx fun e w' => e = .returned (.tuple #[.agg #[.float .f64 0, .float .f64 0, .float .f64 0], .bool false]) ∧ Below wx.heap.size wx w' :=
  (find_none ⟨#[77, 52]⟩ (by rw [bl2]; decide) (by rw [bl2]; decide) (by rw [bl2]; decide) (by rw [bl2]; decide) (by rw [bl2]; decide) (by rw [bl2]; decide) (by rw [bl2]; decide) (by rw [bl2]; decide) (by rw [bl2]; decide) (by rw [bl2]; decide)).1
theorem awake12 (w : World) : Calls Try.prog 48 #[] w fun e w' => e = .returned (.bool true) ∧ Below w.heap.size w w' := by
  have hr := rowOk1 (nRe_abs 5) (nIm_abs 5)
  obtain ⟨s1, _⟩ := row_calls ⟨#[83, 50]⟩ 1 5 (by omega) (by omega) hr find_S2.1
  obtain ⟨_, s2⟩ := row_calls ⟨#[80, 49]⟩ 1 5 (by omega) (by omega) hr find_P1.1
  have hN := hide_ (fun wx => node_ok 5 wx (by omega) (by omega))
  have s3 := fun wx => factor_e ⟨#[77, 52]⟩ 5 6 wx (by decide) (hide_ (fun wy => look_m ⟨#[77, 52]⟩ 5 _ _ _ _ _ wy hN (hide_ m4_none)))
  have hst := still1 (nRe_abs 5)
  rw [tn1 (nIm_abs 5)] at s2
  have hv : turnV 0 3600000 = #[.int .i64 0, .int .i64 1] := by kernel_rfl
  rw [hv] at s2
  generalize facR 1 (nRe 5) = f at *
  have H1 := hide_ s1
  have H2 := hide_ s2
  have H3 := hide_ s3
  have HS := hide_ (fun wx => same_turn 0 1 wx)
  clear s1 s2 s3 hr hN hv
  unfold ONE at hst
  go_enter Try.func48, Try.ntmps48
  go_wp2_with (first
    | (go_at_call 49; (with_reducible refine (H1.out _).mono ?_); rintro e w1 ⟨rfl, hb1⟩)
    | (go_at_call 50; (with_reducible refine (H2.out _).mono ?_); rintro e w2 ⟨rfl, hb2⟩)
    | (go_at_call 49; (with_reducible refine (H3.out _).mono ?_); rintro e w3 ⟨rfl, hb3⟩; obtain ⟨c0, c1⟩ := cells_two (blk_below hb3))
    | (go_at_call 52; (with_reducible refine (HS.out _).mono ?_); rintro e w4 ⟨rfl, hb4⟩)
    | ((with_reducible apply wpList_store_new); (with_reducible rfl); (with_reducible rfl); rfl; rfl; kernel_rfl; rfl; kernel_rfl))
  go_ret
  have hg := (Grew.of hb1).step hb2
  exact ⟨rfl, by exact Grew.below (by repeat (first | exact Grew.refl _ | assumption | refine Grew.alloc ?_ _ | refine Grew.drewN ?_ _ | refine Grew.drew ?_ | refine Grew.setRow ?_ (by first | assumption | (simp; done) | (simp; omega) | omega) _ | refine Grew.setCell ?_ (by first | assumption | (simp; done) | (simp; omega) | omega) _ | refine Grew.step ?_ (by assumption)))⟩
end Go.Proofs.Ytklhdpkofpkmjaa
