/- Contracts of package turn and of the reference's chapter 8: a turn's number: tables, 1 over, series. -/
import Derived.Test.YtklhdpkofpkmjaaFl5
import Derived.Test.YtklhdpkofpkmjaaR8d
namespace Go.Proofs.Ytklhdpkofpkmjaa
open Go.RowKit Ieee
set_option linter.unusedVariables false
set_option maxRecDepth 100000
def sinC : Nat → Nat
  | 0 => 14011551075333570560
  | 1 => 4753323511810883584
  | 2 => 13943998388916715520
  | 3 => 4689977843394805760
  | 4 => 13885635590159859712
  | 5 => 4638144666238189568
  | _ => 13841813454723219456
def cosC : Nat → Nat
  | 0 => 4806193436988276736
  | 1 => 13993893759104843776
  | 2 => 4736815922046566400
  | 3 => 13928419236864065536
  | 4 => 4675774352187195392
  | 5 => 13872916439649746944
  | 6 => 4627448617123184640
  | _ => 13835058055282163712
theorem run_negF (x : Nat) (w : World) : (Op.unary UnOp.neg (Value.float .f64 x)).run Try.prog w = .ok (.float .f64 (Op.negFloat .f64 x)) w := rfl
/-- What 1, or -1, over a constant's size is. -/
def OverOk (x r : Nat) : Prop := (double.order x 0 = some .lt ∧ double.div 13830554455654793216 (Op.negFloat .f64 x) = some r) ∨ ((double.order x 0 == some .lt) = false ∧ double.div 4607182418800017408 x = some r)
theorem sin_over (j : Nat) (h : j < 7) : OverOk (sinC j) (sinO j) := by
  rcases (show j = 0 ∨ j = 1 ∨ j = 2 ∨ j = 3 ∨ j = 4 ∨ j = 5 ∨ j = 6 by omega) with rfl | rfl | rfl | rfl | rfl | rfl | rfl
  · exact .inl ⟨by decide +kernel, by decide +kernel⟩
  · exact .inr ⟨by decide +kernel, by decide +kernel⟩
  · exact .inl ⟨by decide +kernel, by decide +kernel⟩
  · exact .inr ⟨by decide +kernel, by decide +kernel⟩
  · exact .inl ⟨by decide +kernel, by decide +kernel⟩
  · exact .inr ⟨by decide +kernel, by decide +kernel⟩
  · exact .inl ⟨by decide +kernel, by decide +kernel⟩
theorem cos_over (j : Nat) (h : j < 8) : OverOk (cosC j) (cosO j) := by
  rcases (show j = 0 ∨ j = 1 ∨ j = 2 ∨ j = 3 ∨ j = 4 ∨ j = 5 ∨ j = 6 ∨ j = 7 by omega) with rfl | rfl | rfl | rfl | rfl | rfl | rfl | rfl
  · exact .inr ⟨by decide +kernel, by decide +kernel⟩
  · exact .inl ⟨by decide +kernel, by decide +kernel⟩
  · exact .inr ⟨by decide +kernel, by decide +kernel⟩
  · exact .inl ⟨by decide +kernel, by decide +kernel⟩
  · exact .inr ⟨by decide +kernel, by decide +kernel⟩
  · exact .inl ⟨by decide +kernel, by decide +kernel⟩
  · exact .inr ⟨by decide +kernel, by decide +kernel⟩
  · exact .inl ⟨by decide +kernel, by decide +kernel⟩
theorem over131 (x r : Nat) (w : World) (h : OverOk x r) : Calls Try.prog 131 #[.float .f64 x] w fun e w' => e = .returned (.float .f64 r) ∧ w = w' := by
  rcases h with ⟨h1, h2⟩ | ⟨h1, h2⟩
  · have h1' : (FloatKind.f64.format.order x 0 == some .lt) = true := by rw [show FloatKind.f64.format.order x 0 = some .lt from h1]; rfl
    have hd := fun wx => run_float_arith (P := Try.prog) wx .quo 46 .f64 13830554455654793216 (Op.negFloat .f64 x) r h2
    have hn := run_negF x
    go_enter Try.func131, Try.ntmps131
    go_wp2
    go_ret
    exact ⟨rfl, rfl⟩
  · have h1' : (FloatKind.f64.format.order x 0 == some .lt) = false := h1
    have hd := fun wx => run_float_arith (P := Try.prog) wx .quo 46 .f64 4607182418800017408 x r h2
    go_enter Try.func131, Try.ntmps131
    go_wp2
    go_ret
    exact ⟨rfl, rfl⟩
theorem over134 (x r : Nat) (w : World) (h : OverOk x r) : Calls Try.prog 134 #[.float .f64 x] w fun e w' => e = .returned (.float .f64 r) ∧ w = w' := by
  rcases h with ⟨h1, h2⟩ | ⟨h1, h2⟩
  · have h1' : (FloatKind.f64.format.order x 0 == some .lt) = true := by rw [show FloatKind.f64.format.order x 0 = some .lt from h1]; rfl
    have hd := fun wx => run_float_arith (P := Try.prog) wx .quo 46 .f64 13830554455654793216 (Op.negFloat .f64 x) r h2
    have hn := run_negF x
    go_enter Try.func134, Try.ntmps134
    go_wp2
    go_ret
    exact ⟨rfl, rfl⟩
  · have h1' : (FloatKind.f64.format.order x 0 == some .lt) = false := h1
    have hd := fun wx => run_float_arith (P := Try.prog) wx .quo 46 .f64 4607182418800017408 x r h2
    go_enter Try.func134, Try.ntmps134
    go_wp2
    go_ret
    exact ⟨rfl, rfl⟩
theorem plus132 (x : Nat) (w : World) : Calls Try.prog 132 #[.float .f64 x] w fun e w' => e = .returned (.float .f64 (plusB x)) ∧ w = w' := by
  unfold plusB
  by_cases h : double.order x 0 = some .eq
  · have h1 : (FloatKind.f64.format.order x 0 == some .eq) = true := by rw [show FloatKind.f64.format.order x 0 = some .eq from h]; rfl
    rw [if_pos h]
    clear h
    go_enter Try.func132, Try.ntmps132
    go_wp2
    go_ret
    exact ⟨rfl, rfl⟩
  · have h1 : (FloatKind.f64.format.order x 0 == some .eq) = false := by
      cases hb : (FloatKind.f64.format.order x 0 == some .eq) with
      | false => rfl
      | true => exact absurd (show FloatKind.f64.format.order x 0 = some .eq by simpa using hb) h
    rw [if_neg h]
    clear h
    go_enter Try.func132, Try.ntmps132
    go_wp2
    go_ret
    exact ⟨rfl, rfl⟩
theorem plus126 (x : Nat) (w : World) : Calls Try.prog 126 #[.float .f64 x] w fun e w' => e = .returned (.float .f64 (plusB x)) ∧ w = w' := by
  unfold plusB
  by_cases h : double.order x 0 = some .eq
  · have h1 : (FloatKind.f64.format.order x 0 == some .eq) = true := by rw [show FloatKind.f64.format.order x 0 = some .eq from h]; rfl
    rw [if_pos h]
    clear h
    go_enter Try.func126, Try.ntmps126
    go_wp2
    go_ret
    exact ⟨rfl, rfl⟩
  · have h1 : (FloatKind.f64.format.order x 0 == some .eq) = false := by
      cases hb : (FloatKind.f64.format.order x 0 == some .eq) with
      | false => rfl
      | true => exact absurd (show FloatKind.f64.format.order x 0 = some .eq by simpa using hb) h
    rw [if_neg h]
    clear h
    go_enter Try.func126, Try.ntmps126
    go_wp2
    go_ret
    exact ⟨rfl, rfl⟩
theorem table120 (w : World) : Calls Try.prog 120 #[] w fun e w' => e = .returned (.agg #[.float .f64 14011551075333570560, .float .f64 4753323511810883584, .float .f64 13943998388916715520, .float .f64 4689977843394805760, .float .f64 13885635590159859712, .float .f64 4638144666238189568, .float .f64 13841813454723219456]) ∧ Below w.heap.size w w' := by
  go_enter Try.func120, Try.ntmps120
  go_wp2_with ((with_reducible apply wpList_store_new); (with_reducible rfl); (with_reducible rfl); rfl; rfl; kernel_rfl; rfl; kernel_rfl)
  refine ret_c rfl _ 141 _ _ rfl (heap_alloc_last _ _) Try.underlying141 rfl (by kernel_rfl) rfl ⟨rfl, ?_⟩
  exact Grew.below (by repeat (first | exact Grew.refl _ | assumption | refine Grew.alloc ?_ _ | refine Grew.drewN ?_ _ | refine Grew.drew ?_ | refine Grew.setRow ?_ (by first | assumption | (simp; done) | (simp; omega) | omega) _ | refine Grew.setCell ?_ (by first | assumption | (simp; done) | (simp; omega) | omega) _ | refine Grew.step ?_ (by assumption)))
theorem table121 (w : World) : Calls Try.prog 121 #[] w fun e w' => e = .returned (.agg #[.float .f64 4806193436988276736, .float .f64 13993893759104843776, .float .f64 4736815922046566400, .float .f64 13928419236864065536, .float .f64 4675774352187195392, .float .f64 13872916439649746944, .float .f64 4627448617123184640, .float .f64 13835058055282163712]) ∧ Below w.heap.size w w' := by
  go_enter Try.func121, Try.ntmps121
  go_wp2_with ((with_reducible apply wpList_store_new); (with_reducible rfl); (with_reducible rfl); rfl; rfl; kernel_rfl; rfl; kernel_rfl)
  refine ret_c rfl _ 143 _ _ rfl (heap_alloc_last _ _) Try.underlying143 rfl (by kernel_rfl) rfl ⟨rfl, ?_⟩
  exact Grew.below (by repeat (first | exact Grew.refl _ | assumption | refine Grew.alloc ?_ _ | refine Grew.drewN ?_ _ | refine Grew.drew ?_ | refine Grew.setRow ?_ (by first | assumption | (simp; done) | (simp; omega) | omega) _ | refine Grew.setCell ?_ (by first | assumption | (simp; done) | (simp; omega) | omega) _ | refine Grew.step ?_ (by assumption)))
theorem table133 (w : World) : Calls Try.prog 133 #[] w fun e w' => e = .returned (.agg #[.float .f64 13841813454723219456, .float .f64 4638144666238189568, .float .f64 13885635590159859712, .float .f64 4689977843394805760, .float .f64 13943998388916715520, .float .f64 4753323511810883584, .float .f64 14011551075333570560]) ∧ Below w.heap.size w w' := by
  go_enter Try.func133, Try.ntmps133
  go_wp2_with ((with_reducible apply wpList_store_new); (with_reducible rfl); (with_reducible rfl); rfl; rfl; kernel_rfl; rfl; kernel_rfl)
  refine ret_c rfl _ 141 _ _ rfl (heap_alloc_last _ _) Try.underlying141 rfl (by kernel_rfl) rfl ⟨rfl, ?_⟩
  exact Grew.below (by repeat (first | exact Grew.refl _ | assumption | refine Grew.alloc ?_ _ | refine Grew.drewN ?_ _ | refine Grew.drew ?_ | refine Grew.setRow ?_ (by first | assumption | (simp; done) | (simp; omega) | omega) _ | refine Grew.setCell ?_ (by first | assumption | (simp; done) | (simp; omega) | omega) _ | refine Grew.step ?_ (by assumption)))
theorem table135 (w : World) : Calls Try.prog 135 #[] w fun e w' => e = .returned (.agg #[.float .f64 13835058055282163712, .float .f64 4627448617123184640, .float .f64 13872916439649746944, .float .f64 4675774352187195392, .float .f64 13928419236864065536, .float .f64 4736815922046566400, .float .f64 13993893759104843776, .float .f64 4806193436988276736]) ∧ Below w.heap.size w w' := by
  go_enter Try.func135, Try.ntmps135
  go_wp2_with ((with_reducible apply wpList_store_new); (with_reducible rfl); (with_reducible rfl); rfl; rfl; kernel_rfl; rfl; kernel_rfl)
  refine ret_c rfl _ 143 _ _ rfl (heap_alloc_last _ _) Try.underlying143 rfl (by kernel_rfl) rfl ⟨rfl, ?_⟩
  exact Grew.below (by repeat (first | exact Grew.refl _ | assumption | refine Grew.alloc ?_ _ | refine Grew.drewN ?_ _ | refine Grew.drew ?_ | refine Grew.setRow ?_ (by first | assumption | (simp; done) | (simp; omega) | omega) _ | refine Grew.setCell ?_ (by first | assumption | (simp; done) | (simp; omega) | omega) _ | refine Grew.step ?_ (by assumption)))
theorem series_sin (g q : Nat) (w : World) (hc : ∀ j, j < 7 → w.cell? ⟨g, j, none⟩ = some (.float .f64 (sinC j))) (hs : Steps sinO 6 q) :
    Calls Try.prog 122 #[.slice (some ⟨g, 0, none⟩) 7 7, .float .f64 q] w fun e w' => e = .returned (.float .f64 (hat sinO q 6)) ∧ w = w' := by
  have h0 := hc 0 (by omega)
  have HC := hide_ hc
  have HS := hide_ hs
  clear hc hs
  go_enter Try.func122, Try.ntmps122
  go_wp2_with (go_at_call 131; (with_reducible refine (over131 _ _ _ (sin_over 0 (by omega))).mono ?_); rintro e w' ⟨rfl, rfl⟩)
  go_loop [5, 15] (fun h i => ∃ k : Nat, k ≤ 6 ∧ h = .float .f64 (hat sinO q k) ∧ i = .int .i64 k) (fun _ i => 6 - (intOf i).toNat)
  case atStart => exact ⟨0, by omega, rfl, rfl⟩
  case round =>
    obtain ⟨k, hk, rfl, rfl⟩ := hrel
    by_cases hlt : k < 6
    · have hck := HC.out (1 + k) (by omega)
      have hst := HS.out k hlt
      have hov := sin_over (k + 1) (by omega)
      rw [Nat.add_comm k 1] at hov
      have hmu := fun wx => run_float_arith (P := Try.prog) wx .mul 46 .f64 _ _ _ hst.1
      have had := fun wx => run_float_arith (P := Try.prog) wx .add 46 .f64 _ _ _ hst.2
      have hst := hide_ hst
      have HO := hide_ hov
      clear hov
      rw [Nat.add_comm k 1] at had
      generalize hat sinO q k = hk0 at hmu had
      go_wp2_with (go_at_call 131; (with_reducible refine (over131 _ _ _ HO.out).mono ?_); rintro e w' ⟨rfl, rfl⟩)
      go_round
      case rel => exact ⟨k + 1, by omega, by rw [Nat.add_comm k 1], by go_num⟩
      case measure => simp [intOf]; omega
    · obtain rfl : k = 6 := by omega
      go_wp2
      go_ret
      exact ⟨rfl, rfl⟩
theorem series_cos (g q : Nat) (w : World) (hc : ∀ j, j < 8 → w.cell? ⟨g, j, none⟩ = some (.float .f64 (cosC j))) (hs : Steps cosO 7 q) :
    Calls Try.prog 122 #[.slice (some ⟨g, 0, none⟩) 8 8, .float .f64 q] w fun e w' => e = .returned (.float .f64 (hat cosO q 7)) ∧ w = w' := by
  have h0 := hc 0 (by omega)
  have HC := hide_ hc
  have HS := hide_ hs
  clear hc hs
  go_enter Try.func122, Try.ntmps122
  go_wp2_with (go_at_call 131; (with_reducible refine (over131 _ _ _ (cos_over 0 (by omega))).mono ?_); rintro e w' ⟨rfl, rfl⟩)
  go_loop [5, 15] (fun h i => ∃ k : Nat, k ≤ 7 ∧ h = .float .f64 (hat cosO q k) ∧ i = .int .i64 k) (fun _ i => 7 - (intOf i).toNat)
  case atStart => exact ⟨0, by omega, rfl, rfl⟩
  case round =>
    obtain ⟨k, hk, rfl, rfl⟩ := hrel
    by_cases hlt : k < 7
    · have hck := HC.out (1 + k) (by omega)
      have hst := HS.out k hlt
      have hov := cos_over (k + 1) (by omega)
      rw [Nat.add_comm k 1] at hov
      have hmu := fun wx => run_float_arith (P := Try.prog) wx .mul 46 .f64 _ _ _ hst.1
      have had := fun wx => run_float_arith (P := Try.prog) wx .add 46 .f64 _ _ _ hst.2
      have hst := hide_ hst
      have HO := hide_ hov
      clear hov
      rw [Nat.add_comm k 1] at had
      generalize hat cosO q k = hk0 at hmu had
      go_wp2_with (go_at_call 131; (with_reducible refine (over131 _ _ _ HO.out).mono ?_); rintro e w' ⟨rfl, rfl⟩)
      go_round
      case rel => exact ⟨k + 1, by omega, by rw [Nat.add_comm k 1], by go_num⟩
      case measure => simp [intOf]; omega
    · obtain rfl : k = 7 := by omega
      go_wp2
      go_ret
      exact ⟨rfl, rfl⟩
end Go.Proofs.Ytklhdpkofpkmjaa
