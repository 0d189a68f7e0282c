/- The contract of the reference's Root (chapter 8): a turn's number, the same as the program's. -/
import Derived.Test.YtklhdpkofpkmjaaRo2
namespace Go.Proofs.Ytklhdpkofpkmjaa
open Go.RowKit Ieee
set_option linter.unusedVariables false
set_option maxRecDepth 100000
set_option maxHeartbeats 1600000
theorem rsin_ok (y q : Nat) (hs : Steps sinO 6 q) (yq ys sn : Nat) (h2 : double.mul y q = some yq) (h3 : double.mul yq (hat sinO q 6) = some ys) (h4 : double.add y ys = some sn) (w : World) : Calls Try.prog 124 #[.float .f64 y, .float .f64 q] w fun e w' => e = .returned (.float .f64 sn) ∧ Below w.heap.size w w' := by
  have g2 := fun wx => run_float_arith (P := Try.prog) wx .mul 46 .f64 _ _ _ h2
  have g3 := fun wx => run_float_arith (P := Try.prog) wx .mul 46 .f64 _ _ _ h3
  have g4 := fun wx => run_float_arith (P := Try.prog) wx .add 46 .f64 _ _ _ h4
  clear h2 h3 h4
  have m0 := fun wx => run_float_arith (P := Try.prog) wx .mul 46 .f64 _ _ _ (hs 0 (by omega)).1
  have a0 := fun wx => run_float_arith (P := Try.prog) wx .add 46 .f64 _ _ _ (show double.add (fm (hat sinO q 0) q) 4460272573143870729 = some (hat sinO q 1) from (hs 0 (by omega)).2)
  have ov1 : OverOk 4753323511810883584 4460272573143870729 := sin_over 1 (by omega)
  have m1 := fun wx => run_float_arith (P := Try.prog) wx .mul 46 .f64 _ _ _ (hs 1 (by omega)).1
  have a1 := fun wx => run_float_arith (P := Try.prog) wx .add 46 .f64 _ _ _ (show double.add (fm (hat sinO q 1) q) 13716528800881525988 = some (hat sinO q 2) from (hs 1 (by omega)).2)
  have ov2 : OverOk 13943998388916715520 13716528800881525988 := sin_over 2 (by omega)
  have m2 := fun wx => run_float_arith (P := Try.prog) wx .mul 46 .f64 _ _ _ (hs 2 (by omega)).1
  have a2 := fun wx => run_float_arith (P := Try.prog) wx .add 46 .f64 _ _ _ (show double.add (fm (hat sinO q 2) q) 4523617214285662004 = some (hat sinO q 3) from (hs 2 (by omega)).2)
  have ov3 : OverOk 4689977843394805760 4523617214285662004 := sin_over 3 (by omega)
  have m3 := fun wx => run_float_arith (P := Try.prog) wx .mul 46 .f64 _ _ _ (hs 3 (by omega)).1
  have a3 := fun wx => run_float_arith (P := Try.prog) wx .add 46 .f64 _ _ _ (show double.add (fm (hat sinO q 3) q) 13774824197408792602 = some (hat sinO q 4) from (hs 3 (by omega)).2)
  have ov4 : OverOk 13885635590159859712 13774824197408792602 := sin_over 4 (by omega)
  have m4 := fun wx => run_float_arith (P := Try.prog) wx .mul 46 .f64 _ _ _ (hs 4 (by omega)).1
  have a4 := fun wx => run_float_arith (P := Try.prog) wx .add 46 .f64 _ _ _ (show double.add (fm (hat sinO q 4) q) 4575957461383581969 = some (hat sinO q 5) from (hs 4 (by omega)).2)
  have ov5 : OverOk 4638144666238189568 4575957461383581969 := sin_over 5 (by omega)
  have m5 := fun wx => run_float_arith (P := Try.prog) wx .mul 46 .f64 _ _ _ (hs 5 (by omega)).1
  have a5 := fun wx => run_float_arith (P := Try.prog) wx .add 46 .f64 _ _ _ (show double.add (fm (hat sinO q 5) q) 13818544856648471893 = some (hat sinO q 6) from (hs 5 (by omega)).2)
  have ov6 : OverOk 13841813454723219456 13818544856648471893 := sin_over 6 (by omega)
  clear hs
  have ov0 : OverOk 14011551075333570560 13648976655441704991 := sin_over 0 (by omega)
  have HO := hide_ (And.intro ov0 (And.intro ov1 (And.intro ov2 (And.intro ov3 (And.intro ov4 (And.intro ov5 (And.intro ov6 trivial)))))))
  clear ov0 ov1 ov2 ov3 ov4 ov5 ov6
  go_enter Try.func124, Try.ntmps124
  go_wp2_with (first
    | (go_at_call 133; (with_reducible refine (table133 _).mono ?_); rintro e w1 ⟨rfl, hb1⟩; have hcs := fun j => cell_of_row (w1.alloc (.cells #[.float .f64 13841813454723219456, .float .f64 4638144666238189568, .float .f64 13885635590159859712, .float .f64 4689977843394805760, .float .f64 13943998388916715520, .float .f64 4753323511810883584, .float .f64 14011551075333570560] 141)) w1.heap.size j _ _ _ (heap_alloc_last _ _))
    | (go_at_call 134; (with_reducible refine (over134 _ _ _ HO.out.1).mono ?_); rintro e w2 ⟨rfl, rfl⟩)
    | ((with_reducible apply wpList_store_new); (with_reducible rfl); (with_reducible rfl); rfl; rfl; kernel_rfl; rfl; kernel_rfl))
  have hg1 := ((Grew.refl w).step hb1).alloc (.cells #[.float .f64 13841813454723219456, .float .f64 4638144666238189568, .float .f64 13885635590159859712, .float .f64 4689977843394805760, .float .f64 13943998388916715520, .float .f64 4753323511810883584, .float .f64 14011551075333570560] 141)
  have c0 : (w1.alloc (.cells #[.float .f64 13841813454723219456, .float .f64 4638144666238189568, .float .f64 13885635590159859712, .float .f64 4689977843394805760, .float .f64 13943998388916715520, .float .f64 4753323511810883584, .float .f64 14011551075333570560] 141)).cell? ⟨w1.heap.size, 0, none⟩ = some (.float .f64 13841813454723219456) := hcs 0
  have c1 : (w1.alloc (.cells #[.float .f64 13841813454723219456, .float .f64 4638144666238189568, .float .f64 13885635590159859712, .float .f64 4689977843394805760, .float .f64 13943998388916715520, .float .f64 4753323511810883584, .float .f64 14011551075333570560] 141)).cell? ⟨w1.heap.size, 1, none⟩ = some (.float .f64 4638144666238189568) := hcs 1
  have c2 : (w1.alloc (.cells #[.float .f64 13841813454723219456, .float .f64 4638144666238189568, .float .f64 13885635590159859712, .float .f64 4689977843394805760, .float .f64 13943998388916715520, .float .f64 4753323511810883584, .float .f64 14011551075333570560] 141)).cell? ⟨w1.heap.size, 2, none⟩ = some (.float .f64 13885635590159859712) := hcs 2
  have c3 : (w1.alloc (.cells #[.float .f64 13841813454723219456, .float .f64 4638144666238189568, .float .f64 13885635590159859712, .float .f64 4689977843394805760, .float .f64 13943998388916715520, .float .f64 4753323511810883584, .float .f64 14011551075333570560] 141)).cell? ⟨w1.heap.size, 3, none⟩ = some (.float .f64 4689977843394805760) := hcs 3
  have c4 : (w1.alloc (.cells #[.float .f64 13841813454723219456, .float .f64 4638144666238189568, .float .f64 13885635590159859712, .float .f64 4689977843394805760, .float .f64 13943998388916715520, .float .f64 4753323511810883584, .float .f64 14011551075333570560] 141)).cell? ⟨w1.heap.size, 4, none⟩ = some (.float .f64 13943998388916715520) := hcs 4
  have c5 : (w1.alloc (.cells #[.float .f64 13841813454723219456, .float .f64 4638144666238189568, .float .f64 13885635590159859712, .float .f64 4689977843394805760, .float .f64 13943998388916715520, .float .f64 4753323511810883584, .float .f64 14011551075333570560] 141)).cell? ⟨w1.heap.size, 5, none⟩ = some (.float .f64 4753323511810883584) := hcs 5
  clear hcs hb1
  go_loop [6, 7] (fun h i => (h = .float .f64 (hat sinO q 0) ∧ i = .int .i64 5) ∨ (h = .float .f64 (hat sinO q 1) ∧ i = .int .i64 4) ∨ (h = .float .f64 (hat sinO q 2) ∧ i = .int .i64 3) ∨ (h = .float .f64 (hat sinO q 3) ∧ i = .int .i64 2) ∨ (h = .float .f64 (hat sinO q 4) ∧ i = .int .i64 1) ∨ (h = .float .f64 (hat sinO q 5) ∧ i = .int .i64 0) ∨ (h = .float .f64 (hat sinO q 6) ∧ i = .int .i64 (-1))) (fun _ i => (intOf i + 1).toNat)
  case atStart => exact .inl ⟨rfl, rfl⟩
  case round =>
    rcases hrel with ⟨rfl, rfl⟩ | ⟨rfl, rfl⟩ | ⟨rfl, rfl⟩ | ⟨rfl, rfl⟩ | ⟨rfl, rfl⟩ | ⟨rfl, rfl⟩ | ⟨rfl, rfl⟩
    · go_wp2_with (go_at_call 134; (with_reducible refine (over134 _ _ _ HO.out.2.1).mono ?_); rintro e w2 ⟨rfl, rfl⟩)
      go_round
      case rel => exact .inr (.inl ⟨rfl, rfl⟩)
      case measure => simp [intOf]
    · go_wp2_with (go_at_call 134; (with_reducible refine (over134 _ _ _ HO.out.2.2.1).mono ?_); rintro e w2 ⟨rfl, rfl⟩)
      go_round
      case rel => exact .inr (.inr (.inl ⟨rfl, rfl⟩))
      case measure => simp [intOf]
    · go_wp2_with (go_at_call 134; (with_reducible refine (over134 _ _ _ HO.out.2.2.2.1).mono ?_); rintro e w2 ⟨rfl, rfl⟩)
      go_round
      case rel => exact .inr (.inr (.inr (.inl ⟨rfl, rfl⟩)))
      case measure => simp [intOf]
    · go_wp2_with (go_at_call 134; (with_reducible refine (over134 _ _ _ HO.out.2.2.2.2.1).mono ?_); rintro e w2 ⟨rfl, rfl⟩)
      go_round
      case rel => exact .inr (.inr (.inr (.inr (.inl ⟨rfl, rfl⟩))))
      case measure => simp [intOf]
    · go_wp2_with (go_at_call 134; (with_reducible refine (over134 _ _ _ HO.out.2.2.2.2.2.1).mono ?_); rintro e w2 ⟨rfl, rfl⟩)
      go_round
      case rel => exact .inr (.inr (.inr (.inr (.inr (.inl ⟨rfl, rfl⟩)))))
      case measure => simp [intOf]
    · go_wp2_with (go_at_call 134; (with_reducible refine (over134 _ _ _ HO.out.2.2.2.2.2.2.1).mono ?_); rintro e w2 ⟨rfl, rfl⟩)
      go_round
      case rel => exact .inr (.inr (.inr (.inr (.inr (.inr (⟨rfl, rfl⟩))))))
      case measure => simp [intOf]
    · go_wp2
      go_ret
      exact ⟨rfl, by exact Grew.below (by repeat (first | exact Grew.refl _ | assumption | refine Grew.alloc ?_ _ | refine Grew.drewN ?_ _ | refine Grew.drew ?_ | refine Grew.setRow ?_ (by first | assumption | (simp; done) | (simp; omega) | omega) _ | refine Grew.setCell ?_ (by first | assumption | (simp; done) | (simp; omega) | omega) _ | refine Grew.step ?_ (by assumption)))⟩
theorem rcos_ok (q : Nat) (hs : Steps cosO 7 q) (qc cn : Nat) (h2 : double.mul q (hat cosO q 7) = some qc) (h3 : double.add ONE qc = some cn) (w : World) : Calls Try.prog 125 #[.float .f64 q] w fun e w' => e = .returned (.float .f64 cn) ∧ Below w.heap.size w w' := by
  have g2 := fun wx => run_float_arith (P := Try.prog) wx .mul 46 .f64 _ _ _ h2
  have g3 := fun wx => run_float_arith (P := Try.prog) wx .add 46 .f64 _ _ _ h3
  unfold ONE at g3
  clear h2 h3
  have m0 := fun wx => run_float_arith (P := Try.prog) wx .mul 46 .f64 _ _ _ (hs 0 (by omega)).1
  have a0 := fun wx => run_float_arith (P := Try.prog) wx .add 46 .f64 _ _ _ (show double.add (fm (hat cosO q 0) q) 13666517717442657437 = some (hat cosO q 1) from (hs 0 (by omega)).2)
  have ov1 : OverOk 13993893759104843776 13666517717442657437 := cos_over 1 (by omega)
  have m1 := fun wx => run_float_arith (P := Try.prog) wx .mul 46 .f64 _ _ _ (hs 1 (by omega)).1
  have a1 := fun wx => run_float_arith (P := Try.prog) wx .add 46 .f64 _ _ _ (show double.add (fm (hat cosO q 1) q) 4477122120089393304 = some (hat cosO q 2) from (hs 1 (by omega)).2)
  have ov2 : OverOk 4736815922046566400 4477122120089393304 := cos_over 2 (by omega)
  have m2 := fun wx => run_float_arith (P := Try.prog) wx .mul 46 .f64 _ _ _ (hs 2 (by omega)).1
  have a2 := fun wx => run_float_arith (P := Try.prog) wx .add 46 .f64 _ _ _ (show double.add (fm (hat cosO q 2) q) 13732177094651715420 = some (hat cosO q 3) from (hs 2 (by omega)).2)
  have ov3 : OverOk 13928419236864065536 13732177094651715420 := cos_over 3 (by omega)
  have m3 := fun wx => run_float_arith (P := Try.prog) wx .mul 46 .f64 _ _ _ (hs 3 (by omega)).1
  have a3 := fun wx => run_float_arith (P := Try.prog) wx .add 46 .f64 _ _ _ (show double.add (fm (hat cosO q 3) q) 4537941361671905306 = some (hat cosO q 4) from (hs 3 (by omega)).2)
  have ov4 : OverOk 4675774352187195392 4537941361671905306 := cos_over 4 (by omega)
  have m4 := fun wx => run_float_arith (P := Try.prog) wx .mul 46 .f64 _ _ _ (hs 4 (by omega)).1
  have a4 := fun wx => run_float_arith (P := Try.prog) wx .add 46 .f64 _ _ _ (show double.add (fm (hat cosO q 4) q) 13787419979223755799 = some (hat cosO q 5) from (hs 4 (by omega)).2)
  have ov5 : OverOk 13872916439649746944 13787419979223755799 := cos_over 5 (by omega)
  have m5 := fun wx => run_float_arith (P := Try.prog) wx .mul 46 .f64 _ _ _ (hs 5 (by omega)).1
  have a5 := fun wx => run_float_arith (P := Try.prog) wx .add 46 .f64 _ _ _ (show double.add (fm (hat cosO q 5) q) 4586165620538955093 = some (hat cosO q 6) from (hs 5 (by omega)).2)
  have ov6 : OverOk 4627448617123184640 4586165620538955093 := cos_over 6 (by omega)
  have m6 := fun wx => run_float_arith (P := Try.prog) wx .mul 46 .f64 _ _ _ (hs 6 (by omega)).1
  have a6 := fun wx => run_float_arith (P := Try.prog) wx .add 46 .f64 _ _ _ (show double.add (fm (hat cosO q 6) q) 13826050856027422720 = some (hat cosO q 7) from (hs 6 (by omega)).2)
  have ov7 : OverOk 13835058055282163712 13826050856027422720 := cos_over 7 (by omega)
  clear hs
  have ov0 : OverOk 4806193436988276736 4407590220077447199 := cos_over 0 (by omega)
  have HO := hide_ (And.intro ov0 (And.intro ov1 (And.intro ov2 (And.intro ov3 (And.intro ov4 (And.intro ov5 (And.intro ov6 (And.intro ov7 trivial))))))))
  clear ov0 ov1 ov2 ov3 ov4 ov5 ov6 ov7
  go_enter Try.func125, Try.ntmps125
  go_wp2_with (first
    | (go_at_call 135; (with_reducible refine (table135 _).mono ?_); rintro e w1 ⟨rfl, hb1⟩; have hcs := fun j => cell_of_row (w1.alloc (.cells #[.float .f64 13835058055282163712, .float .f64 4627448617123184640, .float .f64 13872916439649746944, .float .f64 4675774352187195392, .float .f64 13928419236864065536, .float .f64 4736815922046566400, .float .f64 13993893759104843776, .float .f64 4806193436988276736] 143)) w1.heap.size j _ _ _ (heap_alloc_last _ _))
    | (go_at_call 134; (with_reducible refine (over134 _ _ _ HO.out.1).mono ?_); rintro e w2 ⟨rfl, rfl⟩)
    | ((with_reducible apply wpList_store_new); (with_reducible rfl); (with_reducible rfl); rfl; rfl; kernel_rfl; rfl; kernel_rfl))
  have hg1 := ((Grew.refl w).step hb1).alloc (.cells #[.float .f64 13835058055282163712, .float .f64 4627448617123184640, .float .f64 13872916439649746944, .float .f64 4675774352187195392, .float .f64 13928419236864065536, .float .f64 4736815922046566400, .float .f64 13993893759104843776, .float .f64 4806193436988276736] 143)
  have c0 : (w1.alloc (.cells #[.float .f64 13835058055282163712, .float .f64 4627448617123184640, .float .f64 13872916439649746944, .float .f64 4675774352187195392, .float .f64 13928419236864065536, .float .f64 4736815922046566400, .float .f64 13993893759104843776, .float .f64 4806193436988276736] 143)).cell? ⟨w1.heap.size, 0, none⟩ = some (.float .f64 13835058055282163712) := hcs 0
  have c1 : (w1.alloc (.cells #[.float .f64 13835058055282163712, .float .f64 4627448617123184640, .float .f64 13872916439649746944, .float .f64 4675774352187195392, .float .f64 13928419236864065536, .float .f64 4736815922046566400, .float .f64 13993893759104843776, .float .f64 4806193436988276736] 143)).cell? ⟨w1.heap.size, 1, none⟩ = some (.float .f64 4627448617123184640) := hcs 1
  have c2 : (w1.alloc (.cells #[.float .f64 13835058055282163712, .float .f64 4627448617123184640, .float .f64 13872916439649746944, .float .f64 4675774352187195392, .float .f64 13928419236864065536, .float .f64 4736815922046566400, .float .f64 13993893759104843776, .float .f64 4806193436988276736] 143)).cell? ⟨w1.heap.size, 2, none⟩ = some (.float .f64 13872916439649746944) := hcs 2
  have c3 : (w1.alloc (.cells #[.float .f64 13835058055282163712, .float .f64 4627448617123184640, .float .f64 13872916439649746944, .float .f64 4675774352187195392, .float .f64 13928419236864065536, .float .f64 4736815922046566400, .float .f64 13993893759104843776, .float .f64 4806193436988276736] 143)).cell? ⟨w1.heap.size, 3, none⟩ = some (.float .f64 4675774352187195392) := hcs 3
  have c4 : (w1.alloc (.cells #[.float .f64 13835058055282163712, .float .f64 4627448617123184640, .float .f64 13872916439649746944, .float .f64 4675774352187195392, .float .f64 13928419236864065536, .float .f64 4736815922046566400, .float .f64 13993893759104843776, .float .f64 4806193436988276736] 143)).cell? ⟨w1.heap.size, 4, none⟩ = some (.float .f64 13928419236864065536) := hcs 4
  have c5 : (w1.alloc (.cells #[.float .f64 13835058055282163712, .float .f64 4627448617123184640, .float .f64 13872916439649746944, .float .f64 4675774352187195392, .float .f64 13928419236864065536, .float .f64 4736815922046566400, .float .f64 13993893759104843776, .float .f64 4806193436988276736] 143)).cell? ⟨w1.heap.size, 5, none⟩ = some (.float .f64 4736815922046566400) := hcs 5
  have c6 : (w1.alloc (.cells #[.float .f64 13835058055282163712, .float .f64 4627448617123184640, .float .f64 13872916439649746944, .float .f64 4675774352187195392, .float .f64 13928419236864065536, .float .f64 4736815922046566400, .float .f64 13993893759104843776, .float .f64 4806193436988276736] 143)).cell? ⟨w1.heap.size, 6, none⟩ = some (.float .f64 13993893759104843776) := hcs 6
  clear hcs hb1
  go_loop [4, 5] (fun h i => (h = .float .f64 (hat cosO q 0) ∧ i = .int .i64 6) ∨ (h = .float .f64 (hat cosO q 1) ∧ i = .int .i64 5) ∨ (h = .float .f64 (hat cosO q 2) ∧ i = .int .i64 4) ∨ (h = .float .f64 (hat cosO q 3) ∧ i = .int .i64 3) ∨ (h = .float .f64 (hat cosO q 4) ∧ i = .int .i64 2) ∨ (h = .float .f64 (hat cosO q 5) ∧ i = .int .i64 1) ∨ (h = .float .f64 (hat cosO q 6) ∧ i = .int .i64 0) ∨ (h = .float .f64 (hat cosO q 7) ∧ i = .int .i64 (-1))) (fun _ i => (intOf i + 1).toNat)
  case atStart => exact .inl ⟨rfl, rfl⟩
  case round =>
    rcases hrel with ⟨rfl, rfl⟩ | ⟨rfl, rfl⟩ | ⟨rfl, rfl⟩ | ⟨rfl, rfl⟩ | ⟨rfl, rfl⟩ | ⟨rfl, rfl⟩ | ⟨rfl, rfl⟩ | ⟨rfl, rfl⟩
    · go_wp2_with (go_at_call 134; (with_reducible refine (over134 _ _ _ HO.out.2.1).mono ?_); rintro e w2 ⟨rfl, rfl⟩)
      go_round
      case rel => exact .inr (.inl ⟨rfl, rfl⟩)
      case measure => simp [intOf]
    · go_wp2_with (go_at_call 134; (with_reducible refine (over134 _ _ _ HO.out.2.2.1).mono ?_); rintro e w2 ⟨rfl, rfl⟩)
      go_round
      case rel => exact .inr (.inr (.inl ⟨rfl, rfl⟩))
      case measure => simp [intOf]
    · go_wp2_with (go_at_call 134; (with_reducible refine (over134 _ _ _ HO.out.2.2.2.1).mono ?_); rintro e w2 ⟨rfl, rfl⟩)
      go_round
      case rel => exact .inr (.inr (.inr (.inl ⟨rfl, rfl⟩)))
      case measure => simp [intOf]
    · go_wp2_with (go_at_call 134; (with_reducible refine (over134 _ _ _ HO.out.2.2.2.2.1).mono ?_); rintro e w2 ⟨rfl, rfl⟩)
      go_round
      case rel => exact .inr (.inr (.inr (.inr (.inl ⟨rfl, rfl⟩))))
      case measure => simp [intOf]
    · go_wp2_with (go_at_call 134; (with_reducible refine (over134 _ _ _ HO.out.2.2.2.2.2.1).mono ?_); rintro e w2 ⟨rfl, rfl⟩)
      go_round
      case rel => exact .inr (.inr (.inr (.inr (.inr (.inl ⟨rfl, rfl⟩)))))
      case measure => simp [intOf]
    · go_wp2_with (go_at_call 134; (with_reducible refine (over134 _ _ _ HO.out.2.2.2.2.2.2.1).mono ?_); rintro e w2 ⟨rfl, rfl⟩)
      go_round
      case rel => exact .inr (.inr (.inr (.inr (.inr (.inr (.inl ⟨rfl, rfl⟩))))))
      case measure => simp [intOf]
    · go_wp2_with (go_at_call 134; (with_reducible refine (over134 _ _ _ HO.out.2.2.2.2.2.2.2.1).mono ?_); rintro e w2 ⟨rfl, rfl⟩)
      go_round
      case rel => exact .inr (.inr (.inr (.inr (.inr (.inr (.inr (⟨rfl, rfl⟩)))))))
      case measure => simp [intOf]
    · go_wp2
      go_ret
      exact ⟨rfl, by exact Grew.below (by repeat (first | exact Grew.refl _ | assumption | refine Grew.alloc ?_ _ | refine Grew.drewN ?_ _ | refine Grew.drew ?_ | refine Grew.setRow ?_ (by first | assumption | (simp; done) | (simp; omega) | omega) _ | refine Grew.setCell ?_ (by first | assumption | (simp; done) | (simp; omega) | omega) _ | refine Grew.step ?_ (by assumption)))⟩
end Go.Proofs.Ytklhdpkofpkmjaa
