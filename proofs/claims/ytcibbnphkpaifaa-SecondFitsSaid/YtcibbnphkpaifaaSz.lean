/- The chapter's example, told. -/
import Derived.Test.YtcibbnphkpaifaaSy
namespace Go.Proofs.Ytcibbnphkpaifaa
open Go.RowKit
set_option linter.unusedVariables false
set_option maxRecDepth 100000
def frOf (x : Rat) : Fr := ⟨rneg x, rn x, rd x⟩
theorem frOf_h (x : Rat) : (frOf x).h = x := ratG_rat x
theorem frOf_chk {x : Rat} (h : Fits x) : (frOf x).chk = 0 := chkR_rat h
theorem RO.fr {w : World} {base : Nat} {s : Bool} {p q : Option Addr} {n c m d : Nat} {x : Rat} (h : RO w base (.agg #[.bool s, .slice p n c, .slice q m d]) x) (hf : Fits x) : (s = rneg x ∧ n = (rn x).length ∧ m = (rd x).length) ∧ FrV w (frOf x) p c q d := by
  have h1 := RO.shape h
  refine ⟨h1, ?_⟩
  obtain ⟨rfl, rfl, rfl⟩ := h1
  exact (h.rv hf).rg
def exD : Df := ⟨1, -1, frOf 2, frOf 0, frOf 1, frOf (1 / 2)⟩
theorem fits_one : Fits 1 := fits_of _ 1 1 (by decide +kernel) (by decide) (by decide) (by decide)
theorem fits_half : Fits (1 / 2) := fits_of _ 1 2 (by decide +kernel) (by decide) (by decide) (by decide)
theorem exD_chk : exD.chk = 0 := by
  unfold Df.chk checkD
  rw [if_neg (by decide)]
  unfold exD
  simp only [firstE, frOf_chk fits_two, frOf_chk fits_zero, frOf_chk fits_one, frOf_chk fits_half, if_true]
theorem tW_wt (d : Df) (a : Qw) : tW d (toWt a) = (a.1 + d.k a.2.2.1, a.2.1 + d.k a.2.2.1, a.2.2.1, d.f a.2.2.1 * a.2.2.2 + d.z a.2.2.1) := by
  unfold tW
  rw [toWt_h]
  rfl
theorem tE_wt (d : Df) (a : Qw) (h1 : ¬ (a.1 + d.k a.2.2.1 < 0 ∨ 1048576 < a.2.1 + d.k a.2.2.1)) (h2 : Fits (d.f a.2.2.1 * a.2.2.2)) (h3 : Fits (d.f a.2.2.1 * a.2.2.2 + d.z a.2.2.1)) : tE d (toWt a) = 0 := by
  unfold tE
  rw [toWt_h]
  unfold toldE
  exact (if_neg h1).trans (if_pos ⟨h2, h3⟩)
theorem exD_k : exD.k true = 1 ∧ exD.k false = -1 := ⟨rfl, rfl⟩
theorem exD_f : exD.f true = 2 ∧ exD.f false = 1 := ⟨frOf_h 2, frOf_h 1⟩
theorem exD_z : exD.z true = 0 ∧ exD.z false = 1 / 2 := ⟨frOf_h 0, frOf_h (1 / 2)⟩
def exT : List Qw := [(1, 1, false, 1 / 2), (7, 8, true, 8), (11, 11, false, 3 / 2)]
theorem ex_tW : exL.map (tW exD) = exT := by
  unfold exL exT
  simp only [List.map_cons, List.map_nil, tW_wt, exD_k.1, exD_k.2, exD_f.1, exD_f.2, exD_z.1, exD_z.2]
  have e1 : (1 : Rat) * 0 + 1 / 2 = 1 / 2 := by decide +kernel
  have e2 : (2 : Rat) * 4 + 0 = 8 := by decide +kernel
  have e3 : (1 : Rat) * 1 + 1 / 2 = 3 / 2 := by decide +kernel
  rw [e1, e2, e3]
  rfl
theorem ex_applyE : applyE exD 0 exL = (0, 0) := by
  have h1 : tE exD (toWt (2, 2, false, 0)) = 0 := by
    refine tE_wt _ _ (by show ¬ ((2 : Int) + -1 < 0 ∨ (1048576 : Int) < 2 + -1); omega) ?_ ?_
    · show Fits (exD.f false * 0); rw [exD_f.2]; exact fits_of _ 0 1 (by decide +kernel) (by decide) (by decide) (by decide)
    · show Fits (exD.f false * 0 + exD.z false); rw [exD_f.2, exD_z.2]; exact fits_of _ 1 2 (by decide +kernel) (by decide) (by decide) (by decide)
  have h2 : tE exD (toWt (6, 7, true, 4)) = 0 := by
    refine tE_wt _ _ (by show ¬ ((6 : Int) + 1 < 0 ∨ (1048576 : Int) < 7 + 1); omega) ?_ ?_
    · show Fits (exD.f true * 4); rw [exD_f.1]; exact fits_of _ 8 1 (by decide +kernel) (by decide) (by decide) (by decide)
    · show Fits (exD.f true * 4 + exD.z true); rw [exD_f.1, exD_z.1]; exact fits_of _ 8 1 (by decide +kernel) (by decide) (by decide) (by decide)
  have h3 : tE exD (toWt (12, 12, false, 1)) = 0 := by
    refine tE_wt _ _ (by show ¬ ((12 : Int) + -1 < 0 ∨ (1048576 : Int) < 12 + -1); omega) ?_ ?_
    · show Fits (exD.f false * 1); rw [exD_f.2]; exact fits_of _ 1 1 (by decide +kernel) (by decide) (by decide) (by decide)
    · show Fits (exD.f false * 1 + exD.z false); rw [exD_f.2, exD_z.2]; exact fits_of _ 3 2 (by decide +kernel) (by decide) (by decide) (by decide)
  unfold exL
  simp only [applyE, h1, h2, h3, if_true]
theorem ex_snd2 : Snd (exT.map toWt) := by
  intro i hi
  have e : i = 0 ∨ i = 1 ∨ i = 2 := by have : (exT.map toWt).length = 3 := rfl; omega
  rcases e with rfl | rfl | rfl
  · exact errN_wt (1, 1, false, 1 / 2) (by decide) fits_half
  · exact errS_wt (1, 1, false, 1 / 2) (7, 8, true, 8) (by decide) (by decide) (fits_of _ 8 1 (by decide +kernel) (by decide) (by decide) (by decide)) (by decide) (by decide +kernel)
  · exact errS_wt (7, 8, true, 8) (11, 11, false, 3 / 2) (by decide) (by decide) (fits_of _ 3 2 (by decide +kernel) (by decide) (by decide) (by decide)) (by decide) (by decide +kernel)
theorem ex_appF : appF exL exD = (0, 0) := by
  unfold appF
  rw [ex_applyE, if_neg (by simp), ex_tW, ex_snd2.zero, if_neg (by simp)]
set_option maxHeartbeats 6400000 in
theorem example_any (w : World) : Calls Try.prog 27 #[] w fun e w' => (∃ g, e = .returned (.slice (some ⟨g, 0, none⟩) 3 3) ∧ WSl w' (some ⟨g, 0, none⟩) exL) ∧ Below w.heap.size w w' := by
  have H0 := hide_ (fun W => small_form 0 1 0 (by decide +kernel) W (by decide) (by decide) (by decide) (by decide) (by decide))
  have H4 := hide_ (fun W => small_form 4 1 4 (by decide +kernel) W (by decide) (by decide) (by decide) (by decide) (by decide))
  have H1 := hide_ (fun W => small_form 1 1 1 (by decide +kernel) W (by decide) (by decide) (by decide) (by decide) (by decide))
  have tok0 : True := trivial
  have tok1 : True := trivial
  go_enter Try.func27, Try.ntmps27
  go_wp2_with (first
    | (go_at_call 21; have _t := tok0; go_must ((with_reducible refine (H0.out _).mono ?_); rintro e w1 ⟨⟨s1, p1, n1, c1, q1, m1, d1, rfl, ho1, hf1⟩, hb1⟩; clear tok0))
    | (go_at_call 21; have _t := tok1; go_must ((with_reducible refine (H4.out _).mono ?_); rintro e w2 ⟨⟨s2, p2, n2, c2, q2, m2, d2, rfl, ho2, hf2⟩, hb2⟩; clear tok1))
    | (go_at_call 21; go_must ((with_reducible refine (H1.out _).mono ?_); rintro e w3 ⟨⟨s3, p3, n3, c3, q3, m3, d3, rfl, ho3, hf3⟩, hb3⟩)))
  go_ret
  refine ⟨⟨w3.heap.size, rfl, ?_⟩, ?_⟩
  · obtain ⟨⟨rfl, rfl, rfl⟩, r1⟩ := RO.fr ho1 hf1
    obtain ⟨⟨rfl, rfl, rfl⟩, r2⟩ := RO.fr ho2 hf2
    obtain ⟨⟨rfl, rfl, rfl⟩, r3⟩ := RO.fr ho3 hf3
    refine .inr ⟨w3.heap.size, 0, rfl, by simp, fun i hi => ?_⟩
    have hh := heap_alloc_last w3 (.cells #[.int .i64 2, .int .i64 2, .bool false, .bool (rneg 0), .slice p1 (rn 0).length c1, .slice q1 (rd 0).length d1, .int .i64 6, .int .i64 7, .bool true, .bool (rneg 4), .slice p2 (rn 4).length c2, .slice q2 (rd 4).length d2, .int .i64 12, .int .i64 12, .bool false, .bool (rneg 1), .slice p3 (rn 1).length c3, .slice q3 (rd 1).length d3] 34)
    have hA := below_alloc w3 (.cells #[.int .i64 2, .int .i64 2, .bool false, .bool (rneg 0), .slice p1 (rn 0).length c1, .slice q1 (rd 0).length d1, .int .i64 6, .int .i64 7, .bool true, .bool (rneg 4), .slice p2 (rn 4).length c2, .slice q2 (rd 4).length d2, .int .i64 12, .int .i64 12, .bool false, .bool (rneg 1), .slice p3 (rn 1).length c3, .slice q3 (rd 1).length d3] 34)
    have e : i = 0 ∨ i = 1 ∨ i = 2 := by have : exL.length = 3 := rfl; omega
    rcases e with rfl | rfl | rfl
    · exact ⟨p1, c1, q1, d1, cell_of_row _ _ _ _ _ _ hh, cell_of_row _ _ _ _ _ _ hh, cell_of_row _ _ _ _ _ _ hh, cell_of_row _ _ _ _ _ _ hh, cell_of_row _ _ _ _ _ _ hh, cell_of_row _ _ _ _ _ _ hh, ((RG.below r1 hb2).below hb3).below hA⟩
    · exact ⟨p2, c2, q2, d2, cell_of_row _ _ _ _ _ _ hh, cell_of_row _ _ _ _ _ _ hh, cell_of_row _ _ _ _ _ _ hh, cell_of_row _ _ _ _ _ _ hh, cell_of_row _ _ _ _ _ _ hh, cell_of_row _ _ _ _ _ _ hh, (RG.below r2 hb3).below hA⟩
    · exact ⟨p3, c3, q3, d3, cell_of_row _ _ _ _ _ _ hh, cell_of_row _ _ _ _ _ _ hh, cell_of_row _ _ _ _ _ _ hh, cell_of_row _ _ _ _ _ _ hh, cell_of_row _ _ _ _ _ _ hh, cell_of_row _ _ _ _ _ _ hh, RG.below r3 hA⟩
  · have h2 := hb1.trans (hb2.mono hb1.size)
    have h3 := h2.trans (hb3.mono h2.size)
    exact h3.alloc h3.size _
end Go.Proofs.Ytcibbnphkpaifaa
