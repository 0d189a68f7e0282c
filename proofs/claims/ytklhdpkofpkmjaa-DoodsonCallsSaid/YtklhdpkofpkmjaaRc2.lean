/- Contracts of the reference's chapter 11: Phase. -/
import Derived.Test.YtklhdpkofpkmjaaRc
namespace Go.Proofs.Ytklhdpkofpkmjaa
open Go.RowKit
set_option maxRecDepth 100000 in
theorem rphase_ok (f : Nat → Int) (t : Int) (w : World) (h : Good f) (h0 : 0 ≤ t) (h1 : t ≤ 1048576) :
    Calls Try.prog 54 #[.agg #[.int .i8 (f 0), .int .i8 (f 1), .int .i8 (f 2), .int .i8 (f 3), .int .i8 (f 4), .int .i8 (f 5)], .int .i64 t] w fun e w' => e = .returned (.tuple #[.agg (turnV (du f (unitAt t)) 3600000000), .int .i64 0]) ∧ Below w.heap.size w w' := by
  have HK := hide_ (fun wx => rcheck_ok f wx h)
  have hc := fun wx => of8_ok (dsum f (unitAt t) 6) (du f (unitAt t)) 3600000000 wx (by omega) (by omega) (by unfold du; omega)
  obtain ⟨x, y, e1⟩ := turnV_two (du f (unitAt t)) 3600000000
  rw [e1] at hc ⊢
  have HC : Hid (∀ wx, Calls Try.prog 101 #[.int .i64 (dsum f (unitAt t) 6), .int .i64 3600000000] wx fun e w' => e = .returned (.tuple #[.agg #[.int .i64 x, .int .i64 y], .int .i64 0]) ∧ Below wx.heap.size wx w') := hide_ hc
  have H := hide_ h
  have HU := hide_ (fun (k : Nat) (hk : k < 6) wx => runits_ok k t wx hk h0 h1)
  have HB := hide_ (fun j (_ : j < 6) => unitAt_bd t j)
  clear hc e1 h
  go_enter Try.func54, Try.ntmps54
  go_wp2_with (go_at_call 56; (with_reducible refine (HK.out _).mono ?_); rintro e w1 ⟨rfl, hb1⟩; obtain ⟨g0, g1, l1⟩ := blk_two hb1)
  have hg1 := (((Grew.refl w).alloc (.cells #[.int .i8 (f 0), .int .i8 (f 1), .int .i8 (f 2), .int .i8 (f 3), .int .i8 (f 4), .int .i8 (f 5)] 54)).alloc (.cells #[.int .i64 0, .int .i64 0] 35)).step hb1
  go_loopw [8, 7] (fun i s wr => ∃ k : Nat, k ≤ 6 ∧ i = .int .i64 k ∧ s = .int .i64 (dsum f (unitAt t) k) ∧ wr.heap[w.heap.size]? = some (.cells #[.int .i8 (f 0), .int .i8 (f 1), .int .i8 (f 2), .int .i8 (f 3), .int .i8 (f 4), .int .i8 (f 5)] 54) ∧ wr.heap[w.heap.size + 1]? = some (.cells #[.int .i64 0, .int .i64 0] 35) ∧ Grew w.heap.size w wr) (fun i _ _ => 6 - (intOf i).toNat)
  case atStart => exact ⟨0, by omega, rfl, rfl, g0, g1, hg1⟩
  case round =>
    obtain ⟨k, hk, rfl, rfl, hf, hr, hgr⟩ := hrel
    have hb2 := dsum_bd f (unitAt t) H.out HB.out k (by omega)
    have hlz := lt_of_heap hr
    by_cases hlt : k < 6
    · have hcell := cell_ar hf k hlt
      have h2 := H.out k hlt
      have h3 := dmul_bd (f k) (unitAt t k) h2 (HB.out k hlt)
      have hk0 : (0 : Int) ≤ (k : Int) := by omega
      have hk6 : (k : Int) < 6 := by omega
      have hf' := hide_ hf
      have hr' := hide_ hr
      have hku : unit k t = unitAt t k := rfl
      clear hf hr
      go_wp2_with (go_at_call 23; (with_reducible refine (HU.out k hlt _).mono ?_); rintro e w2 ⟨rfl, hb3⟩; have hcell2 := (hb3.cell (p := ⟨w.heap.size, k, none⟩) (by simp; omega)).trans hcell; rw [hku])
      go_roundw
      case rel => exact ⟨k + 1, by omega, by go_num, rfl, (hb3.block _ (by omega)).trans hf'.out, (hb3.block _ (by omega)).trans hr'.out, hgr.step hb3⟩
      case measure => simp [intOf]; omega
    · obtain rfl : k = 6 := by omega
      go_wp2_with (first | (go_at_call 101; (with_reducible refine (HC.out _).mono ?_); rintro e w3 ⟨rfl, hb4⟩; have hr2 := (hb4.block _ (by omega)).trans hr) | ((with_reducible apply wpList_store_blk); (with_reducible rfl); (with_reducible rfl); rfl; assumption; rfl; kernel_rfl; rfl; kernel_rfl))
      refine ret_ct rfl _ 35 _ _ rfl (setRow_heap _ _ _ _ _ _ hr2) Try.underlying35 rfl (by kernel_rfl) rfl ⟨rfl, ?_⟩
      exact Grew.below (by repeat (first | exact Grew.refl _ | assumption | refine Grew.alloc ?_ _ | refine Grew.drewN ?_ _ | refine Grew.drew ?_ | refine Grew.setRow ?_ (by first | assumption | (simp; done) | (simp; omega) | omega) _ | refine Grew.setCell ?_ (by first | assumption | (simp; done) | (simp; omega) | omega) _ | refine Grew.step ?_ (by assumption)))
end Go.Proofs.Ytklhdpkofpkmjaa
