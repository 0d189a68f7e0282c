/- Chapter 12: the node's number; a name's factor: contracts in the program and in the reference. -/
import Derived.Test.YtklhdpkofpkmjaaNd2
namespace Go.Proofs.Ytklhdpkofpkmjaa
open Go.RowKit Ieee
set_option linter.unusedVariables false
set_option maxRecDepth 100000
def nP (t : Int) : Nat := (unit 4 t).toNat / Nat.gcd 3600000000 (unit 4 t).toNat
def nW (t : Int) : Nat := 3600000000 / Nat.gcd 3600000000 (unit 4 t).toNat
theorem nLow (t : Int) : nP t < nW t ∧ nW t ≤ 4294967296 ∧ Nat.gcd (nW t) (nP t) = 1 := by
  have hu := unit_bd 4 t
  have h := low_of (unit 4 t).toNat 3600000000 (by omega)
  have hw : nW t ≤ 3600000000 := Nat.div_le_self _ _
  exact ⟨h.lt, by omega, h.co⟩
def nRe (t : Int) : Nat := rootRe (nP t) (nW t)
def nIm (t : Int) : Nat := rootIm (nP t) (nW t)
theorem nRe_abs (t : Int) : Abs ONE (nRe t) := rootRe_abs _ _ (by have := (nLow t).1; omega) (nLow t).2.1
theorem nIm_abs (t : Int) : Abs ONE (nIm t) := rootIm_abs _ _ (by have := (nLow t).1; omega) (nLow t).2.1
theorem node_ok (t : Int) (w : World) (h0 : 0 ≤ t) (h1 : t ≤ 1048576) : Calls Try.prog 66 #[.int .i64 t] w fun e w' => e = .returned (.tuple #[.complex .f64 (nRe t) (nIm t), .int .i64 0]) ∧ Below w.heap.size w w' := by
  obtain ⟨l1, l2, l3⟩ := nLow t
  have HA : Hid (∀ wx : World, Calls Try.prog 22 #[.int .i64 4, .int .i64 t] wx fun e w' => e = .returned (.tuple #[.agg #[.int .i64 (nP t : Int), .int .i64 (nW t : Int)], .int .i64 0]) ∧ Below wx.heap.size wx w') := hide_ (fun wx => angle_ok 4 t wx (by omega) h0 h1)
  have HR := hide_ (fun wx => root_ok (nP t) (nW t) wx l1 l2 l3)
  unfold nRe nIm
  generalize rootRe (nP t) (nW t) = a at *
  generalize rootIm (nP t) (nW t) = b at *
  generalize nP t = x at *
  generalize nW t = y at *
  clear l1 l2 l3 h0 h1
  go_enter Try.func66, Try.ntmps66
  go_wp2_with (first
    | (go_at_call 22; (with_reducible refine (HA.out _).mono ?_); rintro e w1 ⟨rfl, hb1⟩)
    | (go_at_call 105; (with_reducible refine (HR.out _).mono ?_); rintro e w2 ⟨rfl, hb2⟩)
    | ((with_reducible apply wpList_load_row (hu := Try.underlying35)); (with_reducible rfl); (with_reducible rfl); rfl; (first | assumption | exact heap_alloc_last _ _ | exact heap_past (by assumption)); rfl; kernel_rfl) | ((with_reducible apply wpList_store_new); (with_reducible rfl); (with_reducible rfl); rfl; rfl; kernel_rfl; rfl; kernel_rfl))
  go_ret2
  have hg1 := Grew.of hb1
  exact ⟨rfl, by exact Grew.below (by repeat (first | exact Grew.refl _ | assumption | refine Grew.alloc ?_ _ | refine Grew.drewN ?_ _ | refine Grew.drew ?_ | refine Grew.setRow ?_ (by first | assumption | (simp; done) | (simp; omega) | omega) _ | refine Grew.setCell ?_ (by first | assumption | (simp; done) | (simp; omega) | omega) _ | refine Grew.step ?_ (by assumption)))⟩
theorem node_no (t : Int) (w : World) (h : t < 0 ∨ 1048576 < t) : Calls Try.prog 66 #[.int .i64 t] w fun e w' => e = .returned (.tuple #[.complex .f64 0 0, .int .i64 2]) ∧ Below w.heap.size w w' := by
  have HA : Hid (∀ wx : World, Calls Try.prog 22 #[.int .i64 4, .int .i64 t] wx fun e w' => e = .returned (.tuple #[.agg #[.int .i64 0, .int .i64 0], .int .i64 2]) ∧ Below wx.heap.size wx w') := hide_ (fun wx => angle_no 4 t wx (by omega))
  clear h
  go_enter Try.func66, Try.ntmps66
  go_wp2_with (first
    | (go_at_call 22; (with_reducible refine (HA.out _).mono ?_); rintro e w1 ⟨rfl, hb1⟩)
    | ((with_reducible apply wpList_store_new); (with_reducible rfl); (with_reducible rfl); rfl; rfl; kernel_rfl; rfl; kernel_rfl))
  go_ret2
  have hg1 := Grew.of hb1
  exact ⟨rfl, by exact Grew.below (by repeat (first | exact Grew.refl _ | assumption | refine Grew.alloc ?_ _ | refine Grew.drewN ?_ _ | refine Grew.drew ?_ | refine Grew.setRow ?_ (by first | assumption | (simp; done) | (simp; omega) | omega) _ | refine Grew.setCell ?_ (by first | assumption | (simp; done) | (simp; omega) | omega) _ | refine Grew.step ?_ (by assumption)))⟩
theorem rnode_ok (t : Int) (w : World) (h0 : 0 ≤ t) (h1 : t ≤ 1048576) : Calls Try.prog 67 #[.int .i64 t] w fun e w' => e = .returned (.tuple #[.complex .f64 (nRe t) (nIm t), .int .i64 0]) ∧ Below w.heap.size w w' := by
  obtain ⟨l1, l2, l3⟩ := nLow t
  have hu := unit_bd 4 t
  have HT : Hid (∀ wx : World, Calls Try.prog 107 #[.int .i64 (1008432000 + 22064 * t), .int .i64 3600000000] wx fun e w' => e = .returned (.agg #[.int .i64 (nP t : Int), .int .i64 (nW t : Int)]) ∧ Below wx.heap.size wx w') :=
    hide_ (fun wx => turned_ok (1008432000 + 22064 * t) (unit 4 t).toNat 3600000000 wx (by omega) (by omega) (by omega) (by omega) (by unfold unit rowFirst rowAdds at *; simp only at *; omega))
  have HR := hide_ (fun wx => root8_ok (nP t) (nW t) wx l1 l2 (by rw [Nat.gcd_comm]; exact l3))
  unfold nRe nIm
  generalize rootRe (nP t) (nW t) = a at *
  generalize rootIm (nP t) (nW t) = b at *
  generalize nP t = x at *
  generalize nW t = y at *
  clear l1 l2 l3 hu
  go_enter Try.func67, Try.ntmps67
  go_wp2_with (first
    | (go_at_call 107; (with_reducible refine (HT.out _).mono ?_); rintro e w1 ⟨rfl, hb1⟩)
    | (go_at_call 106; (with_reducible refine (HR.out _).mono ?_); rintro e w2 ⟨rfl, hb2⟩))
  go_ret2
  have hg1 := Grew.of hb1
  exact ⟨rfl, by exact Grew.below (by repeat (first | exact Grew.refl _ | assumption | refine Grew.alloc ?_ _ | refine Grew.drewN ?_ _ | refine Grew.drew ?_ | refine Grew.setRow ?_ (by first | assumption | (simp; done) | (simp; omega) | omega) _ | refine Grew.setCell ?_ (by first | assumption | (simp; done) | (simp; omega) | omega) _ | refine Grew.step ?_ (by assumption)))⟩
theorem rnode_no (t : Int) (w : World) (h : t < 0 ∨ 1048576 < t) : Calls Try.prog 67 #[.int .i64 t] w fun e w' => e = .returned (.tuple #[.complex .f64 0 0, .int .i64 2]) ∧ Below w.heap.size w w' := by
  rcases h with h | h
  · go_enter Try.func67, Try.ntmps67
    go_wp2
    go_ret2
    exact ⟨rfl, Below.refl _ _⟩
  · have h0 : ¬ t < 0 := by omega
    go_enter Try.func67, Try.ntmps67
    go_wp2
    go_ret2
    exact ⟨rfl, Below.refl _ _⟩
end Go.Proofs.Ytklhdpkofpkmjaa
