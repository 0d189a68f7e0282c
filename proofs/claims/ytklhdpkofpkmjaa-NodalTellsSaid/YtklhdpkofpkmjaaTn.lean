/- Chapter 12: a name's turn in the program: contracts. -/
import Derived.Test.YtklhdpkofpkmjaaNd4
import Derived.Test.YtklhdpkofpkmjaaFl6
namespace Go.Proofs.Ytklhdpkofpkmjaa
open Go.RowKit Ieee
set_option linter.unusedVariables false
set_option maxRecDepth 100000
theorem run_rte {n x : Nat} (h : AbsN n x) (w : World) : (callFunc 99 #[.float .f64 x]).run Try.prog w = .ok (.value (.float .f64 (rteB x))) w := by
  obtain ⟨v, hf, _⟩ := h
  obtain ⟨s, m, i, rx, hi, rfl⟩ := hf.ex
  rw [run_callFunc_extern Try.func99 (by kernel_rfl) (by kernel_rfl) (by kernel_rfl) (e := Go.Extern.MathFloor.toIntegral "math.RoundToEven" .even) (by kernel_rfl)]
  have e : rteB x = double.nearest s (Toward.even.cut s (m <<< i.toNat) (-i).toNat) 0 := by
    unfold rteB rteS rteM
    rw [rx]
  rw [e]
  have hd : FloatKind.f64.decode x = .number s m i := rx
  delta Go.Extern.MathFloor.toIntegral
  generalize FloatKind.decode FloatKind.f64 = dec at hd ⊢
  conv in (Sem.run _ _ _) => arg 2; whnf
  rw [hd]
  rfl
/-- The turn, in parts of 3600000. -/
def tnP (c im : Nat) : Nat := (rteN (fm c im) % 3600000).toNat
theorem turn_e (s : ByteArray) (t e1 : Int) (w : World) (h : e1 ≠ 0) (HL : Hid (∀ wx : World, Calls Try.prog 98 #[.string s, .int .i64 t] wx fun e w' => e = .returned (.tuple #[.agg #[.float .f64 0, .float .f64 0, .float .f64 0], .complex .f64 0 0, .int .i64 e1]) ∧ Below wx.heap.size wx w')) :
    Calls Try.prog 50 #[.string s, .int .i64 t] w fun e w' => e = .returned (.tuple #[.agg #[.int .i64 0, .int .i64 0], .int .i64 e1]) ∧ Below w.heap.size w w' := by
  have hb : (e1 != 0) = true := by simpa using h
  clear h
  go_enter Try.func50, Try.ntmps50
  go_wp2_with (first
    | (go_at_call 98; (with_reducible refine (HL.out _).mono ?_); rintro e w1 ⟨rfl, hb1⟩; have n1 := heap_past (o' := .cells #[.float .f64 0, .float .f64 0, .float .f64 0] 111) (blk_below hb1))
    | ((with_reducible apply wpList_store_new); (with_reducible rfl); (with_reducible rfl); rfl; rfl; kernel_rfl; rfl; kernel_rfl) | ((with_reducible apply wpList_store_blk); (with_reducible rfl); (with_reducible rfl); rfl; assumption; rfl; kernel_rfl; rfl; kernel_rfl))
  refine ret_ct rfl _ 35 _ _ rfl (setRow_heap _ _ _ _ _ _ n1) Try.underlying35 rfl (by kernel_rfl) rfl ⟨rfl, ?_⟩
  have hg0 := ((Grew.refl w).alloc (.cells #[.int .i64 0, .int .i64 0] 35)).step hb1
  exact Grew.below (by repeat (first | exact Grew.refl _ | assumption | refine Grew.alloc ?_ _ | refine Grew.drewN ?_ _ | refine Grew.drew ?_ | refine Grew.setRow ?_ (by first | assumption | (simp; done) | (simp; omega) | omega) _ | refine Grew.setCell ?_ (by first | assumption | (simp; done) | (simp; omega) | omega) _ | refine Grew.step ?_ (by assumption)))
theorem turn_o (s : ByteArray) (t : Int) (re im c0 c1 c2 : Nat) (w : World) (hm : double.mul c2 im = some (fm c2 im)) (ha : AbsN 262144 (fm c2 im))
    (HL : Hid (∀ wx : World, Calls Try.prog 98 #[.string s, .int .i64 t] wx fun e w' => e = .returned (.tuple #[.agg #[.float .f64 c0, .float .f64 c1, .float .f64 c2], .complex .f64 re im, .int .i64 0]) ∧ Below wx.heap.size wx w')) :
    Calls Try.prog 50 #[.string s, .int .i64 t] w fun e w' => e = .returned (.tuple #[.agg (turnV (tnP c2 im) 3600000), .int .i64 0]) ∧ Below w.heap.size w w' := by
  have g1 := fun wx => run_float_arith (P := Try.prog) wx .mul 46 .f64 _ _ _ hm
  have g2 := fun wx => run_rte ha wx
  have g3 := toInt_rte ha (by decide)
  have hN := rteN_le ha
  have ho := fun wx => of_ok (rteN (fm c2 im)) (tnP c2 im) 3600000 wx (by omega) (by omega) (by unfold tnP; omega)
  obtain ⟨X, Y, e1⟩ := turnV_two (tnP c2 im) 3600000
  rw [e1]
  have ho : ∀ wx : World, Calls Try.prog 32 #[.int .i64 (rteN (fm c2 im)), .int .i64 3600000] wx fun e w' => e = .returned (.tuple #[.agg (turnV (tnP c2 im) 3600000), .int .i64 0]) ∧ Below wx.heap.size wx w' := ho
  rw [e1] at ho
  clear e1
  have HO : Hid (∀ wx : World, Calls Try.prog 32 #[.int .i64 (rteN (fm c2 im)), .int .i64 3600000] wx fun e w' => e = .returned (.tuple #[.agg #[.int .i64 X, .int .i64 Y], .int .i64 0]) ∧ Below wx.heap.size wx w') := hide_ ho
  clear ho
  generalize rteN (fm c2 im) = N at *
  generalize hB : rteB (fm c2 im) = B at *
  clear hB
  generalize fm c2 im = m at *
  have g4 := fun wx : World => run_convert_float_int (P := Try.prog) (w := wx) 46 2 .f64 .i64 B N (by kernel_rfl) Try.underlying2 g3
  clear hm ha g3 hN
  go_enter Try.func50, Try.ntmps50
  go_wp2_with (first
    | (go_at_call 98; (with_reducible refine (HL.out _).mono ?_); rintro e w1 ⟨rfl, hb1⟩; have n1 := heap_past (o' := .cells #[.float .f64 c0, .float .f64 c1, .float .f64 c2] 111) (blk_below hb1); obtain ⟨k0, k1, k2⟩ := cells_three (heap_alloc_last w1 (.cells #[.float .f64 c0, .float .f64 c1, .float .f64 c2] 111)))
    | (go_at_call 32; (with_reducible refine (HO.out _).mono ?_); rintro e w2 ⟨rfl, hb2⟩; have n2 := (hb2.block _ (lt_of_heap n1)).trans n1)
    | ((with_reducible apply wpList_store_new); (with_reducible rfl); (with_reducible rfl); rfl; rfl; kernel_rfl; rfl; kernel_rfl) | ((with_reducible apply wpList_store_blk); (with_reducible rfl); (with_reducible rfl); rfl; assumption; rfl; kernel_rfl; rfl; kernel_rfl))
  refine ret_ct rfl _ 35 _ _ rfl (setRow_heap _ _ _ _ _ _ n2) Try.underlying35 rfl (by kernel_rfl) rfl ⟨rfl, ?_⟩
  have hg0 := ((Grew.refl w).alloc (.cells #[.int .i64 0, .int .i64 0] 35)).step hb1
  exact Grew.below (by repeat (first | exact Grew.refl _ | assumption | refine Grew.alloc ?_ _ | refine Grew.drewN ?_ _ | refine Grew.drew ?_ | refine Grew.setRow ?_ (by first | assumption | (simp; done) | (simp; omega) | omega) _ | refine Grew.setCell ?_ (by first | assumption | (simp; done) | (simp; omega) | omega) _ | refine Grew.step ?_ (by assumption)))
end Go.Proofs.Ytklhdpkofpkmjaa
