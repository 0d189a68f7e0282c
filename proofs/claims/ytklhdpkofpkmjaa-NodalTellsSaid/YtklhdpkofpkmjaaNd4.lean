/- Chapter 12: a name's factor: contracts in the program and in the reference. -/
import Derived.Test.YtklhdpkofpkmjaaNd3
namespace Go.Proofs.Ytklhdpkofpkmjaa
open Go.RowKit Ieee
set_option linter.unusedVariables false
set_option maxRecDepth 100000
/-- The end of a function whose first result lies in a block, the second and the third in slots. -/
theorem ret_ctt {P : Program} {fn : Func} {R : Ending → World → Prop} {a : Act} {w : World} {p t t2 : Tmp} {ty : TypeId} (h : fn.results = #[.cell p ty, .tmp t, .tmp t2]) (g : Nat) (T : TypeId) (cs : Array Value) (d : TypeDesc)
    (hp : a.tmps.getD p undef = .pointer (some ⟨g, 0, none⟩)) (hg : w.heap[g]? = some (.cells cs T (0, 0))) (hu : P.underlying ty = some d) (hd : (match d with | .struct _ | .array _ _ => true | _ => false) = true)
    (hi : (P.info? ty).map (·.size) = some cs.size) (hdf : a.defers = []) (hR : R (.returned (.tuple #[.agg cs, a.tmps.getD t undef, a.tmps.getD t2 undef])) w) : bodyPost P fn R .ret a w := by
  refine bodyPost_ret (v := .tuple #[.agg cs, a.tmps.getD t undef, a.tmps.getD t2 undef]) ?_ hdf hR
  have hp' : a.tmps[p]?.getD undef = .pointer (some ⟨g, 0, none⟩) := by simpa using hp
  simp [results, h, hp', asAddr, run_loadVar_row w g T ty cs (0, 0) d hg hu hd hi]
theorem cells_three {w : World} {g : Nat} {a b c : Value} {T : TypeId} (h : w.heap[g]? = some (.cells #[a, b, c] T)) : w.cell? ⟨g, 0, none⟩ = some a ∧ w.cell? ⟨g, 1, none⟩ = some b ∧ w.cell? ⟨g, 2, none⟩ = some c :=
  ⟨cell_of_row _ _ _ _ _ _ h, cell_of_row _ _ _ _ _ _ h, cell_of_row _ _ _ _ _ _ h⟩
theorem look_e (s : ByteArray) (t e1 : Int) (w : World) (h : e1 ≠ 0) (HN : Hid (∀ wx : World, Calls Try.prog 66 #[.int .i64 t] wx fun e w' => e = .returned (.tuple #[.complex .f64 0 0, .int .i64 e1]) ∧ Below wx.heap.size wx w')) :
    Calls Try.prog 98 #[.string s, .int .i64 t] w fun e w' => e = .returned (.tuple #[.agg #[.float .f64 0, .float .f64 0, .float .f64 0], .complex .f64 0 0, .int .i64 e1]) ∧ Below w.heap.size w w' := by
  have hb : (e1 != 0) = true := by simpa using h
  clear h
  go_enter Try.func98, Try.ntmps98
  go_wp2_with (first
    | (go_at_call 66; (with_reducible refine (HN.out _).mono ?_); rintro e w1 ⟨rfl, hb1⟩; have n1 := blk_below hb1)
    | ((with_reducible apply wpList_store_blk); (with_reducible rfl); (with_reducible rfl); rfl; assumption; rfl; kernel_rfl; rfl; kernel_rfl))
  refine ret_ctt rfl _ 111 _ _ rfl (setRow_heap _ _ _ _ _ _ n1) Try.underlying111 rfl (by kernel_rfl) rfl ⟨rfl, ?_⟩
  have hg0 := ((Grew.refl w).alloc (.cells #[.float .f64 0, .float .f64 0, .float .f64 0] 111)).step hb1
  exact Grew.below (by repeat (first | exact Grew.refl _ | assumption | refine Grew.alloc ?_ _ | refine Grew.drewN ?_ _ | refine Grew.drew ?_ | refine Grew.setRow ?_ (by first | assumption | (simp; done) | (simp; omega) | omega) _ | refine Grew.setCell ?_ (by first | assumption | (simp; done) | (simp; omega) | omega) _ | refine Grew.step ?_ (by assumption)))
theorem look_m (s : ByteArray) (t : Int) (re im c0 c1 c2 : Nat) (w : World) (HN : Hid (∀ wx : World, Calls Try.prog 66 #[.int .i64 t] wx fun e w' => e = .returned (.tuple #[.complex .f64 re im, .int .i64 0]) ∧ Below wx.heap.size wx w'))
    (HF : Hid (∀ wx : World, Calls Try.prog 90 #[.string s] wx fun e w' => e = .returned (.tuple #[.agg #[.float .f64 c0, .float .f64 c1, .float .f64 c2], .bool false]) ∧ Below wx.heap.size wx w')) :
    Calls Try.prog 98 #[.string s, .int .i64 t] w fun e w' => e = .returned (.tuple #[.agg #[.float .f64 0, .float .f64 0, .float .f64 0], .complex .f64 0 0, .int .i64 6]) ∧ Below w.heap.size w w' := by
  go_enter Try.func98, Try.ntmps98
  go_wp2_with (first
    | (go_at_call 66; (with_reducible refine (HN.out _).mono ?_); rintro e w1 ⟨rfl, hb1⟩; have n1 := blk_below hb1)
    | (go_at_call 90; (with_reducible refine (HF.out _).mono ?_); rintro e w2 ⟨rfl, hb2⟩; have n2 := heap_past (o' := .cells #[.float .f64 c0, .float .f64 c1, .float .f64 c2] 111) ((hb2.block _ (lt_of_heap n1)).trans n1))
    | ((with_reducible apply wpList_store_new); (with_reducible rfl); (with_reducible rfl); rfl; rfl; kernel_rfl; rfl; kernel_rfl) | ((with_reducible apply wpList_store_blk); (with_reducible rfl); (with_reducible rfl); rfl; assumption; rfl; kernel_rfl; rfl; kernel_rfl))
  refine ret_ctt rfl _ 111 _ _ rfl (setRow_heap _ _ _ _ _ _ n2) Try.underlying111 rfl (by kernel_rfl) rfl ⟨rfl, ?_⟩
  have hg0 := ((Grew.refl w).alloc (.cells #[.float .f64 0, .float .f64 0, .float .f64 0] 111)).step hb1
  exact Grew.below (by repeat (first | exact Grew.refl _ | assumption | refine Grew.alloc ?_ _ | refine Grew.drewN ?_ _ | refine Grew.drew ?_ | refine Grew.setRow ?_ (by first | assumption | (simp; done) | (simp; omega) | omega) _ | refine Grew.setCell ?_ (by first | assumption | (simp; done) | (simp; omega) | omega) _ | refine Grew.step ?_ (by assumption)))
theorem look_o (s : ByteArray) (t : Int) (re im c0 c1 c2 : Nat) (w : World) (HN : Hid (∀ wx : World, Calls Try.prog 66 #[.int .i64 t] wx fun e w' => e = .returned (.tuple #[.complex .f64 re im, .int .i64 0]) ∧ Below wx.heap.size wx w'))
    (HF : Hid (∀ wx : World, Calls Try.prog 90 #[.string s] wx fun e w' => e = .returned (.tuple #[.agg #[.float .f64 c0, .float .f64 c1, .float .f64 c2], .bool true]) ∧ Below wx.heap.size wx w')) :
    Calls Try.prog 98 #[.string s, .int .i64 t] w fun e w' => e = .returned (.tuple #[.agg #[.float .f64 c0, .float .f64 c1, .float .f64 c2], .complex .f64 re im, .int .i64 0]) ∧ Below w.heap.size w w' := by
  go_enter Try.func98, Try.ntmps98
  go_wp2_with (first
    | (go_at_call 66; (with_reducible refine (HN.out _).mono ?_); rintro e w1 ⟨rfl, hb1⟩; have n1 := blk_below hb1)
    | (go_at_call 90; (with_reducible refine (HF.out _).mono ?_); rintro e w2 ⟨rfl, hb2⟩; have n2 := heap_past (o' := .cells #[.float .f64 c0, .float .f64 c1, .float .f64 c2] 111) ((hb2.block _ (lt_of_heap n1)).trans n1))
    | ((with_reducible apply wpList_load_row (hu := Try.underlying111)); (with_reducible rfl); (with_reducible rfl); rfl; (first | assumption | exact heap_alloc_last _ _ | exact heap_past (by assumption)); rfl; kernel_rfl)
    | ((with_reducible apply wpList_store_new); (with_reducible rfl); (with_reducible rfl); rfl; rfl; kernel_rfl; rfl; kernel_rfl) | ((with_reducible apply wpList_store_blk); (with_reducible rfl); (with_reducible rfl); rfl; assumption; rfl; kernel_rfl; rfl; kernel_rfl))
  refine ret_ctt rfl _ 111 _ _ rfl (setRow_heap _ _ _ _ _ _ n2) Try.underlying111 rfl (by kernel_rfl) rfl ⟨rfl, ?_⟩
  have hg0 := ((Grew.refl w).alloc (.cells #[.float .f64 0, .float .f64 0, .float .f64 0] 111)).step hb1
  exact Grew.below (by repeat (first | exact Grew.refl _ | assumption | refine Grew.alloc ?_ _ | refine Grew.drewN ?_ _ | refine Grew.drew ?_ | refine Grew.setRow ?_ (by first | assumption | (simp; done) | (simp; omega) | omega) _ | refine Grew.setCell ?_ (by first | assumption | (simp; done) | (simp; omega) | omega) _ | refine Grew.step ?_ (by assumption)))
/-- A factor: the program's, of what look answers. -/
theorem factor_e (s : ByteArray) (t e1 : Int) (w : World) (h : e1 ≠ 0) (HL : Hid (∀ wx : World, Calls Try.prog 98 #[.string s, .int .i64 t] wx fun e w' => e = .returned (.tuple #[.agg #[.float .f64 0, .float .f64 0, .float .f64 0], .complex .f64 0 0, .int .i64 e1]) ∧ Below wx.heap.size wx w')) :
    Calls Try.prog 49 #[.string s, .int .i64 t] w fun e w' => e = .returned (.tuple #[.float .f64 0, .int .i64 e1]) ∧ Below w.heap.size w w' := by
  have hb : (e1 != 0) = true := by simpa using h
  clear h
  go_enter Try.func49, Try.ntmps49
  go_wp2_with (first
    | (go_at_call 98; (with_reducible refine (HL.out _).mono ?_); rintro e w1 ⟨rfl, hb1⟩)
    | ((with_reducible apply wpList_store_new); (with_reducible rfl); (with_reducible rfl); rfl; rfl; kernel_rfl; rfl; kernel_rfl))
  go_ret2
  have hg0 := Grew.of hb1
  exact ⟨rfl, by exact Grew.below (by repeat (first | exact Grew.refl _ | assumption | refine Grew.alloc ?_ _ | refine Grew.drewN ?_ _ | refine Grew.drew ?_ | refine Grew.setRow ?_ (by first | assumption | (simp; done) | (simp; omega) | omega) _ | refine Grew.setCell ?_ (by first | assumption | (simp; done) | (simp; omega) | omega) _ | refine Grew.step ?_ (by assumption)))⟩
theorem factor_o (s : ByteArray) (t : Int) (re im c0 c1 c2 m f : Nat) (w : World) (hm : double.mul c1 re = some m) (ha : double.add m c0 = some f)
    (HL : Hid (∀ wx : World, Calls Try.prog 98 #[.string s, .int .i64 t] wx fun e w' => e = .returned (.tuple #[.agg #[.float .f64 c0, .float .f64 c1, .float .f64 c2], .complex .f64 re im, .int .i64 0]) ∧ Below wx.heap.size wx w')) :
    Calls Try.prog 49 #[.string s, .int .i64 t] w fun e w' => e = .returned (.tuple #[.float .f64 f, .int .i64 0]) ∧ Below w.heap.size w w' := by
  have g1 := fun wx => run_float_arith (P := Try.prog) wx .mul 46 .f64 _ _ _ hm
  have g2 := fun wx => run_float_arith (P := Try.prog) wx .add 46 .f64 _ _ _ ha
  clear hm ha
  go_enter Try.func49, Try.ntmps49
  go_wp2_with (first
    | (go_at_call 98; (with_reducible refine (HL.out _).mono ?_); rintro e w1 ⟨rfl, hb1⟩; obtain ⟨k0, k1, k2⟩ := cells_three (heap_alloc_last w1 (.cells #[.float .f64 c0, .float .f64 c1, .float .f64 c2] 111)))
    | ((with_reducible apply wpList_store_new); (with_reducible rfl); (with_reducible rfl); rfl; rfl; kernel_rfl; rfl; kernel_rfl))
  go_ret2
  have hg0 := Grew.of hb1
  exact ⟨rfl, by exact Grew.below (by repeat (first | exact Grew.refl _ | assumption | refine Grew.alloc ?_ _ | refine Grew.drewN ?_ _ | refine Grew.drew ?_ | refine Grew.setRow ?_ (by first | assumption | (simp; done) | (simp; omega) | omega) _ | refine Grew.setCell ?_ (by first | assumption | (simp; done) | (simp; omega) | omega) _ | refine Grew.step ?_ (by assumption)))⟩
theorem rfactor_e (s : ByteArray) (t e1 : Int) (w : World) (h : e1 ≠ 0) (HN : Hid (∀ wx : World, Calls Try.prog 67 #[.int .i64 t] wx fun e w' => e = .returned (.tuple #[.complex .f64 0 0, .int .i64 e1]) ∧ Below wx.heap.size wx w')) :
    Calls Try.prog 68 #[.string s, .int .i64 t] w fun e w' => e = .returned (.tuple #[.float .f64 0, .int .i64 e1]) ∧ Below w.heap.size w w' := by
  have hb : (e1 != 0) = true := by simpa using h
  clear h
  go_enter Try.func68, Try.ntmps68
  go_wp2_with (go_at_call 67; (with_reducible refine (HN.out _).mono ?_); rintro e w1 ⟨rfl, hb1⟩)
  go_ret2
  exact ⟨rfl, hb1⟩
theorem rfactor_m (s : ByteArray) (t : Int) (re im c0 c1 c2 : Nat) (w : World) (HN : Hid (∀ wx : World, Calls Try.prog 67 #[.int .i64 t] wx fun e w' => e = .returned (.tuple #[.complex .f64 re im, .int .i64 0]) ∧ Below wx.heap.size wx w'))
    (HF : Hid (∀ wx : World, Calls Try.prog 92 #[.string s] wx fun e w' => e = .returned (.tuple #[.float .f64 c0, .float .f64 c1, .float .f64 c2, .bool false]) ∧ Below wx.heap.size wx w')) :
    Calls Try.prog 68 #[.string s, .int .i64 t] w fun e w' => e = .returned (.tuple #[.float .f64 0, .int .i64 6]) ∧ Below w.heap.size w w' := by
  go_enter Try.func68, Try.ntmps68
  go_wp2_with (first
    | (go_at_call 67; (with_reducible refine (HN.out _).mono ?_); rintro e w1 ⟨rfl, hb1⟩)
    | (go_at_call 92; (with_reducible refine (HF.out _).mono ?_); rintro e w2 ⟨rfl, hb2⟩))
  go_ret2
  have hg0 := Grew.of hb1
  exact ⟨rfl, by exact Grew.below (by repeat (first | exact Grew.refl _ | assumption | refine Grew.alloc ?_ _ | refine Grew.drewN ?_ _ | refine Grew.drew ?_ | refine Grew.setRow ?_ (by first | assumption | (simp; done) | (simp; omega) | omega) _ | refine Grew.setCell ?_ (by first | assumption | (simp; done) | (simp; omega) | omega) _ | refine Grew.step ?_ (by assumption)))⟩
theorem rfactor_o (s : ByteArray) (t : Int) (re im c0 c1 c2 m f : Nat) (w : World) (hm : double.mul c1 re = some m) (ha : double.add m c0 = some f) (HN : Hid (∀ wx : World, Calls Try.prog 67 #[.int .i64 t] wx fun e w' => e = .returned (.tuple #[.complex .f64 re im, .int .i64 0]) ∧ Below wx.heap.size wx w'))
    (HF : Hid (∀ wx : World, Calls Try.prog 92 #[.string s] wx fun e w' => e = .returned (.tuple #[.float .f64 c0, .float .f64 c1, .float .f64 c2, .bool true]) ∧ Below wx.heap.size wx w')) :
    Calls Try.prog 68 #[.string s, .int .i64 t] w fun e w' => e = .returned (.tuple #[.float .f64 f, .int .i64 0]) ∧ Below w.heap.size w w' := by
  have g1 := fun wx => run_float_arith (P := Try.prog) wx .mul 46 .f64 _ _ _ hm
  have g2 := fun wx => run_float_arith (P := Try.prog) wx .add 46 .f64 _ _ _ ha
  clear hm ha
  go_enter Try.func68, Try.ntmps68
  go_wp2_with (first
    | (go_at_call 67; (with_reducible refine (HN.out _).mono ?_); rintro e w1 ⟨rfl, hb1⟩)
    | (go_at_call 92; (with_reducible refine (HF.out _).mono ?_); rintro e w2 ⟨rfl, hb2⟩))
  go_ret2
  have hg0 := Grew.of hb1
  exact ⟨rfl, by exact Grew.below (by repeat (first | exact Grew.refl _ | assumption | refine Grew.alloc ?_ _ | refine Grew.drewN ?_ _ | refine Grew.drew ?_ | refine Grew.setRow ?_ (by first | assumption | (simp; done) | (simp; omega) | omega) _ | refine Grew.setCell ?_ (by first | assumption | (simp; done) | (simp; omega) | omega) _ | refine Grew.step ?_ (by assumption)))⟩
/-- Both factors, of any name and tick. -/
theorem factor_alike (s : ByteArray) (t : Int) : ∃ (f : Nat) (e1 : Int), AbsN 4 f ∧
    (∀ wx : World, Calls Try.prog 49 #[.string s, .int .i64 t] wx fun e w' => e = .returned (.tuple #[.float .f64 f, .int .i64 e1]) ∧ Below wx.heap.size wx w') ∧
    (∀ wx : World, Calls Try.prog 68 #[.string s, .int .i64 t] wx fun e w' => e = .returned (.tuple #[.float .f64 f, .int .i64 e1]) ∧ Below wx.heap.size wx w') := by
  have hz : AbsN 4 0 := row_bz.1.up (by decide)
  by_cases ht : t < 0 ∨ 1048576 < t
  · have HL := hide_ (fun wx => look_e s t 2 wx (by decide) (hide_ (fun wy => node_no t wy ht)))
    exact ⟨0, 2, hz, fun wx => factor_e s t 2 wx (by decide) HL, fun wx => rfactor_e s t 2 wx (by decide) (hide_ (fun wy => rnode_no t wy ht))⟩
  · have hN := hide_ (fun wx => node_ok t wx (by omega) (by omega))
    have hR := hide_ (fun wx => rnode_ok t wx (by omega) (by omega))
    obtain ⟨c0, c1, c2, b, hb, f1, f2⟩ := find_alike12 s
    cases b with
    | false => exact ⟨0, 6, hz, fun wx => factor_e s t 6 wx (by decide) (hide_ (fun wy => look_m s t _ _ c0 c1 c2 wy hN (hide_ f1))), fun wx => rfactor_m s t _ _ c0 c1 c2 wx hR (hide_ f2)⟩
    | true =>
      have hm := hb.2.1.mul (abs_one (nRe_abs t)) (by decide)
      have ha := hm.2.add hb.1 (by decide)
      exact ⟨_, 0, ha.2.up (by decide), fun wx => factor_o s t _ _ c0 c1 c2 _ _ wx hm.1 ha.1 (hide_ (fun wy => look_o s t _ _ c0 c1 c2 wy hN (hide_ f1))), fun wx => rfactor_o s t _ _ c0 c1 c2 _ _ wx hm.1 ha.1 hR (hide_ f2)⟩
end Go.Proofs.Ytklhdpkofpkmjaa
