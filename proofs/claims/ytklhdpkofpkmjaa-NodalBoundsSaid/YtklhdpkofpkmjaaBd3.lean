/- NodalBounds: the law's walk. -/
import Derived.Test.YtklhdpkofpkmjaaBd2
import Derived.Test.YtklhdpkofpkmjaaNd6
namespace Go.Proofs.Ytklhdpkofpkmjaa
open Go.RowKit Ieee
set_option linter.unusedVariables false
set_option maxRecDepth 100000
/-- What a name's calls answer. -/
structure NameOk (s : ByteArray) (t : Int) (f : Nat) (X Y : Int) (P : Nat) : Prop where
  h49 : ∀ wx : World, Calls Try.prog 49 #[.string s, .int .i64 t] wx fun e w' => e = .returned (.tuple #[.float .f64 f, .int .i64 0]) ∧ Below wx.heap.size wx w'
  h50 : ∀ wx : World, Calls Try.prog 50 #[.string s, .int .i64 t] wx fun e w' => e = .returned (.tuple #[.agg #[.int .i64 X, .int .i64 Y], .int .i64 0]) ∧ Below wx.heap.size wx w'
  h51 : ∀ wx : World, Calls Try.prog 51 #[.agg #[.int .i64 X, .int .i64 Y]] wx fun e w' => e = .returned (.tuple #[.int .i64 (P : Int), .bool true]) ∧ Below wx.heap.size wx w'
theorem nameOk (s : ByteArray) (i : Nat) (t X Y : Int) (h0 : 0 ≤ t) (h1 : t ≤ 1048576) (hr : RowOk i (nRe t) (nIm t)) (he : turnV (tnR i (nIm t)) 3600000 = #[.int .i64 X, .int .i64 Y])
    (hf : ∀ wx : World, Calls Try.prog 90 #[.string s] wx fun e w' => e = .returned (.tuple #[.agg #[.float .f64 (rc0 i), .float .f64 (rc1 i), .float .f64 (rc2 i)], .bool true]) ∧ Below wx.heap.size wx w') :
    NameOk s t (facR i (nRe t)) X Y (tnR i (nIm t)) := by
  obtain ⟨a, b⟩ := row_calls s i t h0 h1 hr hf
  have c := fun wx => parts_ok (tnR i (nIm t)) wx hr.lt
  rw [he] at b c
  exact ⟨a, b, c⟩
set_option maxHeartbeats 8000000 in
theorem bounds_c (t0 t : Int) (w : World) (HPk : Hid (∀ wx : World, Calls Try.prog 47 #[.int .i64 t0, .int .i64 1048577] wx fun e w' => e = .returned (.int .i64 t) ∧ wx = w'))
    (f0 : Nat) (X0 Y0 : Int) (P0 : Nat) (f1 : Nat) (X1 Y1 : Int) (P1 : Nat) (f2 : Nat) (X2 Y2 : Int) (P2 : Nat) (f3 : Nat) (X3 Y3 : Int) (P3 : Nat) (f4 : Nat) (X4 Y4 : Int) (P4 : Nat) (f5 : Nat) (X5 Y5 : Int) (P5 : Nat) (f6 : Nat) (X6 Y6 : Int) (P6 : Nat)
    (B0 : Hid (FacB f0)) (T0 : Hid ((P0 : Int) ≤ 237000 ∨ 3363000 ≤ (P0 : Int)))
    (B1 : Hid (FacB f1)) (T1 : Hid ((P1 : Int) ≤ 237000 ∨ 3363000 ≤ (P1 : Int)))
    (B2 : Hid (FacB f2)) (T2 : Hid ((P2 : Int) ≤ 237000 ∨ 3363000 ≤ (P2 : Int)))
    (B3 : Hid (FacB f3)) (T3 : Hid ((P3 : Int) ≤ 237000 ∨ 3363000 ≤ (P3 : Int)))
    (B4 : Hid (FacB f4)) (T4 : Hid ((P4 : Int) ≤ 237000 ∨ 3363000 ≤ (P4 : Int)))
    (B5 : Hid (FacB f5)) (T5 : Hid ((P5 : Int) ≤ 237000 ∨ 3363000 ≤ (P5 : Int)))
    (B6 : Hid (FacB f6)) (T6 : Hid ((P6 : Int) ≤ 237000 ∨ 3363000 ≤ (P6 : Int)))
    (S1 : Hid ((FloatKind.f64.format.order f1 ONE == some .eq) = true)) (Z1 : Hid (P1 = 0)) (Z6 : Hid (P6 = 0))
    (K0 : Hid (NameOk ⟨#[75, 49]⟩ t f3 X3 Y3 P3))
    (K1 : Hid (NameOk ⟨#[75, 50]⟩ t f2 X2 Y2 P2))
    (K2 : Hid (NameOk ⟨#[77, 50]⟩ t f0 X0 Y0 P0))
    (K3 : Hid (NameOk ⟨#[77, 102]⟩ t f5 X5 Y5 P5))
    (K4 : Hid (NameOk ⟨#[77, 109]⟩ t f6 X6 Y6 P6))
    (K5 : Hid (NameOk ⟨#[78, 50]⟩ t f0 X0 Y0 P0))
    (K6 : Hid (NameOk ⟨#[79, 49]⟩ t f4 X4 Y4 P4))
    (K7 : Hid (NameOk ⟨#[80, 49]⟩ t f1 X1 Y1 P1))
    (K8 : Hid (NameOk ⟨#[81, 49]⟩ t f4 X4 Y4 P4))
    (K9 : Hid (NameOk ⟨#[83, 50]⟩ t f1 X1 Y1 P1))
    : Calls Try.prog 9 #[.int .i64 t0] w fun e w' => e = .returned (.bool true) ∧ Below w.heap.size w w' := by
  go_enter Try.func9, Try.ntmps9
  go_wp2_with (first
    | (go_at_call 47; (with_reducible refine (HPk.out _).mono ?_); rintro e w1 ⟨rfl, rfl⟩)
    | (go_at_call 37; (with_reducible refine (names37 _).mono ?_); rintro e w2 ⟨rfl, rfl⟩)
    | (go_at_call 48; (with_reducible refine (awake12 _).mono ?_); rintro e w3 ⟨rfl, hb3⟩))
  have hg3 := ((Grew.refl w).alloc (.cells names12V 9)).step hb3
  have n3 := blk_below hb3
  clear hb3 HPk
  go_loopw [4] (fun i wr => ∃ k : Nat, k ≤ 10 ∧ i = .int .i64 k ∧ wr.heap[w.heap.size]? = some (.cells names12V 9) ∧ Grew w.heap.size w wr) (fun i _ => 10 - (intOf i).toNat)
  case atStart => exact ⟨0, by omega, rfl, n3, hg3⟩
  case round =>
    clear n3 hg3
    obtain ⟨k, hk, rfl, hn, hgr⟩ := hrel
    rcases (show k = 0 ∨ k = 1 ∨ k = 2 ∨ k = 3 ∨ k = 4 ∨ k = 5 ∨ k = 6 ∨ k = 7 ∨ k = 8 ∨ k = 9 ∨ k = 10 by omega) with rfl | rfl | rfl | rfl | rfl | rfl | rfl | rfl | rfl | rfl | rfl
    · have c0 : wr.cell? ⟨w.heap.size, 0, none⟩ = some (.string ⟨#[75, 49]⟩) := cell_of_row _ _ _ _ _ _ hn
      have fg := B3.out.ge
      have fl := B3.out.le
      unfold HALF at fg
      unfold ONEH at fl
      rcases T3.out with hp | hp
      · have hq1 : decide ((237000 : Int) < (P3 : Int)) = false := decide_eq_false (by omega)
        clear hp
        go_wp2_with (first
          | (go_at_call 49; (with_reducible refine (K0.out.h49 _).mono ?_); rintro e w1 ⟨rfl, hb1⟩; have n1 := (hb1.block _ (lt_of_heap hn)).trans hn; have c1 : w1.cell? ⟨w.heap.size, 0, none⟩ = some (.string ⟨#[75, 49]⟩) := cell_of_row _ _ _ _ _ _ n1)
          | (go_at_call 50; (with_reducible refine (K0.out.h50 _).mono ?_); rintro e w2 ⟨rfl, hb2⟩; have n2 := heap_past (o' := .cells #[.int .i64 X3, .int .i64 Y3] 35) ((hb2.block _ (lt_of_heap n1)).trans n1))
          | (go_at_call 51; (with_reducible refine (K0.out.h51 _).mono ?_); rintro e w3 ⟨rfl, hb3⟩; have n3 := (hb3.block _ (lt_of_heap n2)).trans n2; have c3 : w3.cell? ⟨w.heap.size, 0, none⟩ = some (.string ⟨#[75, 49]⟩) := cell_of_row _ _ _ _ _ _ n3)
          | ((with_reducible apply wpList_load_row (hu := Try.underlying35)); (with_reducible rfl); (with_reducible rfl); rfl; exact heap_alloc_last _ _; rfl; kernel_rfl) | ((with_reducible apply wpList_store_new); (with_reducible rfl); (with_reducible rfl); rfl; rfl; kernel_rfl; rfl; kernel_rfl))
        go_roundw
        case rel => exact ⟨1, by omega, by go_num, n3, ((((hgr.step hb1).step hb2).alloc _).step hb3)⟩
        case measure => simp [intOf]
      · have hq1 : decide ((237000 : Int) < (P3 : Int)) = true := decide_eq_true (by omega)
        have hq2 : decide ((P3 : Int) < 3363000) = false := decide_eq_false (by omega)
        clear hp
        go_wp2_with (first
          | (go_at_call 49; (with_reducible refine (K0.out.h49 _).mono ?_); rintro e w1 ⟨rfl, hb1⟩; have n1 := (hb1.block _ (lt_of_heap hn)).trans hn; have c1 : w1.cell? ⟨w.heap.size, 0, none⟩ = some (.string ⟨#[75, 49]⟩) := cell_of_row _ _ _ _ _ _ n1)
          | (go_at_call 50; (with_reducible refine (K0.out.h50 _).mono ?_); rintro e w2 ⟨rfl, hb2⟩; have n2 := heap_past (o' := .cells #[.int .i64 X3, .int .i64 Y3] 35) ((hb2.block _ (lt_of_heap n1)).trans n1))
          | (go_at_call 51; (with_reducible refine (K0.out.h51 _).mono ?_); rintro e w3 ⟨rfl, hb3⟩; have n3 := (hb3.block _ (lt_of_heap n2)).trans n2; have c3 : w3.cell? ⟨w.heap.size, 0, none⟩ = some (.string ⟨#[75, 49]⟩) := cell_of_row _ _ _ _ _ _ n3)
          | ((with_reducible apply wpList_load_row (hu := Try.underlying35)); (with_reducible rfl); (with_reducible rfl); rfl; exact heap_alloc_last _ _; rfl; kernel_rfl) | ((with_reducible apply wpList_store_new); (with_reducible rfl); (with_reducible rfl); rfl; rfl; kernel_rfl; rfl; kernel_rfl))
        go_roundw
        case rel => exact ⟨1, by omega, by go_num, n3, ((((hgr.step hb1).step hb2).alloc _).step hb3)⟩
        case measure => simp [intOf]
    · have c0 : wr.cell? ⟨w.heap.size, 1, none⟩ = some (.string ⟨#[75, 50]⟩) := cell_of_row _ _ _ _ _ _ hn
      have fg := B2.out.ge
      have fl := B2.out.le
      unfold HALF at fg
      unfold ONEH at fl
      rcases T2.out with hp | hp
      · have hq1 : decide ((237000 : Int) < (P2 : Int)) = false := decide_eq_false (by omega)
        clear hp
        go_wp2_with (first
          | (go_at_call 49; (with_reducible refine (K1.out.h49 _).mono ?_); rintro e w1 ⟨rfl, hb1⟩; have n1 := (hb1.block _ (lt_of_heap hn)).trans hn; have c1 : w1.cell? ⟨w.heap.size, 1, none⟩ = some (.string ⟨#[75, 50]⟩) := cell_of_row _ _ _ _ _ _ n1)
          | (go_at_call 50; (with_reducible refine (K1.out.h50 _).mono ?_); rintro e w2 ⟨rfl, hb2⟩; have n2 := heap_past (o' := .cells #[.int .i64 X2, .int .i64 Y2] 35) ((hb2.block _ (lt_of_heap n1)).trans n1))
          | (go_at_call 51; (with_reducible refine (K1.out.h51 _).mono ?_); rintro e w3 ⟨rfl, hb3⟩; have n3 := (hb3.block _ (lt_of_heap n2)).trans n2; have c3 : w3.cell? ⟨w.heap.size, 1, none⟩ = some (.string ⟨#[75, 50]⟩) := cell_of_row _ _ _ _ _ _ n3)
          | ((with_reducible apply wpList_load_row (hu := Try.underlying35)); (with_reducible rfl); (with_reducible rfl); rfl; exact heap_alloc_last _ _; rfl; kernel_rfl) | ((with_reducible apply wpList_store_new); (with_reducible rfl); (with_reducible rfl); rfl; rfl; kernel_rfl; rfl; kernel_rfl))
        go_roundw
        case rel => exact ⟨2, by omega, by go_num, n3, ((((hgr.step hb1).step hb2).alloc _).step hb3)⟩
        case measure => simp [intOf]
      · have hq1 : decide ((237000 : Int) < (P2 : Int)) = true := decide_eq_true (by omega)
        have hq2 : decide ((P2 : Int) < 3363000) = false := decide_eq_false (by omega)
        clear hp
        go_wp2_with (first
          | (go_at_call 49; (with_reducible refine (K1.out.h49 _).mono ?_); rintro e w1 ⟨rfl, hb1⟩; have n1 := (hb1.block _ (lt_of_heap hn)).trans hn; have c1 : w1.cell? ⟨w.heap.size, 1, none⟩ = some (.string ⟨#[75, 50]⟩) := cell_of_row _ _ _ _ _ _ n1)
          | (go_at_call 50; (with_reducible refine (K1.out.h50 _).mono ?_); rintro e w2 ⟨rfl, hb2⟩; have n2 := heap_past (o' := .cells #[.int .i64 X2, .int .i64 Y2] 35) ((hb2.block _ (lt_of_heap n1)).trans n1))
          | (go_at_call 51; (with_reducible refine (K1.out.h51 _).mono ?_); rintro e w3 ⟨rfl, hb3⟩; have n3 := (hb3.block _ (lt_of_heap n2)).trans n2; have c3 : w3.cell? ⟨w.heap.size, 1, none⟩ = some (.string ⟨#[75, 50]⟩) := cell_of_row _ _ _ _ _ _ n3)
          | ((with_reducible apply wpList_load_row (hu := Try.underlying35)); (with_reducible rfl); (with_reducible rfl); rfl; exact heap_alloc_last _ _; rfl; kernel_rfl) | ((with_reducible apply wpList_store_new); (with_reducible rfl); (with_reducible rfl); rfl; rfl; kernel_rfl; rfl; kernel_rfl))
        go_roundw
        case rel => exact ⟨2, by omega, by go_num, n3, ((((hgr.step hb1).step hb2).alloc _).step hb3)⟩
        case measure => simp [intOf]
    · have c0 : wr.cell? ⟨w.heap.size, 2, none⟩ = some (.string ⟨#[77, 50]⟩) := cell_of_row _ _ _ _ _ _ hn
      have fg := B0.out.ge
      have fl := B0.out.le
      unfold HALF at fg
      unfold ONEH at fl
      rcases T0.out with hp | hp
      · have hq1 : decide ((237000 : Int) < (P0 : Int)) = false := decide_eq_false (by omega)
        clear hp
        go_wp2_with (first
          | (go_at_call 49; (with_reducible refine (K2.out.h49 _).mono ?_); rintro e w1 ⟨rfl, hb1⟩; have n1 := (hb1.block _ (lt_of_heap hn)).trans hn; have c1 : w1.cell? ⟨w.heap.size, 2, none⟩ = some (.string ⟨#[77, 50]⟩) := cell_of_row _ _ _ _ _ _ n1)
          | (go_at_call 50; (with_reducible refine (K2.out.h50 _).mono ?_); rintro e w2 ⟨rfl, hb2⟩; have n2 := heap_past (o' := .cells #[.int .i64 X0, .int .i64 Y0] 35) ((hb2.block _ (lt_of_heap n1)).trans n1))
          | (go_at_call 51; (with_reducible refine (K2.out.h51 _).mono ?_); rintro e w3 ⟨rfl, hb3⟩; have n3 := (hb3.block _ (lt_of_heap n2)).trans n2; have c3 : w3.cell? ⟨w.heap.size, 2, none⟩ = some (.string ⟨#[77, 50]⟩) := cell_of_row _ _ _ _ _ _ n3)
          | ((with_reducible apply wpList_load_row (hu := Try.underlying35)); (with_reducible rfl); (with_reducible rfl); rfl; exact heap_alloc_last _ _; rfl; kernel_rfl) | ((with_reducible apply wpList_store_new); (with_reducible rfl); (with_reducible rfl); rfl; rfl; kernel_rfl; rfl; kernel_rfl))
        go_roundw
        case rel => exact ⟨3, by omega, by go_num, n3, ((((hgr.step hb1).step hb2).alloc _).step hb3)⟩
        case measure => simp [intOf]
      · have hq1 : decide ((237000 : Int) < (P0 : Int)) = true := decide_eq_true (by omega)
        have hq2 : decide ((P0 : Int) < 3363000) = false := decide_eq_false (by omega)
        clear hp
        go_wp2_with (first
          | (go_at_call 49; (with_reducible refine (K2.out.h49 _).mono ?_); rintro e w1 ⟨rfl, hb1⟩; have n1 := (hb1.block _ (lt_of_heap hn)).trans hn; have c1 : w1.cell? ⟨w.heap.size, 2, none⟩ = some (.string ⟨#[77, 50]⟩) := cell_of_row _ _ _ _ _ _ n1)
          | (go_at_call 50; (with_reducible refine (K2.out.h50 _).mono ?_); rintro e w2 ⟨rfl, hb2⟩; have n2 := heap_past (o' := .cells #[.int .i64 X0, .int .i64 Y0] 35) ((hb2.block _ (lt_of_heap n1)).trans n1))
          | (go_at_call 51; (with_reducible refine (K2.out.h51 _).mono ?_); rintro e w3 ⟨rfl, hb3⟩; have n3 := (hb3.block _ (lt_of_heap n2)).trans n2; have c3 : w3.cell? ⟨w.heap.size, 2, none⟩ = some (.string ⟨#[77, 50]⟩) := cell_of_row _ _ _ _ _ _ n3)
          | ((with_reducible apply wpList_load_row (hu := Try.underlying35)); (with_reducible rfl); (with_reducible rfl); rfl; exact heap_alloc_last _ _; rfl; kernel_rfl) | ((with_reducible apply wpList_store_new); (with_reducible rfl); (with_reducible rfl); rfl; rfl; kernel_rfl; rfl; kernel_rfl))
        go_roundw
        case rel => exact ⟨3, by omega, by go_num, n3, ((((hgr.step hb1).step hb2).alloc _).step hb3)⟩
        case measure => simp [intOf]
    · have c0 : wr.cell? ⟨w.heap.size, 3, none⟩ = some (.string ⟨#[77, 102]⟩) := cell_of_row _ _ _ _ _ _ hn
      have fg := B5.out.ge
      have fl := B5.out.le
      unfold HALF at fg
      unfold ONEH at fl
      rcases T5.out with hp | hp
      · have hq1 : decide ((237000 : Int) < (P5 : Int)) = false := decide_eq_false (by omega)
        clear hp
        go_wp2_with (first
          | (go_at_call 49; (with_reducible refine (K3.out.h49 _).mono ?_); rintro e w1 ⟨rfl, hb1⟩; have n1 := (hb1.block _ (lt_of_heap hn)).trans hn; have c1 : w1.cell? ⟨w.heap.size, 3, none⟩ = some (.string ⟨#[77, 102]⟩) := cell_of_row _ _ _ _ _ _ n1)
          | (go_at_call 50; (with_reducible refine (K3.out.h50 _).mono ?_); rintro e w2 ⟨rfl, hb2⟩; have n2 := heap_past (o' := .cells #[.int .i64 X5, .int .i64 Y5] 35) ((hb2.block _ (lt_of_heap n1)).trans n1))
          | (go_at_call 51; (with_reducible refine (K3.out.h51 _).mono ?_); rintro e w3 ⟨rfl, hb3⟩; have n3 := (hb3.block _ (lt_of_heap n2)).trans n2; have c3 : w3.cell? ⟨w.heap.size, 3, none⟩ = some (.string ⟨#[77, 102]⟩) := cell_of_row _ _ _ _ _ _ n3)
          | ((with_reducible apply wpList_load_row (hu := Try.underlying35)); (with_reducible rfl); (with_reducible rfl); rfl; exact heap_alloc_last _ _; rfl; kernel_rfl) | ((with_reducible apply wpList_store_new); (with_reducible rfl); (with_reducible rfl); rfl; rfl; kernel_rfl; rfl; kernel_rfl))
        go_roundw
        case rel => exact ⟨4, by omega, by go_num, n3, ((((hgr.step hb1).step hb2).alloc _).step hb3)⟩
        case measure => simp [intOf]
      · have hq1 : decide ((237000 : Int) < (P5 : Int)) = true := decide_eq_true (by omega)
        have hq2 : decide ((P5 : Int) < 3363000) = false := decide_eq_false (by omega)
        clear hp
        go_wp2_with (first
          | (go_at_call 49; (with_reducible refine (K3.out.h49 _).mono ?_); rintro e w1 ⟨rfl, hb1⟩; have n1 := (hb1.block _ (lt_of_heap hn)).trans hn; have c1 : w1.cell? ⟨w.heap.size, 3, none⟩ = some (.string ⟨#[77, 102]⟩) := cell_of_row _ _ _ _ _ _ n1)
          | (go_at_call 50; (with_reducible refine (K3.out.h50 _).mono ?_); rintro e w2 ⟨rfl, hb2⟩; have n2 := heap_past (o' := .cells #[.int .i64 X5, .int .i64 Y5] 35) ((hb2.block _ (lt_of_heap n1)).trans n1))
          | (go_at_call 51; (with_reducible refine (K3.out.h51 _).mono ?_); rintro e w3 ⟨rfl, hb3⟩; have n3 := (hb3.block _ (lt_of_heap n2)).trans n2; have c3 : w3.cell? ⟨w.heap.size, 3, none⟩ = some (.string ⟨#[77, 102]⟩) := cell_of_row _ _ _ _ _ _ n3)
          | ((with_reducible apply wpList_load_row (hu := Try.underlying35)); (with_reducible rfl); (with_reducible rfl); rfl; exact heap_alloc_last _ _; rfl; kernel_rfl) | ((with_reducible apply wpList_store_new); (with_reducible rfl); (with_reducible rfl); rfl; rfl; kernel_rfl; rfl; kernel_rfl))
        go_roundw
        case rel => exact ⟨4, by omega, by go_num, n3, ((((hgr.step hb1).step hb2).alloc _).step hb3)⟩
        case measure => simp [intOf]
    · have c0 : wr.cell? ⟨w.heap.size, 4, none⟩ = some (.string ⟨#[77, 109]⟩) := cell_of_row _ _ _ _ _ _ hn
      have fg := B6.out.ge
      have fl := B6.out.le
      unfold HALF at fg
      unfold ONEH at fl
      have hz := Z6.out
      subst hz
      go_wp2_with (first
        | (go_at_call 49; (with_reducible refine (K4.out.h49 _).mono ?_); rintro e w1 ⟨rfl, hb1⟩; have n1 := (hb1.block _ (lt_of_heap hn)).trans hn; have c1 : w1.cell? ⟨w.heap.size, 4, none⟩ = some (.string ⟨#[77, 109]⟩) := cell_of_row _ _ _ _ _ _ n1)
        | (go_at_call 50; (with_reducible refine (K4.out.h50 _).mono ?_); rintro e w2 ⟨rfl, hb2⟩; have n2 := heap_past (o' := .cells #[.int .i64 X6, .int .i64 Y6] 35) ((hb2.block _ (lt_of_heap n1)).trans n1))
        | (go_at_call 51; (with_reducible refine (K4.out.h51 _).mono ?_); rintro e w3 ⟨rfl, hb3⟩; have n3 := (hb3.block _ (lt_of_heap n2)).trans n2; have c3 : w3.cell? ⟨w.heap.size, 4, none⟩ = some (.string ⟨#[77, 109]⟩) := cell_of_row _ _ _ _ _ _ n3)
        | ((with_reducible apply wpList_load_row (hu := Try.underlying35)); (with_reducible rfl); (with_reducible rfl); rfl; exact heap_alloc_last _ _; rfl; kernel_rfl) | ((with_reducible apply wpList_store_new); (with_reducible rfl); (with_reducible rfl); rfl; rfl; kernel_rfl; rfl; kernel_rfl))
      go_roundw
      case rel => exact ⟨5, by omega, by go_num, n3, ((((hgr.step hb1).step hb2).alloc _).step hb3)⟩
      case measure => simp [intOf]
    · have c0 : wr.cell? ⟨w.heap.size, 5, none⟩ = some (.string ⟨#[78, 50]⟩) := cell_of_row _ _ _ _ _ _ hn
      have fg := B0.out.ge
      have fl := B0.out.le
      unfold HALF at fg
      unfold ONEH at fl
      rcases T0.out with hp | hp
      · have hq1 : decide ((237000 : Int) < (P0 : Int)) = false := decide_eq_false (by omega)
        clear hp
        go_wp2_with (first
          | (go_at_call 49; (with_reducible refine (K5.out.h49 _).mono ?_); rintro e w1 ⟨rfl, hb1⟩; have n1 := (hb1.block _ (lt_of_heap hn)).trans hn; have c1 : w1.cell? ⟨w.heap.size, 5, none⟩ = some (.string ⟨#[78, 50]⟩) := cell_of_row _ _ _ _ _ _ n1)
          | (go_at_call 50; (with_reducible refine (K5.out.h50 _).mono ?_); rintro e w2 ⟨rfl, hb2⟩; have n2 := heap_past (o' := .cells #[.int .i64 X0, .int .i64 Y0] 35) ((hb2.block _ (lt_of_heap n1)).trans n1))
          | (go_at_call 51; (with_reducible refine (K5.out.h51 _).mono ?_); rintro e w3 ⟨rfl, hb3⟩; have n3 := (hb3.block _ (lt_of_heap n2)).trans n2; have c3 : w3.cell? ⟨w.heap.size, 5, none⟩ = some (.string ⟨#[78, 50]⟩) := cell_of_row _ _ _ _ _ _ n3)
          | ((with_reducible apply wpList_load_row (hu := Try.underlying35)); (with_reducible rfl); (with_reducible rfl); rfl; exact heap_alloc_last _ _; rfl; kernel_rfl) | ((with_reducible apply wpList_store_new); (with_reducible rfl); (with_reducible rfl); rfl; rfl; kernel_rfl; rfl; kernel_rfl))
        go_roundw
        case rel => exact ⟨6, by omega, by go_num, n3, ((((hgr.step hb1).step hb2).alloc _).step hb3)⟩
        case measure => simp [intOf]
      · have hq1 : decide ((237000 : Int) < (P0 : Int)) = true := decide_eq_true (by omega)
        have hq2 : decide ((P0 : Int) < 3363000) = false := decide_eq_false (by omega)
        clear hp
        go_wp2_with (first
          | (go_at_call 49; (with_reducible refine (K5.out.h49 _).mono ?_); rintro e w1 ⟨rfl, hb1⟩; have n1 := (hb1.block _ (lt_of_heap hn)).trans hn; have c1 : w1.cell? ⟨w.heap.size, 5, none⟩ = some (.string ⟨#[78, 50]⟩) := cell_of_row _ _ _ _ _ _ n1)
          | (go_at_call 50; (with_reducible refine (K5.out.h50 _).mono ?_); rintro e w2 ⟨rfl, hb2⟩; have n2 := heap_past (o' := .cells #[.int .i64 X0, .int .i64 Y0] 35) ((hb2.block _ (lt_of_heap n1)).trans n1))
          | (go_at_call 51; (with_reducible refine (K5.out.h51 _).mono ?_); rintro e w3 ⟨rfl, hb3⟩; have n3 := (hb3.block _ (lt_of_heap n2)).trans n2; have c3 : w3.cell? ⟨w.heap.size, 5, none⟩ = some (.string ⟨#[78, 50]⟩) := cell_of_row _ _ _ _ _ _ n3)
          | ((with_reducible apply wpList_load_row (hu := Try.underlying35)); (with_reducible rfl); (with_reducible rfl); rfl; exact heap_alloc_last _ _; rfl; kernel_rfl) | ((with_reducible apply wpList_store_new); (with_reducible rfl); (with_reducible rfl); rfl; rfl; kernel_rfl; rfl; kernel_rfl))
        go_roundw
        case rel => exact ⟨6, by omega, by go_num, n3, ((((hgr.step hb1).step hb2).alloc _).step hb3)⟩
        case measure => simp [intOf]
    · have c0 : wr.cell? ⟨w.heap.size, 6, none⟩ = some (.string ⟨#[79, 49]⟩) := cell_of_row _ _ _ _ _ _ hn
      have fg := B4.out.ge
      have fl := B4.out.le
      unfold HALF at fg
      unfold ONEH at fl
      rcases T4.out with hp | hp
      · have hq1 : decide ((237000 : Int) < (P4 : Int)) = false := decide_eq_false (by omega)
        clear hp
        go_wp2_with (first
          | (go_at_call 49; (with_reducible refine (K6.out.h49 _).mono ?_); rintro e w1 ⟨rfl, hb1⟩; have n1 := (hb1.block _ (lt_of_heap hn)).trans hn; have c1 : w1.cell? ⟨w.heap.size, 6, none⟩ = some (.string ⟨#[79, 49]⟩) := cell_of_row _ _ _ _ _ _ n1)
          | (go_at_call 50; (with_reducible refine (K6.out.h50 _).mono ?_); rintro e w2 ⟨rfl, hb2⟩; have n2 := heap_past (o' := .cells #[.int .i64 X4, .int .i64 Y4] 35) ((hb2.block _ (lt_of_heap n1)).trans n1))
          | (go_at_call 51; (with_reducible refine (K6.out.h51 _).mono ?_); rintro e w3 ⟨rfl, hb3⟩; have n3 := (hb3.block _ (lt_of_heap n2)).trans n2; have c3 : w3.cell? ⟨w.heap.size, 6, none⟩ = some (.string ⟨#[79, 49]⟩) := cell_of_row _ _ _ _ _ _ n3)
          | ((with_reducible apply wpList_load_row (hu := Try.underlying35)); (with_reducible rfl); (with_reducible rfl); rfl; exact heap_alloc_last _ _; rfl; kernel_rfl) | ((with_reducible apply wpList_store_new); (with_reducible rfl); (with_reducible rfl); rfl; rfl; kernel_rfl; rfl; kernel_rfl))
        go_roundw
        case rel => exact ⟨7, by omega, by go_num, n3, ((((hgr.step hb1).step hb2).alloc _).step hb3)⟩
        case measure => simp [intOf]
      · have hq1 : decide ((237000 : Int) < (P4 : Int)) = true := decide_eq_true (by omega)
        have hq2 : decide ((P4 : Int) < 3363000) = false := decide_eq_false (by omega)
        clear hp
        go_wp2_with (first
          | (go_at_call 49; (with_reducible refine (K6.out.h49 _).mono ?_); rintro e w1 ⟨rfl, hb1⟩; have n1 := (hb1.block _ (lt_of_heap hn)).trans hn; have c1 : w1.cell? ⟨w.heap.size, 6, none⟩ = some (.string ⟨#[79, 49]⟩) := cell_of_row _ _ _ _ _ _ n1)
          | (go_at_call 50; (with_reducible refine (K6.out.h50 _).mono ?_); rintro e w2 ⟨rfl, hb2⟩; have n2 := heap_past (o' := .cells #[.int .i64 X4, .int .i64 Y4] 35) ((hb2.block _ (lt_of_heap n1)).trans n1))
          | (go_at_call 51; (with_reducible refine (K6.out.h51 _).mono ?_); rintro e w3 ⟨rfl, hb3⟩; have n3 := (hb3.block _ (lt_of_heap n2)).trans n2; have c3 : w3.cell? ⟨w.heap.size, 6, none⟩ = some (.string ⟨#[79, 49]⟩) := cell_of_row _ _ _ _ _ _ n3)
          | ((with_reducible apply wpList_load_row (hu := Try.underlying35)); (with_reducible rfl); (with_reducible rfl); rfl; exact heap_alloc_last _ _; rfl; kernel_rfl) | ((with_reducible apply wpList_store_new); (with_reducible rfl); (with_reducible rfl); rfl; rfl; kernel_rfl; rfl; kernel_rfl))
        go_roundw
        case rel => exact ⟨7, by omega, by go_num, n3, ((((hgr.step hb1).step hb2).alloc _).step hb3)⟩
        case measure => simp [intOf]
    · have c0 : wr.cell? ⟨w.heap.size, 7, none⟩ = some (.string ⟨#[80, 49]⟩) := cell_of_row _ _ _ _ _ _ hn
      have fg := B1.out.ge
      have fl := B1.out.le
      unfold HALF at fg
      unfold ONEH at fl
      have hz := Z1.out
      subst hz
      have st := S1.out
      unfold ONE at st
      have st2 : (FloatKind.f64.format.order f1 4607182418800017408 != some .eq) = false := by simpa using st
      go_wp2_with (first
        | (go_at_call 49; (with_reducible refine (K7.out.h49 _).mono ?_); rintro e w1 ⟨rfl, hb1⟩; have n1 := (hb1.block _ (lt_of_heap hn)).trans hn; have c1 : w1.cell? ⟨w.heap.size, 7, none⟩ = some (.string ⟨#[80, 49]⟩) := cell_of_row _ _ _ _ _ _ n1)
        | (go_at_call 50; (with_reducible refine (K7.out.h50 _).mono ?_); rintro e w2 ⟨rfl, hb2⟩; have n2 := heap_past (o' := .cells #[.int .i64 X1, .int .i64 Y1] 35) ((hb2.block _ (lt_of_heap n1)).trans n1))
        | (go_at_call 51; (with_reducible refine (K7.out.h51 _).mono ?_); rintro e w3 ⟨rfl, hb3⟩; have n3 := (hb3.block _ (lt_of_heap n2)).trans n2; have c3 : w3.cell? ⟨w.heap.size, 7, none⟩ = some (.string ⟨#[80, 49]⟩) := cell_of_row _ _ _ _ _ _ n3)
        | ((with_reducible apply wpList_load_row (hu := Try.underlying35)); (with_reducible rfl); (with_reducible rfl); rfl; exact heap_alloc_last _ _; rfl; kernel_rfl) | ((with_reducible apply wpList_store_new); (with_reducible rfl); (with_reducible rfl); rfl; rfl; kernel_rfl; rfl; kernel_rfl))
      go_roundw
      case rel => exact ⟨8, by omega, by go_num, n3, ((((hgr.step hb1).step hb2).alloc _).step hb3)⟩
      case measure => simp [intOf]
    · have c0 : wr.cell? ⟨w.heap.size, 8, none⟩ = some (.string ⟨#[81, 49]⟩) := cell_of_row _ _ _ _ _ _ hn
      have fg := B4.out.ge
      have fl := B4.out.le
      unfold HALF at fg
      unfold ONEH at fl
      rcases T4.out with hp | hp
      · have hq1 : decide ((237000 : Int) < (P4 : Int)) = false := decide_eq_false (by omega)
        clear hp
        go_wp2_with (first
          | (go_at_call 49; (with_reducible refine (K8.out.h49 _).mono ?_); rintro e w1 ⟨rfl, hb1⟩; have n1 := (hb1.block _ (lt_of_heap hn)).trans hn; have c1 : w1.cell? ⟨w.heap.size, 8, none⟩ = some (.string ⟨#[81, 49]⟩) := cell_of_row _ _ _ _ _ _ n1)
          | (go_at_call 50; (with_reducible refine (K8.out.h50 _).mono ?_); rintro e w2 ⟨rfl, hb2⟩; have n2 := heap_past (o' := .cells #[.int .i64 X4, .int .i64 Y4] 35) ((hb2.block _ (lt_of_heap n1)).trans n1))
          | (go_at_call 51; (with_reducible refine (K8.out.h51 _).mono ?_); rintro e w3 ⟨rfl, hb3⟩; have n3 := (hb3.block _ (lt_of_heap n2)).trans n2; have c3 : w3.cell? ⟨w.heap.size, 8, none⟩ = some (.string ⟨#[81, 49]⟩) := cell_of_row _ _ _ _ _ _ n3)
          | ((with_reducible apply wpList_load_row (hu := Try.underlying35)); (with_reducible rfl); (with_reducible rfl); rfl; exact heap_alloc_last _ _; rfl; kernel_rfl) | ((with_reducible apply wpList_store_new); (with_reducible rfl); (with_reducible rfl); rfl; rfl; kernel_rfl; rfl; kernel_rfl))
        go_roundw
        case rel => exact ⟨9, by omega, by go_num, n3, ((((hgr.step hb1).step hb2).alloc _).step hb3)⟩
        case measure => simp [intOf]
      · have hq1 : decide ((237000 : Int) < (P4 : Int)) = true := decide_eq_true (by omega)
        have hq2 : decide ((P4 : Int) < 3363000) = false := decide_eq_false (by omega)
        clear hp
        go_wp2_with (first
          | (go_at_call 49; (with_reducible refine (K8.out.h49 _).mono ?_); rintro e w1 ⟨rfl, hb1⟩; have n1 := (hb1.block _ (lt_of_heap hn)).trans hn; have c1 : w1.cell? ⟨w.heap.size, 8, none⟩ = some (.string ⟨#[81, 49]⟩) := cell_of_row _ _ _ _ _ _ n1)
          | (go_at_call 50; (with_reducible refine (K8.out.h50 _).mono ?_); rintro e w2 ⟨rfl, hb2⟩; have n2 := heap_past (o' := .cells #[.int .i64 X4, .int .i64 Y4] 35) ((hb2.block _ (lt_of_heap n1)).trans n1))
          | (go_at_call 51; (with_reducible refine (K8.out.h51 _).mono ?_); rintro e w3 ⟨rfl, hb3⟩; have n3 := (hb3.block _ (lt_of_heap n2)).trans n2; have c3 : w3.cell? ⟨w.heap.size, 8, none⟩ = some (.string ⟨#[81, 49]⟩) := cell_of_row _ _ _ _ _ _ n3)
          | ((with_reducible apply wpList_load_row (hu := Try.underlying35)); (with_reducible rfl); (with_reducible rfl); rfl; exact heap_alloc_last _ _; rfl; kernel_rfl) | ((with_reducible apply wpList_store_new); (with_reducible rfl); (with_reducible rfl); rfl; rfl; kernel_rfl; rfl; kernel_rfl))
        go_roundw
        case rel => exact ⟨9, by omega, by go_num, n3, ((((hgr.step hb1).step hb2).alloc _).step hb3)⟩
        case measure => simp [intOf]
    · have c0 : wr.cell? ⟨w.heap.size, 9, none⟩ = some (.string ⟨#[83, 50]⟩) := cell_of_row _ _ _ _ _ _ hn
      have fg := B1.out.ge
      have fl := B1.out.le
      unfold HALF at fg
      unfold ONEH at fl
      have hz := Z1.out
      subst hz
      have st := S1.out
      unfold ONE at st
      have st2 : (FloatKind.f64.format.order f1 4607182418800017408 != some .eq) = false := by simpa using st
      go_wp2_with (first
        | (go_at_call 49; (with_reducible refine (K9.out.h49 _).mono ?_); rintro e w1 ⟨rfl, hb1⟩; have n1 := (hb1.block _ (lt_of_heap hn)).trans hn; have c1 : w1.cell? ⟨w.heap.size, 9, none⟩ = some (.string ⟨#[83, 50]⟩) := cell_of_row _ _ _ _ _ _ n1)
        | (go_at_call 50; (with_reducible refine (K9.out.h50 _).mono ?_); rintro e w2 ⟨rfl, hb2⟩; have n2 := heap_past (o' := .cells #[.int .i64 X1, .int .i64 Y1] 35) ((hb2.block _ (lt_of_heap n1)).trans n1))
        | (go_at_call 51; (with_reducible refine (K9.out.h51 _).mono ?_); rintro e w3 ⟨rfl, hb3⟩; have n3 := (hb3.block _ (lt_of_heap n2)).trans n2; have c3 : w3.cell? ⟨w.heap.size, 9, none⟩ = some (.string ⟨#[83, 50]⟩) := cell_of_row _ _ _ _ _ _ n3)
        | ((with_reducible apply wpList_load_row (hu := Try.underlying35)); (with_reducible rfl); (with_reducible rfl); rfl; exact heap_alloc_last _ _; rfl; kernel_rfl) | ((with_reducible apply wpList_store_new); (with_reducible rfl); (with_reducible rfl); rfl; rfl; kernel_rfl; rfl; kernel_rfl))
      go_roundw
      case rel => exact ⟨10, by omega, by go_num, n3, ((((hgr.step hb1).step hb2).alloc _).step hb3)⟩
      case measure => simp [intOf]
    · have q0 := B0.out.eq
      have q4 := B4.out.eq
      have SA := hide_ (fun wx => same_turn X0 Y0 wx)
      have SB := hide_ (fun wx => same_turn X4 Y4 wx)
      go_wp2_with (first
        | (go_at_call 49; (with_reducible refine (K2.out.h49 _).mono ?_); rintro e w1 ⟨rfl, hb1⟩)
        | (go_at_call 49; (with_reducible refine (K5.out.h49 _).mono ?_); rintro e w2 ⟨rfl, hb2⟩)
        | (go_at_call 49; (with_reducible refine (K6.out.h49 _).mono ?_); rintro e w3 ⟨rfl, hb3⟩)
        | (go_at_call 49; (with_reducible refine (K8.out.h49 _).mono ?_); rintro e w4 ⟨rfl, hb4⟩)
        | (go_at_call 50; (with_reducible refine (K2.out.h50 _).mono ?_); rintro e w5 ⟨rfl, hb5⟩)
        | (go_at_call 50; (with_reducible refine (K5.out.h50 _).mono ?_); rintro e w6 ⟨rfl, hb6⟩; have a6 := blk_below hb6)
        | (go_at_call 50; (with_reducible refine (K6.out.h50 _).mono ?_); rintro e w7 ⟨rfl, hb7⟩; have a7 := (hb7.block _ (by have := lt_of_heap a6; simp; omega)).trans (heap_past (o' := .cells #[.int .i64 X0, .int .i64 Y0] 35) a6); have b7 := blk_below hb7)
        | (go_at_call 50; (with_reducible refine (K8.out.h50 _).mono ?_); rintro e w8 ⟨rfl, hb8⟩; have a8 := (hb8.block _ (by have := lt_of_heap a7; simp; omega)).trans (heap_past (o' := .cells #[.int .i64 X4, .int .i64 Y4] 35) a7); have b8 := (hb8.block _ (by have := lt_of_heap b7; simp; omega)).trans (heap_past (o' := .cells #[.int .i64 X4, .int .i64 Y4] 35) b7); have d8 := blk_below hb8; obtain ⟨a80, a81⟩ := cells_two (heap_past (o' := .cells #[.int .i64 X4, .int .i64 Y4] 35) a8); obtain ⟨b80, b81⟩ := cells_two (heap_past (o' := .cells #[.int .i64 X4, .int .i64 Y4] 35) b8); obtain ⟨d80, d81⟩ := cells_two (heap_past (o' := .cells #[.int .i64 X4, .int .i64 Y4] 35) d8); obtain ⟨e80, e81⟩ := cells_two (heap_alloc_last w8 (.cells #[.int .i64 X4, .int .i64 Y4] 35)))
        | (go_at_call 52; (with_reducible refine (SA.out _).mono ?_); rintro e w9 ⟨rfl, hb9⟩; have d9 := (hb9.block _ (lt_of_heap (heap_past (o' := .cells #[.int .i64 X4, .int .i64 Y4] 35) d8))).trans (heap_past (o' := .cells #[.int .i64 X4, .int .i64 Y4] 35) d8); have e9 := (hb9.block _ (by simp)).trans (heap_alloc_last w8 (.cells #[.int .i64 X4, .int .i64 Y4] 35)); obtain ⟨d90, d91⟩ := cells_two d9; obtain ⟨e90, e91⟩ := cells_two e9)
        | (go_at_call 52; (with_reducible refine (SB.out _).mono ?_); rintro e w10 ⟨rfl, hb10⟩)
        | ((with_reducible apply wpList_load_row (hu := Try.underlying35)); (with_reducible rfl); (with_reducible rfl); rfl; (first | assumption | exact heap_alloc_last _ _ | exact heap_past (by assumption)); rfl; kernel_rfl) | ((with_reducible apply wpList_store_new); (with_reducible rfl); (with_reducible rfl); rfl; rfl; kernel_rfl; rfl; kernel_rfl))
      go_ret
      refine ⟨rfl, ?_⟩
      have hg4 := (((hgr.step hb1).step hb2).step hb3).step hb4
      have hg5 := hg4.step hb5
      exact Grew.below (by repeat (first | exact Grew.refl _ | assumption | refine Grew.alloc ?_ _ | refine Grew.drewN ?_ _ | refine Grew.drew ?_ | refine Grew.setRow ?_ (by first | assumption | (simp; done) | (simp; omega) | omega) _ | refine Grew.setCell ?_ (by first | assumption | (simp; done) | (simp; omega) | omega) _ | refine Grew.step ?_ (by assumption)))
theorem bounds_walk (t0 : Int) (_w0 : (Lit.int .i64 t0).wf = true) (w : World) : Calls Try.prog 9 #[.int .i64 t0] w fun e w' => e = .returned (.bool true) ∧ Below w.heap.size w w' := by
  have hp := fun wx => pick_ok t0 1048577 wx (by omega) (by omega)
  have ht : 0 ≤ t0 % ((1048577 : Nat) : Int) ∧ t0 % ((1048577 : Nat) : Int) ≤ 1048576 := by omega
  generalize t0 % ((1048577 : Nat) : Int) = t at *
  obtain ⟨h0, h1⟩ := ht
  have hr := nRe_abs t
  have hi := nIm_abs t
  have r0 := rowOk0 hr hi
  obtain ⟨X0, Y0, E0⟩ := turnV_two (tnR 0 (nIm t)) 3600000
  have r1 := rowOk1 hr hi
  obtain ⟨X1, Y1, E1⟩ := turnV_two (tnR 1 (nIm t)) 3600000
  have r2 := rowOk2 hr hi
  obtain ⟨X2, Y2, E2⟩ := turnV_two (tnR 2 (nIm t)) 3600000
  have r3 := rowOk3 hr hi
  obtain ⟨X3, Y3, E3⟩ := turnV_two (tnR 3 (nIm t)) 3600000
  have r4 := rowOk4 hr hi
  obtain ⟨X4, Y4, E4⟩ := turnV_two (tnR 4 (nIm t)) 3600000
  have r5 := rowOk5 hr hi
  obtain ⟨X5, Y5, E5⟩ := turnV_two (tnR 5 (nIm t)) 3600000
  have r6 := rowOk6 hr hi
  obtain ⟨X6, Y6, E6⟩ := turnV_two (tnR 6 (nIm t)) 3600000
  exact bounds_c t0 t w (hide_ hp) (facR 0 (nRe t)) X0 Y0 (tnR 0 (nIm t)) (facR 1 (nRe t)) X1 Y1 (tnR 1 (nIm t)) (facR 2 (nRe t)) X2 Y2 (tnR 2 (nIm t)) (facR 3 (nRe t)) X3 Y3 (tnR 3 (nIm t)) (facR 4 (nRe t)) X4 Y4 (tnR 4 (nIm t)) (facR 5 (nRe t)) X5 Y5 (tnR 5 (nIm t)) (facR 6 (nRe t)) X6 Y6 (tnR 6 (nIm t)) (hide_ r0.fb) (hide_ r0.tb) (hide_ r1.fb) (hide_ r1.tb) (hide_ r2.fb) (hide_ r2.tb) (hide_ r3.fb) (hide_ r3.tb) (hide_ r4.fb) (hide_ r4.tb) (hide_ r5.fb) (hide_ r5.tb) (hide_ r6.fb) (hide_ r6.tb) (hide_ (still1 hr)) (hide_ (tn1 hi)) (hide_ (tn6 hi)) (hide_ (nameOk _ 3 t X3 Y3 h0 h1 r3 E3 find_K1.1)) (hide_ (nameOk _ 2 t X2 Y2 h0 h1 r2 E2 find_K2.1)) (hide_ (nameOk _ 0 t X0 Y0 h0 h1 r0 E0 find_M2.1)) (hide_ (nameOk _ 5 t X5 Y5 h0 h1 r5 E5 find_Mf.1)) (hide_ (nameOk _ 6 t X6 Y6 h0 h1 r6 E6 find_Mm.1)) (hide_ (nameOk _ 0 t X0 Y0 h0 h1 r0 E0 find_N2.1)) (hide_ (nameOk _ 4 t X4 Y4 h0 h1 r4 E4 find_O1.1)) (hide_ (nameOk _ 1 t X1 Y1 h0 h1 r1 E1 find_P1.1)) (hide_ (nameOk _ 4 t X4 Y4 h0 h1 r4 E4 find_Q1.1)) (hide_ (nameOk _ 1 t X1 Y1 h0 h1 r1 E1 find_S2.1))
end Go.Proofs.Ytklhdpkofpkmjaa
