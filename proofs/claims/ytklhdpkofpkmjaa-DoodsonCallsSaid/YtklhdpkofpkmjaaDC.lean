/- DoodsonCalls: the law's walk. -/
import Derived.Test.YtklhdpkofpkmjaaAft
import Derived.Test.YtklhdpkofpkmjaaGrp4
import Derived.Test.YtklhdpkofpkmjaaNm2
import Derived.Test.YtklhdpkofpkmjaaR11
namespace Go.Proofs.Ytklhdpkofpkmjaa
open Go.RowKit
set_option linter.unusedVariables false
theorem eq6_self (f : Nat → Int) : eq6 f f = true := by simp [eq6]
set_option maxHeartbeats 4000000 in
set_option maxRecDepth 100000 in
theorem dcalls_c (f g h3 h4 h5 : Nat → Int) (t x1 y1 x2 y2 e1 e2 e3 e4 e5 e6 e7 e8 z6 : Int) (s7 s8 : ByteArray) (b8 : Bool) (w : World)
    (HL : Hid (∀ wx : World, Calls Try.prog 39 #[] wx fun e w' => e = .returned (.bool true) ∧ Below wx.heap.size wx w'))
    (HA1 : Hid (∀ wx : World, Calls Try.prog 46 #[.agg #[.int .i8 (f 0), .int .i8 (f 1), .int .i8 (f 2), .int .i8 (f 3), .int .i8 (f 4), .int .i8 (f 5)]] wx fun e w' => e = .returned (.tuple #[.agg #[.int .i64 x1, .int .i64 y1], .int .i64 e1]) ∧ Below wx.heap.size wx w'))
    (HB1 : Hid (∀ wx : World, Calls Try.prog 53 #[.agg #[.int .i8 (f 0), .int .i8 (f 1), .int .i8 (f 2), .int .i8 (f 3), .int .i8 (f 4), .int .i8 (f 5)]] wx fun e w' => e = .returned (.tuple #[.agg #[.int .i64 x1, .int .i64 y1], .int .i64 e1]) ∧ Below wx.heap.size wx w'))
    (HA2 : Hid (∀ wx : World, Calls Try.prog 40 #[.agg #[.int .i8 (f 0), .int .i8 (f 1), .int .i8 (f 2), .int .i8 (f 3), .int .i8 (f 4), .int .i8 (f 5)], .int .i64 t] wx fun e w' => e = .returned (.tuple #[.agg #[.int .i64 x2, .int .i64 y2], .int .i64 e2]) ∧ Below wx.heap.size wx w'))
    (HB2 : Hid (∀ wx : World, Calls Try.prog 54 #[.agg #[.int .i8 (f 0), .int .i8 (f 1), .int .i8 (f 2), .int .i8 (f 3), .int .i8 (f 4), .int .i8 (f 5)], .int .i64 t] wx fun e w' => e = .returned (.tuple #[.agg #[.int .i64 x2, .int .i64 y2], .int .i64 e2]) ∧ Below wx.heap.size wx w'))
    (HK1 : Hid (∀ wx : World, Calls Try.prog 55 #[.agg #[.int .i8 (f 0), .int .i8 (f 1), .int .i8 (f 2), .int .i8 (f 3), .int .i8 (f 4), .int .i8 (f 5)]] wx fun e w' => e = .returned (.int .i64 e3) ∧ Below wx.heap.size wx w'))
    (HK2 : Hid (∀ wx : World, Calls Try.prog 56 #[.agg #[.int .i8 (f 0), .int .i8 (f 1), .int .i8 (f 2), .int .i8 (f 3), .int .i8 (f 4), .int .i8 (f 5)]] wx fun e w' => e = .returned (.int .i64 e3) ∧ Below wx.heap.size wx w'))
    (HA3 : Hid (∀ wx : World, Calls Try.prog 41 #[.agg #[.int .i8 (f 0), .int .i8 (f 1), .int .i8 (f 2), .int .i8 (f 3), .int .i8 (f 4), .int .i8 (f 5)], .agg #[.int .i8 (g 0), .int .i8 (g 1), .int .i8 (g 2), .int .i8 (g 3), .int .i8 (g 4), .int .i8 (g 5)]] wx fun e w' => e = .returned (.tuple #[.agg #[.int .i8 (h3 0), .int .i8 (h3 1), .int .i8 (h3 2), .int .i8 (h3 3), .int .i8 (h3 4), .int .i8 (h3 5)], .int .i64 e4]) ∧ Below wx.heap.size wx w'))
    (HB3 : Hid (∀ wx : World, Calls Try.prog 57 #[.agg #[.int .i8 (f 0), .int .i8 (f 1), .int .i8 (f 2), .int .i8 (f 3), .int .i8 (f 4), .int .i8 (f 5)], .agg #[.int .i8 (g 0), .int .i8 (g 1), .int .i8 (g 2), .int .i8 (g 3), .int .i8 (g 4), .int .i8 (g 5)]] wx fun e w' => e = .returned (.tuple #[.agg #[.int .i8 (h3 0), .int .i8 (h3 1), .int .i8 (h3 2), .int .i8 (h3 3), .int .i8 (h3 4), .int .i8 (h3 5)], .int .i64 e4]) ∧ Below wx.heap.size wx w'))
    (HA4 : Hid (∀ wx : World, Calls Try.prog 42 #[.agg #[.int .i8 (f 0), .int .i8 (f 1), .int .i8 (f 2), .int .i8 (f 3), .int .i8 (f 4), .int .i8 (f 5)], .agg #[.int .i8 (g 0), .int .i8 (g 1), .int .i8 (g 2), .int .i8 (g 3), .int .i8 (g 4), .int .i8 (g 5)]] wx fun e w' => e = .returned (.tuple #[.agg #[.int .i8 (h4 0), .int .i8 (h4 1), .int .i8 (h4 2), .int .i8 (h4 3), .int .i8 (h4 4), .int .i8 (h4 5)], .int .i64 e5]) ∧ Below wx.heap.size wx w'))
    (HB4 : Hid (∀ wx : World, Calls Try.prog 58 #[.agg #[.int .i8 (f 0), .int .i8 (f 1), .int .i8 (f 2), .int .i8 (f 3), .int .i8 (f 4), .int .i8 (f 5)], .agg #[.int .i8 (g 0), .int .i8 (g 1), .int .i8 (g 2), .int .i8 (g 3), .int .i8 (g 4), .int .i8 (g 5)]] wx fun e w' => e = .returned (.tuple #[.agg #[.int .i8 (h4 0), .int .i8 (h4 1), .int .i8 (h4 2), .int .i8 (h4 3), .int .i8 (h4 4), .int .i8 (h4 5)], .int .i64 e5]) ∧ Below wx.heap.size wx w'))
    (HA5 : Hid (∀ wx : World, Calls Try.prog 44 #[.agg #[.int .i8 (f 0), .int .i8 (f 1), .int .i8 (f 2), .int .i8 (f 3), .int .i8 (f 4), .int .i8 (f 5)]] wx fun e w' => e = .returned (.tuple #[.agg #[.int .i8 (h5 0), .int .i8 (h5 1), .int .i8 (h5 2), .int .i8 (h5 3), .int .i8 (h5 4), .int .i8 (h5 5)], .int .i64 e6]) ∧ Below wx.heap.size wx w'))
    (HB5 : Hid (∀ wx : World, Calls Try.prog 59 #[.agg #[.int .i8 (f 0), .int .i8 (f 1), .int .i8 (f 2), .int .i8 (f 3), .int .i8 (f 4), .int .i8 (f 5)]] wx fun e w' => e = .returned (.tuple #[.agg #[.int .i8 (h5 0), .int .i8 (h5 1), .int .i8 (h5 2), .int .i8 (h5 3), .int .i8 (h5 4), .int .i8 (h5 5)], .int .i64 e6]) ∧ Below wx.heap.size wx w'))
    (HA6 : Hid (∀ wx : World, Calls Try.prog 60 #[.agg #[.int .i8 (f 0), .int .i8 (f 1), .int .i8 (f 2), .int .i8 (f 3), .int .i8 (f 4), .int .i8 (f 5)]] wx fun e w' => e = .returned (.tuple #[.int .i64 z6, .int .i64 e7]) ∧ Below wx.heap.size wx w'))
    (HB6 : Hid (∀ wx : World, Calls Try.prog 61 #[.agg #[.int .i8 (f 0), .int .i8 (f 1), .int .i8 (f 2), .int .i8 (f 3), .int .i8 (f 4), .int .i8 (f 5)]] wx fun e w' => e = .returned (.tuple #[.int .i64 z6, .int .i64 e7]) ∧ Below wx.heap.size wx w'))
    (HA7 : Hid (∀ wx : World, Calls Try.prog 62 #[.agg #[.int .i8 (f 0), .int .i8 (f 1), .int .i8 (f 2), .int .i8 (f 3), .int .i8 (f 4), .int .i8 (f 5)]] wx fun e w' => e = .returned (.tuple #[.string s7, .int .i64 e8]) ∧ Below wx.heap.size wx w'))
    (HB7 : Hid (∀ wx : World, Calls Try.prog 63 #[.agg #[.int .i8 (f 0), .int .i8 (f 1), .int .i8 (f 2), .int .i8 (f 3), .int .i8 (f 4), .int .i8 (f 5)]] wx fun e w' => e = .returned (.tuple #[.string s7, .int .i64 e8]) ∧ Below wx.heap.size wx w'))
    (HA8 : Hid (∀ wx : World, Calls Try.prog 64 #[.agg #[.int .i8 (f 0), .int .i8 (f 1), .int .i8 (f 2), .int .i8 (f 3), .int .i8 (f 4), .int .i8 (f 5)]] wx fun e w' => e = .returned (.tuple #[.string s8, .bool b8]) ∧ Below wx.heap.size wx w'))
    (HB8 : Hid (∀ wx : World, Calls Try.prog 65 #[.agg #[.int .i8 (f 0), .int .i8 (f 1), .int .i8 (f 2), .int .i8 (f 3), .int .i8 (f 4), .int .i8 (f 5)]] wx fun e w' => e = .returned (.tuple #[.string s8, .bool b8]) ∧ Below wx.heap.size wx w'))
    : Calls Try.prog 10 #[.agg #[.int .i8 (f 0), .int .i8 (f 1), .int .i8 (f 2), .int .i8 (f 3), .int .i8 (f 4), .int .i8 (f 5)], .agg #[.int .i8 (g 0), .int .i8 (g 1), .int .i8 (g 2), .int .i8 (g 3), .int .i8 (g 4), .int .i8 (g 5)], .int .i64 t] w fun e w' => e = .returned (.bool true) ∧ Below w.heap.size w w' := by
  have M0 := (Mem.nil_ w).alloc #[.int .i8 (f 0), .int .i8 (f 1), .int .i8 (f 2), .int .i8 (f 3), .int .i8 (f 4), .int .i8 (f 5)] 54
  go_enter Try.func10, Try.ntmps10
  go_wp2_with (first
    | (go_at_call 46; (with_reducible refine (HA1.out _).mono ?_); rintro e w1 ⟨rfl, hb1⟩; have M1 : Hid (Mem [(w.heap.size + 1, #[.int .i8 (g 0), .int .i8 (g 1), .int .i8 (g 2), .int .i8 (g 3), .int .i8 (g 4), .int .i8 (g 5)], 54), (w.heap.size, #[.int .i8 (f 0), .int .i8 (f 1), .int .i8 (f 2), .int .i8 (f 3), .int .i8 (f 4), .int .i8 (f 5)], 54)] w1) := hide_ (by have := M0.step hb1; simpa using this); have hF1 := M1.out.at_ 1 rfl; have hG1 := M1.out.at_ 0 rfl)
    | (go_at_call 53; (with_reducible refine (HB1.out _).mono ?_); rintro e w2 ⟨rfl, hb2⟩; have M2 := hide_ (M1.out.step hb2); have hF2 := M2.out.at_ 2 rfl)
    | (go_at_call 40; (with_reducible refine (HA2.out _).mono ?_); rintro e w3 ⟨rfl, hb3⟩; have M3 := hide_ (M2.out.step hb3); have hF3 := M3.out.at_ 3 rfl)
    | (go_at_call 54; (with_reducible refine (HB2.out _).mono ?_); rintro e w4 ⟨rfl, hb4⟩; have M4 := hide_ (M3.out.step hb4); have hF4 := M4.out.at_ 4 rfl)
    | ((with_reducible apply wpList_load_row (hu := Try.underlying54)); (with_reducible rfl); (with_reducible rfl); rfl; (first | assumption | exact heap_alloc_last _ _ | exact heap_past (by assumption)); rfl; kernel_rfl)
    | ((with_reducible apply wpList_load_row (hu := Try.underlying35)); (with_reducible rfl); (with_reducible rfl); rfl; (first | assumption | exact heap_alloc_last _ _ | exact heap_past (by assumption)); rfl; kernel_rfl)
    | ((with_reducible apply wpList_store_new); (with_reducible rfl); (with_reducible rfl); rfl; rfl; kernel_rfl; rfl; kernel_rfl)
    | ((with_reducible apply wpList_store_blk); (with_reducible rfl); (with_reducible rfl); rfl; assumption; rfl; kernel_rfl; rfl; kernel_rfl))
  have M5 := M4.out.alloc #[.int .i64 x2, .int .i64 y2] 35
  have hg5 := (((((((Grew.refl w).alloc (.cells #[.int .i8 (f 0), .int .i8 (f 1), .int .i8 (f 2), .int .i8 (f 3), .int .i8 (f 4), .int .i8 (f 5)] 54)).alloc (.cells #[.int .i8 (g 0), .int .i8 (g 1), .int .i8 (g 2), .int .i8 (g 3), .int .i8 (g 4), .int .i8 (g 5)] 54)).step hb1).alloc (.cells #[.int .i64 x1, .int .i64 y1] 35)).step hb2).alloc (.cells #[.int .i64 x1, .int .i64 y1] 35)).step hb3
  have hg5 := ((hg5.alloc (.cells #[.int .i64 x2, .int .i64 y2] 35)).step hb4).alloc (.cells #[.int .i64 x2, .int .i64 y2] 35)
  obtain ⟨s0, s1⟩ := cells_aft (M5.at_ 3 rfl)
  obtain ⟨t0, t1⟩ := cells_aft (M5.at_ 2 rfl)
  obtain ⟨p0, p1⟩ := cells_aft (M5.at_ 1 rfl)
  obtain ⟨q0, q1⟩ := cells_aft (M5.at_ 0 rfl)
  have hFx : ∀ x : After (w4.alloc (.cells #[.int .i64 x2, .int .i64 y2] 35)), x.w.heap[w.heap.size]? = some (.cells #[.int .i8 (f 0), .int .i8 (f 1), .int .i8 (f 2), .int .i8 (f 3), .int .i8 (f 4), .int .i8 (f 5)] 54) := fun x => (M5.below x.h).at_ 5 rfl
  have f0 : ∀ x : After (w4.alloc (.cells #[.int .i64 x2, .int .i64 y2] 35)), x.w.cell? ⟨w.heap.size, 0, none⟩ = some (.int .i8 (f 0)) := fun x => (cells_ar (hFx x)).1
  have f1 : ∀ x : After (w4.alloc (.cells #[.int .i64 x2, .int .i64 y2] 35)), x.w.cell? ⟨w.heap.size, 1, none⟩ = some (.int .i8 (f 1)) := fun x => (cells_ar (hFx x)).2.1
  have f2 : ∀ x : After (w4.alloc (.cells #[.int .i64 x2, .int .i64 y2] 35)), x.w.cell? ⟨w.heap.size, 2, none⟩ = some (.int .i8 (f 2)) := fun x => (cells_ar (hFx x)).2.2.1
  have f3 : ∀ x : After (w4.alloc (.cells #[.int .i64 x2, .int .i64 y2] 35)), x.w.cell? ⟨w.heap.size, 3, none⟩ = some (.int .i8 (f 3)) := fun x => (cells_ar (hFx x)).2.2.2.1
  have f4 : ∀ x : After (w4.alloc (.cells #[.int .i64 x2, .int .i64 y2] 35)), x.w.cell? ⟨w.heap.size, 4, none⟩ = some (.int .i8 (f 4)) := fun x => (cells_ar (hFx x)).2.2.2.2.1
  have f5 : ∀ x : After (w4.alloc (.cells #[.int .i64 x2, .int .i64 y2] 35)), x.w.cell? ⟨w.heap.size, 5, none⟩ = some (.int .i8 (f 5)) := fun x => (cells_ar (hFx x)).2.2.2.2.2
  refine wp_region_after (by kernel_rfl) (by kernel_rfl) ?_
  repeat (first | go_big_quiet_skip | (go_big_quiet_want; go_big_quiet_op; first | go_big_quiet_on | (apply Exists.intro; refine ⟨fun x => ?_, ?_⟩; (any_goals (with_reducible first | exact q_below HL.out _ | exact q_below HK1.out _ | exact q_below HK2.out _)); go_big_quiet_on)))
  refine wpQuiet_nil ?_
  rintro _ ⟨x, rfl⟩
  have hbx := x.h
  have M6 := M5.below hbx
  clear s0 s1 t0 t1 p0 p1 q0 q1 hFx f0 f1 f2 f3 f4 f5
  have hg6 := hg5.step hbx
  generalize x.w = wx at hbx M6 hg6 ⊢
  clear x
  have heq3 : ∀ wy, (Op.equalIn 10000 54 (.agg #[.int .i8 (h3 0), .int .i8 (h3 1), .int .i8 (h3 2), .int .i8 (h3 3), .int .i8 (h3 4), .int .i8 (h3 5)]) (.agg #[.int .i8 (h3 0), .int .i8 (h3 1), .int .i8 (h3 2), .int .i8 (h3 3), .int .i8 (h3 4), .int .i8 (h3 5)])).run Try.prog wy = .ok true wy := fun wy => by rw [run_eq6, eq6_self]
  have heq4 : ∀ wy, (Op.equalIn 10000 54 (.agg #[.int .i8 (h4 0), .int .i8 (h4 1), .int .i8 (h4 2), .int .i8 (h4 3), .int .i8 (h4 4), .int .i8 (h4 5)]) (.agg #[.int .i8 (h4 0), .int .i8 (h4 1), .int .i8 (h4 2), .int .i8 (h4 3), .int .i8 (h4 4), .int .i8 (h4 5)])).run Try.prog wy = .ok true wy := fun wy => by rw [run_eq6, eq6_self]
  have heq5 : ∀ wy, (Op.equalIn 10000 54 (.agg #[.int .i8 (h5 0), .int .i8 (h5 1), .int .i8 (h5 2), .int .i8 (h5 3), .int .i8 (h5 4), .int .i8 (h5 5)]) (.agg #[.int .i8 (h5 0), .int .i8 (h5 1), .int .i8 (h5 2), .int .i8 (h5 3), .int .i8 (h5 4), .int .i8 (h5 5)])).run Try.prog wy = .ok true wy := fun wy => by rw [run_eq6, eq6_self]
  have hF6 := M6.at_ 5 rfl
  have hG6 := M6.at_ 4 rfl
  go_wp2_with (first
    | (go_at_call 41; (with_reducible refine (HA3.out _).mono ?_); rintro e w7 ⟨rfl, hb7⟩; have M7 := M6.below hb7; have hg7 := hg6.step hb7; have hF7 := M7.at_ 5 rfl; have hG7 := M7.at_ 4 rfl)
    | (go_at_call 57; (with_reducible refine (HB3.out _).mono ?_); rintro e w8 ⟨rfl, hb8⟩; have M8 := M7.step hb8; have hg8 := (hg7.alloc (.cells #[.int .i8 (h3 0), .int .i8 (h3 1), .int .i8 (h3 2), .int .i8 (h3 3), .int .i8 (h3 4), .int .i8 (h3 5)] 54)).step hb8; have hF8 := M8.at_ 6 rfl; have hG8 := M8.at_ 5 rfl; have hX8 := M8.at_ 0 rfl)
    | (go_at_call 42; (with_reducible refine (HA4.out _).mono ?_); rintro e w9 ⟨rfl, hb9⟩; have M9 := M8.step hb9; have hg9 := (hg8.alloc (.cells #[.int .i8 (h3 0), .int .i8 (h3 1), .int .i8 (h3 2), .int .i8 (h3 3), .int .i8 (h3 4), .int .i8 (h3 5)] 54)).step hb9; have hF9 := M9.at_ 7 rfl; have hG9 := M9.at_ 6 rfl)
    | (go_at_call 58; (with_reducible refine (HB4.out _).mono ?_); rintro e w10 ⟨rfl, hb10⟩; have M10 := M9.step hb10; have hg10 := (hg9.alloc (.cells #[.int .i8 (h4 0), .int .i8 (h4 1), .int .i8 (h4 2), .int .i8 (h4 3), .int .i8 (h4 4), .int .i8 (h4 5)] 54)).step hb10; have hF10 := M10.at_ 8 rfl; have hX10 := M10.at_ 2 rfl; have hY10 := M10.at_ 1 rfl; have hU10 := M10.at_ 0 rfl; obtain ⟨u0, u1, u2, u3, u4, u5⟩ := cells_ar (heap_past (o' := .cells #[.int .i8 (h4 0), .int .i8 (h4 1), .int .i8 (h4 2), .int .i8 (h4 3), .int .i8 (h4 4), .int .i8 (h4 5)] 54) hU10); obtain ⟨v0, v1, v2, v3, v4, v5⟩ := cells_ar (heap_alloc_last w10 (.cells #[.int .i8 (h4 0), .int .i8 (h4 1), .int .i8 (h4 2), .int .i8 (h4 3), .int .i8 (h4 4), .int .i8 (h4 5)] 54)))
    | (go_at_call 44; (with_reducible refine (HA5.out _).mono ?_); rintro e w13 ⟨rfl, hb13⟩; clear u0 u1 u2 u3 u4 u5 v0 v1 v2 v3 v4 v5; have M13 := M10.step hb13; have hg13 := (hg10.alloc (.cells #[.int .i8 (h4 0), .int .i8 (h4 1), .int .i8 (h4 2), .int .i8 (h4 3), .int .i8 (h4 4), .int .i8 (h4 5)] 54)).step hb13; have hF13 := M13.at_ 9 rfl; have hX13 := M13.at_ 3 rfl; have hY13 := M13.at_ 2 rfl; have N13 : Mem [(w7.heap.size, #[.int .i8 (h5 0), .int .i8 (h5 1), .int .i8 (h5 2), .int .i8 (h5 3), .int .i8 (h5 4), .int .i8 (h5 5)], 54), (w8.heap.size, #[.int .i8 (h3 0), .int .i8 (h3 1), .int .i8 (h3 2), .int .i8 (h3 3), .int .i8 (h3 4), .int .i8 (h3 5)], 54), (w.heap.size, #[.int .i8 (f 0), .int .i8 (f 1), .int .i8 (f 2), .int .i8 (f 3), .int .i8 (f 4), .int .i8 (f 5)], 54)] (w13.setRow w7.heap.size #[.int .i8 (h5 0), .int .i8 (h5 1), .int .i8 (h5 2), .int .i8 (h5 3), .int .i8 (h5 4), .int .i8 (h5 5)]) := Mem.cons_ (setRow_heap _ _ _ _ _ _ hX13) (Mem.cons_ ((setRow_other _ _ _ _ (Nat.ne_of_gt (lt_of_heap hX8))).trans hY13) (Mem.cons_ ((setRow_other _ _ _ _ (Nat.ne_of_lt (lt_of_heap hF7))).trans hF13) (Mem.nil_ _))); have hFs := N13.at_ 2 rfl; have hgs := hg13.setRow hg7.2 #[.int .i8 (h5 0), .int .i8 (h5 1), .int .i8 (h5 2), .int .i8 (h5 3), .int .i8 (h5 4), .int .i8 (h5 5)])
    | (go_at_call 59; (with_reducible refine (HB5.out _).mono ?_); rintro e w14 ⟨rfl, hb14⟩; have M14 := N13.below hb14; have hg14 := hgs.step hb14; have hF14 := M14.at_ 2 rfl; have hX14 := M14.at_ 0 rfl; have hY14 := M14.at_ 1 rfl; have N14 : Mem [(w7.heap.size, #[.int .i8 (h5 0), .int .i8 (h5 1), .int .i8 (h5 2), .int .i8 (h5 3), .int .i8 (h5 4), .int .i8 (h5 5)], 54), (w8.heap.size, #[.int .i8 (h5 0), .int .i8 (h5 1), .int .i8 (h5 2), .int .i8 (h5 3), .int .i8 (h5 4), .int .i8 (h5 5)], 54), (w.heap.size, #[.int .i8 (f 0), .int .i8 (f 1), .int .i8 (f 2), .int .i8 (f 3), .int .i8 (f 4), .int .i8 (f 5)], 54)] (w14.setRow w8.heap.size #[.int .i8 (h5 0), .int .i8 (h5 1), .int .i8 (h5 2), .int .i8 (h5 3), .int .i8 (h5 4), .int .i8 (h5 5)]) := Mem.cons_ ((setRow_other _ _ _ _ (Nat.ne_of_lt (lt_of_heap hX8))).trans hX14) (Mem.cons_ (setRow_heap _ _ _ _ _ _ hY14) (Mem.cons_ ((setRow_other _ _ _ _ (Nat.ne_of_lt (lt_of_heap hF8))).trans hF14) (Mem.nil_ _))); have hFt := N14.at_ 2 rfl; have hgt := hg14.setRow hg8.2 #[.int .i8 (h5 0), .int .i8 (h5 1), .int .i8 (h5 2), .int .i8 (h5 3), .int .i8 (h5 4), .int .i8 (h5 5)])
    | (go_at_call 60; (with_reducible refine (HA6.out _).mono ?_); rintro e w15 ⟨rfl, hb15⟩; have M15 := N14.below hb15; have hg15 := hgt.step hb15; have hF15 := M15.at_ 2 rfl)
    | (go_at_call 61; (with_reducible refine (HB6.out _).mono ?_); rintro e w16 ⟨rfl, hb16⟩; have M16 := M15.below hb16; have hg16 := hg15.step hb16; have hF16 := M16.at_ 2 rfl)
    | (go_at_call 62; (with_reducible refine (HA7.out _).mono ?_); rintro e w17 ⟨rfl, hb17⟩; have M17 := M16.below hb17; have hg17 := hg16.step hb17; have hF17 := M17.at_ 2 rfl)
    | (go_at_call 63; (with_reducible refine (HB7.out _).mono ?_); rintro e w18 ⟨rfl, hb18⟩; have M18 := M17.below hb18; have hg18 := hg17.step hb18; have hF18 := M18.at_ 2 rfl)
    | (go_at_call 64; (with_reducible refine (HA8.out _).mono ?_); rintro e w19 ⟨rfl, hb19⟩; have M19 := M18.below hb19; have hg19 := hg18.step hb19; have hF19 := M19.at_ 2 rfl)
    | (go_at_call 65; (with_reducible refine (HB8.out _).mono ?_); rintro e w20 ⟨rfl, hb20⟩; have M20 := M19.below hb20; have hg20 := hg19.step hb20; have hF20 := M20.at_ 2 rfl; have hX20 := M20.at_ 0 rfl; have hY20 := M20.at_ 1 rfl)
    | ((with_reducible apply wpList_load_row (hu := Try.underlying54)); (with_reducible rfl); (with_reducible rfl); rfl; (first | assumption | exact heap_alloc_last _ _ | exact heap_past (by assumption)); rfl; kernel_rfl)
    | ((with_reducible apply wpList_load_row (hu := Try.underlying35)); (with_reducible rfl); (with_reducible rfl); rfl; (first | assumption | exact heap_alloc_last _ _ | exact heap_past (by assumption)); rfl; kernel_rfl)
    | ((with_reducible apply wpList_store_new); (with_reducible rfl); (with_reducible rfl); rfl; rfl; kernel_rfl; rfl; kernel_rfl)
    | ((with_reducible apply wpList_store_blk); (with_reducible rfl); (with_reducible rfl); rfl; assumption; rfl; kernel_rfl; rfl; kernel_rfl))
  go_ret
  exact ⟨rfl, hg20.below⟩
theorem dcalls_walk (f g : Nat → Int) (t : Int) (_w2 : (Lit.int .i64 t).wf = true) (w : World) :
    Calls Try.prog 10 #[.agg #[.int .i8 (f 0), .int .i8 (f 1), .int .i8 (f 2), .int .i8 (f 3), .int .i8 (f 4), .int .i8 (f 5)], .agg #[.int .i8 (g 0), .int .i8 (g 1), .int .i8 (g 2), .int .i8 (g 3), .int .i8 (g 4), .int .i8 (g 5)], .int .i64 t] w fun e w' => e = .returned (.bool true) ∧ Below w.heap.size w w' := by
  obtain ⟨x1, y1, e1, a1, b1⟩ := speed_alike f
  obtain ⟨x2, y2, e2, a2, b2⟩ := phase_alike f t
  obtain ⟨e3, a3, b3⟩ := check_alike f
  obtain ⟨h3, e4, a4, b4⟩ := times_alike f g
  obtain ⟨h4, e5, a5, b5⟩ := over_alike f g
  obtain ⟨h5, e6, a6, b6⟩ := conj_alike f
  obtain ⟨z6, e7, a7, b7⟩ := spec_alike f
  obtain ⟨s7, e8, a8, b8⟩ := print_alike f
  obtain ⟨s8, n8, a9, b9⟩ := name_alike f
  exact dcalls_c f g h3 h4 h5 t x1 y1 x2 y2 e1 e2 e3 e4 e5 e6 e7 e8 z6 s7 s8 n8 w (hide_ lives11) (hide_ a1) (hide_ b1) (hide_ a2) (hide_ b2) (hide_ a3) (hide_ b3) (hide_ a4) (hide_ b4) (hide_ a5) (hide_ b5) (hide_ a6) (hide_ b6) (hide_ a7) (hide_ b7) (hide_ a8) (hide_ b8) (hide_ a9) (hide_ b9)
end Go.Proofs.Ytklhdpkofpkmjaa
