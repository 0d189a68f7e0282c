/- second.pick. Differences as data. -/
import Derived.Test.YtcibbnphkpaifaaSr
namespace Go.Proofs.Ytcibbnphkpaifaa
open Go.RowKit
set_option linter.unusedVariables false
set_option maxRecDepth 100000
theorem cells_14 {w : World} {g : Nat} {a0 a1 a2 a3 a4 a5 a6 b0 b1 b2 b3 b4 b5 b6 : Value} {T : TypeId} (h : w.heap[g]? = some (.cells #[a0, a1, a2, a3, a4, a5, a6, b0, b1, b2, b3, b4, b5, b6] T)) :
    (w.cell? ⟨g, 0, none⟩ = some a0 ∧ w.cell? ⟨g, 1, none⟩ = some a1 ∧ w.cell? ⟨g, 2, none⟩ = some a2 ∧ w.cell? ⟨g, 3, none⟩ = some a3 ∧ w.cell? ⟨g, 4, none⟩ = some a4 ∧ w.cell? ⟨g, 5, none⟩ = some a5 ∧ w.cell? ⟨g, 6, none⟩ = some a6) ∧
    (w.cell? ⟨g, 7, none⟩ = some b0 ∧ w.cell? ⟨g, 8, none⟩ = some b1 ∧ w.cell? ⟨g, 9, none⟩ = some b2 ∧ w.cell? ⟨g, 10, none⟩ = some b3 ∧ w.cell? ⟨g, 11, none⟩ = some b4 ∧ w.cell? ⟨g, 12, none⟩ = some b5 ∧ w.cell? ⟨g, 13, none⟩ = some b6) :=
  ⟨⟨cell_of_row _ _ _ _ _ _ h, cell_of_row _ _ _ _ _ _ h, cell_of_row _ _ _ _ _ _ h, cell_of_row _ _ _ _ _ _ h, cell_of_row _ _ _ _ _ _ h, cell_of_row _ _ _ _ _ _ h, cell_of_row _ _ _ _ _ _ h⟩, cell_of_row _ _ _ _ _ _ h, cell_of_row _ _ _ _ _ _ h, cell_of_row _ _ _ _ _ _ h, cell_of_row _ _ _ _ _ _ h, cell_of_row _ _ _ _ _ _ h, cell_of_row _ _ _ _ _ _ h, cell_of_row _ _ _ _ _ _ h⟩
set_option maxHeartbeats 6400000 in
theorem pick_low (ka kb : Int) (s1 s2 s3 s4 : Bool) (p1 q1 p2 q2 p3 q3 p4 q4 : Option Addr) (n1 c1 m1 d1 n2 c2 m2 d2 n3 c3 m3 d3 n4 c4 m4 d4 : Nat) (w : World) :
    Calls Try.prog 59 #[.agg #[.int .i64 ka, .bool s1, .slice p1 n1 c1, .slice q1 m1 d1, .bool s2, .slice p2 n2 c2, .slice q2 m2 d2, .int .i64 kb, .bool s3, .slice p3 n3 c3, .slice q3 m3 d3, .bool s4, .slice p4 n4 c4, .slice q4 m4 d4], .bool false] w fun e w' => e = .returned (.agg #[.int .i64 kb, .bool s3, .slice p3 n3 c3, .slice q3 m3 d3, .bool s4, .slice p4 n4 c4, .slice q4 m4 d4]) ∧ Below w.heap.size w w' := by
  go_enter Try.func59, Try.ntmps59
  go_wp2_with (first | ((with_reducible apply wpList_store_new); (with_reducible rfl); (with_reducible rfl); rfl; rfl; kernel_rfl; rfl; kernel_rfl) | ((with_reducible apply wpList_store_blk); (with_reducible rfl); (with_reducible rfl); rfl; assumption; rfl; kernel_rfl; rfl; kernel_rfl))
  refine ret_c rfl (w.heap.size + 1) 46 _ _ rfl (heap_at1 _ _ _) Try.underlying46 rfl (by kernel_rfl) rfl ?_
  exact ⟨rfl, (below_alloc _ _).alloc (by simp) _⟩
set_option maxHeartbeats 6400000 in
theorem pick_top (ka kb : Int) (s1 s2 s3 s4 : Bool) (p1 q1 p2 q2 p3 q3 p4 q4 : Option Addr) (n1 c1 m1 d1 n2 c2 m2 d2 n3 c3 m3 d3 n4 c4 m4 d4 : Nat) (w : World) :
    Calls Try.prog 59 #[.agg #[.int .i64 ka, .bool s1, .slice p1 n1 c1, .slice q1 m1 d1, .bool s2, .slice p2 n2 c2, .slice q2 m2 d2, .int .i64 kb, .bool s3, .slice p3 n3 c3, .slice q3 m3 d3, .bool s4, .slice p4 n4 c4, .slice q4 m4 d4], .bool true] w fun e w' => e = .returned (.agg #[.int .i64 ka, .bool s1, .slice p1 n1 c1, .slice q1 m1 d1, .bool s2, .slice p2 n2 c2, .slice q2 m2 d2]) ∧ Below w.heap.size w w' := by
  go_enter Try.func59, Try.ntmps59
  go_wp2_with (first | ((with_reducible apply wpList_store_new); (with_reducible rfl); (with_reducible rfl); rfl; rfl; kernel_rfl; rfl; kernel_rfl) | ((with_reducible apply wpList_store_blk); (with_reducible rfl); (with_reducible rfl); rfl; assumption; rfl; kernel_rfl; rfl; kernel_rfl))
  refine ret_c rfl (w.heap.size + 1) 46 _ _ rfl (heap_at1 _ _ _) Try.underlying46 rfl (by kernel_rfl) rfl ?_
  exact ⟨rfl, (below_alloc _ _).alloc (by simp) _⟩
theorem pick_any (top : Bool) (ka kb : Int) (s1 s2 s3 s4 : Bool) (p1 q1 p2 q2 p3 q3 p4 q4 : Option Addr) (n1 c1 m1 d1 n2 c2 m2 d2 n3 c3 m3 d3 n4 c4 m4 d4 : Nat) (w : World) :
    Calls Try.prog 59 #[.agg #[.int .i64 ka, .bool s1, .slice p1 n1 c1, .slice q1 m1 d1, .bool s2, .slice p2 n2 c2, .slice q2 m2 d2, .int .i64 kb, .bool s3, .slice p3 n3 c3, .slice q3 m3 d3, .bool s4, .slice p4 n4 c4, .slice q4 m4 d4], .bool top] w fun e w' => e = .returned (if top then .agg #[.int .i64 ka, .bool s1, .slice p1 n1 c1, .slice q1 m1 d1, .bool s2, .slice p2 n2 c2, .slice q2 m2 d2] else .agg #[.int .i64 kb, .bool s3, .slice p3 n3 c3, .slice q3 m3 d3, .bool s4, .slice p4 n4 c4, .slice q4 m4 d4]) ∧ Below w.heap.size w w' := by
  cases top
  · exact pick_low ka kb s1 s2 s3 s4 p1 q1 p2 q2 p3 q3 p4 q4 n1 c1 m1 d1 n2 c2 m2 d2 n3 c3 m3 d3 n4 c4 m4 d4 w
  · exact pick_top ka kb s1 s2 s3 s4 p1 q1 p2 q2 p3 q3 p4 q4 n1 c1 m1 d1 n2 c2 m2 d2 n3 c3 m3 d3 n4 c4 m4 d4 w
/-- A fraction as data. -/
structure Fr where
  neg : Bool
  A : List Nat
  D : List Nat
def Fr.chk (x : Fr) : Int := chkR x.neg x.A x.D
def Fr.h (x : Fr) : Rat := ratG x.neg x.A x.D
def firstE : List Fr → Int
  | [] => 0
  | x :: L => if x.chk = 0 then firstE L else x.chk
def FrV (w : World) (x : Fr) (p : Option Addr) (c : Nat) (q : Option Addr) (d : Nat) : Prop := RG w (.agg #[.bool x.neg, .slice p x.A.length c, .slice q x.D.length d]) x.neg x.A x.D
def checkD (ka kb : Int) (F : List Fr) : Int := if farB ka || farB kb then 2 else firstE F
set_option maxHeartbeats 6400000 in
theorem dcheck_far (ka kb : Int) (s1 s2 s3 s4 : Bool) (p1 q1 p2 q2 p3 q3 p4 q4 : Option Addr) (n1 c1 m1 d1 n2 c2 m2 d2 n3 c3 m3 d3 n4 c4 m4 d4 : Nat) (w : World) (h : farB ka = true ∨ (farB ka = false ∧ farB kb = true)) :
    Calls Try.prog 29 #[.agg #[.int .i64 ka, .bool s1, .slice p1 n1 c1, .slice q1 m1 d1, .bool s2, .slice p2 n2 c2, .slice q2 m2 d2, .int .i64 kb, .bool s3, .slice p3 n3 c3, .slice q3 m3 d3, .bool s4, .slice p4 n4 c4, .slice q4 m4 d4]] w fun e w' => e = .returned (.int .i64 2) ∧ Below w.heap.size w w' := by
  have HA := hide_ (fun W => far_any ka W)
  have HB := hide_ (fun W => far_any kb W)
  have hb0 : Below w.heap.size w (w.alloc (.cells #[.int .i64 ka, .bool s1, .slice p1 n1 c1, .slice q1 m1 d1, .bool s2, .slice p2 n2 c2, .slice q2 m2 d2, .int .i64 kb, .bool s3, .slice p3 n3 c3, .slice q3 m3 d3, .bool s4, .slice p4 n4 c4, .slice q4 m4 d4] 48)) := below_alloc _ _
  obtain ⟨⟨e0, e1, e2, e3, e4, e5, e6⟩, e7, e8, e9, f0, f1, f2, f3⟩ := cells_14 (heap_alloc_last w (.cells #[.int .i64 ka, .bool s1, .slice p1 n1 c1, .slice q1 m1 d1, .bool s2, .slice p2 n2 c2, .slice q2 m2 d2, .int .i64 kb, .bool s3, .slice p3 n3 c3, .slice q3 m3 d3, .bool s4, .slice p4 n4 c4, .slice q4 m4 d4] 48))
  rcases h with h | ⟨h, h'⟩
  · rw [h] at HA
    go_enter Try.func29, Try.ntmps29
    go_wp2_with (first | (go_at_call 64; go_must ((with_reducible refine (HA.out _).mono ?_); rintro e w1 ⟨rfl, k, rfl⟩)))
    go_ret
    exact ⟨by simp, below_drewN hb0 _⟩
  · rw [h] at HA
    rw [h'] at HB
    have tok : True := trivial
    go_enter Try.func29, Try.ntmps29
    go_wp2_with (first | (go_at_call 64; have _t := tok; go_must ((with_reducible refine (HA.out _).mono ?_); rintro e w1 ⟨rfl, k, rfl⟩; clear tok)) | (go_at_call 64; go_must ((with_reducible refine (HB.out _).mono ?_); rintro e w1 ⟨rfl, k2, rfl⟩)))
    go_ret
    exact ⟨by simp, below_drewN hb0 _⟩
end Go.Proofs.Ytcibbnphkpaifaa
