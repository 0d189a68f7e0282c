/- second.fit: the walk. -/
import Derived.Test.YtcibbnphkpaifaaUb
import Derived.Deep.DeepCutAuto
namespace Go.Proofs.Ytcibbnphkpaifaa
open Go.RowKit
set_option linter.unusedVariables false
set_option maxRecDepth 100000
theorem keep_set7 {w : World} {B g o : Nat} {x0 x1 x2 x3 x4 x5 x6 : Value} (h : g ≠ B) : (((((((w.setCell ⟨B, 0, none⟩ x0).setCell ⟨B, 1, none⟩ x1).setCell ⟨B, 2, none⟩ x2).setCell ⟨B, 3, none⟩ x3).setCell ⟨B, 4, none⟩ x4).setCell ⟨B, 5, none⟩ x5).setCell ⟨B, 6, none⟩ x6).cell? ⟨g, o, none⟩ = w.cell? ⟨g, o, none⟩ := by
  unfold World.cell?
  rw [set_other (fun e => h e.symm), set_other (fun e => h e.symm), set_other (fun e => h e.symm), set_other (fun e => h e.symm), set_other (fun e => h e.symm), set_other (fun e => h e.symm), set_other (fun e => h e.symm)]
theorem keep_set7d {w : World} {B g o : Nat} {x0 x1 x2 x3 x4 x5 x6 : Value} (h : g ≠ B) : (((((((w.setCell ⟨B, 0, none⟩ x0).setCell ⟨B, 1, none⟩ x1).setCell ⟨B, 2, none⟩ x2).setCell ⟨B, 3, none⟩ x3).setCell ⟨B, 4, none⟩ x4).setCell ⟨B, 5, none⟩ x5).setCell ⟨B, 6, none⟩ x6).drew.cell? ⟨g, o, none⟩ = w.cell? ⟨g, o, none⟩ := by
  rw [show ∀ (W : World) (a : Addr), W.drew.cell? a = W.cell? a from fun _ _ => rfl]
  exact keep_set7 h
theorem keep_at4 {w : World} {B g o : Nat} {x y z : Value} (h : g ≠ B) : (((w.setCell ⟨B, 4, none⟩ x).setCell ⟨B, 5, none⟩ y).setCell ⟨B, 6, none⟩ z).cell? ⟨g, o, none⟩ = w.cell? ⟨g, o, none⟩ := by
  unfold World.cell?
  rw [set_other (fun e => h e.symm), set_other (fun e => h e.symm), set_other (fun e => h e.symm)]
theorem RO.blk_lt {w : World} {base : Nat} {s : Bool} {p q : Option Addr} {n c m d : Nat} {x : Rat} (h : RO w base (.agg #[.bool s, .slice p n c, .slice q m d]) x) : ∀ j, ((Value.slice p n c).ownBlock = some j ∨ (Value.slice q m d).ownBlock = some j) → j < w.heap.size := by
  obtain ⟨p', c', q', d', e, h1, h2, _⟩ := h
  simp only [Value.agg.injEq, Array.mk.injEq, List.cons.injEq, Value.slice.injEq, Value.bool.injEq] at e
  obtain ⟨_, ⟨rfl, rfl, rfl⟩, ⟨rfl, rfl, rfl⟩, _⟩ := e
  rintro j (h | h)
  · exact (World.ownsRow.lt h1 j h).2
  · exact (World.ownsRow.lt h2 j h).2
theorem hf_quo {w : World} {k : Int} {va vb : Value} {x y : Rat} (hy : y ≠ 0) (h : k = 0 → RV w va x ∧ RV w vb y) : k = 0 → ∀ W, Below w.heap.size w W → Calls Try.prog 90 #[va, vb] W (ResR W (x / y)) :=
  fun h0 W hb => rquo_any va vb x y W ((h h0).1.below hb) ((h h0).2.below hb) hy
/-- A difference on its way: its factor told. -/
def RowD (g bd : Nat) (w0 w : World) (D : Int) (f : Rat) (C : Prop) : Prop := ∃ s p n c q m d k, w.heap[bd]? = some (.cells #[.int .i64 D, .bool s, .slice p n c, .slice q m d, .bool false, .slice none 0 0, .slice none 0 0] 46) ∧ w.heap[g]? = some (.cells #[.int .i64 k] 127) ∧ w.heap[w0.heap.size]? = some (.cells #[.int .i64 0, .bool false, .slice none 0 0, .slice none 0 0, .bool false, .slice none 0 0, .slice none 0 0] 46) ∧ Below w0.heap.size w0 w ∧ (k = 0 ∨ k = 3) ∧ (k = 0 ↔ C) ∧ (k = 0 → RO w w0.heap.size (.agg #[.bool s, .slice p n c, .slice q m d]) f)
/-- A difference told. -/
def RowE (g bd : Nat) (w0 w : World) (D : Int) (f z : Rat) (C : Prop) : Prop := ∃ s p n c q m d s' p' n' c' q' m' d' k, w.heap[bd]? = some (.cells #[.int .i64 D, .bool s, .slice p n c, .slice q m d, .bool s', .slice p' n' c', .slice q' m' d'] 46) ∧ w.heap[g]? = some (.cells #[.int .i64 k] 127) ∧ w.heap[w0.heap.size]? = some (.cells #[.int .i64 0, .bool false, .slice none 0 0, .slice none 0 0, .bool false, .slice none 0 0, .slice none 0 0] 46) ∧ Below w0.heap.size w0 w ∧ (k = 0 ∨ k = 3) ∧ (k = 0 ↔ C) ∧ (k = 0 → ∃ B, w0.heap.size ≤ B ∧ (∀ j, (Value.slice p n c).ownBlock = some j ∨ (Value.slice q m d).ownBlock = some j → j < B) ∧ RO w w0.heap.size (.agg #[.bool s, .slice p n c, .slice q m d]) f ∧ RO w B (.agg #[.bool s', .slice p' n' c', .slice q' m' d']) z)
/-- What fit tells. -/
def ResT (w : World) (D : Int) (f z : Rat) (C : Prop) (e : Ending) (w' : World) : Prop := (∃ s p n c q m d s' p' n' c' q' m' d' er, e = .returned (.tuple #[.agg #[.int .i64 D, .bool s, .slice p n c, .slice q m d, .bool s', .slice p' n' c', .slice q' m' d'], .int .i64 er]) ∧ ((C ∧ er = if farB D = true then 2 else 0) ∨ (¬ C ∧ er = 3)) ∧ (C → ∃ B, w.heap.size ≤ B ∧ (∀ j, (Value.slice p n c).ownBlock = some j ∨ (Value.slice q m d).ownBlock = some j → j < B) ∧ RO w' w.heap.size (.agg #[.bool s, .slice p n c, .slice q m d]) f ∧ RO w' B (.agg #[.bool s', .slice p' n' c', .slice q' m' d']) z)) ∧ Below w.heap.size w w'

/-- Are there two or more, and the first and the last not alike? -/
def fitU (k : Nat) (x0 xk : Rat) : Bool := decide (0 < k) && !decide (x0 = xk)
/-- The factor. -/
def fitF (k : Nat) (x0 xk y0 yk : Rat) : Rat := if fitU k x0 xk = true then (yk - y0) / (xk - x0) else 1
/-- Do all steps fit? -/
def fitC (k : Nat) (x0 xk y0 yk : Rat) : Prop := ((fitU k x0 xk = true → Fits (yk - y0) ∧ Fits (xk - x0) ∧ Fits ((yk - y0) / (xk - x0))) ∧ Fits (fitF k x0 xk y0 yk * x0)) ∧ Fits (y0 - fitF k x0 xk y0 yk * x0)
set_option maxHeartbeats 12800000 in
theorem fit_any (k n ga oa gb ob ca cb : Nat) (ta tb : Int) (x0 xk y0 yk : Rat) (s1 s2 s3 s4 : Bool) (p1 q1 p2 q2 p3 q3 p4 q4 : Option Addr) (n1 c1 m1 d1 n2 c2 m2 d2 n3 c3 m3 d3 n4 c4 m4 d4 : Nat) (w : World)
    (hk : k < 4096) (hn : n = k + 1) (ht : 0 ≤ ta ∧ ta ≤ 1048576) (hu : 0 ≤ tb ∧ tb ≤ 1048576)
    (HT : Hid (∀ W, Below w.heap.size w W → W.cell? ⟨gb, ob, none⟩ = some (.int .i64 tb) ∧ W.cell? ⟨ga, oa, none⟩ = some (.int .i64 ta)))
    (HX : Hid (∀ W, Below w.heap.size w W → W.cell? ⟨ga, oa + 3, none⟩ = some (.bool s1) ∧ W.cell? ⟨ga, oa + 4, none⟩ = some (.slice p1 n1 c1) ∧ W.cell? ⟨ga, oa + 5, none⟩ = some (.slice q1 m1 d1))) (HXK : Hid (∀ W, Below w.heap.size w W → W.cell? ⟨ga, oa + k * 6 + 3, none⟩ = some (.bool s2) ∧ W.cell? ⟨ga, oa + k * 6 + 4, none⟩ = some (.slice p2 n2 c2) ∧ W.cell? ⟨ga, oa + k * 6 + 5, none⟩ = some (.slice q2 m2 d2)))
    (HY : Hid (∀ W, Below w.heap.size w W → W.cell? ⟨gb, ob + 3, none⟩ = some (.bool s3) ∧ W.cell? ⟨gb, ob + 4, none⟩ = some (.slice p3 n3 c3) ∧ W.cell? ⟨gb, ob + 5, none⟩ = some (.slice q3 m3 d3))) (HYK : Hid (∀ W, Below w.heap.size w W → W.cell? ⟨gb, ob + k * 6 + 3, none⟩ = some (.bool s4) ∧ W.cell? ⟨gb, ob + k * 6 + 4, none⟩ = some (.slice p4 n4 c4) ∧ W.cell? ⟨gb, ob + k * 6 + 5, none⟩ = some (.slice q4 m4 d4)))
    (VX : Hid (∀ W, Below w.heap.size w W → RV W (.agg #[.bool s1, .slice p1 n1 c1, .slice q1 m1 d1]) x0)) (VXK : Hid (∀ W, Below w.heap.size w W → RV W (.agg #[.bool s2, .slice p2 n2 c2, .slice q2 m2 d2]) xk)) (VY : Hid (∀ W, Below w.heap.size w W → RV W (.agg #[.bool s3, .slice p3 n3 c3, .slice q3 m3 d3]) y0)) (VYK : Hid (∀ W, Below w.heap.size w W → RV W (.agg #[.bool s4, .slice p4 n4 c4, .slice q4 m4 d4]) yk)) :
    Calls Try.prog 61 #[.slice (some ⟨ga, oa, none⟩) n ca, .slice (some ⟨gb, ob, none⟩) n cb] w (ResT w (tb - ta) (fitF k x0 xk y0 yk) (y0 - fitF k x0 xk y0 yk * x0) (fitC k x0 xk y0 yk)) := by
  obtain ⟨D, hD⟩ : ∃ D, D = tb - ta := ⟨_, rfl⟩
  have hw0 : IntKind.i64.wrap (tb - ta) = D := by rw [IntWalk.i64_in _ (by omega)]; exact hD.symm
  rw [← hD]
  obtain ⟨f, hf⟩ : ∃ f, Hid (f = fitF k x0 xk y0 yk) := ⟨_, hide_ rfl⟩
  obtain ⟨C, hC⟩ : ∃ C, Hid (C = fitC k x0 xk y0 yk) := ⟨_, hide_ rfl⟩
  rw [← hf.out, ← hC.out]
  have d0 : ((n : Int) == 0) = false := by simp; omega
  have i5 : (0 : Int) < (n : Int) := by omega
  have i5n : 0 < n := by omega
  have i7n : k < n := by omega
  have i6 : (0 : Int) ≤ (k : Int) := by omega
  have i7 : (k : Int) < (n : Int) := by omega
  have hw : IntKind.i64.wrap ((n : Int) - 1) = (k : Int) := by rw [IntWalk.i64_in _ (by omega)]; omega
  have HKN := hide_ hk
  clear hn hD ht hu hk
  have hb0 : Below w.heap.size w (w.alloc (.cells #[.int .i64 0, .bool false, .slice none 0 0, .slice none 0 0, .bool false, .slice none 0 0, .slice none 0 0] 46)) := below_alloc _ _
  have hr0 := heap_alloc_last w (.cells #[.int .i64 0, .bool false, .slice none 0 0, .slice none 0 0, .bool false, .slice none 0 0, .slice none 0 0] 46)
  obtain ⟨t0, t1⟩ := HT.out _ hb0
  go_enter Try.func61, Try.ntmps61
  go_upto_region 3 with fail
  generalize (w.alloc (.cells #[.int .i64 0, .bool false, .slice none 0 0, .slice none 0 0, .bool false, .slice none 0 0, .slice none 0 0] 46)) = W0 at *
  have hb0d : Below w.heap.size w W0.drew := hb0.drew
  have hb0z : Below w.heap.size w (W0.alloc (.cells #[.int .i64 0, .bool false, .slice none 0 0, .slice none 0 0, .bool false, .slice none 0 0, .slice none 0 0] 46)) := hb0.alloc hb0.size _
  have hb0zd : Below w.heap.size w (W0.alloc (.cells #[.int .i64 0, .bool false, .slice none 0 0, .slice none 0 0, .bool false, .slice none 0 0, .slice none 0 0] 46)).drew := hb0z.drew
  have hrz := heap_past (o' := (.cells #[.int .i64 0, .bool false, .slice none 0 0, .slice none 0 0, .bool false, .slice none 0 0, .slice none 0 0] 46)) hr0
  have hdz := heap_alloc_last W0 (.cells #[.int .i64 0, .bool false, .slice none 0 0, .slice none 0 0, .bool false, .slice none 0 0, .slice none 0 0] 46)
  have hlz := lt_of_heap hdz
  have hl0 := lt_of_heap hr0
  have hln : w.heap.size < W0.heap.size := hl0
  go_cut [6] (fun s6 wx => ∃ bd s5 p5 n5 c5 q5 m5 d5, s6 = .pointer (some ⟨bd, 0, none⟩) ∧ wx.heap[bd]? = some (.cells #[.int .i64 D, .bool s5, .slice p5 n5 c5, .slice q5 m5 d5, .bool false, .slice none 0 0, .slice none 0 0] 46) ∧ wx.heap[w.heap.size]? = some (.cells #[.int .i64 0, .bool false, .slice none 0 0, .slice none 0 0, .bool false, .slice none 0 0, .slice none 0 0] 46) ∧ w.heap.size < bd ∧ Below w.heap.size w wx ∧ RO wx w.heap.size (.agg #[.bool s5, .slice p5 n5 c5, .slice q5 m5 d5]) 1)
  case first =>
    go_region_held3 (fun w' => w'.cell? ⟨gb, ob, none⟩ = some (.int .i64 tb) ∧ w'.cell? ⟨ga, oa, none⟩ = some (.int .i64 ta))
      (first | (with_reducible exact HT.out _ hB3s) | (with_reducible exact HT.out _ hB3r) | (with_reducible exact HT.out _ (by assumption)) | go_keep)
      ((first
        | (go_at_call 85
           (with_reducible refine (whole_form 1 1 (by simp) ((W0.alloc (.cells #[.int .i64 0, .bool false, .slice none 0 0, .slice none 0 0, .bool false, .slice none 0 0, .slice none 0 0] 46)).drew) (by decide) (by decide)).mono ?_)
           go_must (
             rintro e w3 ⟨⟨s6, p6, n6, c6, q6, m6, d6, rfl, ho3⟩, hb3⟩
             have hz3 := (hb3.block _ hlz).trans hdz
             have hr3 := (hb3.block _ (lt_of_heap hrz)).trans hrz
             obtain ⟨e0, e1, e2, e3, e4, e5, e6⟩ := cells_seven hz3
             obtain ⟨f0, f1, f2, f3, f4, f5, f6⟩ := free_seven hz3
             have hB3 := hb0zd.trans (hb3.mono hb0zd.size)
             have HFIN : (∃ bd s5 p5 n5 c5 q5 m5 d5, (Value.pointer (some ⟨W0.heap.size, 0, none⟩)) = .pointer (some ⟨bd, 0, none⟩) ∧ (w3.setRow W0.heap.size #[.int .i64 D, .bool s6, .slice p6 n6 c6, .slice q6 m6 d6, .bool false, .slice none 0 0, .slice none 0 0]).heap[bd]? = some (.cells #[.int .i64 D, .bool s5, .slice p5 n5 c5, .slice q5 m5 d5, .bool false, .slice none 0 0, .slice none 0 0] 46) ∧ (w3.setRow W0.heap.size #[.int .i64 D, .bool s6, .slice p6 n6 c6, .slice q6 m6 d6, .bool false, .slice none 0 0, .slice none 0 0]).heap[w.heap.size]? = some (.cells #[.int .i64 0, .bool false, .slice none 0 0, .slice none 0 0, .bool false, .slice none 0 0, .slice none 0 0] 46) ∧ w.heap.size < bd ∧ Below w.heap.size w (w3.setRow W0.heap.size #[.int .i64 D, .bool s6, .slice p6 n6 c6, .slice q6 m6 d6, .bool false, .slice none 0 0, .slice none 0 0]) ∧ RO (w3.setRow W0.heap.size #[.int .i64 D, .bool s6, .slice p6 n6 c6, .slice q6 m6 d6, .bool false, .slice none 0 0, .slice none 0 0]) w.heap.size (.agg #[.bool s5, .slice p5 n5 c5, .slice q5 m5 d5]) 1) :=
               ⟨_, s6, p6, n6, c6, q6, m6, d6, rfl, setRow_heap _ _ _ _ _ _ hz3, row_other hr3 (by omega), hln, below_setRow hB3 (by omega) _, (ho3.mono hb0zd.size).row hz3 (by decide) _⟩
             have hB3s := below_setRow hB3 (Nat.le_of_lt hln) #[.int .i64 D, .bool s6, .slice p6 n6 c6, .slice q6 m6 d6, .bool false, .slice none 0 0, .slice none 0 0]
             rw [← set7_row hz3] at HFIN hB3s))
        | (go_at_call 85; go_must (
           (with_reducible refine (whole_form 1 1 (by simp) _ (by decide) (by decide)).mono ?_)
           rintro e w3 ⟨⟨s6, p6, n6, c6, q6, m6, d6, rfl, ho3⟩, hb3⟩
           have hB3 := hb0d.trans (hb3.mono hb0d.size)
           have hr3 := heap_past (o' := (.cells #[.int .i64 D, .bool s6, .slice p6 n6 c6, .slice q6 m6 d6, .bool false, .slice none 0 0, .slice none 0 0] 46)) ((hb3.block _ hl0).trans hr0)
           have hB3a : Below w.heap.size w (w3.alloc (.cells #[.int .i64 0, .bool false, .slice none 0 0, .slice none 0 0, .bool false, .slice none 0 0, .slice none 0 0] 46)) := hB3.alloc hB3.size _
           have hz3 := heap_alloc_last w3 (.cells #[.int .i64 0, .bool false, .slice none 0 0, .slice none 0 0, .bool false, .slice none 0 0, .slice none 0 0] 46)
           obtain ⟨e0, e1, e2, e3, e4, e5, e6⟩ := cells_seven hz3
           obtain ⟨f0, f1, f2, f3, f4, f5, f6⟩ := free_seven hz3
           have hl3 := hb3.size
           have hB3r := hB3.alloc hB3.size (.cells #[.int .i64 D, .bool s6, .slice p6 n6 c6, .slice q6 m6 d6, .bool false, .slice none 0 0, .slice none 0 0] 46)
           have HFIN : (∃ bd s5 p5 n5 c5 q5 m5 d5, (Value.pointer (some ⟨w3.heap.size, 0, none⟩)) = .pointer (some ⟨bd, 0, none⟩) ∧ (w3.alloc (.cells #[.int .i64 D, .bool s6, .slice p6 n6 c6, .slice q6 m6 d6, .bool false, .slice none 0 0, .slice none 0 0] 46)).heap[bd]? = some (.cells #[.int .i64 D, .bool s5, .slice p5 n5 c5, .slice q5 m5 d5, .bool false, .slice none 0 0, .slice none 0 0] 46) ∧ (w3.alloc (.cells #[.int .i64 D, .bool s6, .slice p6 n6 c6, .slice q6 m6 d6, .bool false, .slice none 0 0, .slice none 0 0] 46)).heap[w.heap.size]? = some (.cells #[.int .i64 0, .bool false, .slice none 0 0, .slice none 0 0, .bool false, .slice none 0 0, .slice none 0 0] 46) ∧ w.heap.size < bd ∧ Below w.heap.size w (w3.alloc (.cells #[.int .i64 D, .bool s6, .slice p6 n6 c6, .slice q6 m6 d6, .bool false, .slice none 0 0, .slice none 0 0] 46)) ∧ RO (w3.alloc (.cells #[.int .i64 D, .bool s6, .slice p6 n6 c6, .slice q6 m6 d6, .bool false, .slice none 0 0, .slice none 0 0] 46)) w.heap.size (.agg #[.bool s5, .slice p5 n5 c5, .slice q5 m5 d5]) 1) :=
             ⟨_, s6, p6, n6, c6, q6, m6, d6, rfl, heap_alloc_last _ _, hr3, Nat.lt_of_lt_of_le hln hl3, hB3.alloc hB3.size _, (ho3.mono hb0d.size).below (below_alloc _ _)⟩))))
    all_goals (go_wp2_with fail; go_meet; exact HFIN)
  case rest =>
    obtain ⟨w1, hw1⟩ : ∃ w1, w1 = wc := ⟨_, rfl⟩
    subst hw1
    obtain ⟨bd, s5, p5, n5, c5, q5, m5, d5, rfl, hbd1, hr1, hlt1, hb1, ho1⟩ := hcut
    have hl1 := lt_of_heap hbd1
    have hb2 : Below w.heap.size w (w1.alloc (.cells #[.int .i64 0] 127)) := hb1.alloc hb1.size _
    have hbd2 := heap_past (o' := (.cells #[.int .i64 0] 127)) hbd1
    have hr2 := heap_past (o' := (.cells #[.int .i64 0] 127)) hr1
    have hg2 := heap_alloc_last w1 (.cells #[.int .i64 0] 127)
    have ho2 := ho1.below (below_alloc w1 (.cells #[.int .i64 0] 127))
    clear hbd1 hr1 hb1 ho1 hb0d hb0z hb0zd hrz hdz hlz hl0 hln hb0 hr0 t0 t1
    go_upto_region 6 with fail
    generalize (w1.alloc (.cells #[.int .i64 0] 127)) = w2 at *
    generalize w1.heap.size = g at *
    have HO2 := hide_ ho2
    have hlg := lt_of_heap hg2
    have hb2d : Below w.heap.size w w2.drew := hb2.drew
    have hd2 : Below w2.heap.size w2 w2.drew := (Below.refl _ _).drew
    obtain ⟨U, HU⟩ : ∃ U, Hid (U = fitU k x0 xk) := ⟨_, hide_ rfl⟩
    clear ho2
    go_cut [44] (fun s44 wx => s44 = .bool U ∧ Below w2.heap.size w2 wx)
    case first =>
      by_cases hk0 : k = 0
      · have e1 : decide ((0 : Int) < (k : Int)) = false := decide_eq_false (by omega)
        have e2 : decide (0 < k) = false := decide_eq_false (by omega)
        have hu : U = false := by rw [HU.out]; unfold fitU; rw [hk0]; rfl
        clear hk0
        go_quiet (fail)
        go_wp2_with fail
        go_meet
        exact ⟨by rw [hu], below_drewN (Below.refl _ _) _⟩
      · have e1 : decide ((0 : Int) < (k : Int)) = true := decide_eq_true (by omega)
        have e2 : decide (0 < k) = true := decide_eq_true (by omega)
        have hu : U = !decide (x0 = xk) := by rw [HU.out]; unfold fitU; rw [show decide (0 < k) = true from decide_eq_true (by omega)]; rfl
        have HUU := hide_ hu
        clear hu hk0
        go_region_held3 (fun w' => (w'.cell? ⟨ga, oa + 3, none⟩ = some (.bool s1) ∧ w'.cell? ⟨ga, oa + 4, none⟩ = some (.slice p1 n1 c1) ∧ w'.cell? ⟨ga, oa + 5, none⟩ = some (.slice q1 m1 d1)) ∧ (w'.cell? ⟨ga, oa + k * 6 + 3, none⟩ = some (.bool s2) ∧ w'.cell? ⟨ga, oa + k * 6 + 4, none⟩ = some (.slice p2 n2 c2) ∧ w'.cell? ⟨ga, oa + k * 6 + 5, none⟩ = some (.slice q2 m2 d2)))
          (first | (with_reducible exact ⟨HX.out _ (by assumption), HXK.out _ (by assumption)⟩) | go_keep)
          ((first
            | (go_at_call 28; go_must (
               (with_reducible refine (rsame_rat _ _ x0 xk _ (VX.out _ hb2d) (VXK.out _ hb2d)).mono ?_)
               rintro e w3 ⟨rfl, hb3⟩
               have hB3 := hb2d.trans (hb3.mono hb2d.size)
               have HB3 : Below w2.heap.size w2 w3 := hd2.trans (hb3.mono hd2.size)))))
        all_goals (go_wp2_with fail; go_meet; exact ⟨by rw [HUU.out], HB3⟩)
    case rest =>
      obtain ⟨w3, hw3⟩ : ∃ w3, w3 = wc := ⟨_, rfl⟩
      subst hw3
      obtain ⟨rfl, hb3⟩ := hcut
      have hbd3 := (hb3.block _ (lt_of_heap hbd2)).trans hbd2
      have hr3 := (hb3.block _ (lt_of_heap hr2)).trans hr2
      have hg3 := (hb3.block _ (lt_of_heap hg2)).trans hg2
      have HO3 := hide_ (HO2.out.below hb3)
      have hB3 := hb2.trans (hb3.mono hb2.size)
      clear hbd2 hr2 hg2 HO2 hb2 hb2d hd2 hb3 hlg
      have hlg := lt_of_heap hg3
      go_upto_if 44 with fail
      go_cut [9, 10] (fun s9 s10 wx => RowD g bd w wx D f (fitU k x0 xk = true → Fits (yk - y0) ∧ Fits (xk - x0) ∧ Fits ((yk - y0) / (xk - x0))))
      case first =>
        cases U
        · have hf1 : f = 1 := by rw [hf.out]; unfold fitF; rw [← HU.out]; rfl
          have hFin : RowD g bd w w3 D 1 (fitU k x0 xk = true → Fits (yk - y0) ∧ Fits (xk - x0) ∧ Fits ((yk - y0) / (xk - x0))) :=
            ⟨s5, p5, n5, c5, q5, m5, d5, 0, hbd3, hg3, hr3, hB3, .inl rfl, ⟨fun _ h => (by rw [← HU.out] at h; cases h), fun _ => rfl⟩, fun _ => HO3.out⟩
          rw [← hf1] at hFin
          have HFIN := hide_ hFin
          clear hf1 hFin
          go_wp2_with fail
          go_meet
          exact HFIN.out
        · have hne : x0 ≠ xk := by
            have h := HU.out
            unfold fitU at h
            intro e
            rw [e] at h
            simp at h
          have hne2 : xk - x0 ≠ 0 := by
            intro e
            apply hne
            grind
          have HNE := hide_ hne2
          clear hne hne2
          go_upto_region 7 with fail
          have hB3d : Below w.heap.size w w3.drew := hB3.drew
          have hB3z : Below w.heap.size w (w3.alloc (.cells #[.bool false, .slice none 0 0, .slice none 0 0] 32)) := hB3.alloc hB3.size _
          have hB3zd : Below w.heap.size w (w3.alloc (.cells #[.bool false, .slice none 0 0, .slice none 0 0] 32)).drew := hB3z.drew
          have hg3z : (w3.alloc (.cells #[.bool false, .slice none 0 0, .slice none 0 0] 32)).drew.heap[g]? = some (.cells #[.int .i64 0] 127) := heap_past (o' := (.cells #[.bool false, .slice none 0 0, .slice none 0 0] 32)) hg3
          have hg3d : w3.drew.heap[g]? = some (.cells #[.int .i64 0] 127) := hg3
          have hz3 := heap_alloc_last w3 (.cells #[.bool false, .slice none 0 0, .slice none 0 0] 32)
          have hG3 : w3.grownBy w3.drew (some g) := grown_below (Below.refl _ _).drew _
          have hG3z : w3.grownBy (w3.alloc (.cells #[.bool false, .slice none 0 0, .slice none 0 0] 32)).drew (some g) := grown_below (below_alloc _ _).drew _
          go_cut [9] (fun s9 wx => ∃ b, s9 = .pointer (some ⟨b, 0, none⟩) ∧ RowK g b w3 wx 0 (yk - y0))
          case first =>
            go_region_held3 (fun w' => (w'.cell? ⟨gb, ob + 3, none⟩ = some (.bool s3) ∧ w'.cell? ⟨gb, ob + 4, none⟩ = some (.slice p3 n3 c3) ∧ w'.cell? ⟨gb, ob + 5, none⟩ = some (.slice q3 m3 d3)) ∧ (w'.cell? ⟨gb, ob + k * 6 + 3, none⟩ = some (.bool s4) ∧ w'.cell? ⟨gb, ob + k * 6 + 4, none⟩ = some (.slice p4 n4 c4) ∧ w'.cell? ⟨gb, ob + k * 6 + 5, none⟩ = some (.slice q4 m4 d4)))
              (first | (with_reducible exact ⟨HY.out _ (by assumption), HYK.out _ (by assumption)⟩) | go_keep)
              ((first
                | (go_at_call 89
                   (with_reducible refine (do_sub_k g 0 ((w3.alloc (.cells #[.bool false, .slice none 0 0, .slice none 0 0] 32)).drew) _ _ (yk - y0) hg3z (.inl rfl) ⟨_, _, _, _, _, _, _, rfl⟩ ⟨_, _, _, _, _, _, _, rfl⟩ (hf_sub (fun h0 => ⟨VYK.out _ hB3zd, VY.out _ hB3zd⟩))).mono ?_)
                   go_must (
                     rintro e w4 ⟨s8, p8, n8, c8, q8, m8, d8, k4, rfl, hg4, hG4, hk4, hke4, hr4, hz4⟩
                     have hB4 := below_kept hB3zd hG4 (by omega)
                     have hB4s := below_setRow hB4 hB3.size #[.bool s8, .slice p8 n8 c8, .slice q8 m8 d8]
                     have hz4b := (hG4.block _ (lt_of_heap hz3) (fun e => by injection e with e; omega)).trans hz3
                     obtain ⟨t0', t1', t2'⟩ := cells_three hz4b
                     obtain ⟨t3, t4, t5⟩ := free_three hz4b
                     have HFIN := rowK_set (w0 := w3) (V := (w3.alloc (.cells #[.bool false, .slice none 0 0, .slice none 0 0] 32)).drew) hz4b hlg (lt_of_heap hz3) (Nat.le_refl _) hg4 hG3z hG4 hk4 hke4 hr4 hz4
                     rw [← set3_row hz4b] at HFIN hB4s))
                | (go_at_call 89; go_must (
                   (with_reducible refine (do_sub_k g 0 w3.drew _ _ (yk - y0) hg3d (.inl rfl) ⟨_, _, _, _, _, _, _, rfl⟩ ⟨_, _, _, _, _, _, _, rfl⟩ (hf_sub (fun h0 => ⟨VYK.out _ hB3d, VY.out _ hB3d⟩))).mono ?_)
                   rintro e w4 ⟨s8, p8, n8, c8, q8, m8, d8, k4, rfl, hg4, hG4, hk4, hke4, hr4, hz4⟩
                   have hB4 := below_kept hB3d hG4 (by omega)
                   have hB4r := hB4.alloc hB4.size (.cells #[.bool s8, .slice p8 n8 c8, .slice q8 m8 d8] 32)
                   obtain ⟨t0', t1', t2'⟩ := cells_three (heap_alloc_last w4 (.cells #[.bool false, .slice none 0 0, .slice none 0 0] 32))
                   obtain ⟨t3, t4, t5⟩ := free_three (heap_alloc_last w4 (.cells #[.bool false, .slice none 0 0, .slice none 0 0] 32))
                   have HFIN := rowK_new hg4 hG3 hG4 hlg hk4 hke4 hr4 hz4))))
            all_goals (go_wp2_with fail; go_meet; exact ⟨_, rfl, HFIN⟩)
          case rest =>
            obtain ⟨w5, hw5⟩ : ∃ w5, w5 = wc := ⟨_, rfl⟩
            subst hw5
            obtain ⟨b7, rfl, s7, p7, n7, c7, q7, m7, d7, k7, hr7, hgb7, hg7, hG7, hk7, hke7, ho7, hz7⟩ := hcut
            have hlg7 := lt_of_heap hg7
            have HR7 := hide_ (rows_later g hr7 (by omega))
            have HV7 := hide_ (show KV g w5 k7 (.agg #[.bool s7, .slice p7 n7 c7, .slice q7 m7 d7]) (yk - y0) from fun W hW h0 => RV.grown (ho7 h0) (hke7.1 h0).2 hW (by omega))
            have hB5 := below_kept hB3 hG7 (by omega)
            have hbd5 := (hG7.block _ (lt_of_heap hbd3) (fun e => by injection e with e; omega)).trans hbd3
            have hr5 := (hG7.block _ (lt_of_heap hr3) (fun e => by injection e with e; omega)).trans hr3
            have HO5 := hide_ (HO3.out.past hG7 hg3 (by decide))
            clear hr7 ho7 hG7 hB3d hB3z hB3zd hg3z hg3d hz3 hG3 hG3z hbd3 hr3 HO3 hg3 hB3 hlg hz7
            go_upto_region 8 with fail
            have hB5d : Below w.heap.size w w5.drew := hB5.drew
            have hB5z : Below w.heap.size w (w5.alloc (.cells #[.bool false, .slice none 0 0, .slice none 0 0] 32)) := hB5.alloc hB5.size _
            have hB5zd : Below w.heap.size w (w5.alloc (.cells #[.bool false, .slice none 0 0, .slice none 0 0] 32)).drew := hB5z.drew
            have hg7z : (w5.alloc (.cells #[.bool false, .slice none 0 0, .slice none 0 0] 32)).drew.heap[g]? = some (.cells #[.int .i64 k7] 127) := heap_past (o' := (.cells #[.bool false, .slice none 0 0, .slice none 0 0] 32)) hg7
            have hg7d : w5.drew.heap[g]? = some (.cells #[.int .i64 k7] 127) := hg7
            have hz5 := heap_alloc_last w5 (.cells #[.bool false, .slice none 0 0, .slice none 0 0] 32)
            have hG5 : w5.grownBy w5.drew (some g) := grown_below (Below.refl _ _).drew _
            have hG5z : w5.grownBy (w5.alloc (.cells #[.bool false, .slice none 0 0, .slice none 0 0] 32)).drew (some g) := grown_below (below_alloc _ _).drew _
            go_cut [10] (fun s9 wx => ∃ b, s9 = .pointer (some ⟨b, 0, none⟩) ∧ RowK g b w5 wx k7 (xk - x0))
            case first =>
              go_region_held3 (fun w' => (w'.cell? ⟨ga, oa + 3, none⟩ = some (.bool s1) ∧ w'.cell? ⟨ga, oa + 4, none⟩ = some (.slice p1 n1 c1) ∧ w'.cell? ⟨ga, oa + 5, none⟩ = some (.slice q1 m1 d1)) ∧ (w'.cell? ⟨ga, oa + k * 6 + 3, none⟩ = some (.bool s2) ∧ w'.cell? ⟨ga, oa + k * 6 + 4, none⟩ = some (.slice p2 n2 c2) ∧ w'.cell? ⟨ga, oa + k * 6 + 5, none⟩ = some (.slice q2 m2 d2)))
                (first | (with_reducible exact ⟨HX.out _ (by assumption), HXK.out _ (by assumption)⟩) | go_keep)
                ((first
                  | (go_at_call 89
                     (with_reducible refine (do_sub_k g k7 ((w5.alloc (.cells #[.bool false, .slice none 0 0, .slice none 0 0] 32)).drew) _ _ (xk - x0) hg7z hk7 ⟨_, _, _, _, _, _, _, rfl⟩ ⟨_, _, _, _, _, _, _, rfl⟩ (hf_sub (fun h0 => ⟨VXK.out _ hB5zd, VX.out _ hB5zd⟩))).mono ?_)
                     go_must (
                       rintro e w6 ⟨s8, p8, n8, c8, q8, m8, d8, k4, rfl, hg4, hG4, hk4, hke4, hr4, hz4⟩
                       have hB6 := below_kept hB5zd hG4 (by omega)
                       have hB6s := below_setRow hB6 hB5.size #[.bool s8, .slice p8 n8 c8, .slice q8 m8 d8]
                       have hz4b := (hG4.block _ (lt_of_heap hz5) (fun e => by injection e with e; omega)).trans hz5
                       obtain ⟨t0', t1', t2'⟩ := cells_three hz4b
                       obtain ⟨t3, t4, t5⟩ := free_three hz4b
                       have HFIN := rowK_set (w0 := w5) (V := (w5.alloc (.cells #[.bool false, .slice none 0 0, .slice none 0 0] 32)).drew) hz4b hlg7 (lt_of_heap hz5) (Nat.le_refl _) hg4 hG5z hG4 hk4 hke4 hr4 hz4
                       rw [← set3_row hz4b] at HFIN hB6s))
                  | (go_at_call 89; go_must (
                     (with_reducible refine (do_sub_k g k7 w5.drew _ _ (xk - x0) hg7d hk7 ⟨_, _, _, _, _, _, _, rfl⟩ ⟨_, _, _, _, _, _, _, rfl⟩ (hf_sub (fun h0 => ⟨VXK.out _ hB5d, VX.out _ hB5d⟩))).mono ?_)
                     rintro e w6 ⟨s8, p8, n8, c8, q8, m8, d8, k4, rfl, hg4, hG4, hk4, hke4, hr4, hz4⟩
                     have hB6 := below_kept hB5d hG4 (by omega)
                     have hB6r := hB6.alloc hB6.size (.cells #[.bool s8, .slice p8 n8 c8, .slice q8 m8 d8] 32)
                     obtain ⟨t0', t1', t2'⟩ := cells_three (heap_alloc_last w6 (.cells #[.bool false, .slice none 0 0, .slice none 0 0] 32))
                     obtain ⟨t3, t4, t5⟩ := free_three (heap_alloc_last w6 (.cells #[.bool false, .slice none 0 0, .slice none 0 0] 32))
                     have HFIN := rowK_new hg4 hG5 hG4 hlg7 hk4 hke4 hr4 hz4))))
              all_goals (go_wp2_with fail; go_meet; exact ⟨_, rfl, HFIN⟩)
            case rest =>
              obtain ⟨w7, hw7⟩ : ∃ w7, w7 = wc := ⟨_, rfl⟩
              subst hw7
              obtain ⟨b9, rfl, s9, p9, n9, c9, q9, m9, d9, k9, hr9, hgb9, hg9, hG9, hk9, hke9, ho9, hz9⟩ := hcut
              have hlg9 := lt_of_heap hg9
              have hB7 := below_kept hB5 hG9 (by omega)
              have hbd7 := (hG9.block _ (lt_of_heap hbd5) (fun e => by injection e with e; omega)).trans hbd5
              have hr7 := (hG9.block _ (lt_of_heap hr5) (fun e => by injection e with e; omega)).trans hr5
              have HO7 := hide_ (HO5.out.past hG9 hg7 (by decide))
              have HV7b := hide_ (HV7.out.on hG9 (fun h0 => (hke9.1 h0).1))
              have HV9 := hide_ (show KV g w7 k9 (.agg #[.bool s9, .slice p9 n9 c9, .slice q9 m9 d9]) (xk - x0) from fun W hW h0 => RV.grown (ho9 h0) (hke9.1 h0).2 hW (by omega))
              obtain ⟨a0, a1, a2⟩ := HR7.out _ hG9
              obtain ⟨b0, b1, b2⟩ := cells_three hr9
              have hne9 : bd ≠ g := by omega
              clear hr9 ho9 hG9 hB5d hB5z hB5zd hg7z hg7d hz5 hG5 hG5z hbd5 hr5 HO5 hB5 hz9 HR7 HV7
              go_wp2_with (go_at_call 89; go_must (
                (with_reducible refine (do_quo_k g k9 w7 _ _ ((yk - y0) / (xk - x0)) hg9 hk9 ⟨_, _, _, _, _, _, _, rfl⟩ ⟨_, _, _, _, _, _, _, rfl⟩ (hf_quo HNE.out (fun h0 => ⟨KV.here HV7b.out h0, KV.here HV9.out h0⟩))).mono ?_)
                rintro e w8 ⟨s8, p8, n8, c8, q8, m8, d8, k8, rfl, hg8, hG8, hk8, hke8, ho8, hz8⟩
                have hbd8 := (hG8.block _ (lt_of_heap hbd7) (fun e => by injection e with e; omega)).trans hbd7
                obtain ⟨_, v1, v2, v3, _, _, _⟩ := cells_seven hbd8
                obtain ⟨_, t4, t5, t6, _, _, _⟩ := free_seven hbd8))
              go_meet
              rw [set3_at1 hbd8]
              have hr8 := (hG8.block _ (lt_of_heap hr7) (fun e => by injection e with e; omega)).trans hr7
              have hB8 := below_kept hB7 hG8 (by omega)
              have hf1 : f = (yk - y0) / (xk - x0) := by rw [hf.out]; unfold fitF; rw [← HU.out]; rfl
              rw [hf1]
              refine ⟨s8, p8, n8, c8, q8, m8, d8, k8, setRow_heap _ _ _ _ _ _ hbd8, row_other hg8 (by omega), row_other hr8 (by omega), below_setRow hB8 (by omega) _, hk8, ?_, fun h0 => ((ho8 h0).mono hB7.size).row hbd8 (by decide) _⟩
              rw [← HU.out, hke8, hke9, hke7]
              simp only [true_and, forall_const, and_assoc]
      case rest =>
        obtain ⟨w9, hw9⟩ : ∃ w9, w9 = wc := ⟨_, rfl⟩
        subst hw9
        clear hbd3 hr3 hg3 HO3 hB3 hlg HU
        obtain ⟨s9, p9, n9, c9, q9, m9, d9, k9, hbd9, hg9, hr9, hB9, hk9, hke9, ho9⟩ := hcut
        have HFf := hide_ (show (fitU k x0 xk = true → Fits (yk - y0) ∧ Fits (xk - x0) ∧ Fits ((yk - y0) / (xk - x0))) → Fits f from fun h => by
          rw [hf.out]
          unfold fitF
          split
          · rename_i hu
            exact (h hu).2.2
          · exact fits_one)
        have HCC := hide_ (show C ↔ (k9 = 0 ∧ Fits (f * x0)) ∧ Fits (y0 - f * x0) from by rw [hC.out]; unfold fitC; rw [hke9, hf.out])
        have hlg9 := lt_of_heap hg9
        obtain ⟨a0, a1, a2, a3, _, _, _⟩ := cells_seven hbd9
        have HFk := hide_ (show k9 = 0 → Fits f from fun h0 => HFf.out (hke9.1 h0))
        have HO9 := hide_ ho9
        clear ho9 hke9 HFf
        go_upto_region 10 with fail
        have hB9d : Below w.heap.size w w9.drew := hB9.drew
        have hB9z : Below w.heap.size w (w9.alloc (.cells #[.bool false, .slice none 0 0, .slice none 0 0] 32)) := hB9.alloc hB9.size _
        have hB9zd : Below w.heap.size w (w9.alloc (.cells #[.bool false, .slice none 0 0, .slice none 0 0] 32)).drew := hB9z.drew
        have hg9z : (w9.alloc (.cells #[.bool false, .slice none 0 0, .slice none 0 0] 32)).drew.heap[g]? = some (.cells #[.int .i64 k9] 127) := heap_past (o' := (.cells #[.bool false, .slice none 0 0, .slice none 0 0] 32)) hg9
        have hg9d : w9.drew.heap[g]? = some (.cells #[.int .i64 k9] 127) := hg9
        have hz9 := heap_alloc_last w9 (.cells #[.bool false, .slice none 0 0, .slice none 0 0] 32)
        have hG9 : w9.grownBy w9.drew (some g) := grown_below (Below.refl _ _).drew _
        have hG9z : w9.grownBy (w9.alloc (.cells #[.bool false, .slice none 0 0, .slice none 0 0] 32)).drew (some g) := grown_below (below_alloc _ _).drew _
        have hne9 : bd ≠ g := by omega
        have HK9 := hide_ (fun W (h : w9.grownBy W (some g)) => (show W.cell? ⟨bd, 1, none⟩ = some (.bool s9) ∧ W.cell? ⟨bd, 2, none⟩ = some (.slice p9 n9 c9) ∧ W.cell? ⟨bd, 3, none⟩ = some (.slice q9 m9 d9) from ⟨(cells_seven (row_later g hbd9 hne9 W h)).2.1, (cells_seven (row_later g hbd9 hne9 W h)).2.2.1, (cells_seven (row_later g hbd9 hne9 W h)).2.2.2.1⟩))
        have HF9 := hide_ (show k9 = 0 → RV w9.drew (.agg #[.bool s9, .slice p9 n9 c9, .slice q9 m9 d9]) f from fun h0 => ((HO9.out h0).rv (HFk.out h0)).below (Below.refl _ _).drew)
        have HF9z := hide_ (show k9 = 0 → RV (w9.alloc (.cells #[.bool false, .slice none 0 0, .slice none 0 0] 32)).drew (.agg #[.bool s9, .slice p9 n9 c9, .slice q9 m9 d9]) f from fun h0 => ((HO9.out h0).rv (HFk.out h0)).below (below_alloc _ _).drew)
        go_cut [11] (fun s9 wx => ∃ b, s9 = .pointer (some ⟨b, 0, none⟩) ∧ RowK g b w9 wx k9 (f * x0))
        case first =>
          go_region_held3 (fun w' => (w'.cell? ⟨ga, oa + 3, none⟩ = some (.bool s1) ∧ w'.cell? ⟨ga, oa + 4, none⟩ = some (.slice p1 n1 c1) ∧ w'.cell? ⟨ga, oa + 5, none⟩ = some (.slice q1 m1 d1)) ∧ (w'.cell? ⟨bd, 1, none⟩ = some (.bool s9) ∧ w'.cell? ⟨bd, 2, none⟩ = some (.slice p9 n9 c9) ∧ w'.cell? ⟨bd, 3, none⟩ = some (.slice q9 m9 d9)))
            (first | (with_reducible exact ⟨HX.out _ (by assumption), HK9.out _ (by assumption)⟩) | go_keep)
            ((first
              | (go_at_call 89
                 (with_reducible refine (do_mul_k g k9 ((w9.alloc (.cells #[.bool false, .slice none 0 0, .slice none 0 0] 32)).drew) _ _ (f * x0) hg9z hk9 ⟨_, _, _, _, _, _, _, rfl⟩ ⟨_, _, _, _, _, _, _, rfl⟩ (hf_mul (fun h0 => ⟨HF9z.out h0, VX.out _ hB9zd⟩))).mono ?_)
                 go_must (
                   rintro e w4 ⟨s8, p8, n8, c8, q8, m8, d8, k4, rfl, hg4, hG4, hk4, hke4, hr4, hz4⟩
                   have hB4 := below_kept hB9zd hG4 (by omega)
                   have hB4s := below_setRow hB4 hB9.size #[.bool s8, .slice p8 n8 c8, .slice q8 m8 d8]
                   have hgs := hG9z.trans hG4
                   have hgss := grown_setRow' hgs (Nat.le_refl _) #[.bool s8, .slice p8 n8 c8, .slice q8 m8 d8]
                   have hz4b := (hG4.block _ (lt_of_heap hz9) (fun e => by injection e with e; omega)).trans hz9
                   obtain ⟨t0', t1', t2'⟩ := cells_three hz4b
                   obtain ⟨t3, t4, t5⟩ := free_three hz4b
                   have HFIN := rowK_set (w0 := w9) (V := (w9.alloc (.cells #[.bool false, .slice none 0 0, .slice none 0 0] 32)).drew) hz4b hlg9 (lt_of_heap hz9) (Nat.le_refl _) hg4 hG9z hG4 hk4 hke4 hr4 hz4
                   rw [← set3_row hz4b] at HFIN hB4s hgss))
              | (go_at_call 89; go_must (
                 (with_reducible refine (do_mul_k g k9 w9.drew _ _ (f * x0) hg9d hk9 ⟨_, _, _, _, _, _, _, rfl⟩ ⟨_, _, _, _, _, _, _, rfl⟩ (hf_mul (fun h0 => ⟨HF9.out h0, VX.out _ hB9d⟩))).mono ?_)
                 rintro e w4 ⟨s8, p8, n8, c8, q8, m8, d8, k4, rfl, hg4, hG4, hk4, hke4, hr4, hz4⟩
                 have hB4 := below_kept hB9d hG4 (by omega)
                 have hB4r := hB4.alloc hB4.size (.cells #[.bool s8, .slice p8 n8 c8, .slice q8 m8 d8] 32)
                 have hgs := hG9.trans hG4
                 have hgsr := grown_new hgs (.cells #[.bool s8, .slice p8 n8 c8, .slice q8 m8 d8] 32)
                 obtain ⟨t0', t1', t2'⟩ := cells_three (heap_alloc_last w4 (.cells #[.bool false, .slice none 0 0, .slice none 0 0] 32))
                 obtain ⟨t3, t4, t5⟩ := free_three (heap_alloc_last w4 (.cells #[.bool false, .slice none 0 0, .slice none 0 0] 32))
                 have HFIN := rowK_new hg4 hG9 hG4 hlg9 hk4 hke4 hr4 hz4))))
          all_goals (go_wp2_with fail; go_meet; exact ⟨_, rfl, HFIN⟩)
        case rest =>
          obtain ⟨w10, hw10⟩ : ∃ w10, w10 = wc := ⟨_, rfl⟩
          subst hw10
          obtain ⟨b11, rfl, s7, p7, n7, c7, q7, m7, d7, k7, hr7, hgb7, hg7, hG7, hk7, hke7, ho7, hz7⟩ := hcut
          have hlg7 := lt_of_heap hg7
          have HR7 := hide_ (rows_later g hr7 (by omega))
          have HV7 := hide_ (show KV g w10 k7 (.agg #[.bool s7, .slice p7 n7 c7, .slice q7 m7 d7]) (f * x0) from fun W hW h0 => RV.grown (ho7 h0) (hke7.1 h0).2 hW (by omega))
          have hB10 := below_kept hB9 hG7 (by omega)
          have hbd10 := (hG7.block _ (lt_of_heap hbd9) (fun e => by injection e with e; omega)).trans hbd9
          have hr10 := (hG7.block _ (lt_of_heap hr9) (fun e => by injection e with e; omega)).trans hr9
          have HO10 := hide_ (show k9 = 0 → RO w10 w.heap.size (.agg #[.bool s9, .slice p9 n9 c9, .slice q9 m9 d9]) f from fun h0 => (HO9.out h0).past hG7 hg9 (by decide))
          clear hr7 ho7 hG7 hB9d hB9z hB9zd hg9z hg9d hz9 hG9 hG9z HK9 HF9 HF9z HO9 hbd9 hr9 hg9 hB9 hlg9 a0 a1 a2 a3
          go_upto_region 11 with fail
          have hB10d : Below w.heap.size w w10.drew := hB10.drew
          have hg10d : w10.drew.heap[g]? = some (.cells #[.int .i64 k7] 127) := hg7
          have hG10 : w10.grownBy w10.drew (some g) := grown_below (Below.refl _ _).drew _
          have hneb : b11 ≠ bd := by omega
          have HV7d := hide_ (show k7 = 0 → RV w10.drew (.agg #[.bool s7, .slice p7 n7 c7, .slice q7 m7 d7]) (f * x0) from fun h0 => HV7.out _ hG10 h0)
          have HARM : Hid (∀ (w11 : World) (s8 : Bool) (p8 : Option Addr) (n8 c8 : Nat) (q8 : Option Addr) (m8 d8 : Nat) (k8 : Int), w11.heap[g]? = some (.cells #[.int .i64 k8] 127) → w10.drew.grownBy w11 (some g) → (k8 = 0 ↔ k7 = 0 ∧ Fits (y0 - f * x0)) → (k8 = 0 ∨ k8 = 3) → (k8 = 0 → RO w11 w10.drew.heap.size (.agg #[.bool s8, .slice p8 n8 c8, .slice q8 m8 d8]) (y0 - f * x0)) →
              Below w.heap.size w w11 ∧ w10.grownBy w11 (some g) ∧ w11.heap[bd]? = some (.cells #[.int .i64 D, .bool s9, .slice p9 n9 c9, .slice q9 m9 d9, .bool false, .slice none 0 0, .slice none 0 0] 46) ∧ Below w.heap.size w (((w11.setCell ⟨bd, 4, none⟩ (.bool s8)).setCell ⟨bd, 5, none⟩ (.slice p8 n8 c8)).setCell ⟨bd, 6, none⟩ (.slice q8 m8 d8)) ∧ (((w11.setCell ⟨bd, 4, none⟩ (.bool s8)).setCell ⟨bd, 5, none⟩ (.slice p8 n8 c8)).setCell ⟨bd, 6, none⟩ (.slice q8 m8 d8)).cell? ⟨b11, 0, none⟩ = some (.bool s7) ∧ (((w11.setCell ⟨bd, 4, none⟩ (.bool s8)).setCell ⟨bd, 5, none⟩ (.slice p8 n8 c8)).setCell ⟨bd, 6, none⟩ (.slice q8 m8 d8)).cell? ⟨b11, 1, none⟩ = some (.slice p7 n7 c7) ∧ (((w11.setCell ⟨bd, 4, none⟩ (.bool s8)).setCell ⟨bd, 5, none⟩ (.slice p8 n8 c8)).setCell ⟨bd, 6, none⟩ (.slice q8 m8 d8)).cell? ⟨b11, 2, none⟩ = some (.slice q7 m7 d7) ∧ RowE g bd w (((w11.setCell ⟨bd, 4, none⟩ (.bool s8)).setCell ⟨bd, 5, none⟩ (.slice p8 n8 c8)).setCell ⟨bd, 6, none⟩ (.slice q8 m8 d8)) D f (y0 - f * x0) C) := by
            refine hide_ ?_
            intro w11 s8 p8 n8 c8 q8 m8 d8 k8 hg8 hG8 hke8 hk8 ho8
            have hB11 := below_kept hB10d hG8 (by omega)
            have hG11 := hG10.trans hG8
            have hbd11 := (hG11.block _ (lt_of_heap hbd10) (fun e => by injection e with e; omega)).trans hbd10
            have hr11 := (hG11.block _ (lt_of_heap hr10) (fun e => by injection e with e; omega)).trans hr10
            have hB11s := below_setRow hB11 (show w.heap.size ≤ bd by omega) #[.int .i64 D, .bool s9, .slice p9 n9 c9, .slice q9 m9 d9, .bool s8, .slice p8 n8 c8, .slice q8 m8 d8]
            obtain ⟨r0', r1', r2'⟩ := HR7.out _ hG11
            have HFIN : RowE g bd w (w11.setRow bd #[.int .i64 D, .bool s9, .slice p9 n9 c9, .slice q9 m9 d9, .bool s8, .slice p8 n8 c8, .slice q8 m8 d8]) D f (y0 - f * x0) C :=
              ⟨s9, p9, n9, c9, q9, m9, d9, s8, p8, n8, c8, q8, m8, d8, k8, setRow_heap _ _ _ _ _ _ hbd11, row_other hg8 (by omega), row_other hr11 (by omega), hB11s, hk8, by rw [hke8, hke7]; exact HCC.out.symm, fun h0 => ⟨w10.heap.size, hB10.size, (HO10.out (hke7.1 (hke8.1 h0).1).1).blk_lt, ((HO10.out (hke7.1 (hke8.1 h0).1).1).past hG11 hg7 (by decide)).row hbd11 (by decide) _, (ho8 h0).row hbd11 (by decide) _⟩⟩
            rw [← set3_at4 hbd11] at HFIN hB11s
            exact ⟨hB11, hG11, hbd11, hB11s, (keep_at4 hneb).trans r0', (keep_at4 hneb).trans r1', (keep_at4 hneb).trans r2', HFIN⟩
          go_cut [] (fun wx => RowE g bd w wx D f (y0 - f * x0) C)
          case first =>
            go_region_held3 (fun w' => (w'.cell? ⟨gb, ob + 3, none⟩ = some (.bool s3) ∧ w'.cell? ⟨gb, ob + 4, none⟩ = some (.slice p3 n3 c3) ∧ w'.cell? ⟨gb, ob + 5, none⟩ = some (.slice q3 m3 d3)) ∧ (w'.cell? ⟨b11, 0, none⟩ = some (.bool s7) ∧ w'.cell? ⟨b11, 1, none⟩ = some (.slice p7 n7 c7) ∧ w'.cell? ⟨b11, 2, none⟩ = some (.slice q7 m7 d7)))
              (first | (with_reducible exact ⟨HY.out _ hB11s, r0, r1, r2⟩) | (with_reducible exact ⟨HY.out _ (by assumption), HR7.out _ (by assumption)⟩) | go_keep)
              ((first
                | (go_at_call 89; go_must (
                   (with_reducible refine (do_sub_k g k7 w10.drew _ _ (y0 - f * x0) hg10d hk7 ⟨_, _, _, _, _, _, _, rfl⟩ ⟨_, _, _, _, _, _, _, rfl⟩ (hf_sub (fun h0 => ⟨VY.out _ hB10d, HV7d.out h0⟩))).mono ?_)
                   rintro e w11 ⟨s8, p8, n8, c8, q8, m8, d8, k8, rfl, hg8, hG8, hk8, hke8, ho8, hz8⟩
                   obtain ⟨hB11, hG11, hbd11, hB11s, r0, r1, r2, HFIN⟩ := HARM.out w11 s8 p8 n8 c8 q8 m8 d8 k8 hg8 hG8 hke8 hk8 ho8
                   obtain ⟨_, _, _, _, v4, v5, v6⟩ := cells_seven hbd11
                   obtain ⟨_, _, _, _, t4, t5, t6⟩ := free_seven hbd11))))
            all_goals (go_wp2_with fail; go_meet; exact HFIN)
          case rest =>
            obtain ⟨w12, hw12⟩ : ∃ w12, w12 = wc := ⟨_, rfl⟩
            subst hw12
            clear hB10d hg10d hG10 hB10 hbd10 hr10 HO10 HV7 HR7 hg7
            obtain ⟨s5, p5, n5, c5, q5, m5, d5, s6, p6, n6, c6, q6, m6, d6, k12, hbd12, hg12, hr12, hB12, hk12, hkC, hro⟩ := hcut
            have hlg12 := lt_of_heap hg12
            obtain ⟨x0', _, _, _, _, _, _⟩ := cells_seven hbd12
            have y0' := cells_one hg12
            have hneg : g ≠ w.heap.size := by omega
            have hned : bd ≠ w.heap.size := by omega
            have hnegd : g ≠ bd := by omega
            rcases hk12 with rfl | rfl
            · have hCt : C := hkC.1 rfl
              have hro := hro rfl
              clear hkC
              have HRO := hide_ hro
              have HCT := hide_ hCt
              clear hro hCt
              cases hfar : farB D
              · go_upto_region 14 with (go_at_call 64; go_must ((with_reducible refine (far_any D _).mono ?_); rintro e w13 ⟨rfl, j13, rfl⟩))
                have Q1 : (w12.drewN j13).heap[bd]? = some (.cells #[.int .i64 D, .bool s5, .slice p5 n5 c5, .slice q5 m5 d5, .bool s6, .slice p6 n6 c6, .slice q6 m6 d6] 46) := hbd12
                have Q2 : (w12.drewN j13).heap[g]? = some (.cells #[.int .i64 0] 127) := hg12
                have Q3 : (w12.drewN j13).heap[w.heap.size]? = some (.cells #[.int .i64 0, .bool false, .slice none 0 0, .slice none 0 0, .bool false, .slice none 0 0, .slice none 0 0] 46) := hr12
                have Q4 : Below w.heap.size w (w12.drewN j13) := below_drewN hB12 _
                have Q5 : Hid (C → ∃ B, w.heap.size ≤ B ∧ (∀ j, (Value.slice p5 n5 c5).ownBlock = some j ∨ (Value.slice q5 m5 d5).ownBlock = some j → j < B) ∧ RO (w12.drewN j13) w.heap.size (.agg #[.bool s5, .slice p5 n5 c5, .slice q5 m5 d5]) f ∧ RO (w12.drewN j13) B (.agg #[.bool s6, .slice p6 n6 c6, .slice q6 m6 d6]) (y0 - f * x0)) := hide_ (fun _ => HRO.out)
                have Q6 : Hid ((C ∧ (0 : Int) = if farB D = true then 2 else 0) ∨ (¬ C ∧ (0 : Int) = 3)) := hide_ (.inl ⟨HCT.out, by rw [hfar]; rfl⟩)
                generalize (w12.drewN j13) = w13 at *
                obtain ⟨j0, j1, j2, j3, j4, j5, j6⟩ := cells_seven Q1
                have j7 := cells_one Q2
                obtain ⟨k0, k1, k2, k3, k4, k5, k6⟩ := cells_seven Q3
                obtain ⟨l0, l1, l2, l3, l4, l5, l6⟩ := free_seven Q3
                go_region_held3 (fun w' => w'.cell? ⟨bd, 0, none⟩ = some (.int .i64 D) ∧ w'.cell? ⟨bd, 1, none⟩ = some (.bool s5) ∧ w'.cell? ⟨bd, 2, none⟩ = some (.slice p5 n5 c5) ∧ w'.cell? ⟨bd, 3, none⟩ = some (.slice q5 m5 d5) ∧ w'.cell? ⟨bd, 4, none⟩ = some (.bool s6) ∧ w'.cell? ⟨bd, 5, none⟩ = some (.slice p6 n6 c6) ∧ w'.cell? ⟨bd, 6, none⟩ = some (.slice q6 m6 d6) ∧ w'.cell? ⟨g, 0, none⟩ = some (.int .i64 0))
                  (first | (with_reducible exact ⟨(keep_set7d hned).trans j0, (keep_set7d hned).trans j1, (keep_set7d hned).trans j2, (keep_set7d hned).trans j3, (keep_set7d hned).trans j4, (keep_set7d hned).trans j5, (keep_set7d hned).trans j6, (keep_set7d hneg).trans j7⟩) | (with_reducible exact ⟨(keep_set7 hned).trans j0, (keep_set7 hned).trans j1, (keep_set7 hned).trans j2, (keep_set7 hned).trans j3, (keep_set7 hned).trans j4, (keep_set7 hned).trans j5, (keep_set7 hned).trans j6, (keep_set7 hneg).trans j7⟩) | (with_reducible exact ⟨j0, j1, j2, j3, j4, j5, j6, j7⟩) | go_keep)
                  (fail)
                go_wp2
                rw [set7_row Q3]
                refine ret_ct rfl w.heap.size 46 _ _ rfl (heap_drew (setRow_heap _ _ _ _ _ _ Q3)) Try.underlying46 rfl (by kernel_rfl) rfl ?_
                refine ⟨⟨s5, p5, n5, c5, q5, m5, d5, s6, p6, n6, c6, q6, m6, d6, 0, rfl, Q6.out, fun hc => ?_⟩, (below_setRow Q4 (Nat.le_refl _) _).drew⟩
                obtain ⟨B, b1, b2, b3, b4⟩ := Q5.out hc
                exact ⟨B, b1, b2, (b3.row Q3 (by decide) _).below (Below.refl _ _).drew, (b4.row Q3 (by decide) _).below (Below.refl _ _).drew⟩
              · have f12 := free_one hg12
                go_upto_region 14 with (go_at_call 64; go_must ((with_reducible refine (far_any D _).mono ?_); rintro e w13 ⟨rfl, j13, rfl⟩))
                have Q1 : ((w12.drewN j13).setCell ⟨g, 0, none⟩ (.int .i64 2)).heap[bd]? = some (.cells #[.int .i64 D, .bool s5, .slice p5 n5 c5, .slice q5 m5 d5, .bool s6, .slice p6 n6 c6, .slice q6 m6 d6] 46) := cell_other (w := w12.drewN j13) hbd12 (by omega)
                have Q2 : ((w12.drewN j13).setCell ⟨g, 0, none⟩ (.int .i64 2)).heap[g]? = some (.cells #[.int .i64 2] 127) := set1_heap (w := w12.drewN j13) hg12
                have Q3 : ((w12.drewN j13).setCell ⟨g, 0, none⟩ (.int .i64 2)).heap[w.heap.size]? = some (.cells #[.int .i64 0, .bool false, .slice none 0 0, .slice none 0 0, .bool false, .slice none 0 0, .slice none 0 0] 46) := cell_other (w := w12.drewN j13) hr12 (by omega)
                have Q4 : Below w.heap.size w ((w12.drewN j13).setCell ⟨g, 0, none⟩ (.int .i64 2)) := (below_drewN hB12 _).setCell (by show w.heap.size ≤ g; omega) _
                have Q5 : Hid (C → ∃ B, w.heap.size ≤ B ∧ (∀ j, (Value.slice p5 n5 c5).ownBlock = some j ∨ (Value.slice q5 m5 d5).ownBlock = some j → j < B) ∧ RO ((w12.drewN j13).setCell ⟨g, 0, none⟩ (.int .i64 2)) w.heap.size (.agg #[.bool s5, .slice p5 n5 c5, .slice q5 m5 d5]) f ∧ RO ((w12.drewN j13).setCell ⟨g, 0, none⟩ (.int .i64 2)) B (.agg #[.bool s6, .slice p6 n6 c6, .slice q6 m6 d6]) (y0 - f * x0)) := hide_ (fun _ => by obtain ⟨B, b1, b2, b3, b4⟩ := HRO.out; exact ⟨B, b1, b2, b3.past (grown_setOne (grown_below (below_drewN (Below.refl _ _) _) _) _) hg12 (by decide), b4.past (grown_setOne (grown_below (below_drewN (Below.refl _ _) _) _) _) hg12 (by decide)⟩)
                have Q6 : Hid ((C ∧ (2 : Int) = if farB D = true then 2 else 0) ∨ (¬ C ∧ (2 : Int) = 3)) := hide_ (.inl ⟨HCT.out, by rw [hfar]; rfl⟩)
                generalize ((w12.drewN j13).setCell ⟨g, 0, none⟩ (.int .i64 2)) = w13 at *
                obtain ⟨j0, j1, j2, j3, j4, j5, j6⟩ := cells_seven Q1
                have j7 := cells_one Q2
                obtain ⟨k0, k1, k2, k3, k4, k5, k6⟩ := cells_seven Q3
                obtain ⟨l0, l1, l2, l3, l4, l5, l6⟩ := free_seven Q3
                go_region_held3 (fun w' => w'.cell? ⟨bd, 0, none⟩ = some (.int .i64 D) ∧ w'.cell? ⟨bd, 1, none⟩ = some (.bool s5) ∧ w'.cell? ⟨bd, 2, none⟩ = some (.slice p5 n5 c5) ∧ w'.cell? ⟨bd, 3, none⟩ = some (.slice q5 m5 d5) ∧ w'.cell? ⟨bd, 4, none⟩ = some (.bool s6) ∧ w'.cell? ⟨bd, 5, none⟩ = some (.slice p6 n6 c6) ∧ w'.cell? ⟨bd, 6, none⟩ = some (.slice q6 m6 d6) ∧ w'.cell? ⟨g, 0, none⟩ = some (.int .i64 2))
                  (first | (with_reducible exact ⟨(keep_set7d hned).trans j0, (keep_set7d hned).trans j1, (keep_set7d hned).trans j2, (keep_set7d hned).trans j3, (keep_set7d hned).trans j4, (keep_set7d hned).trans j5, (keep_set7d hned).trans j6, (keep_set7d hneg).trans j7⟩) | (with_reducible exact ⟨(keep_set7 hned).trans j0, (keep_set7 hned).trans j1, (keep_set7 hned).trans j2, (keep_set7 hned).trans j3, (keep_set7 hned).trans j4, (keep_set7 hned).trans j5, (keep_set7 hned).trans j6, (keep_set7 hneg).trans j7⟩) | (with_reducible exact ⟨j0, j1, j2, j3, j4, j5, j6, j7⟩) | go_keep)
                  (fail)
                go_wp2
                rw [set7_row Q3]
                refine ret_ct rfl w.heap.size 46 _ _ rfl (heap_drew (setRow_heap _ _ _ _ _ _ Q3)) Try.underlying46 rfl (by kernel_rfl) rfl ?_
                refine ⟨⟨s5, p5, n5, c5, q5, m5, d5, s6, p6, n6, c6, q6, m6, d6, 2, rfl, Q6.out, fun hc => ?_⟩, (below_setRow Q4 (Nat.le_refl _) _).drew⟩
                obtain ⟨B, b1, b2, b3, b4⟩ := Q5.out hc
                exact ⟨B, b1, b2, (b3.row Q3 (by decide) _).below (Below.refl _ _).drew, (b4.row Q3 (by decide) _).below (Below.refl _ _).drew⟩
            · have hCf : ¬ C := fun h => by have := hkC.2 h; cases this
              clear hkC hro
              have HCT := hide_ hCf
              clear hCf
              go_upto_region 14 with fail
              have Q1 : (w12).heap[bd]? = some (.cells #[.int .i64 D, .bool s5, .slice p5 n5 c5, .slice q5 m5 d5, .bool s6, .slice p6 n6 c6, .slice q6 m6 d6] 46) := hbd12
              have Q2 : (w12).heap[g]? = some (.cells #[.int .i64 3] 127) := hg12
              have Q3 : (w12).heap[w.heap.size]? = some (.cells #[.int .i64 0, .bool false, .slice none 0 0, .slice none 0 0, .bool false, .slice none 0 0, .slice none 0 0] 46) := hr12
              have Q4 : Below w.heap.size w (w12) := hB12
              have Q5 : Hid (C → ∃ B, w.heap.size ≤ B ∧ (∀ j, (Value.slice p5 n5 c5).ownBlock = some j ∨ (Value.slice q5 m5 d5).ownBlock = some j → j < B) ∧ RO (w12) w.heap.size (.agg #[.bool s5, .slice p5 n5 c5, .slice q5 m5 d5]) f ∧ RO (w12) B (.agg #[.bool s6, .slice p6 n6 c6, .slice q6 m6 d6]) (y0 - f * x0)) := hide_ (fun hc => absurd hc HCT.out)
              have Q6 : Hid ((C ∧ (3 : Int) = if farB D = true then 2 else 0) ∨ (¬ C ∧ (3 : Int) = 3)) := hide_ (.inr ⟨HCT.out, rfl⟩)
              obtain ⟨w13, hw13⟩ : ∃ w13, w13 = w12 := ⟨_, rfl⟩
              subst hw13
              obtain ⟨j0, j1, j2, j3, j4, j5, j6⟩ := cells_seven Q1
              have j7 := cells_one Q2
              obtain ⟨k0, k1, k2, k3, k4, k5, k6⟩ := cells_seven Q3
              obtain ⟨l0, l1, l2, l3, l4, l5, l6⟩ := free_seven Q3
              go_region_held3 (fun w' => w'.cell? ⟨bd, 0, none⟩ = some (.int .i64 D) ∧ w'.cell? ⟨bd, 1, none⟩ = some (.bool s5) ∧ w'.cell? ⟨bd, 2, none⟩ = some (.slice p5 n5 c5) ∧ w'.cell? ⟨bd, 3, none⟩ = some (.slice q5 m5 d5) ∧ w'.cell? ⟨bd, 4, none⟩ = some (.bool s6) ∧ w'.cell? ⟨bd, 5, none⟩ = some (.slice p6 n6 c6) ∧ w'.cell? ⟨bd, 6, none⟩ = some (.slice q6 m6 d6) ∧ w'.cell? ⟨g, 0, none⟩ = some (.int .i64 3))
                (first | (with_reducible exact ⟨(keep_set7d hned).trans j0, (keep_set7d hned).trans j1, (keep_set7d hned).trans j2, (keep_set7d hned).trans j3, (keep_set7d hned).trans j4, (keep_set7d hned).trans j5, (keep_set7d hned).trans j6, (keep_set7d hneg).trans j7⟩) | (with_reducible exact ⟨(keep_set7 hned).trans j0, (keep_set7 hned).trans j1, (keep_set7 hned).trans j2, (keep_set7 hned).trans j3, (keep_set7 hned).trans j4, (keep_set7 hned).trans j5, (keep_set7 hned).trans j6, (keep_set7 hneg).trans j7⟩) | (with_reducible exact ⟨j0, j1, j2, j3, j4, j5, j6, j7⟩) | go_keep)
                (fail)
              go_wp2
              rw [set7_row Q3]
              refine ret_ct rfl w.heap.size 46 _ _ rfl (heap_drew (setRow_heap _ _ _ _ _ _ Q3)) Try.underlying46 rfl (by kernel_rfl) rfl ?_
              refine ⟨⟨s5, p5, n5, c5, q5, m5, d5, s6, p6, n6, c6, q6, m6, d6, 3, rfl, .inr ⟨HCT.out, rfl⟩, fun hc => ?_⟩, (below_setRow Q4 (Nat.le_refl _) _).drew⟩
              obtain ⟨B, b1, b2, b3, b4⟩ := Q5.out hc
              exact ⟨B, b1, b2, (b3.row Q3 (by decide) _).below (Below.refl _ _).drew, (b4.row Q3 (by decide) _).below (Below.refl _ _).drew⟩
end Go.Proofs.Ytcibbnphkpaifaa
