/- second.between: the walk. -/
import Derived.Test.YtcibbnphkpaifaaSe
import Derived.Deep.DeepCutAuto
namespace Go.Proofs.Ytcibbnphkpaifaa
open Go.RowKit
set_option linter.unusedVariables false
set_option maxRecDepth 100000
/-- A fraction that may have been spoilt on the way. -/
def KV (g : Nat) (w : World) (k : Int) (v : Value) (x : Rat) : Prop := ∀ W, w.grownBy W (some g) → k = 0 → RV W v x
theorem KV.of {g : Nat} {w0 w : World} {k k0 : Int} {v : Value} {x : Rat} (hk : k = 0 ↔ k0 = 0 ∧ Fits x) (hr : k = 0 → RO w w0.heap.size v x) (hg : g < w0.heap.size) : KV g w k v x :=
  fun W hG h => RV.grown (hr h) (hk.1 h).2 hG hg
theorem KV.here {g : Nat} {w : World} {k : Int} {v : Value} {x : Rat} (h : KV g w k v x) (h0 : k = 0) : RV w v x := h w (World.grownBy.refl _ _) h0
theorem KV.on {g : Nat} {w w' : World} {k k' : Int} {v : Value} {x : Rat} (h : KV g w k v x) (hG : w.grownBy w' (some g)) (hk : k' = 0 → k = 0) : KV g w' k' v x :=
  fun W hW h0 => h W (hG.trans hW) (hk h0)
theorem hf_mul {w : World} {k : Int} {va vb : Value} {x y : Rat} (h : k = 0 → RV w va x ∧ RV w vb y) : k = 0 → ∀ W, Below w.heap.size w W → Calls Try.prog 74 #[va, vb] W (ResR W (x * y)) :=
  fun h0 W hb => rmul_any va vb x y W ((h h0).1.below hb) ((h h0).2.below hb)
theorem hf_sub {w : World} {k : Int} {va vb : Value} {x y : Rat} (h : k = 0 → RV w va x ∧ RV w vb y) : k = 0 → ∀ W, Below w.heap.size w W → Calls Try.prog 47 #[va, vb] W (ResR W (x - y)) :=
  fun h0 W hb => rsub_any va vb x y W ((h h0).1.below hb) ((h h0).2.below hb)
theorem hf_add {w : World} {k : Int} {va vb : Value} {x y : Rat} (h : k = 0 → RV w va x ∧ RV w vb y) : k = 0 → ∀ W, Below w.heap.size w W → Calls Try.prog 84 #[va, vb] W (ResR W (x + y)) :=
  fun h0 W hb => radd_any va vb x y W ((h h0).1.below hb) ((h h0).2.below hb)
theorem keep_set3d {w : World} {B g o : Nat} {x y z : Value} (h : g ≠ B) : ((((w.setCell ⟨B, 0, none⟩ x).setCell ⟨B, 1, none⟩ y).setCell ⟨B, 2, none⟩ z).drew).cell? ⟨g, o, none⟩ = w.cell? ⟨g, o, none⟩ := keep_set3 h
theorem below_kept {w W W' : World} {g : Nat} (h : Below w.heap.size w W) (hG : W.grownBy W' (some g)) (hg : w.heap.size ≤ g) : Below w.heap.size w W' := below_grown h h.size hG hg
theorem fits_quo (n d : Int) (h1 : -9223372036854775808 ≤ n) (h2 : n < 9223372036854775808) (g1 : -9223372036854775808 ≤ d) (g2 : d < 9223372036854775808) (hd : d ≠ 0) : Fits ((n : Rat) / (d : Rat)) := by
  rw [← small_mk n d hd]
  obtain ⟨e1, e2, _⟩ := mk_parts (!(decide (n < 0) == decide (d < 0))) n.natAbs d.natAbs (by omega)
  have l1 := len_i64 n h1 h2
  have l2 := len_i64 d g1 g2
  have l3 := wd_len_mono (Nat.div_le_self n.natAbs (Nat.gcd n.natAbs d.natAbs))
  have l4 := wd_len_mono (Nat.div_le_self d.natAbs (Nat.gcd n.natAbs d.natAbs))
  unfold Fits rn rd
  rw [e1, e2]
  omega
/-- A fraction that steps.do told, as it lies in a block. -/
def RowK (g b : Nat) (w0 w : World) (k0 : Int) (x : Rat) : Prop := ∃ s p n c q m d k, w.heap[b]? = some (.cells #[.bool s, .slice p n c, .slice q m d] 32) ∧ g < b ∧ w.heap[g]? = some (.cells #[.int .i64 k] 127) ∧ w0.grownBy w (some g) ∧ (k = 0 ∨ k = 3) ∧ (k = 0 ↔ k0 = 0 ∧ Fits x) ∧ (k = 0 → RO w (g + 1) (.agg #[.bool s, .slice p n c, .slice q m d]) x) ∧ (k ≠ 0 → Value.agg #[.bool s, .slice p n c, .slice q m d] = zeroR)
theorem rowK_new {g : Nat} {w0 V W : World} {k0 k : Int} {x : Rat} {s : Bool} {p q : Option Addr} {n c m d : Nat} (hg : W.heap[g]? = some (.cells #[.int .i64 k] 127)) (h0 : w0.grownBy V (some g)) (hG : V.grownBy W (some g)) (hV : g < V.heap.size)
    (h1 : k = 0 ∨ k = 3) (h2 : k = 0 ↔ k0 = 0 ∧ Fits x) (h3 : k = 0 → RO W V.heap.size (.agg #[.bool s, .slice p n c, .slice q m d]) x) (h4 : k ≠ 0 → Value.agg #[.bool s, .slice p n c, .slice q m d] = zeroR) :
    RowK g W.heap.size w0 (W.alloc (.cells #[.bool s, .slice p n c, .slice q m d] 32)) k0 x :=
  ⟨_, _, _, _, _, _, _, k, heap_alloc_last _ _, lt_of_heap hg, heap_past hg, grown_new (h0.trans hG) _, h1, h2, fun h => ((h3 h).below (below_alloc _ _)).mono hV, h4⟩
theorem rowK_set {g b : Nat} {w0 V W : World} {k0 k : Int} {x : Rat} {s : Bool} {p q : Option Addr} {n c m d : Nat} {u0 u1 u2 : Value} (hb : W.heap[b]? = some (.cells #[u0, u1, u2] 32)) (hgb : g < b) (hbV : b < V.heap.size) (hb0 : w0.heap.size ≤ b) (hg : W.heap[g]? = some (.cells #[.int .i64 k] 127)) (h0 : w0.grownBy V (some g)) (hG : V.grownBy W (some g))
    (h1 : k = 0 ∨ k = 3) (h2 : k = 0 ↔ k0 = 0 ∧ Fits x) (h3 : k = 0 → RO W V.heap.size (.agg #[.bool s, .slice p n c, .slice q m d]) x) (h4 : k ≠ 0 → Value.agg #[.bool s, .slice p n c, .slice q m d] = zeroR) :
    RowK g b w0 (W.setRow b #[.bool s, .slice p n c, .slice q m d]) k0 x :=
  ⟨_, _, _, _, _, _, _, k, setRow_heap _ _ _ _ _ _ hb, hgb, row_other hg (by omega), grown_setRow' (h0.trans hG) hb0 _, h1, h2, fun h => (((h3 h).stored (W := w0) hbV).mono (by omega)), h4⟩
set_option maxHeartbeats 12800000 in
theorem between_any (ta la tb lb t : Int) (topa topb : Bool) (u v : Rat) (w : World) (s1 s2 : Bool) (p1 q1 p2 q2 : Option Addr) (n1 c1 m1 d1 n2 c2 m2 d2 : Nat)
    (hu : RV w (.agg #[.bool s1, .slice p1 n1 c1, .slice q1 m1 d1]) u) (hv : RV w (.agg #[.bool s2, .slice p2 n2 c2, .slice q2 m2 d2]) v)
    (hla : 0 ≤ la ∧ la ≤ 1048576) (htb : tb ≤ 1048576) (hab : la < tb) (ht : 0 ≤ t ∧ t ≤ 1048576) :
    Calls Try.prog 86 #[.agg #[.int .i64 ta, .int .i64 la, .bool topa, .bool s1, .slice p1 n1 c1, .slice q1 m1 d1], .agg #[.int .i64 tb, .int .i64 lb, .bool topb, .bool s2, .slice p2 n2 c2, .slice q2 m2 d2], .int .i64 t] w
      fun e w' => ((StepsFit u v (((t - la : Int) : Rat) / ((tb - la : Int) : Rat)) ∧ ∃ s p n c q m d, e = .returned (.tuple #[.agg #[.bool s, .slice p n c, .slice q m d], .int .i64 0]) ∧ RO w' w.heap.size (.agg #[.bool s, .slice p n c, .slice q m d]) (curveQ u v (((t - la : Int) : Rat) / ((tb - la : Int) : Rat)))) ∨ (¬ StepsFit u v (((t - la : Int) : Rat) / ((tb - la : Int) : Rat)) ∧ e = .returned (.tuple #[zeroR, .int .i64 3]))) ∧ Below w.heap.size w w' := by
  have hS := fun W => rsmall_any (t - la) (tb - la) W (by omega) (by omega) (by omega) (by omega) (by omega)
  have fx : Fits (((t - la : Int) : Rat) / ((tb - la : Int) : Rat)) := fits_quo _ _ (by omega) (by omega) (by omega) (by omega) (by omega)
  have HU := hide_ (fun W (h : Below w.heap.size w W) => hu.below h)
  have HV := hide_ (fun W (h : Below w.heap.size w W) => hv.below h)
  have HS := hide_ hS
  have FX := hide_ fx
  clear hu hv hS fx
  have hw1 : IntKind.i64.wrap (t - la) = t - la := IntWalk.i64_in _ (by omega)
  have hw2 : IntKind.i64.wrap (tb - la) = tb - la := IntWalk.i64_in _ (by omega)
  generalize (((t - la : Int) : Rat) / ((tb - la : Int) : Rat)) = x at *
  clear hla htb hab ht
  have hza : ∃ O, O = Obj.cells #[.int .i64 ta, .int .i64 la, .bool topa, .bool s1, .slice p1 n1 c1, .slice q1 m1 d1] 34 := ⟨_, rfl⟩
  have hb0 : Below w.heap.size w ((((w.alloc (.cells #[.int .i64 ta, .int .i64 la, .bool topa, .bool s1, .slice p1 n1 c1, .slice q1 m1 d1] 34)).alloc (.cells #[.int .i64 tb, .int .i64 lb, .bool topb, .bool s2, .slice p2 n2 c2, .slice q2 m2 d2] 34)).alloc (.cells #[.bool false, .slice none 0 0, .slice none 0 0] 32)).alloc (.cells #[.int .i64 0] 127)) := (((below_alloc _ _).alloc (by simp) _).alloc (by simp; omega) _).alloc (by simp; omega) _
  have hg0 : ((((w.alloc (.cells #[.int .i64 ta, .int .i64 la, .bool topa, .bool s1, .slice p1 n1 c1, .slice q1 m1 d1] 34)).alloc (.cells #[.int .i64 tb, .int .i64 lb, .bool topb, .bool s2, .slice p2 n2 c2, .slice q2 m2 d2] 34)).alloc (.cells #[.bool false, .slice none 0 0, .slice none 0 0] 32)).alloc (.cells #[.int .i64 0] 127)).heap[w.heap.size + 1 + 1 + 1]? = some (.cells #[.int .i64 0] 127) := by
    have e : (((w.alloc (.cells #[.int .i64 ta, .int .i64 la, .bool topa, .bool s1, .slice p1 n1 c1, .slice q1 m1 d1] 34)).alloc (.cells #[.int .i64 tb, .int .i64 lb, .bool topb, .bool s2, .slice p2 n2 c2, .slice q2 m2 d2] 34)).alloc (.cells #[.bool false, .slice none 0 0, .slice none 0 0] 32)).heap.size = w.heap.size + 1 + 1 + 1 := by simp
    rw [← e]
    exact heap_alloc_last _ _
  have hA0 := heap_past (o' := .cells #[.int .i64 0] 127) (heap_past (o' := .cells #[.bool false, .slice none 0 0, .slice none 0 0] 32) (heap_past (o' := .cells #[.int .i64 tb, .int .i64 lb, .bool topb, .bool s2, .slice p2 n2 c2, .slice q2 m2 d2] 34) (heap_alloc_last w (.cells #[.int .i64 ta, .int .i64 la, .bool topa, .bool s1, .slice p1 n1 c1, .slice q1 m1 d1] 34))))
  have hB0 := heap_past (o' := .cells #[.int .i64 0] 127) (heap_past (o' := .cells #[.bool false, .slice none 0 0, .slice none 0 0] 32) (heap_at1 w (.cells #[.int .i64 ta, .int .i64 la, .bool topa, .bool s1, .slice p1 n1 c1, .slice q1 m1 d1] 34) (.cells #[.int .i64 tb, .int .i64 lb, .bool topb, .bool s2, .slice p2 n2 c2, .slice q2 m2 d2] 34)))
  have hR0 := heap_past (o' := .cells #[.int .i64 0] 127) (heap_at2 w (.cells #[.int .i64 ta, .int .i64 la, .bool topa, .bool s1, .slice p1 n1 c1, .slice q1 m1 d1] 34) (.cells #[.int .i64 tb, .int .i64 lb, .bool topb, .bool s2, .slice p2 n2 c2, .slice q2 m2 d2] 34) (.cells #[.bool false, .slice none 0 0, .slice none 0 0] 32))
  obtain ⟨a0, a1, _, a3, a4, a5⟩ := cells_six hA0
  obtain ⟨b0, b1, _, b3, b4, b5⟩ := cells_six hB0
  have HA0 := hide_ hA0
  have HB0 := hide_ hB0
  have HR0 := hide_ hR0
  have HG0 := hide_ hg0
  have HBB := hide_ hb0
  clear hA0 hB0 hR0 hg0 hza
  go_enter Try.func86, Try.ntmps86
  go_upto_region 4 with (first
    | (go_at_call 57; go_must (
        (with_reducible refine (HS.out _).mono ?_)
        rintro e w1 h1
        obtain ⟨sx, px, nx, cx, qx, mx, dx, ex, rfl⟩ := h1.form
        have H1 := hide_ h1
        have hb1 := HBB.out.trans (h1.2.mono HBB.out.size)
        have hg1 : (w1.alloc (.cells #[.bool sx, .slice px nx cx, .slice qx mx dx] 32)).heap[w.heap.size + 1 + 1 + 1]? = some (.cells #[.int .i64 0] 127) := heap_past ((h1.2.block _ (lt_of_heap HG0.out)).trans HG0.out)
        have hgc := cells_one hg1
        have hgf := free_one hg1
        clear a0 a1 a3 a4 a5 b0 b1 b3 b4 b5))
    | ((with_reducible apply wpList_store_new); (with_reducible rfl); (with_reducible rfl); rfl; rfl; kernel_rfl; rfl; kernel_rfl) | ((with_reducible apply wpList_store_blk); (with_reducible rfl); (with_reducible rfl); rfl; assumption; rfl; kernel_rfl; rfl; kernel_rfl))
  have hb2 : Below w.heap.size w ((w1.alloc (.cells #[.bool sx, .slice px nx cx, .slice qx mx dx] 32)).setCell ⟨w.heap.size + 1 + 1 + 1, 0, none⟩ (.int .i64 ex)) := (hb1.alloc hb1.size _).setCell (by simp; omega) _
  have hl1 : w.heap.size + 1 + 1 + 1 < w1.heap.size := by have := H1.out.2.size; simp at this; omega
  have HXR := hide_ (rows_later (w.heap.size + 1 + 1 + 1) (cell_other (g := w.heap.size + 1 + 1 + 1) (x := .int .i64 ex) (heap_alloc_last w1 (.cells #[.bool sx, .slice px nx cx, .slice qx mx dx] 32)) (by omega)) (by omega))
  have hA2 := cell_other (g := w.heap.size + 1 + 1 + 1) (x := .int .i64 ex) (heap_past (o' := .cells #[.bool sx, .slice px nx cx, .slice qx mx dx] 32) ((H1.out.2.block _ (lt_of_heap HA0.out)).trans HA0.out)) (by omega)
  have hB2 := cell_other (g := w.heap.size + 1 + 1 + 1) (x := .int .i64 ex) (heap_past (o' := .cells #[.bool sx, .slice px nx cx, .slice qx mx dx] 32) ((H1.out.2.block _ (lt_of_heap HB0.out)).trans HB0.out)) (by omega)
  have hR2 := cell_other (g := w.heap.size + 1 + 1 + 1) (x := .int .i64 ex) (heap_past (o' := .cells #[.bool sx, .slice px nx cx, .slice qx mx dx] 32) ((H1.out.2.block _ (lt_of_heap HR0.out)).trans HR0.out)) (by omega)
  have hG2 := set1_heap (x := .int .i64 ex) hg1
  have hs2 : ((w1.alloc (.cells #[.bool sx, .slice px nx cx, .slice qx mx dx] 32)).setCell ⟨w.heap.size + 1 + 1 + 1, 0, none⟩ (.int .i64 ex)).heap.size = w1.heap.size + 1 := by simp [World.setCell]
  have hX2 : ex = 0 ∧ RO ((w1.alloc (.cells #[.bool sx, .slice px nx cx, .slice qx mx dx] 32)).setCell ⟨w.heap.size + 1 + 1 + 1, 0, none⟩ (.int .i64 ex)) (w.heap.size + 1 + 1 + 1 + 1) (.agg #[.bool sx, .slice px nx cx, .slice qx mx dx]) x := by
    rcases H1.out.1 with ⟨_, v, e1, ho⟩ | ⟨hf, _⟩
    · simp only [Ending.returned.injEq, Value.tuple.injEq, Array.mk.injEq, List.cons.injEq, Value.int.injEq] at e1
      obtain ⟨e1, ⟨_, e2⟩, _⟩ := e1
      subst e1 e2
      refine ⟨rfl, ?_⟩
      exact (((ho.below (below_alloc _ _)).mono (by simp)).grown (grown_setOne (grown_below (Below.refl _ _) _) _) (by omega))
    · exact absurd FX.out hf
  clear hgc hgf hg1 hb1 H1 HA0 HB0 HR0 HG0 HBB hb0 HS
  obtain ⟨rfl, hX3⟩ := hX2
  generalize ((w1.alloc (.cells #[.bool sx, .slice px nx cx, .slice qx mx dx] 32)).setCell ⟨w.heap.size + 1 + 1 + 1, 0, none⟩ (.int .i64 0)) = w2 at *
  generalize hgg : w.heap.size + 1 + 1 + 1 = g at *
  generalize w1.heap.size = bx at *
  have hlt2 : g < w2.heap.size := lt_of_heap hG2
  have HA2 := hide_ (row_later g hA2 (by omega))
  have HB2 := hide_ (row_later g hB2 (by omega))
  have HR2 := hide_ (row_later g hR2 (by omega))
  have HX2 := hide_ (show KV g w2 0 (.agg #[.bool sx, .slice px nx cx, .slice qx mx dx]) x from fun W hG _ => RV.grown hX3 FX.out hG (by omega))
  clear hA2 hB2 hR2 hX3 hs2
  have hdw2 : Below w2.heap.size w2 w2.drew := (Below.refl _ _).drew
  have hGdw2 : w2.grownBy w2.drew (some g) := grown_below hdw2 _
  have hdzw2 : Below w2.heap.size w2 (w2.alloc (.cells #[.bool false, .slice none 0 0, .slice none 0 0] 32)).drew := (below_alloc _ _).drew
  have hGzw2 : w2.grownBy (w2.alloc (.cells #[.bool false, .slice none 0 0, .slice none 0 0] 32)).drew (some g) := grown_below hdzw2 _
  go_cut [11] (fun s11 wx => ∃ b, s11 = .pointer (some ⟨b, 0, none⟩) ∧ RowK g b w2 wx 0 (2 * x))
  case first =>
    go_region_held3 (fun w' => w'.cell? ⟨bx, 0, none⟩ = some (.bool sx) ∧ w'.cell? ⟨bx, 1, none⟩ = some (.slice px nx cx) ∧ w'.cell? ⟨bx, 2, none⟩ = some (.slice qx mx dx))
      (first | (exact HXR.out _ (by assumption)) | go_keep)
      ((first
        | (go_at_call 85
           (with_reducible refine (whole_form 2 2 (by simp) ((w2.alloc (.cells #[.bool false, .slice none 0 0, .slice none 0 0] 32)).drew) (by decide) (by decide)).mono ?_)
           rintro e w3 ⟨⟨s3, p3, n3, c3, q3, m3, d3, rfl, ho3⟩, hb3⟩
           have hB3 : Below w2.heap.size w2 w3 := hdzw2.trans (hb3.mono hdzw2.size)
           have hzb : w3.heap[w2.heap.size]? = some (.cells #[.bool false, .slice none 0 0, .slice none 0 0] 32) := (hb3.block _ (lt_of_heap (heap_alloc_last w2 (.cells #[.bool false, .slice none 0 0, .slice none 0 0] 32)))).trans (heap_alloc_last w2 (.cells #[.bool false, .slice none 0 0, .slice none 0 0] 32))
           have hG3 : w2.grownBy w3 (some g) := grown_below hB3 _
           have hg3 := (hB3.block g hlt2).trans hG2
           have HT3 := hide_ (ho3.rv fits_two)
           have HX3 := hide_ (HX2.out _ hG3 rfl))
        | (go_at_call 85; go_must (
           (with_reducible refine (whole_form 2 2 (by simp) _ (by decide) (by decide)).mono ?_)
           rintro e w3 ⟨⟨s3, p3, n3, c3, q3, m3, d3, rfl, ho3⟩, hb3⟩
           have hB3 : Below w2.heap.size w2 w3 := hdw2.trans (hb3.mono hdw2.size)
           have hG3 : w2.grownBy w3 (some g) := grown_below hB3 _
           have hG3z : w2.grownBy (w3.alloc (.cells #[.bool false, .slice none 0 0, .slice none 0 0] 32)) (some g) := grown_new hG3 (.cells #[.bool false, .slice none 0 0, .slice none 0 0] 32)
           have hg3 := (hB3.block g hlt2).trans hG2
           have hg3z := heap_past (o' := (.cells #[.bool false, .slice none 0 0, .slice none 0 0] 32)) hg3
           have HT3 := hide_ (ho3.rv fits_two)
           have HX3 := hide_ (HX2.out _ hG3 rfl)))
        | (go_at_call 89
           (with_reducible refine (do_mul_k g 0 w3 _ _ (2 * x) hg3 (.inl rfl) ⟨_, _, _, _, _, _, _, rfl⟩ ⟨_, _, _, _, _, _, _, rfl⟩ (hf_mul (fun h0 => ⟨HT3.out, HX3.out⟩))).mono ?_)
           rintro e w4 ⟨s8, p8, n8, c8, q8, m8, d8, k4, rfl, hg4, hG34, hk4, hke4, hr4, hz4⟩
           have hz4b := (hG34.block _ (lt_of_heap hzb) (by simp; omega)).trans hzb
           have hG4 := hG3.trans hG34
           obtain ⟨t0, t1, t2⟩ := cells_three hz4b
           obtain ⟨t3, t4, t5⟩ := free_three hz4b
           have HFIN := rowK_set hz4b hlt2 (lt_of_heap hzb) (Nat.le_refl _) hg4 hG3 hG34 hk4 hke4 hr4 hz4
           have hGs : w2.grownBy (w4.setRow w2.heap.size #[.bool s8, .slice p8 n8 c8, .slice q8 m8 d8]) (some g) := grown_setRow' hG4 (Nat.le_refl _) _
           rw [← set3_row hz4b] at HFIN hGs)
        | (go_at_call 89
           (with_reducible refine (do_mul_k g 0 (w3.alloc (.cells #[.bool false, .slice none 0 0, .slice none 0 0] 32)) _ _ (2 * x) hg3z (.inl rfl) ⟨_, _, _, _, _, _, _, rfl⟩ ⟨_, _, _, _, _, _, _, rfl⟩ (hf_mul (fun h0 => ⟨HT3.out.below (below_alloc _ _), (HX3.out).below (below_alloc _ _)⟩))).mono ?_)
           rintro e w4 ⟨s8, p8, n8, c8, q8, m8, d8, k4, rfl, hg4, hG34, hk4, hke4, hr4, hz4⟩
           have hz4b := (hG34.block w3.heap.size (by simp) (by have := lt_of_heap hg3; simp; omega)).trans (heap_alloc_last w3 (.cells #[.bool false, .slice none 0 0, .slice none 0 0] 32))
           have hG4 := hG3z.trans hG34
           obtain ⟨t0, t1, t2⟩ := cells_three hz4b
           obtain ⟨t3, t4, t5⟩ := free_three hz4b
           have HFIN := rowK_set hz4b (lt_of_heap hg3) (by simp) hG3.size hg4 hG3z hG34 hk4 hke4 hr4 hz4
           have hGs : w2.grownBy (w4.setRow w3.heap.size #[.bool s8, .slice p8 n8 c8, .slice q8 m8 d8]) (some g) := grown_setRow' hG4 hG3.size _
           rw [← set3_row hz4b] at HFIN hGs)
        | (go_at_call 89; go_must (
           (with_reducible refine (do_mul_k g 0 w3 _ _ (2 * x) hg3 (.inl rfl) ⟨_, _, _, _, _, _, _, rfl⟩ ⟨_, _, _, _, _, _, _, rfl⟩ (hf_mul (fun h0 => ⟨HT3.out, HX3.out⟩))).mono ?_)
           rintro e w4 ⟨s8, p8, n8, c8, q8, m8, d8, k4, rfl, hg4, hG34, hk4, hke4, hr4, hz4⟩
           have hG4 := hG3.trans hG34
           have hG4a := grown_new hG4 (.cells #[.bool false, .slice none 0 0, .slice none 0 0] 32)
           obtain ⟨t0, t1, t2⟩ := cells_three (heap_alloc_last w4 (.cells #[.bool false, .slice none 0 0, .slice none 0 0] 32))
           obtain ⟨t3, t4, t5⟩ := free_three (heap_alloc_last w4 (.cells #[.bool false, .slice none 0 0, .slice none 0 0] 32))
           have hGs := grown_new hG4 (.cells #[.bool s8, .slice p8 n8 c8, .slice q8 m8 d8] 32)
           have HFIN := rowK_new hg4 hG3 hG34 (lt_of_heap hg3) hk4 hke4 hr4 hz4))))
    all_goals (go_wp2_with fail; go_meet; exact ⟨_, rfl, HFIN⟩)
  case rest =>
    obtain ⟨w5, hw5⟩ : ∃ w5, w5 = wc := ⟨_, rfl⟩
    subst hw5
    obtain ⟨b5, rfl, s5, p5, n5, c5, q5, m5, d5, k5, hr5, hgb5, hg5, hG5, hk5, hke5, ho5, hz5⟩ := hcut
    have hlt5' := lt_of_heap hg5
    have hltw5 : g < w5.heap.size := lt_of_heap hg5
    have HR5 := hide_ (rows_later g hr5 (by omega))
    have HV5 := hide_ (show KV g w5 k5 (.agg #[.bool s5, .slice p5 n5 c5, .slice q5 m5 d5]) (2 * x) from fun W hW h0 => RV.grown (ho5 h0) (hke5.1 h0).2 hW (by omega))
    have HX5 := hide_ (show KV g w5 k5 (.agg #[.bool sx, .slice px nx cx, .slice qx mx dx]) x from HX2.out.on hG5 (fun _ => rfl))
    have HG5 := hide_ hG5
    clear hr5 ho5 hG5 hlt5'
    go_upto_region 5 with fail
    have hdw5 : Below w5.heap.size w5 w5.drew := (Below.refl _ _).drew
    have hGdw5 : w5.grownBy w5.drew (some g) := grown_below hdw5 _
    have hdzw5 : Below w5.heap.size w5 (w5.alloc (.cells #[.bool false, .slice none 0 0, .slice none 0 0] 32)).drew := (below_alloc _ _).drew
    have hGzw5 : w5.grownBy (w5.alloc (.cells #[.bool false, .slice none 0 0, .slice none 0 0] 32)).drew (some g) := grown_below hdzw5 _
    go_cut [12] (fun s11 wx => ∃ b, s11 = .pointer (some ⟨b, 0, none⟩) ∧ RowK g b w5 wx k5 (3 - 2 * x))
    case first =>
      go_region_held3 (fun w' => w'.cell? ⟨b5, 0, none⟩ = some (.bool s5) ∧ w'.cell? ⟨b5, 1, none⟩ = some (.slice p5 n5 c5) ∧ w'.cell? ⟨b5, 2, none⟩ = some (.slice q5 m5 d5))
        (first | (exact HR5.out _ (by assumption)) | go_keep)
        ((first
          | (go_at_call 85
             (with_reducible refine (whole_form 3 3 (by simp) ((w5.alloc (.cells #[.bool false, .slice none 0 0, .slice none 0 0] 32)).drew) (by decide) (by decide)).mono ?_)
             rintro e w3 ⟨⟨s3, p3, n3, c3, q3, m3, d3, rfl, ho3⟩, hb3⟩
             have hB3 : Below w5.heap.size w5 w3 := hdzw5.trans (hb3.mono hdzw5.size)
             have hzb : w3.heap[w5.heap.size]? = some (.cells #[.bool false, .slice none 0 0, .slice none 0 0] 32) := (hb3.block _ (lt_of_heap (heap_alloc_last w5 (.cells #[.bool false, .slice none 0 0, .slice none 0 0] 32)))).trans (heap_alloc_last w5 (.cells #[.bool false, .slice none 0 0, .slice none 0 0] 32))
             have hG3 : w5.grownBy w3 (some g) := grown_below hB3 _
             have hg3 := (hB3.block g hltw5).trans hg5
             have HT3 := hide_ (ho3.rv fits_three)
             have HX3 := hide_ (fun h0 => HV5.out _ hG3 h0))
          | (go_at_call 85; go_must (
             (with_reducible refine (whole_form 3 3 (by simp) _ (by decide) (by decide)).mono ?_)
             rintro e w3 ⟨⟨s3, p3, n3, c3, q3, m3, d3, rfl, ho3⟩, hb3⟩
             have hB3 : Below w5.heap.size w5 w3 := hdw5.trans (hb3.mono hdw5.size)
             have hG3 : w5.grownBy w3 (some g) := grown_below hB3 _
             have hG3z : w5.grownBy (w3.alloc (.cells #[.bool false, .slice none 0 0, .slice none 0 0] 32)) (some g) := grown_new hG3 (.cells #[.bool false, .slice none 0 0, .slice none 0 0] 32)
             have hg3 := (hB3.block g hltw5).trans hg5
             have hg3z := heap_past (o' := (.cells #[.bool false, .slice none 0 0, .slice none 0 0] 32)) hg3
             have HT3 := hide_ (ho3.rv fits_three)
             have HX3 := hide_ (fun h0 => HV5.out _ hG3 h0)))
          | (go_at_call 89
             (with_reducible refine (do_sub_k g k5 w3 _ _ (3 - 2 * x) hg3 hk5 ⟨_, _, _, _, _, _, _, rfl⟩ ⟨_, _, _, _, _, _, _, rfl⟩ (hf_sub (fun h0 => ⟨HT3.out, HX3.out h0⟩))).mono ?_)
             rintro e w4 ⟨s8, p8, n8, c8, q8, m8, d8, k4, rfl, hg4, hG34, hk4, hke4, hr4, hz4⟩
             have hz4b := (hG34.block _ (lt_of_heap hzb) (by simp; omega)).trans hzb
             have hG4 := hG3.trans hG34
             obtain ⟨t0, t1, t2⟩ := cells_three hz4b
             obtain ⟨t3, t4, t5⟩ := free_three hz4b
             have HFIN := rowK_set hz4b hltw5 (lt_of_heap hzb) (Nat.le_refl _) hg4 hG3 hG34 hk4 hke4 hr4 hz4
             have hGs : w5.grownBy (w4.setRow w5.heap.size #[.bool s8, .slice p8 n8 c8, .slice q8 m8 d8]) (some g) := grown_setRow' hG4 (Nat.le_refl _) _
             rw [← set3_row hz4b] at HFIN hGs)
          | (go_at_call 89
             (with_reducible refine (do_sub_k g k5 (w3.alloc (.cells #[.bool false, .slice none 0 0, .slice none 0 0] 32)) _ _ (3 - 2 * x) hg3z hk5 ⟨_, _, _, _, _, _, _, rfl⟩ ⟨_, _, _, _, _, _, _, rfl⟩ (hf_sub (fun h0 => ⟨HT3.out.below (below_alloc _ _), (HX3.out h0).below (below_alloc _ _)⟩))).mono ?_)
             rintro e w4 ⟨s8, p8, n8, c8, q8, m8, d8, k4, rfl, hg4, hG34, hk4, hke4, hr4, hz4⟩
             have hz4b := (hG34.block w3.heap.size (by simp) (by have := lt_of_heap hg3; simp; omega)).trans (heap_alloc_last w3 (.cells #[.bool false, .slice none 0 0, .slice none 0 0] 32))
             have hG4 := hG3z.trans hG34
             obtain ⟨t0, t1, t2⟩ := cells_three hz4b
             obtain ⟨t3, t4, t5⟩ := free_three hz4b
             have HFIN := rowK_set hz4b (lt_of_heap hg3) (by simp) hG3.size hg4 hG3z hG34 hk4 hke4 hr4 hz4
             have hGs : w5.grownBy (w4.setRow w3.heap.size #[.bool s8, .slice p8 n8 c8, .slice q8 m8 d8]) (some g) := grown_setRow' hG4 hG3.size _
             rw [← set3_row hz4b] at HFIN hGs)
          | (go_at_call 89; go_must (
             (with_reducible refine (do_sub_k g k5 w3 _ _ (3 - 2 * x) hg3 hk5 ⟨_, _, _, _, _, _, _, rfl⟩ ⟨_, _, _, _, _, _, _, rfl⟩ (hf_sub (fun h0 => ⟨HT3.out, HX3.out h0⟩))).mono ?_)
             rintro e w4 ⟨s8, p8, n8, c8, q8, m8, d8, k4, rfl, hg4, hG34, hk4, hke4, hr4, hz4⟩
             have hG4 := hG3.trans hG34
             have hG4a := grown_new hG4 (.cells #[.bool false, .slice none 0 0, .slice none 0 0] 32)
             obtain ⟨t0, t1, t2⟩ := cells_three (heap_alloc_last w4 (.cells #[.bool false, .slice none 0 0, .slice none 0 0] 32))
             obtain ⟨t3, t4, t5⟩ := free_three (heap_alloc_last w4 (.cells #[.bool false, .slice none 0 0, .slice none 0 0] 32))
             have hGs := grown_new hG4 (.cells #[.bool s8, .slice p8 n8 c8, .slice q8 m8 d8] 32)
             have HFIN := rowK_new hg4 hG3 hG34 (lt_of_heap hg3) hk4 hke4 hr4 hz4))))
      all_goals (go_wp2_with fail; go_meet; exact ⟨_, rfl, HFIN⟩)
    case rest =>
      obtain ⟨w7, hw7⟩ : ∃ w7, w7 = wc := ⟨_, rfl⟩
      subst hw7
      obtain ⟨b7, rfl, s7, p7, n7, c7, q7, m7, d7, k7, hr7, hgb7, hg7, hG7, hk7, hke7, ho7, hz7⟩ := hcut
      have hltw7 : g < w7.heap.size := lt_of_heap hg7
      have HR7 := hide_ (rows_later g hr7 (by omega))
      have HV7 := hide_ (show KV g w7 k7 (.agg #[.bool s7, .slice p7 n7 c7, .slice q7 m7 d7]) (3 - 2 * x) from fun W hW h0 => RV.grown (ho7 h0) (hke7.1 h0).2 hW (by omega))
      have HX7 := hide_ (show KV g w7 k7 (.agg #[.bool sx, .slice px nx cx, .slice qx mx dx]) x from HX5.out.on hG7 (fun h0 => (hke7.1 h0).1))
      have HG7 := hide_ (HG5.out.trans hG7)
      clear hr7 ho7 hG7
      obtain ⟨x0, x1, x2⟩ := HXR.out _ HG7.out
      have tok8 : True := trivial
      have tok9 : True := trivial
      have tok10 : True := trivial
      have tok11 : True := trivial
      have hrefl := World.grownBy.refl w7 (some g)
      go_wp2_with (first
        | (go_at_call 89; have _t := tok8; go_must (
            (with_reducible refine (do_mul_k g k7 _ _ _ (x * x) hg7 hk7 ⟨_, _, _, _, _, _, _, rfl⟩ ⟨_, _, _, _, _, _, _, rfl⟩ (hf_mul (fun h0 => ⟨KV.here HX7.out h0, KV.here HX7.out h0⟩))).mono ?_)
            rintro e w8 ⟨s8, p8, n8, c8, q8, m8, d8, k8, rfl, hg8, hGx8, hk8, hke8, hr8, hz8⟩
            have hl8 : g < w8.heap.size := lt_of_heap hg8
            have hG8r := grown_new hGx8 (.cells #[.bool s8, .slice p8 n8 c8, .slice q8 m8 d8] 32)
            have HR8 := hide_ (rows_later g (heap_alloc_last w8 (.cells #[.bool s8, .slice p8 n8 c8, .slice q8 m8 d8] 32)) (by omega))
            have HV8 := hide_ (show KV g (w8.alloc (.cells #[.bool s8, .slice p8 n8 c8, .slice q8 m8 d8] 32)) k8 (.agg #[.bool s8, .slice p8 n8 c8, .slice q8 m8 d8]) (x * x) from fun W hW h0 => (RV.grown (hr8 h0) (hke8.1 h0).2 ((grown_below (below_alloc _ _) _).trans hW) (lt_of_heap hg7)))
            have HV7_8 := hide_ (show KV g (w8.alloc (.cells #[.bool s8, .slice p8 n8 c8, .slice q8 m8 d8] 32)) k8 (.agg #[.bool s7, .slice p7 n7 c7, .slice q7 m7 d7]) (3 - 2 * x) from HV7.out.on hG8r (fun h0 => (hke8.1 h0).1))
            have hga8 : (w8.alloc (.cells #[.bool s8, .slice p8 n8 c8, .slice q8 m8 d8] 32)).heap[g]? = some (.cells #[.int .i64 k8] 127) := heap_past hg8
            have HG8 := hide_ (HG7.out.trans hG8r)
            obtain ⟨u0, u1, u2⟩ := HR8.out _ (World.grownBy.refl _ _)
            obtain ⟨v0, v1, v2⟩ := HR7.out _ hG8r
            clear tok8
            ))
        | (go_at_call 89; have _t := tok9; go_must (
            (with_reducible refine (do_mul_k g k8 _ _ _ (x * x * (3 - 2 * x)) hga8 hk8 ⟨_, _, _, _, _, _, _, rfl⟩ ⟨_, _, _, _, _, _, _, rfl⟩ (hf_mul (fun h0 => ⟨KV.here HV8.out h0, KV.here HV7_8.out h0⟩))).mono ?_)
            rintro e w9 ⟨s9, p9, n9, c9, q9, m9, d9, k9, rfl, hg9, hGx9, hk9, hke9, hr9, hz9⟩
            have hl9 : g < w9.heap.size := lt_of_heap hg9
            have hG9r := grown_new hGx9 (.cells #[.bool s9, .slice p9 n9 c9, .slice q9 m9 d9] 32)
            have HR9 := hide_ (rows_later g (heap_alloc_last w9 (.cells #[.bool s9, .slice p9 n9 c9, .slice q9 m9 d9] 32)) (by omega))
            have HV9 := hide_ (show KV g (w9.alloc (.cells #[.bool s9, .slice p9 n9 c9, .slice q9 m9 d9] 32)) k9 (.agg #[.bool s9, .slice p9 n9 c9, .slice q9 m9 d9]) (x * x * (3 - 2 * x)) from fun W hW h0 => (RV.grown (hr9 h0) (hke9.1 h0).2 ((grown_below (below_alloc _ _) _).trans hW) (lt_of_heap hga8)))
            have hga9 : (w9.alloc (.cells #[.bool s9, .slice p9 n9 c9, .slice q9 m9 d9] 32)).heap[g]? = some (.cells #[.int .i64 k9] 127) := heap_past hg9
            have HG9 := hide_ (HG8.out.trans hG9r)
            obtain ⟨_, _, _, e3, e4, e5⟩ := cells_six (HA2.out _ HG9.out)
            obtain ⟨_, _, _, f3, f4, f5⟩ := cells_six (HB2.out _ HG9.out)
            clear tok9
            ))
        | (go_at_call 89; have _t := tok10; go_must (
            (with_reducible refine (do_sub_k g k9 _ _ _ (v - u) hga9 hk9 ⟨_, _, _, _, _, _, _, rfl⟩ ⟨_, _, _, _, _, _, _, rfl⟩ (hf_sub (fun h0 => ⟨HV.out _ (below_kept hb2 HG9.out (by omega)), HU.out _ (below_kept hb2 HG9.out (by omega))⟩))).mono ?_)
            rintro e w10 ⟨s10, p10, n10, c10, q10, m10, d10, k10, rfl, hg10, hGx10, hk10, hke10, hr10, hz10⟩
            have hl10 : g < w10.heap.size := lt_of_heap hg10
            have hG10r := grown_new hGx10 (.cells #[.bool s10, .slice p10 n10 c10, .slice q10 m10 d10] 32)
            have HR10 := hide_ (rows_later g (heap_alloc_last w10 (.cells #[.bool s10, .slice p10 n10 c10, .slice q10 m10 d10] 32)) (by omega))
            have HV10 := hide_ (show KV g (w10.alloc (.cells #[.bool s10, .slice p10 n10 c10, .slice q10 m10 d10] 32)) k10 (.agg #[.bool s10, .slice p10 n10 c10, .slice q10 m10 d10]) (v - u) from fun W hW h0 => (RV.grown (hr10 h0) (hke10.1 h0).2 ((grown_below (below_alloc _ _) _).trans hW) (lt_of_heap hga9)))
            have HV9_10 := hide_ (show KV g (w10.alloc (.cells #[.bool s10, .slice p10 n10 c10, .slice q10 m10 d10] 32)) k10 (.agg #[.bool s9, .slice p9 n9 c9, .slice q9 m9 d9]) (x * x * (3 - 2 * x)) from HV9.out.on hG10r (fun h0 => (hke10.1 h0).1))
            have hga10 : (w10.alloc (.cells #[.bool s10, .slice p10 n10 c10, .slice q10 m10 d10] 32)).heap[g]? = some (.cells #[.int .i64 k10] 127) := heap_past hg10
            have HG10 := hide_ (HG9.out.trans hG10r)
            obtain ⟨g0, g1, g2⟩ := HR10.out _ (World.grownBy.refl _ _)
            obtain ⟨h0, h1, h2⟩ := HR9.out _ hG10r
            clear tok10
            ))
        | (go_at_call 89; have _t := tok11; go_must (
            (with_reducible refine (do_mul_k g k10 _ _ _ ((v - u) * (x * x * (3 - 2 * x))) hga10 hk10 ⟨_, _, _, _, _, _, _, rfl⟩ ⟨_, _, _, _, _, _, _, rfl⟩ (hf_mul (fun h0 => ⟨KV.here HV10.out h0, KV.here HV9_10.out h0⟩))).mono ?_)
            rintro e w11 ⟨s11, p11, n11, c11, q11, m11, d11, k11, rfl, hg11, hGx11, hk11, hke11, hr11, hz11⟩
            have hl11 : g < w11.heap.size := lt_of_heap hg11
            have hG11r := grown_new hGx11 (.cells #[.bool s11, .slice p11 n11 c11, .slice q11 m11 d11] 32)
            have HR11 := hide_ (rows_later g (heap_alloc_last w11 (.cells #[.bool s11, .slice p11 n11 c11, .slice q11 m11 d11] 32)) (by omega))
            have HV11 := hide_ (show KV g (w11.alloc (.cells #[.bool s11, .slice p11 n11 c11, .slice q11 m11 d11] 32)) k11 (.agg #[.bool s11, .slice p11 n11 c11, .slice q11 m11 d11]) ((v - u) * (x * x * (3 - 2 * x))) from fun W hW h0 => (RV.grown (hr11 h0) (hke11.1 h0).2 ((grown_below (below_alloc _ _) _).trans hW) (lt_of_heap hga10)))
            have hga11 : (w11.alloc (.cells #[.bool s11, .slice p11 n11 c11, .slice q11 m11 d11] 32)).heap[g]? = some (.cells #[.int .i64 k11] 127) := heap_past hg11
            have HG11 := hide_ (HG10.out.trans hG11r)
            obtain ⟨_, _, _, i3, i4, i5⟩ := cells_six (HA2.out _ HG11.out)
            obtain ⟨i0, i1, i2⟩ := HR11.out _ (World.grownBy.refl _ _)
            clear tok11
            ))
        | (go_at_call 89; go_must (
            (with_reducible refine (do_add_k g k11 _ _ _ (u + (v - u) * (x * x * (3 - 2 * x))) hga11 hk11 ⟨_, _, _, _, _, _, _, rfl⟩ ⟨_, _, _, _, _, _, _, rfl⟩ (hf_add (fun h0 => ⟨HU.out _ (below_kept hb2 HG11.out (by omega)), KV.here HV11.out h0⟩))).mono ?_)
            rintro e w12 ⟨s12, p12, n12, c12, q12, m12, d12, k12, rfl, hg12, hGx12, hk12, hke12, hr12, hz12⟩
            have hl12 : g < w12.heap.size := lt_of_heap hg12
            have hG12r := grown_new hGx12 (.cells #[.bool s12, .slice p12 n12 c12, .slice q12 m12 d12] 32)
            have HR12 := hide_ (rows_later g (heap_alloc_last w12 (.cells #[.bool s12, .slice p12 n12 c12, .slice q12 m12 d12] 32)) (by omega))
            have HV12 := hide_ (show KV g (w12.alloc (.cells #[.bool s12, .slice p12 n12 c12, .slice q12 m12 d12] 32)) k12 (.agg #[.bool s12, .slice p12 n12 c12, .slice q12 m12 d12]) (u + (v - u) * (x * x * (3 - 2 * x))) from fun W hW h0 => (RV.grown (hr12 h0) (hke12.1 h0).2 ((grown_below (below_alloc _ _) _).trans hW) (lt_of_heap hga11)))
            have hga12 : (w12.alloc (.cells #[.bool s12, .slice p12 n12 c12, .slice q12 m12 d12] 32)).heap[g]? = some (.cells #[.int .i64 k12] 127) := heap_past hg12
            have HG12 := hide_ (HG11.out.trans hG12r)
            obtain ⟨j0, j1, j2⟩ := HR12.out _ (World.grownBy.refl _ _)
            have j3 := cells_one hga12
            have j4 := HR2.out _ HG12.out
            ))
        | ((with_reducible apply wpList_store_new); (with_reducible rfl); (with_reducible rfl); rfl; rfl; kernel_rfl; rfl; kernel_rfl) | ((with_reducible apply wpList_store_blk); (with_reducible rfl); (with_reducible rfl); rfl; assumption; rfl; kernel_rfl; rfl; kernel_rfl))
      have hne1 : w12.heap.size ≠ w.heap.size + 1 + 1 := by omega
      have hne2 : g ≠ w.heap.size + 1 + 1 := by omega
      obtain ⟨l0, l1, l2⟩ := cells_three j4
      obtain ⟨l3, l4, l5⟩ := free_three j4
      go_region_held3 (fun w' => w'.cell? ⟨w12.heap.size, 0, none⟩ = some (.bool s12) ∧ w'.cell? ⟨w12.heap.size, 1, none⟩ = some (.slice p12 n12 c12) ∧ w'.cell? ⟨w12.heap.size, 2, none⟩ = some (.slice q12 m12 d12) ∧ w'.cell? ⟨g, 0, none⟩ = some (.int .i64 k12))
        (first | (with_reducible exact ⟨(keep_set3d hne1).trans j0, (keep_set3d hne1).trans j1, (keep_set3d hne1).trans j2, (keep_set3d hne2).trans j3⟩) | (with_reducible exact ⟨(keep_set3 hne1).trans j0, (keep_set3 hne1).trans j1, (keep_set3 hne1).trans j2, (keep_set3 hne2).trans j3⟩) | (with_reducible exact ⟨j0, j1, j2, j3⟩) | go_keep)
        (fail)
      go_wp2
      have hFit : StepsFit u v x ↔ k12 = 0 := by
        unfold StepsFit
        rw [hke12, hke11, hke10, hke9, hke8, hke7, hke5]
        simp only [true_and, and_assoc]
      have hBw := below_kept hb2 HG12.out (by omega)
      rw [set3_row j4]
      refine ret_ct rfl (w.heap.size + 1 + 1) 32 _ _ rfl (show ((w12.alloc (.cells #[.bool s12, .slice p12 n12 c12, .slice q12 m12 d12] 32)).setRow (w.heap.size + 1 + 1) _).heap[w.heap.size + 1 + 1]? = _ from setRow_heap _ _ _ _ _ _ j4) Try.underlying32 rfl (by kernel_rfl) rfl ?_
      refine ⟨?_, (below_setRow hBw (by omega) _).drew⟩
      by_cases h0 : k12 = 0
      · refine .inl ⟨hFit.2 h0, s12, p12, n12, c12, q12, m12, d12, ?_, ?_⟩
        · rw [h0]; rfl
        · have h3 := lt_of_heap hga11
          have ho : RO (((w12.alloc (.cells #[.bool s12, .slice p12 n12 c12, .slice q12 m12 d12] 32)).setRow (w.heap.size + 1 + 1) #[.bool s12, .slice p12 n12 c12, .slice q12 m12 d12])) (w11.alloc (.cells #[.bool s11, .slice p11 n11 c11, .slice q11 m11 d11] 32)).heap.size (.agg #[.bool s12, .slice p12 n12 c12, .slice q12 m12 d12]) (u + (v - u) * (x * x * (3 - 2 * x))) := ((hr12 h0).below (below_alloc _ _)).stored (W := w) (by omega)
          exact (ho.below (w' := ((w12.alloc (.cells #[.bool s12, .slice p12 n12 c12, .slice q12 m12 d12] 32)).setRow (w.heap.size + 1 + 1) #[.bool s12, .slice p12 n12 c12, .slice q12 m12 d12]).drew) (Below.refl _ _).drew).mono (by omega)
      · refine .inr ⟨fun h => h0 (hFit.1 h), ?_⟩
        have e3 : k12 = 3 := hk12.resolve_left h0
        rw [← hz12 h0, e3]
        rfl
end Go.Proofs.Ytcibbnphkpaifaa
