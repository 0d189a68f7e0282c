/- Chapter 20: two of the chapter's examples. -/
import Derived.Test.YtlgnidjkilbdfaaFw
import Derived.Laws.StructEq
namespace Go.Proofs.Ytlgnidjkilbdfaa
open Go.RowKit Ieee
set_option linter.unusedVariables false
set_option maxRecDepth 100000
/-- Two heights are equal. -/
def feqB (x y : Nat) : Bool := FloatKind.f64.format.order x y == some .eq
theorem run_eq24 (d x y : Nat) (w : World) : (Op.equalIn (d + 1) 24 (.float .f64 x) (.float .f64 y)).run Try.prog w = .ok (feqB x y) w := by
  simp [Op.equalIn, run_underlying Try.underlying24, feqB]
  rfl
theorem run_eq26 (a b : Int) (x y : Nat) (w : World) : (Op.equalIn 10000 26 (.agg #[.int .i64 a, .float .f64 x]) (.agg #[.int .i64 b, .float .f64 y])).run Try.prog w = .ok (a == b && feqB x y) w := by
  have hS : Try.prog.underlying 26 = some (.struct (Try.prog.fieldsOf 26)) := by kernel_rfl
  have hp : Try.prog.stoodInHeld 26 = false := by kernel_rfl
  rw [show (10000 : Nat) = 9999 + 1 from rfl, run_equalIn_struct w 9999 26 _ _ hS hp]
  have p0 : (part 3 #[.int .i64 a, .float .f64 x] 0).run Try.prog w = .ok (.int .i64 a) w := by kernel_rfl
  have p1 : (part 3 #[.int .i64 b, .float .f64 y] 0).run Try.prog w = .ok (.int .i64 b) w := by kernel_rfl
  have q0 : (part 24 #[.int .i64 a, .float .f64 x] 1).run Try.prog w = .ok (.float .f64 x) w := by kernel_rfl
  have q1 : (part 24 #[.int .i64 b, .float .f64 y] 1).run Try.prog w = .ok (.float .f64 y) w := by kernel_rfl
  have e0 : (Op.equalIn 9999 3 (.int .i64 a) (.int .i64 b)).run Try.prog w = .ok (a == b) w := run_equalIn_int w 9998 3 .i64 .i64 a b Try.underlying3
  have e1 := run_eq24 9998 x y w
  simp only [Program.fieldsOf, Try.underlying26]
  cases h : (a == b) <;> rw [h] at e0 <;> simp [Op.eqFields, Sem.run_bind, p0, p1, q0, q1, e0, e1, Result.andThen]
  cases feqB x y <;> rfl
def LV : Rc := [(1, 0), (4, 4613937818241073152)]
theorem lv_fill : fillE LV = 0 ∧ fillL LV = [(1, 0), (2, 4607182418800017408), (3, 4611686018427387904), (4, 4613937818241073152)] := by decide +kernel
theorem lv_srt : srt [4616189618054758400, 4607182418800017408] = [4607182418800017408, 4616189618054758400] :=
  (srt_eq (by unfold W64; decide +kernel) (by decide +kernel) (by decide +kernel)).symm
theorem lv_med : medL [4607182418800017408, 4616189618054758400] = 4612811918334230528 := by decide +kernel
theorem lv_eq : feqB 4611686018427387904 4611686018427387904 = true ∧ feqB 4612811918334230528 4612811918334230528 = true := by decide +kernel
theorem TL.lit (w : World) (S : Rc) (cs : Array Value) (h : cs.toList = flat S) (hs : S.length ≤ 1000000) : TL (w.alloc (.cells cs 26)) (some ⟨w.heap.size, 0, none⟩) S := by
  have hl : cs.size = S.length * 2 := by rw [← flat_len, ← h]; simp
  have hr := row_lit w 0 26 2 S.length cs (Nat.zero_le _) hl (by unfold maxLen; omega)
  rw [h] at hr
  exact SL.tl (base := 0) (c := S.length) hr
theorem own_fl {w : World} {B n c : Nat} {p : Option Addr} {L : List Nat} (h : w.ownsRow B 24 1 (.slice p n c) n (L.map encF)) : n = L.length ∧ FL w p L := by
  have hn : n = L.length := by have := h.1; simpa using this.symm
  refine ⟨hn, ?_⟩
  rcases id h.2 with ⟨_, h0⟩ | ⟨g, cap, cur, he, hB, hg, _⟩
  · exact .inl (List.eq_nil_of_length_eq_zero (by omega))
  · simp only [Value.slice.injEq] at he
    obtain ⟨rfl, _, _⟩ := he
    refine .inr ⟨g, 0, rfl, lt_of_heap hg, fun k hk => ?_⟩
    have h1 := h.cells (g := g) rfl k (encF L[k]) (by rw [List.getElem?_map, List.getElem?_eq_getElem hk]; rfl)
    rw [Addr.add_lit] at h1
    rw [h1, List.getD_eq_getElem?_getD, List.getElem?_eq_getElem hk]
    rfl
theorem FL.lit (w : World) (L : List Nat) (cs : Array Value) (h : cs.toList = L.map encF) (hs : L.length ≤ 1000000) : FL (w.alloc (.cells cs 24)) (some ⟨w.heap.size, 0, none⟩) L := by
  have hl : cs.size = L.length * 1 := by have : cs.toList.length = (L.map encF).length := by rw [h]
                                         simpa using this
  have hr := row_lit w 0 24 1 L.length cs (Nat.zero_le _) hl (by unfold maxLen; omega)
  rw [h] at hr
  exact (own_fl hr).2
theorem lives_any (w : World) : Calls Try.prog 43 #[] w fun e w' => e = .returned (.bool true) ∧ Below w.heap.size w w' := by
  have H1 := hide_ (fun (W : World) (h : TL W (some ⟨w.heap.size, 0, none⟩) LV) => fill_any (some ⟨w.heap.size, 0, none⟩) 2 2 LV W rfl h (by decide) (by decide))
  have H2 := hide_ (fun (W : World) (g : Nat) (h : FL W (some ⟨g, 0, none⟩) [4616189618054758400, 4607182418800017408]) => median_any (some ⟨g, 0, none⟩) 2 2 [4616189618054758400, 4607182418800017408] W rfl h (by unfold W64; decide) (by decide))
  have h3 := fun wx => run_eq26 3 3 4611686018427387904 4611686018427387904 wx
  rw [lv_eq.1] at h3
  have h4 : (FloatKind.f64.format.order 4612811918334230528 4612811918334230528 == some .eq) = true := lv_eq.2
  simp only [lv_fill.1, lv_fill.2, lv_srt, lv_med] at H1 H2
  have HT := hide_ (TL.lit w LV #[.int .i64 1, .float .f64 0, .int .i64 4, .float .f64 4613937818241073152] rfl (by decide))
  go_enter Try.func43, Try.ntmps43
  go_wp2_with (first
    | (go_at_call 47; go_must (
       (with_reducible refine (H1.out _ HT.out).mono ?_)
       rintro e w1 ⟨⟨v, rfl, hs, _⟩, hb1⟩
       replace hs := hs trivial
       obtain ⟨p, c, rfl⟩ := hs.slice
       obtain ⟨g, rfl, hg, c0, c1⟩ := SL.cells hs (k := 2) (by decide)
       have HF := hide_ (FL.lit w1 [4616189618054758400, 4607182418800017408] #[.float .f64 4616189618054758400, .float .f64 4607182418800017408] rfl (by decide))
       have hbA : Below w.heap.size w w1 := ((Below.refl _ _).alloc (Nat.le_refl _) _).trans (hb1.mono (by simp))))
    | (go_at_call 45; go_must (
       (with_reducible refine (H2.out _ _ HF.out).mono ?_)
       rintro e w2 ⟨rfl, hb2⟩
       have d0 : w2.cell? ⟨g, 4, none⟩ = some (.int .i64 3) := (hb2.cell (p := ⟨g, _, none⟩) (by simp; omega)).trans (cell_past c0)
       have d1 : w2.cell? ⟨g, 5, none⟩ = some (.float .f64 4611686018427387904) := (hb2.cell (p := ⟨g, _, none⟩) (by simp; omega)).trans (cell_past c1))))
  go_ret
  have hsz := hbA.size
  exact ⟨rfl, (hbA.alloc hsz _).trans (hb2.mono (by simp; omega))⟩
end Go.Proofs.Ytlgnidjkilbdfaa
