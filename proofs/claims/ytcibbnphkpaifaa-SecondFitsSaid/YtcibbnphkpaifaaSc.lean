/- water.from, wrong. water.wrong after another water. Waters as data; water.wrong in one contract; what water.Check tells, plain. water.Check. water.Check's walk. second.far, whole. second.far, fault. steps.do, once an error stands. -/
import Derived.Test.YtcibbnphkpaifaaRl
namespace Go.Proofs.Ytcibbnphkpaifaa
open Go.RowKit
set_option linter.unusedVariables false
set_option maxRecDepth 100000
theorem cmpQ_range (x y : Rat) : cmpQ x y = -1 ∨ cmpQ x y = 0 ∨ cmpQ x y = 1 := by
  unfold cmpQ
  split
  · exact .inl rfl
  · split
    · exact .inr (.inr rfl)
    · exact .inr (.inl rfl)
set_option maxHeartbeats 3200000 in
theorem from_any (va vb : Value) (x y : Rat) (w : World) (hx : RV w va x) (hy : RV w vb y) :
    Calls Try.prog 81 #[va, vb] w fun e w' => e = .returned (.int .i64 (cmpQ y x)) ∧ Below w.heap.size w w' := by
  have HC := hide_ (fun W (h : Below w.heap.size w W) => rcompare_any vb va y x W (hy.below h) (hx.below h))
  have hr := cmpQ_range y x
  have hw : IntKind.i64.wrap (cmpQ y x) = cmpQ y x := IntWalk.i64_in _ (by omega)
  clear hr
  obtain ⟨fx, p, c, q, d, rfl, hp, hq, hc, hd⟩ := hx
  obtain ⟨fy, p', c', q', d', rfl, hp', hq', hc', hd'⟩ := hy
  clear hp hq hp' hq' hc hd hc' hd' fx fy
  have hb0 : Below w.heap.size w ((w.alloc (.cells #[.bool (rneg x), .slice p (rn x).length c, .slice q (rd x).length d] 32)).alloc (.cells #[.bool (rneg y), .slice p' (rn y).length c', .slice q' (rd y).length d'] 32)) := (below_alloc _ _).alloc (by simp) _
  obtain ⟨⟨a0, a1, a2⟩, ⟨b0, b1, b2⟩⟩ := (show _ ∧ _ from by have h := boxes2 w (rneg x) p (rn x).length c q (rd x).length d (rneg y) p' (rn y).length c' q' (rd y).length d' _ (Below.refl _ _); unfold boxR at h; exact h)
  generalize cmpQ y x = R at *
  go_enter Try.func81, Try.ntmps81
  go_wp2_with (go_at_call 34; go_must ((with_reducible refine (HC.out _ hb0).mono ?_); rintro e w1 ⟨rfl, hb⟩))
  go_ret
  exact ⟨by simp, hb0.trans (hb.mono hb0.size)⟩
/-- Any water, read: tick, last, top, and the words of its height. -/
def WG (w : World) (v : Value) (t l : Int) (top neg : Bool) (A D : List Nat) : Prop := ∃ p c q d, v = .agg #[.int .i64 t, .int .i64 l, .bool top, .bool neg, .slice p A.length c, .slice q D.length d] ∧ RG w (.agg #[.bool neg, .slice p A.length c, .slice q D.length d]) neg A D
theorem cells_six {w : World} {g : Nat} {a b c d e f : Value} {T : TypeId} (h : w.heap[g]? = some (.cells #[a, b, c, d, e, f] T)) : w.cell? ⟨g, 0, none⟩ = some a ∧ w.cell? ⟨g, 1, none⟩ = some b ∧ w.cell? ⟨g, 2, none⟩ = some c ∧ w.cell? ⟨g, 3, none⟩ = some d ∧ w.cell? ⟨g, 4, none⟩ = some e ∧ w.cell? ⟨g, 5, none⟩ = some f :=
  ⟨cell_of_row _ _ _ _ _ _ h, cell_of_row _ _ _ _ _ _ h, cell_of_row _ _ _ _ _ _ h, cell_of_row _ _ _ _ _ _ h, cell_of_row _ _ _ _ _ _ h, cell_of_row _ _ _ _ _ _ h⟩
def badW (t l : Int) : Bool := decide (t < 0) || decide (1048576 < l) || decide (l < t)
theorem badW_cases {t l : Int} (h : badW t l = true) : (decide (t < 0) = true) ∨ (decide (t < 0) = false ∧ decide (1048576 < l) = true) ∨ (decide (t < 0) = false ∧ decide (1048576 < l) = false ∧ decide (l < t) = true) := by
  unfold badW at h
  cases h1 : decide (t < 0) <;> cases h2 : decide (1048576 < l) <;> cases h3 : decide (l < t) <;> simp [h1, h2, h3] at h ⊢
theorem badW_false {t l : Int} (h : badW t l = false) : decide (t < 0) = false ∧ decide (1048576 < l) = false ∧ decide (l < t) = false := by
  unfold badW at h
  cases h1 : decide (t < 0) <;> cases h2 : decide (1048576 < l) <;> cases h3 : decide (l < t) <;> simp [h1, h2, h3] at h ⊢
def wrongN (t l : Int) (neg : Bool) (A D : List Nat) : Int := if badW t l then 2 else chkR neg A D
set_option maxHeartbeats 3200000 in
theorem wrong_nil (v : Value) (t l : Int) (top : Bool) (neg : Bool) (A D : List Nat) (w : World) (hv : WG w v t l top neg A D) :
    Calls Try.prog 53 #[.pointer none, v] w fun e w' => e = .returned (.int .i64 (wrongN t l neg A D)) ∧ Below w.heap.size w w' := by
  obtain ⟨p, c, q, d, rfl, hr⟩ := hv
  have HK := hide_ (fun W (h : Below w.heap.size w W) => checkR_any _ _ _ _ W (hr.below h))
  clear hr
  unfold wrongN
  generalize chkR neg A D = k at *
  generalize A.length = n at *
  generalize D.length = m at *
  have hb0 : Below w.heap.size w (w.alloc (.cells #[.int .i64 t, .int .i64 l, .bool top, .bool neg, .slice p n c, .slice q m d] 34)) := below_alloc _ _
  obtain ⟨a0, a1, a2, a3, a4, a5⟩ := cells_six (heap_alloc_last w (.cells #[.int .i64 t, .int .i64 l, .bool top, .bool neg, .slice p n c, .slice q m d] 34))
  cases hb : badW t l
  · obtain ⟨d1, d2, d3⟩ := badW_false hb
    clear hb
    by_cases hk : k = 0
    · subst hk
      go_enter Try.func53, Try.ntmps53
      go_wp2
      go_quiet (fail)
      have hbq := below_drewN hb0 nq
      go_wp2_with (go_at_call 45; go_must ((with_reducible refine (HK.out _ (below_drewN hb0 _)).mono ?_); rintro e w1 ⟨rfl, hb1⟩))
      go_ret
      exact ⟨by simp, (below_drewN hb0 _).trans (hb1.mono (by simp))⟩
    · have b1 : (k != 0) = true := by simpa using hk
      go_enter Try.func53, Try.ntmps53
      go_wp2
      go_quiet (fail)
      go_wp2_with (go_at_call 45; go_must ((with_reducible refine (HK.out _ (below_drewN hb0 _)).mono ?_); rintro e w1 ⟨rfl, hb1⟩))
      go_ret
      exact ⟨by simp, (below_drewN hb0 _).trans (hb1.mono (by simp))⟩
  · rcases badW_cases hb with d1 | ⟨d1, d2⟩ | ⟨d1, d2, d3⟩
    all_goals
      clear hb
      go_enter Try.func53, Try.ntmps53
      go_wp2
      go_quiet (fail)
      go_wp2
      go_ret
      exact ⟨by simp, below_drewN hb0 _⟩
end Go.Proofs.Ytcibbnphkpaifaa

namespace Go.Proofs.Ytcibbnphkpaifaa
open Go.RowKit
set_option linter.unusedVariables false
set_option maxRecDepth 100000
/-- A sound water in memory: where it ends, what it is, how high. -/
def AW (w : World) (g o : Nat) (al : Int) (atop : Bool) (x : Rat) : Prop := ∃ p c q d, g < w.heap.size ∧ w.cell? ⟨g, o + 1, none⟩ = some (.int .i64 al) ∧ w.cell? ⟨g, o + 2, none⟩ = some (.bool atop) ∧ w.cell? ⟨g, o + 3, none⟩ = some (.bool (rneg x)) ∧ w.cell? ⟨g, o + 4, none⟩ = some (.slice p (rn x).length c) ∧ w.cell? ⟨g, o + 5, none⟩ = some (.slice q (rd x).length d) ∧ RV w (.agg #[.bool (rneg x), .slice p (rn x).length c, .slice q (rd x).length d]) x
theorem AW.below {w w' : World} {g o : Nat} {al : Int} {atop : Bool} {x : Rat} (h : AW w g o al atop x) (hb : Below w.heap.size w w') : AW w' g o al atop x := by
  obtain ⟨p, c, q, d, hg, c1, c2, c3, c4, c5, hr⟩ := h
  exact ⟨p, c, q, d, Nat.lt_of_lt_of_le hg hb.size, (hb.cell hg).trans c1, (hb.cell hg).trans c2, (hb.cell hg).trans c3, (hb.cell hg).trans c4, (hb.cell hg).trans c5, hr.below hb⟩
def wantW (top : Bool) : Int := if top then 1 else -1
def wrongS (al : Int) (atop : Bool) (x : Rat) (t l : Int) (top neg : Bool) (A D : List Nat) (y : Rat) : Int :=
  if badW t l || decide (t ≤ al) then 2 else if chkR neg A D != 0 then chkR neg A D else if (top == atop) || (cmpQ y x != wantW top) then 2 else 0
set_option maxHeartbeats 6400000 in
theorem wrong_some_bad (v : Value) (g o : Nat) (al : Int) (atop : Bool) (x : Rat) (t l : Int) (top : Bool) (neg : Bool) (A D : List Nat) (w : World) (ha : AW w g o al atop x) (hv : WG w v t l top neg A D) (hbad : (badW t l || decide (t ≤ al)) = true) :
    Calls Try.prog 53 #[.pointer (some ⟨g, o, none⟩), v] w fun e w' => e = .returned (.int .i64 2) ∧ Below w.heap.size w w' := by
  obtain ⟨p, c, q, d, rfl, hr⟩ := hv
  clear hr
  generalize A.length = n at *
  generalize D.length = m at *
  have hb0 : Below w.heap.size w (w.alloc (.cells #[.int .i64 t, .int .i64 l, .bool top, .bool neg, .slice p n c, .slice q m d] 34)) := below_alloc _ _
  obtain ⟨a0, a1, a2, a3, a4, a5⟩ := cells_six (heap_alloc_last w (.cells #[.int .i64 t, .int .i64 l, .bool top, .bool neg, .slice p n c, .slice q m d] 34))
  obtain ⟨p1, c1, q1, d1, hg, b1, b2, b3, b4, b5, _⟩ := ha.below hb0
  cases hb : badW t l
  · obtain ⟨d1, d2, d3⟩ := badW_false hb
    have d4 : decide (t ≤ al) = true := by rw [hb] at hbad; simpa using hbad
    clear hb hbad
    go_enter Try.func53, Try.ntmps53
    go_wp2
    go_quiet (fail)
    go_wp2
    go_ret
    exact ⟨by simp, below_drewN hb0 _⟩
  · clear hbad
    rcases badW_cases hb with d1 | ⟨d1, d2⟩ | ⟨d1, d2, d3⟩
    all_goals
      clear hb
      go_enter Try.func53, Try.ntmps53
      go_wp2
      go_quiet (fail)
      go_wp2
      go_ret
      exact ⟨by simp, below_drewN hb0 _⟩
set_option maxHeartbeats 6400000 in
theorem wrong_some_chk (v : Value) (g o : Nat) (al : Int) (atop : Bool) (x : Rat) (t l : Int) (top : Bool) (neg : Bool) (A D : List Nat) (w : World) (ha : AW w g o al atop x) (hv : WG w v t l top neg A D) (hbad : (badW t l || decide (t ≤ al)) = false) (hk : chkR neg A D ≠ 0) :
    Calls Try.prog 53 #[.pointer (some ⟨g, o, none⟩), v] w fun e w' => e = .returned (.int .i64 (chkR neg A D)) ∧ Below w.heap.size w w' := by
  obtain ⟨p, c, q, d, rfl, hr⟩ := hv
  have HK := hide_ (fun W (h : Below w.heap.size w W) => checkR_any _ _ _ _ W (hr.below h))
  clear hr
  generalize chkR neg A D = k at *
  generalize A.length = n at *
  generalize D.length = m at *
  have hb0 : Below w.heap.size w (w.alloc (.cells #[.int .i64 t, .int .i64 l, .bool top, .bool neg, .slice p n c, .slice q m d] 34)) := below_alloc _ _
  obtain ⟨a0, a1, a2, a3, a4, a5⟩ := cells_six (heap_alloc_last w (.cells #[.int .i64 t, .int .i64 l, .bool top, .bool neg, .slice p n c, .slice q m d] 34))
  obtain ⟨p1, c1, q1, d1, hg, b1, b2, b3, b4, b5, _⟩ := ha.below hb0
  rw [Bool.or_eq_false_iff] at hbad
  obtain ⟨hb, d4⟩ := hbad
  obtain ⟨d1, d2, d3⟩ := badW_false hb
  have bk : (k != 0) = true := by simpa using hk
  clear hb
  go_enter Try.func53, Try.ntmps53
  go_wp2
  go_quiet (fail)
  go_wp2_with (go_at_call 45; go_must ((with_reducible refine (HK.out _ (below_drewN hb0 _)).mono ?_); rintro e w1 ⟨rfl, hb1⟩))
  go_ret
  exact ⟨by simp, (below_drewN hb0 _).trans (hb1.mono (by simp))⟩
theorem wrong_fin {top atop : Bool} {r : Int} (hr : r = -1 ∨ r = 0 ∨ r = 1) : ((top == atop) = true ∨ ((top == atop) = false ∧ (r != wantW top) = true) ∨ ((top == atop) = false ∧ (r != wantW top) = false)) := by
  cases (top == atop) <;> cases (r != wantW top) <;> simp
set_option maxHeartbeats 6400000 in
theorem wrong_some_ok (v : Value) (g o : Nat) (al : Int) (atop : Bool) (x y : Rat) (t l : Int) (top : Bool) (w : World) (ha : AW w g o al atop x) (fy : Fits y) (hv : WG w v t l top (rneg y) (rn y) (rd y)) (hbad : (badW t l || decide (t ≤ al)) = false) :
    Calls Try.prog 53 #[.pointer (some ⟨g, o, none⟩), v] w fun e w' => e = .returned (.int .i64 (if (top == atop) || (cmpQ y x != wantW top) then 2 else 0)) ∧ Below w.heap.size w w' := by
  obtain ⟨p, c, q, d, rfl, hr⟩ := hv
  have hrv : RV w (.agg #[.bool (rneg y), .slice p (rn y).length c, .slice q (rd y).length d]) y := by
    obtain ⟨p', c', q', d', e, h1, h2, h3, h4, _⟩ := hr
    exact ⟨fy, p', c', q', d', e, h1, h2, h3, h4⟩
  have HK := hide_ (fun W (h : Below w.heap.size w W) => checkR_any _ _ _ _ W (hr.below h))
  rw [chkR_rat fy] at HK
  have hb0 : Below w.heap.size w (w.alloc (.cells #[.int .i64 t, .int .i64 l, .bool top, .bool (rneg y), .slice p (rn y).length c, .slice q (rd y).length d] 34)) := below_alloc _ _
  have HA6 := hide_ (fun W (h : Below (w.alloc (.cells #[.int .i64 t, .int .i64 l, .bool top, .bool (rneg y), .slice p (rn y).length c, .slice q (rd y).length d] 34)).heap.size (w.alloc (.cells #[.int .i64 t, .int .i64 l, .bool top, .bool (rneg y), .slice p (rn y).length c, .slice q (rd y).length d] 34)) W) => cells_six ((h.block _ (lt_of_heap (heap_alloc_last w (.cells #[.int .i64 t, .int .i64 l, .bool top, .bool (rneg y), .slice p (rn y).length c, .slice q (rd y).length d] 34)))).trans (heap_alloc_last w _)))
  obtain ⟨a0, a1, a2, a3, a4, a5⟩ := HA6.out _ (Below.refl _ _)
  obtain ⟨p1, c1, q1, d1', hg, b1, b2, b3, b4, b5, hrx⟩ := ha
  have HF := hide_ (fun W (h : Below w.heap.size w W) => from_any _ _ x y W (hrx.below h) (hrv.below h))
  have HB5 := hide_ (fun W (h : Below w.heap.size w W) => (show W.cell? ⟨g, o + 1, none⟩ = _ ∧ W.cell? ⟨g, o + 2, none⟩ = _ ∧ W.cell? ⟨g, o + 3, none⟩ = _ ∧ W.cell? ⟨g, o + 4, none⟩ = _ ∧ W.cell? ⟨g, o + 5, none⟩ = _ from ⟨(h.cell hg).trans b1, (h.cell hg).trans b2, (h.cell hg).trans b3, (h.cell hg).trans b4, (h.cell hg).trans b5⟩))
  clear b1 b2 b3 b4 b5 hr hrv hrx
  obtain ⟨b1, b2, b3, b4, b5⟩ := HB5.out _ hb0
  rw [Bool.or_eq_false_iff] at hbad
  obtain ⟨hb, d4⟩ := hbad
  obtain ⟨d1, d2, d3⟩ := badW_false hb
  clear hb
  generalize (rn y).length = n at *
  generalize (rd y).length = m at *
  generalize (rn x).length = n1 at *
  generalize (rd x).length = m1 at *
  generalize rneg x = sx at *
  generalize rneg y = sy at *
  generalize cmpQ y x = R at *
  have HBR := hide_ (fun k => below_drewN (Below.refl (w.alloc (.cells #[.int .i64 t, .int .i64 l, .bool top, .bool sy, .slice p n c, .slice q m d] 34)).heap.size (w.alloc (.cells #[.int .i64 t, .int .i64 l, .bool top, .bool sy, .slice p n c, .slice q m d] 34))) k)
  cases top <;> cases atop
  all_goals
    go_enter Try.func53, Try.ntmps53
    go_wp2
    go_quiet (fail)
    have hbq := below_drewN hb0 nq
    have hbr := HBR.out nq
    go_wp2_with (go_at_call 45; go_must ((with_reducible refine (HK.out _ hbq).mono ?_); rintro e w1 ⟨rfl, hb1⟩; have hbw := hbq.trans (hb1.mono hbq.size); have hbv := hbr.trans (hb1.mono hbr.size); obtain ⟨e1, e2, e3, e4, e5⟩ := HB5.out _ hbw; obtain ⟨f0, f1, f2, f3, f4, f5⟩ := HA6.out _ hbv; clear a0 a1 a2 a3 a4 a5 b1 b2 b3 b4 b5 HK))
    have hbw1 : Below w1.heap.size w1 w1.drew := (Below.refl _ _).drew
  · go_quiet (fail)
    go_wp2
    go_ret
    exact ⟨by simp, below_drewN hbw _⟩
  · go_region_held3 (fun w' => w'.cell? ⟨w.heap.size, 2, none⟩ = some (.bool false) ∧ w'.cell? ⟨w.heap.size, 3, none⟩ = some (.bool sy) ∧ w'.cell? ⟨w.heap.size, 4, none⟩ = some (.slice p n c) ∧ w'.cell? ⟨w.heap.size, 5, none⟩ = some (.slice q m d) ∧ w'.cell? ⟨g, o + 2, none⟩ = some (.bool true) ∧ w'.cell? ⟨g, o + 3, none⟩ = some (.bool sx) ∧ w'.cell? ⟨g, o + 4, none⟩ = some (.slice p1 n1 c1) ∧ w'.cell? ⟨g, o + 5, none⟩ = some (.slice q1 m1 d1'))
      (first | (obtain ⟨k0, k1, k2, k3, k4, k5⟩ := HA6.out _ (hbv.trans ((by assumption : Below w1.heap.size w1 _).mono hbv.size)); obtain ⟨l1, l2, l3, l4, l5⟩ := HB5.out _ (hbw.trans ((by assumption : Below w1.heap.size w1 _).mono hbw.size)); with_reducible exact ⟨k2, k3, k4, k5, l2, l3, l4, l5⟩) | go_keep)
      ((first
        | (go_at_call 81; go_must (
            (with_reducible refine (HF.out _ (hbw.trans (hbw1.mono hbw.size))).mono ?_)
            rintro e w2 ⟨rfl, hb2⟩
            have hb2' : Below w1.heap.size w1 w2 := hbw1.trans (hb2.mono hbw1.size)))))
    by_cases hR : R = (-1 : Int)
    · subst hR
      go_wp2
      go_ret
      exact ⟨by simp [wantW], hbw.trans (hb2'.mono hbw.size)⟩
    · have r1 : (R != (-1 : Int)) = true := by simpa using hR
      have r2 : (R == (-1 : Int)) = false := by simpa using hR
      have r3 : decide (R = (-1 : Int)) = false := decide_eq_false hR
      go_wp2
      go_ret
      exact ⟨by simp, hbw.trans (hb2'.mono hbw.size)⟩
  · go_region_held3 (fun w' => w'.cell? ⟨w.heap.size, 2, none⟩ = some (.bool true) ∧ w'.cell? ⟨w.heap.size, 3, none⟩ = some (.bool sy) ∧ w'.cell? ⟨w.heap.size, 4, none⟩ = some (.slice p n c) ∧ w'.cell? ⟨w.heap.size, 5, none⟩ = some (.slice q m d) ∧ w'.cell? ⟨g, o + 2, none⟩ = some (.bool false) ∧ w'.cell? ⟨g, o + 3, none⟩ = some (.bool sx) ∧ w'.cell? ⟨g, o + 4, none⟩ = some (.slice p1 n1 c1) ∧ w'.cell? ⟨g, o + 5, none⟩ = some (.slice q1 m1 d1'))
      (first | (obtain ⟨k0, k1, k2, k3, k4, k5⟩ := HA6.out _ (hbv.trans ((by assumption : Below w1.heap.size w1 _).mono hbv.size)); obtain ⟨l1, l2, l3, l4, l5⟩ := HB5.out _ (hbw.trans ((by assumption : Below w1.heap.size w1 _).mono hbw.size)); with_reducible exact ⟨k2, k3, k4, k5, l2, l3, l4, l5⟩) | go_keep)
      ((first
        | (go_at_call 81; go_must (
            (with_reducible refine (HF.out _ (hbw.trans (hbw1.mono hbw.size))).mono ?_)
            rintro e w2 ⟨rfl, hb2⟩
            have hb2' : Below w1.heap.size w1 w2 := hbw1.trans (hb2.mono hbw1.size)))))
    by_cases hR : R = (1 : Int)
    · subst hR
      go_wp2
      go_ret
      exact ⟨by simp [wantW], hbw.trans (hb2'.mono hbw.size)⟩
    · have r1 : (R != (1 : Int)) = true := by simpa using hR
      have r2 : (R == (1 : Int)) = false := by simpa using hR
      have r3 : decide (R = (1 : Int)) = false := decide_eq_false hR
      go_wp2
      go_ret
      exact ⟨by simp, hbw.trans (hb2'.mono hbw.size)⟩
  · go_quiet (fail)
    go_wp2
    go_ret
    exact ⟨by simp, below_drewN hbw _⟩
end Go.Proofs.Ytcibbnphkpaifaa

namespace Go.Proofs.Ytcibbnphkpaifaa
open Go.RowKit
set_option linter.unusedVariables false
set_option maxRecDepth 100000
/-- The number that words and a sign stand for. -/
def ratG (neg : Bool) (A D : List Nat) : Rat := mkRat (sgnQ neg (val A)) (val D)
theorem ratG_rat (x : Rat) : ratG (rneg x) (rn x) (rd x) = x := by
  unfold ratG rn rd
  rw [val_wd, val_wd, mk_self]
theorem ratG_ok {neg : Bool} {A D : List Nat} (dA : Dig A) (dD : Dig D) (h : chkR neg A D = 0) : Fits (ratG neg A D) ∧ A = rn (ratG neg A D) ∧ D = rd (ratG neg A D) ∧ neg = rneg (ratG neg A D) := by
  obtain ⟨x, hf, e1, e2, e3⟩ := (chkR_ok dA dD).1 h
  subst e1 e2 e3
  rw [ratG_rat]
  exact ⟨hf, rfl, rfl, rfl⟩
theorem wrong_some (v : Value) (g o : Nat) (al : Int) (atop : Bool) (x : Rat) (t l : Int) (top : Bool) (neg : Bool) (A D : List Nat) (w : World) (ha : AW w g o al atop x) (hv : WG w v t l top neg A D) :
    Calls Try.prog 53 #[.pointer (some ⟨g, o, none⟩), v] w fun e w' => e = .returned (.int .i64 (wrongS al atop x t l top neg A D (ratG neg A D))) ∧ Below w.heap.size w w' := by
  unfold wrongS
  cases hb : (badW t l || decide (t ≤ al))
  · by_cases hk : chkR neg A D = 0
    · have dd : Dig A ∧ Dig D := by
        obtain ⟨p, c, q, d, _, p', c', q', d', _, _, _, _, _, dA, dD, _⟩ := hv
        exact ⟨dA, dD⟩
      obtain ⟨hf, e1, e2, e3⟩ := ratG_ok dd.1 dd.2 hk
      have h := wrong_some_ok v g o al atop x (ratG neg A D) t l top w ha hf (by rw [← e1, ← e2, ← e3]; exact hv) hb
      rw [hk]
      simpa using h
    · have h := wrong_some_chk v g o al atop x t l top neg A D w ha hv hb hk
      have hn : (chkR neg A D != 0) = true := by simpa using hk
      simpa [hn] using h
  · have h := wrong_some_bad v g o al atop x t l top neg A D w ha hv hb
    simpa using h
/-- A water, as data. -/
structure Wt where
  t : Int
  l : Int
  top : Bool
  neg : Bool
  A : List Nat
  D : List Nat
def Wt.h (x : Wt) : Rat := ratG x.neg x.A x.D
def errW : Option Wt → Wt → Int
  | none, x => wrongN x.t x.l x.neg x.A x.D
  | some a, x => wrongS a.l a.top a.h x.t x.l x.top x.neg x.A x.D x.h
/-- What water.Check tells: an error and its place. -/
def checkW : Option Wt → Nat → List Wt → Int × Int
  | _, _, [] => (0, 0)
  | a, i, x :: L => if errW a x = 0 then checkW (some x) (i + 1) L else (errW a x, (i : Int))
theorem errW_nil (x : Wt) : errW none x = wrongN x.t x.l x.neg x.A x.D := rfl
theorem errW_some (a x : Wt) : errW (some a) x = wrongS a.l a.top a.h x.t x.l x.top x.neg x.A x.D x.h := rfl
theorem errW_chk {a : Option Wt} {x : Wt} (h : errW a x = 0) : chkR x.neg x.A x.D = 0 := by
  cases a with
  | none =>
    by_cases hb : badW x.t x.l = true
    · have h' : (2 : Int) = 0 := by rw [← h]; rw [errW_nil]; unfold wrongN; rw [if_pos hb]
      exact absurd h' (by decide)
    · rw [← h]; rw [errW_nil]; unfold wrongN; rw [if_neg hb]
  | some a =>
    by_cases hb : (badW x.t x.l || decide (x.t ≤ a.l)) = true
    · have h' : (2 : Int) = 0 := by rw [← h]; rw [errW_some]; unfold wrongS; rw [if_pos hb]
      exact absurd h' (by decide)
    · by_cases hk : (chkR x.neg x.A x.D != 0) = true
      · rw [← h]; rw [errW_some]; unfold wrongS; rw [if_neg hb, if_pos hk]
      · simpa using hk
end Go.Proofs.Ytcibbnphkpaifaa

namespace Go.Proofs.Ytcibbnphkpaifaa
open Go.RowKit
set_option linter.unusedVariables false
set_option maxRecDepth 100000
/-- Waters in memory: six cells each, one behind the other. -/
def WSl (w : World) (p : Option Addr) (L : List Wt) : Prop := (p = none ∧ L = []) ∨ ∃ g o, p = some ⟨g, o, none⟩ ∧ g < w.heap.size ∧ ∀ i, ∀ h : i < L.length, ∃ p1 c1 q1 d1,
    w.cell? ⟨g, o + 6 * i, none⟩ = some (.int .i64 (L[i]).t) ∧ w.cell? ⟨g, o + 6 * i + 1, none⟩ = some (.int .i64 (L[i]).l) ∧ w.cell? ⟨g, o + 6 * i + 2, none⟩ = some (.bool (L[i]).top) ∧ w.cell? ⟨g, o + 6 * i + 3, none⟩ = some (.bool (L[i]).neg) ∧ w.cell? ⟨g, o + 6 * i + 4, none⟩ = some (.slice p1 (L[i]).A.length c1) ∧ w.cell? ⟨g, o + 6 * i + 5, none⟩ = some (.slice q1 (L[i]).D.length d1) ∧
    RG w (.agg #[.bool (L[i]).neg, .slice p1 (L[i]).A.length c1, .slice q1 (L[i]).D.length d1]) (L[i]).neg (L[i]).A (L[i]).D
theorem WSl.below {w w' : World} {p : Option Addr} {L : List Wt} (h : WSl w p L) (hb : Below w.heap.size w w') : WSl w' p L := by
  rcases h with h | ⟨g, o, e, hg, h⟩
  · exact .inl h
  · refine .inr ⟨g, o, e, Nat.lt_of_lt_of_le hg hb.size, fun i hi => ?_⟩
    obtain ⟨p1, c1, q1, d1, h0, h1, h2, h3, h4, h5, hr⟩ := h i hi
    exact ⟨p1, c1, q1, d1, (hb.cell hg).trans h0, (hb.cell hg).trans h1, (hb.cell hg).trans h2, (hb.cell hg).trans h3, (hb.cell hg).trans h4, (hb.cell hg).trans h5, hr.below hb⟩
def prevW (L : List Wt) (k : Nat) : Option Wt := if k = 0 then none else L[k - 1]?
def aheadV (p : Option Addr) (k : Nat) : Value := if k = 0 then .pointer none else .pointer (p.map fun a => ⟨a.block, a.off + 6 * (k - 1), none⟩)
theorem checkW_step {L : List Wt} {a : Option Wt} {k : Nat} (h : k < L.length) : checkW a k (L.drop k) = if errW a L[k] = 0 then checkW (some L[k]) (k + 1) (L.drop (k + 1)) else (errW a L[k], (k : Int)) := by
  rw [List.drop_eq_getElem_cons h]; rfl
/-- The water ahead is sound and read. -/
theorem AW_of {w : World} {p : Option Addr} {L : List Wt} (hp : WSl w p L) {k : Nat} (hk : k < L.length) (hs : chkR L[k].neg L[k].A L[k].D = 0) : ∃ g o, p = some ⟨g, o, none⟩ ∧ AW w g (o + 6 * k) L[k].l L[k].top L[k].h := by
  rcases hp with ⟨_, h⟩ | ⟨g, o, e, hg, h⟩
  · subst h; cases hk
  · obtain ⟨p1, c1, q1, d1, h0, h1, h2, h3, h4, h5, hr⟩ := h k hk
    have dd : Dig L[k].A ∧ Dig L[k].D := by
      obtain ⟨p', c', q', d', _, _, _, _, _, dA, dD, _⟩ := hr
      exact ⟨dA, dD⟩
    obtain ⟨hf, e1, e2, e3⟩ := ratG_ok dd.1 dd.2 hs
    refine ⟨g, o, e, p1, c1, q1, d1, hg, h1, h2, ?_, ?_, ?_, ?_⟩
    · rw [h3]; exact congrArg (fun b => some (Value.bool b)) e3
    · rw [h4]; exact congrArg (fun S : List Nat => some (Value.slice p1 S.length c1)) e1
    · rw [h5]; exact congrArg (fun S : List Nat => some (Value.slice q1 S.length d1)) e2
    · refine ⟨hf, ?_⟩
      obtain ⟨p', c', q', d', e', w1, w2, l1, l2, _⟩ := hr
      simp only [Value.agg.injEq] at e'
      refine ⟨p', c', q', d', ?_, ?_, ?_, ?_, ?_⟩
      · have : Wt.h L[k] = ratG L[k].neg L[k].A L[k].D := rfl
        rw [this, ← e1, ← e2, ← e3, e']
      · exact e1 ▸ w1
      · exact e2 ▸ w2
      · exact e1 ▸ l1
      · exact e2 ▸ l2
end Go.Proofs.Ytcibbnphkpaifaa

namespace Go.Proofs.Ytcibbnphkpaifaa
open Go.RowKit
set_option linter.unusedVariables false
set_option maxRecDepth 100000
theorem wrong_step (w : World) (g o : Nat) (L : List Wt) (k : Nat) (hp : WSl w (some ⟨g, o, none⟩) L) (hk : k < L.length) (hs : ∀ h : k - 1 < L.length, 0 < k → chkR (L[k - 1]).neg (L[k - 1]).A (L[k - 1]).D = 0) : ∃ p1 c1 q1 d1,
    (w.cell? ⟨g, o + 6 * k, none⟩ = some (.int .i64 (L[k]).t) ∧ w.cell? ⟨g, o + 6 * k + 1, none⟩ = some (.int .i64 (L[k]).l) ∧ w.cell? ⟨g, o + 6 * k + 2, none⟩ = some (.bool (L[k]).top) ∧ w.cell? ⟨g, o + 6 * k + 3, none⟩ = some (.bool (L[k]).neg) ∧ w.cell? ⟨g, o + 6 * k + 4, none⟩ = some (.slice p1 (L[k]).A.length c1) ∧ w.cell? ⟨g, o + 6 * k + 5, none⟩ = some (.slice q1 (L[k]).D.length d1)) ∧
    Calls Try.prog 53 #[aheadV (some ⟨g, o, none⟩) k, .agg #[.int .i64 (L[k]).t, .int .i64 (L[k]).l, .bool (L[k]).top, .bool (L[k]).neg, .slice p1 (L[k]).A.length c1, .slice q1 (L[k]).D.length d1]] w fun e w' => e = .returned (.int .i64 (errW (prevW L k) (L[k]))) ∧ Below w.heap.size w w' := by
  have hp' := hp
  rcases hp with ⟨h, _⟩ | ⟨g', o', e, hg, h⟩
  · cases h
  · cases e
    obtain ⟨p1, c1, q1, d1, h0, h1, h2, h3, h4, h5, hr⟩ := h k hk
    refine ⟨p1, c1, q1, d1, ⟨h0, h1, h2, h3, h4, h5⟩, ?_⟩
    have hv : WG w (.agg #[.int .i64 (L[k]).t, .int .i64 (L[k]).l, .bool (L[k]).top, .bool (L[k]).neg, .slice p1 (L[k]).A.length c1, .slice q1 (L[k]).D.length d1]) (L[k]).t (L[k]).l (L[k]).top (L[k]).neg (L[k]).A (L[k]).D := ⟨p1, c1, q1, d1, rfl, hr⟩
    by_cases hz : k = 0
    · unfold aheadV prevW
      rw [if_pos hz, if_pos hz, errW_nil]
      exact wrong_nil _ _ _ _ _ _ _ w hv
    · unfold aheadV prevW
      rw [if_neg hz, if_neg hz, List.getElem?_eq_getElem (by omega), errW_some]
      obtain ⟨g2, o2, e2, ha⟩ := AW_of hp' (k := k - 1) (by omega) (hs (by omega) (by omega))
      cases e2
      exact wrong_some _ _ _ _ _ _ _ _ _ _ _ _ w ha hv
set_option maxHeartbeats 6400000 in
theorem checkW_any (p : Option Addr) (n c : Nat) (L : List Wt) (w : World) (hn : n = L.length) (hp : WSl w p L) (hl : n ≤ 4096) :
    Calls Try.prog 13 #[.slice p n c] w fun e w' => e = .returned (.agg #[.int .i64 (checkW none 0 L).1, .int .i64 (checkW none 0 L).2]) ∧ Below w.heap.size w w' := by
  subst hn
  have d0 : decide ((4096 : Int) < (L.length : Int)) = false := decide_eq_false (by omega)
  have hb0 : Below w.heap.size w (w.alloc (.cells #[.int .i64 0, .int .i64 0] 27)) := below_alloc _ _
  have hr0 : (w.alloc (.cells #[.int .i64 0, .int .i64 0] 27)).heap[w.heap.size]? = some (.cells #[.int .i64 0, .int .i64 0] 27) := heap_alloc_last _ _
  have HP := hide_ hp
  clear hp
  go_enter Try.func13, Try.ntmps13
  go_wp2
  go_loopw [3, 12] (fun a i wr => ∃ k : Nat, k ≤ L.length ∧ i = .int .i64 (k : Int) ∧ a = aheadV p k ∧ Hid (checkW none 0 L = checkW (prevW L k) k (L.drop k)) ∧ Hid (∀ h : k - 1 < L.length, 0 < k → chkR (L[k - 1]).neg (L[k - 1]).A (L[k - 1]).D = 0) ∧ Hid (Below (w.heap.size + 1) (w.alloc (.cells #[.int .i64 0, .int .i64 0] 27)) wr)) (fun _ i _ => L.length - (intOf i).toNat)
  case atStart => exact ⟨0, Nat.zero_le _, rfl, rfl, hide_ rfl, hide_ (fun _ h => absurd h (by omega)), hide_ (by have h := Below.refl (w.alloc (.cells #[.int .i64 0, .int .i64 0] 27)).heap.size (w.alloc (.cells #[.int .i64 0, .int .i64 0] 27)); simpa using h)⟩
  case round =>
    obtain ⟨k, hk, rfl, rfl, HC, HS, HB⟩ := hrel
    by_cases h0 : k = L.length
    · subst h0
      have d1 : decide ((L.length : Int) < (L.length : Int)) = false := decide_eq_false (by omega)
      have HE : Hid (checkW none 0 L = (0, 0)) := hide_ (by rw [HC.out, List.drop_length]; rfl)
      have hrb := (HB.out.block w.heap.size (by omega)).trans hr0
      go_wp2_with ((with_reducible apply wpList_store_blk); (with_reducible rfl); (with_reducible rfl); rfl; assumption; rfl; kernel_rfl; rfl; kernel_rfl)
      refine ret_c rfl w.heap.size 27 _ _ rfl (setRow_heap _ _ _ _ _ _ hrb) Try.underlying27 rfl (by kernel_rfl) rfl ?_
      rw [HE.out]
      exact ⟨rfl, below_setRow (hb0.trans (HB.out.mono (by simp))) (by omega) _⟩
    · have hk1 : k < L.length := by omega
      have hbw : Below w.heap.size w wr := hb0.trans (HB.out.mono (by omega))
      obtain ⟨g, o, hpe⟩ : ∃ g o, p = some ⟨g, o, none⟩ := by
        rcases HP.out with ⟨_, h⟩ | ⟨g, o, e, _⟩
        · subst h; cases hk1
        · exact ⟨g, o, e⟩
      subst hpe
      obtain ⟨p1, c1, q1, d1, ⟨e0, e1, e2, e3, e4, e5⟩, HW⟩ := wrong_step wr g o L k (HP.out.below hbw) hk1 HS.out
      rw [Nat.mul_comm 6 k] at e0 e1 e2 e3 e4 e5
      have d1 : decide ((k : Int) < (L.length : Int)) = true := decide_eq_true (by omega)
      have i4 : (0 : Int) ≤ (k : Int) := by omega
      have i5 : (k : Int) < (L.length : Int) := by omega
      have hw : IntKind.i64.wrap ((k : Int) + 1) = ((k + 1 : Nat) : Int) := by rw [IntWalk.i64_in _ (by omega)]; omega
      have hN := checkW_step (a := prevW L k) hk1
      have hA : aheadV (some ⟨g, o, none⟩) (k + 1) = .pointer (some ⟨g, o + k * 6, none⟩) := by
        unfold aheadV
        rw [if_neg (by omega), Nat.add_sub_cancel, Nat.mul_comm 6 k]
        rfl
      have hP1 : prevW L (k + 1) = some L[k] := by
        unfold prevW
        rw [if_neg (by omega), Nat.add_sub_cancel, List.getElem?_eq_getElem hk1]
      have hrb := (HB.out.block w.heap.size (by omega)).trans hr0
      have HBB := hide_ (fun w1 (h : Below wr.heap.size wr w1) => HB.out.trans (h.mono (by have := HB.out.size; simp at this; omega)))
      have hrg : w.heap.size < wr.heap.size := lt_of_heap hrb
      by_cases hE : errW (prevW L k) L[k] = 0
      · have HS2 := hide_ (errW_chk hE)
        rw [if_pos hE, ← HC.out, ← hP1] at hN
        rw [hE] at HW
        have HWR := hide_ HW
        have HN := hide_ hN.symm
        have HA := hide_ hA
        clear HW hN hP1 hA hE
        go_wp2_with (go_at_call 53; go_must ((with_reducible refine (HWR.out).mono ?_); rintro e w1 ⟨rfl, hb1⟩))
        exact ⟨⟨k + 1, by omega, by simp, HA.out.symm, hide_ HN.out.symm, hide_ (fun _ _ => by simpa using HS2.out), hide_ (HBB.out _ hb1)⟩, by simp [intOf]; omega⟩
      · rw [if_neg hE, ← HC.out] at hN
        have b1 : (errW (prevW L k) L[k] != 0) = true := by simpa using hE
        generalize errW (prevW L k) L[k] = R at *
        have HWR := hide_ HW
        have HN := hide_ hN
        clear HW hN hP1 hA
        have hb1w : True := trivial
        go_wp2_with (first | (go_at_call 53; go_must ((with_reducible refine (HWR.out).mono ?_); rintro e w1 ⟨rfl, hb1⟩; have hrb1 := (hb1.block _ hrg).trans hrb; clear hrb)) | ((with_reducible apply wpList_store_blk); (with_reducible rfl); (with_reducible rfl); rfl; assumption; rfl; kernel_rfl; rfl; kernel_rfl))
        refine ret_c rfl w.heap.size 27 _ _ rfl (setRow_heap _ _ _ _ _ _ hrb1) Try.underlying27 rfl (by kernel_rfl) rfl ?_
        rw [HN.out]
        exact ⟨rfl, below_setRow (hbw.trans (hb1.mono hbw.size)) (by omega) _⟩
end Go.Proofs.Ytcibbnphkpaifaa

namespace Go.Proofs.Ytcibbnphkpaifaa
open Go.RowKit
set_option linter.unusedVariables false
set_option maxRecDepth 100000
theorem fits_int (n : Int) (h1 : -9223372036854775808 ≤ n) (h2 : n < 9223372036854775808) : Fits ((n : Int) : Rat) := by
  unfold Fits rn rd
  rw [Rat.num_intCast, Rat.den_intCast, wd_one]
  have := len_i64 n h1 h2
  exact ⟨by omega, by simp⟩
set_option maxHeartbeats 3200000 in
theorem whole_any (n : Int) (w : World) (h1 : -9223372036854775808 ≤ n) (h2 : n < 9223372036854775808) :
    Calls Try.prog 85 #[.int .i64 n] w fun e w' => (∃ v, e = .returned v ∧ RO w' w.heap.size v (n : Rat)) ∧ Below w.heap.size w w' := by
  have hS := rsmall_any n 1
  have e1 : (n : Rat) / ((1 : Int) : Rat) = (n : Rat) := by rw [Rat.intCast_one, Rat.div_def]; grind
  have HS := hide_ (fun W => (show Calls Try.prog 57 #[.int .i64 n, .int .i64 1] W (ResR W (n : Rat)) from by have h := hS W h1 h2 (by omega) (by omega) (by omega); rw [e1] at h; exact h))
  clear hS e1
  have hf := hide_ (fits_int n h1 h2)
  have hw : IntKind.i64.wrap n = n := IntWalk.i64_in _ (by omega)
  have hb0 : Below w.heap.size w (w.alloc (.cells #[.bool false, .slice none 0 0, .slice none 0 0] 32)) := below_alloc _ _
  have hr0 : (w.alloc (.cells #[.bool false, .slice none 0 0, .slice none 0 0] 32)).heap[w.heap.size]? = some (.cells #[.bool false, .slice none 0 0, .slice none 0 0] 32) := heap_alloc_last _ _
  generalize (n : Rat) = x at *
  go_enter Try.func85, Try.ntmps85
  go_wp2_with (first
    | (go_at_call 57; go_must (
        (with_reducible refine (HS.out _).mono ?_)
        rintro e w4 h4
        obtain ⟨s4, p4, n4, c4, q4, m4, d4, er4, rfl⟩ := h4.form
        have H4 := hide_ h4
        have hr4 := (h4.2.block _ (lt_of_heap hr0)).trans hr0
        have hr5 : (w4.alloc (.cells #[.bool s4, .slice p4 n4 c4, .slice q4 m4 d4] 32)).heap[w.heap.size]? = some (.cells #[.bool false, .slice none 0 0, .slice none 0 0] 32) := heap_past hr4))
    | ((with_reducible apply wpList_store_blk); (with_reducible rfl); (with_reducible rfl); rfl; assumption; rfl; kernel_rfl; rfl; kernel_rfl))
  refine ret_c rfl w.heap.size 32 _ _ rfl (setRow_heap _ _ _ _ _ _ hr5) Try.underlying32 rfl (by kernel_rfl) rfl ?_
  have hb4 : Below w.heap.size w w4 := hb0.trans (H4.out.2.mono hb0.size)
  refine ⟨?_, below_setRow (hb4.alloc hb4.size _) (Nat.le_refl _) _⟩
  rcases H4.out.1 with ⟨_, v, e1, ho⟩ | ⟨h1, _⟩
  · simp only [Ending.returned.injEq, Value.tuple.injEq, Array.mk.injEq, List.cons.injEq] at e1
    obtain ⟨e1, _⟩ := e1
    subst e1
    exact ⟨_, rfl, (RO.stored (W := w) (ho.below (below_alloc _ _)) (by simp)).mono (by simp)⟩
  · exact absurd hf.out h1
end Go.Proofs.Ytcibbnphkpaifaa

namespace Go.Proofs.Ytcibbnphkpaifaa
open Go.RowKit
set_option linter.unusedVariables false
set_option maxRecDepth 100000
def farB (n : Int) : Bool := decide (n < -1000) || decide (1000 < n)
set_option maxHeartbeats 3200000 in
theorem far_any (n : Int) (w : World) : Calls Try.prog 64 #[.int .i64 n] w fun e w' => e = .returned (.bool (farB n)) ∧ ∃ k, w' = w.drewN k := by
  unfold farB
  cases h1 : decide (n < -1000)
  · cases h2 : decide (1000 < n)
    · go_enter Try.func64, Try.ntmps64
      go_wp2
      go_ret
      exact ⟨by simp, by first | exact ⟨0, rfl⟩ | exact ⟨_, rfl⟩ | exact ⟨_, World.drewN_drewN _ _ _⟩ | (simp only [World.drewN_drewN]; exact ⟨_, rfl⟩)⟩
    · go_enter Try.func64, Try.ntmps64
      go_wp2
      go_ret
      exact ⟨by simp, by first | exact ⟨0, rfl⟩ | exact ⟨_, rfl⟩ | exact ⟨_, World.drewN_drewN _ _ _⟩ | (simp only [World.drewN_drewN]; exact ⟨_, rfl⟩)⟩
  · go_enter Try.func64, Try.ntmps64
    go_wp2
    go_ret
    exact ⟨by simp, by first | exact ⟨0, rfl⟩ | exact ⟨_, rfl⟩ | exact ⟨_, World.drewN_drewN _ _ _⟩ | (simp only [World.drewN_drewN]; exact ⟨_, rfl⟩)⟩
theorem fault_any (e0 at0 : Int) (w : World) : Calls Try.prog 55 #[.int .i64 e0, .int .i64 at0] w fun e w' => e = .returned (.agg #[.int .i64 e0, .int .i64 at0]) ∧ Below w.heap.size w w' := by
  have hr0 : (w.alloc (.cells #[.int .i64 0, .int .i64 0] 27)).heap[w.heap.size]? = some (.cells #[.int .i64 0, .int .i64 0] 27) := heap_alloc_last _ _
  go_enter Try.func55, Try.ntmps55
  go_wp2_with ((with_reducible apply wpList_store_blk); (with_reducible rfl); (with_reducible rfl); rfl; assumption; rfl; kernel_rfl; rfl; kernel_rfl)
  refine ret_c rfl w.heap.size 27 _ _ rfl (setRow_heap _ _ _ _ _ _ hr0) Try.underlying27 rfl (by kernel_rfl) rfl ?_
  exact ⟨rfl, below_setRow (below_alloc _ _) (Nat.le_refl _) _⟩
end Go.Proofs.Ytcibbnphkpaifaa

namespace Go.Proofs.Ytcibbnphkpaifaa
open Go.RowKit
set_option linter.unusedVariables false
set_option maxRecDepth 100000
set_option maxHeartbeats 3200000 in
theorem do_err (g : Nat) (k : Int) (f : Value) (w : World) (s s' : Bool) (p q p' q' : Option Addr) (n m c d n' m' c' d' : Nat) (hg : g < w.heap.size) (he : w.cell? ⟨g, 0, none⟩ = some (.int .i64 k)) (hk : k ≠ 0) :
    Calls Try.prog 89 #[.pointer (some ⟨g, 0, none⟩), f, .agg #[.bool s, .slice p n c, .slice q m d], .agg #[.bool s', .slice p' n' c', .slice q' m' d']] w fun e w' => e = .returned zeroR ∧ Below w.heap.size w w' := by
  have hb0 : Below w.heap.size w (((w.alloc (.cells #[.bool s, .slice p n c, .slice q m d] 32)).alloc (.cells #[.bool s', .slice p' n' c', .slice q' m' d'] 32)).alloc (.cells #[.bool false, .slice none 0 0, .slice none 0 0] 32)) := ((below_alloc _ _).alloc (by simp) _).alloc (by simp; omega) _
  have he0 := (hb0.cell (p := ⟨g, 0, none⟩) hg).trans he
  have b1 : (k != 0) = true := by simpa using hk
  have hr0 := heap_at2 w (.cells #[.bool s, .slice p n c, .slice q m d] 32) (.cells #[.bool s', .slice p' n' c', .slice q' m' d'] 32) (.cells #[.bool false, .slice none 0 0, .slice none 0 0] 32)
  go_enter Try.func89, Try.ntmps89
  go_wp2_with ((with_reducible apply wpList_store_blk); (with_reducible rfl); (with_reducible rfl); rfl; assumption; rfl; kernel_rfl; rfl; kernel_rfl)
  refine ret_c rfl (w.heap.size + 1 + 1) 32 _ _ rfl (setRow_heap _ _ _ _ _ _ hr0) Try.underlying32 rfl (by kernel_rfl) rfl ?_
  exact ⟨rfl, below_setRow hb0 (by omega) _⟩
end Go.Proofs.Ytcibbnphkpaifaa

