/- second.at, at a water. -/
import Derived.Test.YtcibbnphkpaifaaSh
import Derived.Deep.DeepCutAuto
namespace Go.Proofs.Ytcibbnphkpaifaa
open Go.RowKit
set_option linter.unusedVariables false
set_option maxRecDepth 100000
/-- The walk from the fraction that was told, to the end. -/
theorem rowB_set {w0 V W : World} {B b : Nat} {x : Rat} {s : Bool} {p q : Option Addr} {n c m d : Nat} {u0 u1 u2 : Value} (hb : W.heap[b]? = some (.cells #[u0, u1, u2] 32)) (hB : B ≤ b) (hbV : b < V.heap.size) (hBV : Below B w0 V) (hVW : Below V.heap.size V W) (ho : RO W V.heap.size (.agg #[.bool s, .slice p n c, .slice q m d]) x) :
    ∃ b' s' p' n' c' q' m' d', Value.pointer (some ⟨b, 0, none⟩) = .pointer (some ⟨b', 0, none⟩) ∧ B ≤ b' ∧ (W.setRow b #[.bool s, .slice p n c, .slice q m d]).heap[b']? = some (.cells #[.bool s', .slice p' n' c', .slice q' m' d'] 32) ∧ RO (W.setRow b #[.bool s, .slice p n c, .slice q m d]) B (.agg #[.bool s', .slice p' n' c', .slice q' m' d']) x ∧ Below B w0 (W.setRow b #[.bool s, .slice p n c, .slice q m d]) :=
  ⟨b, s, p, n, c, q, m, d, rfl, hB, setRow_heap _ _ _ _ _ _ hb, (ho.stored (W := w0) hbV).mono (by omega), below_setRow (hBV.trans (hVW.mono (by omega))) hB _⟩
theorem rowB_new {w0 V W : World} {B : Nat} {x : Rat} {s : Bool} {p q : Option Addr} {n c m d : Nat} (hB : B ≤ V.heap.size) (hBV : Below B w0 V) (hVW : Below V.heap.size V W) (ho : RO W V.heap.size (.agg #[.bool s, .slice p n c, .slice q m d]) x) :
    ∃ b' s' p' n' c' q' m' d', Value.pointer (some ⟨W.heap.size, 0, none⟩) = .pointer (some ⟨b', 0, none⟩) ∧ B ≤ b' ∧ (W.alloc (.cells #[.bool s, .slice p n c, .slice q m d] 32)).heap[b']? = some (.cells #[.bool s', .slice p' n' c', .slice q' m' d'] 32) ∧ RO (W.alloc (.cells #[.bool s, .slice p n c, .slice q m d] 32)) B (.agg #[.bool s', .slice p' n' c', .slice q' m' d']) x ∧ Below B w0 (W.alloc (.cells #[.bool s, .slice p n c, .slice q m d] 32)) :=
  ⟨W.heap.size, s, p, n, c, q, m, d, rfl, Nat.le_trans hB hVW.size, heap_alloc_last _ _, (ho.below (below_alloc _ _)).mono hB, (hBV.trans (hVW.mono hB)).alloc (Nat.le_trans hB hVW.size) _⟩
theorem ResR.fit {w w' : World} {x : Rat} {s : Bool} {p q : Option Addr} {n c m d : Nat} {er : Int} (h : ResR w x (.returned (.tuple #[.agg #[.bool s, .slice p n c, .slice q m d], .int .i64 er])) w') (hf : Fits x) : er = 0 ∧ RO w' w.heap.size (.agg #[.bool s, .slice p n c, .slice q m d]) x := by
  rcases h.1 with ⟨_, v, e1, ho⟩ | ⟨h2, _⟩
  · simp only [Ending.returned.injEq, Value.tuple.injEq, Array.mk.injEq, List.cons.injEq, Value.int.injEq] at e1
    obtain ⟨e1, ⟨_, e2⟩, _⟩ := e1
    subst e1 e2
    exact ⟨rfl, ho⟩
  · exact absurd hf h2
theorem WSl.lc {w : World} {g o : Nat} {L : List Wt} (h : WSl w (some ⟨g, o, none⟩) L) {i : Nat} (hi : i < L.length) : w.cell? ⟨g, o + i * 6 + 1, none⟩ = some (.int .i64 (L[i]).l) := by
  obtain ⟨_, _, _, _, _, ⟨_, h1, _⟩, _⟩ := h.at hi
  exact h1
theorem fits_zero : Fits 0 := by have := fits_int 0 (by decide) (by decide); simpa using this
set_option maxHeartbeats 12800000 in
theorem at_on (g o c : Nat) (t : Int) (L : List Wt) (w : World) (hs : Snd L) (hp : WSl w (some ⟨g, o, none⟩) L) (hl : L.length ≤ 4096) (K : Nat) (hK : K < L.length) (ht1 : L[K].t ≤ t) (ht2 : t ≤ L[K].l) :
    Calls Try.prog 54 #[.slice (some ⟨g, o, none⟩) L.length c, .int .i64 t] w fun e w' => (∃ s p n c q m d, e = .returned (.tuple #[.agg #[.bool s, .slice p n c, .slice q m d], .agg #[.int .i64 0, .int .i64 0]]) ∧ RO w' w.heap.size (.agg #[.bool s, .slice p n c, .slice q m d]) L[K].h) ∧ Below w.heap.size w w' := by
  have hn : 0 < L.length := by omega
  obtain ⟨m, HM⟩ : ∃ m, Hid (L.length = m + 1) := ⟨L.length - 1, hide_ (by omega)⟩
  have hml : m < L.length := by have := HM.out; omega
  have hml2 : ∀ k, k < L.length → k ≤ m := fun k h => by have := HM.out; omega
  obtain ⟨hg, _, _, _, _, ⟨z0, _⟩, _⟩ := hp.at (i := 0) hn
  obtain ⟨_, _, _, _, _, ⟨_, z1, _⟩, _⟩ := hp.at (i := m) hml
  have hK0 := hs.le (i := 0) (j := K) (by omega) (by omega)
  have hKm := hs.le (i := K) (j := m) (hml2 _ (by omega)) hml
  have h1K := hs.one (i := K) (by omega)
  obtain ⟨_, pk, ck, qk, dk, ⟨k0, k1, k2, k3, k4, k5⟩, hrg⟩ := hp.at (i := K) hK
  have hrv := hrg.rv h1K.2.2.2
  have d0 : ((L.length : Int) == 0) = false := beq_eq_false_iff_ne.2 (by omega)
  have d1 : decide (t < L[0].t) = false := decide_eq_false (by omega)
  have d2 : decide (L[m].l < t) = false := decide_eq_false (by omega)
  have i5 : (0 : Int) < (L.length : Int) := by omega
  have i6 : (0 : Int) ≤ (m : Int) := by omega
  have i7 : (m : Int) < (L.length : Int) := by omega
  have hw : IntKind.i64.wrap ((L.length : Int) - 1) = (m : Int) := by have := HM.out; rw [IntWalk.i64_in _ (by omega)]; omega
  have HB := hide_ (boxA w (some ⟨g, o, none⟩) L.length c t)
  have HQ := hide_ (boxAq w (some ⟨g, o, none⟩) L.length c t)
  have hb0 := belowA w (some ⟨g, o, none⟩) L.length c t
  obtain ⟨e0, e1, e2, e3⟩ := HB.out _ (Below.refl _ _)
  have hc0 := (hb0.cell (p := ⟨g, o + 0 * 6, none⟩) hg).trans z0
  rw [Nat.zero_mul, Nat.add_zero] at hc0
  have hc1 := (hb0.cell (p := ⟨g, o + m * 6 + 1, none⟩) hg).trans z1
  have HP := hide_ (hp.below hb0)
  have HFS := hide_ (fun k m i (hi : i < L.length) => at1_any w.heap.size (w.heap.size + 1) g o L.length c i t (L[i].l) ((((((w.alloc (.cells #[.slice (some ⟨g, o, none⟩) L.length c] 22)).alloc (.cells #[.int .i64 t] 3)).alloc (.cells #[.bool false, .slice none 0 0, .slice none 0 0] 32)).alloc (.cells #[.int .i64 0, .int .i64 0] 27)).drewN k).drewN m) e0 e1 (HP.out.lc hi) hi)
  have HMO := hide_ (show ∀ a b, a ≤ b → b < L.length → (if h : a < L.length then decide (t ≤ L[a].l) else true) = true → (if h : b < L.length then decide (t ≤ L[b].l) else true) = true from fun a b hab hb h => by
    rw [dif_pos (show a < L.length by omega)] at h
    rw [dif_pos hb]
    have := (hs.le hab hb).1
    have := of_decide_eq_true h
    exact decide_eq_true (by omega))
  have HFS2 := hide_ (fun k => (show ∀ m i, i < L.length → Calls Try.prog 83 #[.int .i64 (i : Int), .pointer (some ⟨w.heap.size, 0, none⟩), .pointer (some ⟨w.heap.size + 1, 0, none⟩)] ((((((w.alloc (.cells #[.slice (some ⟨g, o, none⟩) L.length c] 22)).alloc (.cells #[.int .i64 t] 3)).alloc (.cells #[.bool false, .slice none 0 0, .slice none 0 0] 32)).alloc (.cells #[.int .i64 0, .int .i64 0] 27)).drewN k).drewN m) fun e w' => e = .returned (.bool (if h : i < L.length then decide (t ≤ L[i].l) else true)) ∧ ∃ q, w' = ((((((w.alloc (.cells #[.slice (some ⟨g, o, none⟩) L.length c] 22)).alloc (.cells #[.int .i64 t] 3)).alloc (.cells #[.bool false, .slice none 0 0, .slice none 0 0] 32)).alloc (.cells #[.int .i64 0, .int .i64 0] 27)).drewN k).drewN m).drewN q from fun m i hi => by rw [dif_pos hi]; exact HFS.out k m i hi))
  have HKK := hide_ (show ∀ k : Nat, k ≤ L.length → (∀ j, j < k → (if h : j < L.length then decide (t ≤ L[j].l) else true) = false) → (∀ j, k ≤ j → j < L.length → (if h : j < L.length then decide (t ≤ L[j].l) else true) = true) → k = K from fun k h1 h2 h3 => by
    rcases Nat.lt_trichotomy k (K) with h | h | h
    · have h4 := h3 k (Nat.le_refl _) (by omega)
      rw [dif_pos (by omega)] at h4
      have h5 := of_decide_eq_true h4
      have h6 := hs.le (i := k) (j := K - 1) (by omega) (by omega)
      have h7 := hs.lt (i := k) (j := K) (by omega) hK
      omega
    · exact h
    · have h4 := h2 (K) h
      rw [dif_pos (by omega)] at h4
      have h5 := of_decide_eq_false h4
      omega)
  have hsz : L.length < 4611686018427387904 := by omega
  have HSZ := hide_ hsz
  have d3 : decide (L[K].t ≤ t) = true := decide_eq_true ht1
  have i8 : (0 : Int) ≤ (K : Int) := by omega
  have i9 : (K : Int) < (L.length : Int) := by omega
  have y0 := (hb0.cell (p := ⟨g, o + K * 6, none⟩) hg).trans k0
  have HC := hide_ (fun W (h : Below w.heap.size w W) => (show W.cell? ⟨g, o + K * 6 + 3, none⟩ = _ ∧ W.cell? ⟨g, o + K * 6 + 4, none⟩ = _ ∧ W.cell? ⟨g, o + K * 6 + 5, none⟩ = _ from ⟨(h.cell hg).trans k3, (h.cell hg).trans k4, (h.cell hg).trans k5⟩))
  have HRV := hide_ (fun W (h : Below w.heap.size w W) => hrv.below h)
  have FH := hide_ hrv.1
  have eh : ratG L[K].neg L[K].A L[K].D = L[K].h := rfl
  rw [eh] at HRV FH
  clear hrv hrg z0 z1 k0 k1 k2 k3 k4 k5 hsz h1K hK0 hKm ht1 ht2 hs hp hl HFS hml2
  generalize L[K].A.length = nk at *
  generalize L[K].D.length = mk at *
  generalize L[K].neg = sk at *
  generalize L[K].h = x at *
  generalize L[K].t = tk at *
  go_enter Try.func54, Try.ntmps54
  go_wp2
  go_quiet (fail)
  obtain ⟨n1, hn1⟩ : ∃ n1, n1 = nq := ⟨_, rfl⟩
  subst hn1
  go_wp2_with (first
    | (go_at_call 82; go_must (
        (with_reducible refine (search_any _ _ _ _ _ HSZ.out (HFS2.out _) HMO.out).mono ?_)
        rintro e w1 ⟨⟨k, rfl, hk1, hk2, hk3⟩, q1, rfl⟩
        obtain rfl := HKK.out k hk1 hk2 hk3
        clear hk1 hk2 hk3)))
  go_quiet (fail)
  go_upto_region 5 with fail
  rw [World.drewN_drewN]
  have HQ5 := hide_ (HQ.out (n1 + q1 + nq))
  have hR5 := HQ.out (n1 + q1 + nq) _ (Below.refl _ _)
  clear HQ HB HFS2 HKK HP y0 e0 e1 e2 e3 hc0 hc1 hb0 HMO eh
  generalize (((((w.alloc (.cells #[.slice (some ⟨g, o, none⟩) L.length c] 22)).alloc (.cells #[.int .i64 t] 3)).alloc (.cells #[.bool false, .slice none 0 0, .slice none 0 0] 32)).alloc (.cells #[.int .i64 0, .int .i64 0] 27)).drewN (n1 + q1 + nq)) = w5 at *
  have hb5 := hR5.2
  have hlt5 : w.heap.size + 1 + 1 + 1 < w5.heap.size := lt_of_heap hR5.1.2.2.2
  have HQC := hide_ (fun W (h : Below w5.heap.size w5 W) => (show W.cell? ⟨w.heap.size, 0, none⟩ = _ ∧ W.cell? ⟨g, o + k * 6 + 3, none⟩ = _ ∧ W.cell? ⟨g, o + k * 6 + 4, none⟩ = _ ∧ W.cell? ⟨g, o + k * 6 + 5, none⟩ = _ from ⟨(HQ5.out W h).1.1, HC.out W (HQ5.out W h).2⟩))
  have hd5 : Below w5.heap.size w5 w5.drew := (Below.refl _ _).drew
  have hdz5 : Below w5.heap.size w5 (w5.alloc (.cells #[.bool false, .slice none 0 0, .slice none 0 0] 32)).drew := (below_alloc _ _).drew
  clear hR5
  go_cut [7] (fun s7 wx => ∃ b s p n c q m d, s7 = .pointer (some ⟨b, 0, none⟩) ∧ w5.heap.size ≤ b ∧ wx.heap[b]? = some (.cells #[.bool s, .slice p n c, .slice q m d] 32) ∧ RO wx w5.heap.size (.agg #[.bool s, .slice p n c, .slice q m d]) x ∧ Below w5.heap.size w5 wx)
  case first =>
    go_region_held3 (fun w' => w'.cell? ⟨w.heap.size, 0, none⟩ = some (.slice (some ⟨g, o, none⟩) L.length c) ∧ w'.cell? ⟨g, o + k * 6 + 3, none⟩ = some (.bool sk) ∧ w'.cell? ⟨g, o + k * 6 + 4, none⟩ = some (.slice pk nk ck) ∧ w'.cell? ⟨g, o + k * 6 + 5, none⟩ = some (.slice qk mk dk))
      (first | (exact HQC.out _ (by assumption)) | go_keep)
      ((first
        | (go_at_call 85
           (with_reducible refine (whole_form 0 0 (by simp) ((w5.alloc (.cells #[.bool false, .slice none 0 0, .slice none 0 0] 32)).drew) (by decide) (by decide)).mono ?_)
           rintro e w3 ⟨⟨s3, p3, n3, c3, q3, m3, d3, rfl, ho3⟩, hb3⟩
           have hB3 : Below w5.heap.size w5 w3 := hdz5.trans (hb3.mono hdz5.size)
           have hzb : w3.heap[w5.heap.size]? = some (.cells #[.bool false, .slice none 0 0, .slice none 0 0] 32) := (hb3.block _ (lt_of_heap (heap_alloc_last w5 (.cells #[.bool false, .slice none 0 0, .slice none 0 0] 32)))).trans (heap_alloc_last w5 (.cells #[.bool false, .slice none 0 0, .slice none 0 0] 32))
           have HT3 := hide_ (ho3.rv fits_zero)
           have HX3 := hide_ (HRV.out _ (hb5.trans (hB3.mono hb5.size))))
        | (go_at_call 85; go_must (
           (with_reducible refine (whole_form 0 0 (by simp) _ (by decide) (by decide)).mono ?_)
           rintro e w3 ⟨⟨s3, p3, n3, c3, q3, m3, d3, rfl, ho3⟩, hb3⟩
           have hB3 : Below w5.heap.size w5 w3 := hd5.trans (hb3.mono hd5.size)
           have hB3z : Below w5.heap.size w5 (w3.alloc (.cells #[.bool false, .slice none 0 0, .slice none 0 0] 32)) := hB3.alloc hB3.size _
           have HT3 := hide_ (ho3.rv fits_zero)
           have HX3 := hide_ (HRV.out _ (hb5.trans (hB3.mono hb5.size)))))
        | (go_at_call 84
           (with_reducible refine (radd_any _ _ x 0 w3 HX3.out HT3.out).mono ?_)
           rintro e w4 h4
           obtain ⟨s4, p4, n4, c4, q4, m4, d4, er4, rfl⟩ := h4.form
           obtain ⟨rfl, ho4⟩ := ResR.fit h4 (by rw [Rat.add_zero]; exact FH.out)
           rw [Rat.add_zero] at ho4
           have hb4 := h4.2
           clear h4
           have hz4b := (hb4.block _ (lt_of_heap hzb)).trans hzb
           have hB4 : Below w5.heap.size w5 w4 := hB3.trans (hb4.mono hB3.size)
           obtain ⟨t0, t1, t2⟩ := cells_three hz4b
           obtain ⟨t3, t4, t5⟩ := free_three hz4b
           have HFIN := rowB_set hz4b (Nat.le_refl _) (lt_of_heap hzb) hB3 hb4 ho4
           have hGs := below_setRow hB4 (Nat.le_refl _) #[.bool s4, .slice p4 n4 c4, .slice q4 m4 d4]
           rw [← set3_row hz4b] at HFIN hGs)
        | (go_at_call 84
           (with_reducible refine (radd_any _ _ x 0 (w3.alloc (.cells #[.bool false, .slice none 0 0, .slice none 0 0] 32)) (HX3.out.below (below_alloc _ _)) (HT3.out.below (below_alloc _ _))).mono ?_)
           rintro e w4 h4
           obtain ⟨s4, p4, n4, c4, q4, m4, d4, er4, rfl⟩ := h4.form
           obtain ⟨rfl, ho4⟩ := ResR.fit h4 (by rw [Rat.add_zero]; exact FH.out)
           rw [Rat.add_zero] at ho4
           have hb4 := h4.2
           clear h4
           have hz4b := (hb4.block w3.heap.size (by simp)).trans (heap_alloc_last w3 (.cells #[.bool false, .slice none 0 0, .slice none 0 0] 32))
           have hB4 : Below w5.heap.size w5 w4 := hB3z.trans (hb4.mono hB3z.size)
           obtain ⟨t0, t1, t2⟩ := cells_three hz4b
           obtain ⟨t3, t4, t5⟩ := free_three hz4b
           have HFIN := rowB_set hz4b hB3.size (by simp) hB3z hb4 ho4
           have hGs := below_setRow hB4 hB3.size #[.bool s4, .slice p4 n4 c4, .slice q4 m4 d4]
           rw [← set3_row hz4b] at HFIN hGs)
        | (go_at_call 84; go_must (
           (with_reducible refine (radd_any _ _ x 0 w3 HX3.out HT3.out).mono ?_)
           rintro e w4 h4
           obtain ⟨s4, p4, n4, c4, q4, m4, d4, er4, rfl⟩ := h4.form
           obtain ⟨rfl, ho4⟩ := ResR.fit h4 (by rw [Rat.add_zero]; exact FH.out)
           rw [Rat.add_zero] at ho4
           have hb4 := h4.2
           clear h4
           have hB4 : Below w5.heap.size w5 w4 := hB3.trans (hb4.mono hB3.size)
           have hB4a := hB4.alloc hB4.size (.cells #[.bool false, .slice none 0 0, .slice none 0 0] 32)
           obtain ⟨t0, t1, t2⟩ := cells_three (heap_alloc_last w4 (.cells #[.bool false, .slice none 0 0, .slice none 0 0] 32))
           obtain ⟨t3, t4, t5⟩ := free_three (heap_alloc_last w4 (.cells #[.bool false, .slice none 0 0, .slice none 0 0] 32))
           have hGs := hB4.alloc hB4.size (.cells #[.bool s4, .slice p4 n4 c4, .slice q4 m4 d4] 32)
           have HFIN := rowB_new hB3.size hB3 hb4 ho4))))
    all_goals (go_wp2_with fail; go_meet; exact HFIN)
  case rest =>
    obtain ⟨b, s4, p4, n4, c4, q4, m4, d4, rfl, hb, hr4, ho4, hB4⟩ := hcut
    obtain ⟨⟨_, _, f2, f3⟩, hbw⟩ := HQ5.out wc hB4
    have f4 := row_other (cs := #[.bool s4, .slice p4 n4 c4, .slice q4 m4 d4]) f3 (show w.heap.size + 1 + 1 + 1 ≠ w.heap.size + 1 + 1 by omega)
    obtain ⟨x0, x1, x2⟩ := cells_three hr4
    clear f3
    go_wp2_with ((with_reducible apply wpList_store_blk); (with_reducible rfl); (with_reducible rfl); rfl; assumption; rfl; kernel_rfl; rfl; kernel_rfl)
    refine ret_cc rfl (w.heap.size + 1 + 1) 32 _ _ (w.heap.size + 1 + 1 + 1) 27 _ _ rfl (row_other (setRow_heap _ _ _ _ _ _ f2) (by omega)) Try.underlying32 rfl (by kernel_rfl) rfl (setRow_heap _ _ _ _ _ _ f4) Try.underlying27 rfl (by kernel_rfl) rfl ?_
    exact ⟨⟨s4, p4, n4, c4, q4, m4, d4, rfl, ((ho4.stored (W := w) (by omega)).stored (W := w) (by omega)).mono (by omega)⟩, below_setRow (below_setRow hbw (by omega) _) (by omega) _⟩
end Go.Proofs.Ytcibbnphkpaifaa
