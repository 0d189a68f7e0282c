/- second.at, between two waters. -/
import Derived.Test.YtcibbnphkpaifaaSi
namespace Go.Proofs.Ytcibbnphkpaifaa
open Go.RowKit
set_option linter.unusedVariables false
set_option maxRecDepth 100000
def ResB (w : World) (F : Prop) (x : Rat) (e : Ending) (w' : World) : Prop := ((F ∧ ∃ s p n c q m d, e = .returned (.tuple #[.agg #[.bool s, .slice p n c, .slice q m d], .int .i64 0]) ∧ RO w' w.heap.size (.agg #[.bool s, .slice p n c, .slice q m d]) x) ∨ (¬ F ∧ e = .returned (.tuple #[zeroR, .int .i64 3]))) ∧ Below w.heap.size w w'
/-- What between told, in a block or in slots. -/
def CaseB (w' : World) (B : Nat) (F : Prop) (x : Rat) (er : Int) (v : Value) : Prop := (er = 0 ∧ F ∧ RO w' B v x) ∨ (er = 3 ∧ ¬ F)
theorem ResB.form {w w' : World} {F : Prop} {x : Rat} {e : Ending} (h : ResB w F x e w') : ∃ s p n c q m d er, e = .returned (.tuple #[.agg #[.bool s, .slice p n c, .slice q m d], .int .i64 er]) ∧ CaseB w' w.heap.size F x er (.agg #[.bool s, .slice p n c, .slice q m d]) := by
  rcases h.1 with ⟨hF, s, p, n, c, q, m, d, rfl, ho⟩ | ⟨hF, rfl⟩
  · exact ⟨s, p, n, c, q, m, d, 0, rfl, .inl ⟨rfl, hF, ho⟩⟩
  · exact ⟨_, _, _, _, _, _, _, 3, rfl, .inr ⟨rfl, hF⟩⟩
theorem CaseB.set {w0 W : World} {B b : Nat} {F : Prop} {x : Rat} {er : Int} {v : Value} {cs : Array Value} (h : CaseB W B F x er v) (hb : b < B) : CaseB (W.setRow b cs) B F x er v := by
  rcases h with ⟨h1, h2, h3⟩ | h
  · exact .inl ⟨h1, h2, h3.stored (W := w0) hb⟩
  · exact .inr h
theorem CaseB.later {W W' : World} {B B' : Nat} {F : Prop} {x : Rat} {er : Int} {v : Value} (h : CaseB W B F x er v) (hb : Below W.heap.size W W') (hB : B' ≤ B) : CaseB W' B' F x er v := by
  rcases h with ⟨h1, h2, h3⟩ | h
  · exact .inl ⟨h1, h2, (h3.below hb).mono hB⟩
  · exact .inr h
set_option maxHeartbeats 12800000 in
theorem at_in (g o c : Nat) (t : Int) (L : List Wt) (w : World) (hs : Snd L) (hp : WSl w (some ⟨g, o, none⟩) L) (hl : L.length ≤ 4096) (K J : Nat) (HJ : Hid (J = K + 1)) (hJ : J < L.length) (hK : K < L.length) (ht1 : L[K].l < t) (ht2 : t < L[J].t) :
    Calls Try.prog 54 #[.slice (some ⟨g, o, none⟩) L.length c, .int .i64 t] w fun e w' => ((StepsFit L[K].h L[J].h (((t - L[K].l : Int) : Rat) / ((L[J].t - L[K].l : Int) : Rat)) ∧ ∃ s p n c q m d, e = .returned (.tuple #[.agg #[.bool s, .slice p n c, .slice q m d], .agg #[.int .i64 0, .int .i64 0]]) ∧ RO w' w.heap.size (.agg #[.bool s, .slice p n c, .slice q m d]) (curveQ L[K].h L[J].h (((t - L[K].l : Int) : Rat) / ((L[J].t - L[K].l : Int) : Rat)))) ∨ (¬ StepsFit L[K].h L[J].h (((t - L[K].l : Int) : Rat) / ((L[J].t - L[K].l : Int) : Rat)) ∧ e = .returned (.tuple #[zeroR, .agg #[.int .i64 3, .int .i64 (-1)]]))) ∧ Below w.heap.size w w' := by
  have hn : 0 < L.length := by omega
  obtain ⟨m, HM⟩ : ∃ m, Hid (L.length = m + 1) := ⟨L.length - 1, hide_ (by omega)⟩
  have hml : m < L.length := by have := HM.out; omega
  have hml2 : ∀ k, k < L.length → k ≤ m := fun k h => by have := HM.out; omega
  obtain ⟨hg, _, _, _, _, ⟨z0, _⟩, _⟩ := hp.at (i := 0) hn
  obtain ⟨_, _, _, _, _, ⟨_, z1, _⟩, _⟩ := hp.at (i := m) hml
  have hK0 := hs.le (i := 0) (j := J) (by omega) (by omega)
  have hKm := hs.le (i := J) (j := m) (hml2 _ (by omega)) hml
  have h1K := hs.one (i := J) (by omega)
  have h0K := hs.le (i := 0) (j := K) (by omega) hK
  have h1K' := hs.one (i := K) hK
  obtain ⟨_, pj, cj, qj, dj, ⟨j0, j1, j2, j3, j4, j5⟩, hrj⟩ := hp.at (i := J) hJ
  obtain ⟨_, pk, ck, qk, dk, ⟨k0, k1, k2, k3, k4, k5⟩, hrk⟩ := hp.at (i := K) hK
  have hvj := hrj.rv h1K.2.2.2
  have hvk := hrk.rv h1K'.2.2.2
  have d0 : ((L.length : Int) == 0) = false := beq_eq_false_iff_ne.2 (by omega)
  have d1 : decide (t < L[0].t) = false := decide_eq_false (by omega)
  have d2 : decide (L[m].l < t) = false := decide_eq_false (by omega)
  have i5 : (0 : Int) < (L.length : Int) := by omega
  have i6 : (0 : Int) ≤ (m : Int) := by omega
  have i7 : (m : Int) < (L.length : Int) := by omega
  have hw : IntKind.i64.wrap ((L.length : Int) - 1) = (m : Int) := by have := HM.out; rw [IntWalk.i64_in _ (by omega)]; omega
  have HB := hide_ (boxA w (some ⟨g, o, none⟩) L.length c t)
  have HQ := hide_ (boxAq w (some ⟨g, o, none⟩) L.length c t)
  have hb0 := belowA w (some ⟨g, o, none⟩) L.length c t
  obtain ⟨e0, e1, e2, e3⟩ := HB.out _ (Below.refl _ _)
  have hc0 := (hb0.cell (p := ⟨g, o + 0 * 6, none⟩) hg).trans z0
  rw [Nat.zero_mul, Nat.add_zero] at hc0
  have hc1 := (hb0.cell (p := ⟨g, o + m * 6 + 1, none⟩) hg).trans z1
  have HP := hide_ (hp.below hb0)
  have HFS := hide_ (fun k m i (hi : i < L.length) => at1_any w.heap.size (w.heap.size + 1) g o L.length c i t (L[i].l) ((((((w.alloc (.cells #[.slice (some ⟨g, o, none⟩) L.length c] 22)).alloc (.cells #[.int .i64 t] 3)).alloc (.cells #[.bool false, .slice none 0 0, .slice none 0 0] 32)).alloc (.cells #[.int .i64 0, .int .i64 0] 27)).drewN k).drewN m) e0 e1 (HP.out.lc hi) hi)
  have HMO := hide_ (show ∀ a b, a ≤ b → b < L.length → (if h : a < L.length then decide (t ≤ L[a].l) else true) = true → (if h : b < L.length then decide (t ≤ L[b].l) else true) = true from fun a b hab hb h => by
    rw [dif_pos (show a < L.length by omega)] at h
    rw [dif_pos hb]
    have := (hs.le hab hb).1
    have := of_decide_eq_true h
    exact decide_eq_true (by omega))
  have HFS2 := hide_ (fun k => (show ∀ m i, i < L.length → Calls Try.prog 83 #[.int .i64 (i : Int), .pointer (some ⟨w.heap.size, 0, none⟩), .pointer (some ⟨w.heap.size + 1, 0, none⟩)] ((((((w.alloc (.cells #[.slice (some ⟨g, o, none⟩) L.length c] 22)).alloc (.cells #[.int .i64 t] 3)).alloc (.cells #[.bool false, .slice none 0 0, .slice none 0 0] 32)).alloc (.cells #[.int .i64 0, .int .i64 0] 27)).drewN k).drewN m) fun e w' => e = .returned (.bool (if h : i < L.length then decide (t ≤ L[i].l) else true)) ∧ ∃ q, w' = ((((((w.alloc (.cells #[.slice (some ⟨g, o, none⟩) L.length c] 22)).alloc (.cells #[.int .i64 t] 3)).alloc (.cells #[.bool false, .slice none 0 0, .slice none 0 0] 32)).alloc (.cells #[.int .i64 0, .int .i64 0] 27)).drewN k).drewN m).drewN q from fun m i hi => by rw [dif_pos hi]; exact HFS.out k m i hi))
  have HKK := hide_ (show ∀ k : Nat, k ≤ L.length → (∀ j, j < k → (if h : j < L.length then decide (t ≤ L[j].l) else true) = false) → (∀ j, k ≤ j → j < L.length → (if h : j < L.length then decide (t ≤ L[j].l) else true) = true) → k = J from fun k h1 h2 h3 => by
    rcases Nat.lt_trichotomy k (J) with h | h | h
    · have h4 := h3 k (Nat.le_refl _) (by omega)
      rw [dif_pos (by omega)] at h4
      have h5 := of_decide_eq_true h4
      have hkK : k ≤ K := by have := HJ.out; omega
      have h7 := hs.le (i := k) (j := K) hkK hK
      omega
    · exact h
    · have h4 := h2 (J) h
      rw [dif_pos (by omega)] at h4
      have h5 := of_decide_eq_false h4
      omega)
  have hsz : L.length < 4611686018427387904 := by omega
  have HSZ := hide_ hsz
  have d3 : decide (L[J].t ≤ t) = false := decide_eq_false (by omega)
  have i8 : (0 : Int) ≤ (J : Int) := by omega
  have i9 : (J : Int) < (L.length : Int) := by omega
  have i10 : (0 : Int) ≤ (K : Int) := by omega
  have i11 : (K : Int) < (L.length : Int) := by omega
  have hw2 : IntKind.i64.wrap ((J : Int) - 1) = (K : Int) := by have := HJ.out; rw [IntWalk.i64_in _ (by omega)]; omega
  have y0 := (hb0.cell (p := ⟨g, o + J * 6, none⟩) hg).trans j0
  have HC := hide_ (fun W (h : Below w.heap.size w W) => (show (W.cell? ⟨g, o + J * 6, none⟩ = _ ∧ W.cell? ⟨g, o + J * 6 + 1, none⟩ = _ ∧ W.cell? ⟨g, o + J * 6 + 2, none⟩ = _ ∧ W.cell? ⟨g, o + J * 6 + 3, none⟩ = _ ∧ W.cell? ⟨g, o + J * 6 + 4, none⟩ = _ ∧ W.cell? ⟨g, o + J * 6 + 5, none⟩ = _) ∧ W.cell? ⟨g, o + K * 6, none⟩ = _ ∧ W.cell? ⟨g, o + K * 6 + 1, none⟩ = _ ∧ W.cell? ⟨g, o + K * 6 + 2, none⟩ = _ ∧ W.cell? ⟨g, o + K * 6 + 3, none⟩ = _ ∧ W.cell? ⟨g, o + K * 6 + 4, none⟩ = _ ∧ W.cell? ⟨g, o + K * 6 + 5, none⟩ = _ from ⟨⟨(h.cell hg).trans j0, (h.cell hg).trans j1, (h.cell hg).trans j2, (h.cell hg).trans j3, (h.cell hg).trans j4, (h.cell hg).trans j5⟩, (h.cell hg).trans k0, (h.cell hg).trans k1, (h.cell hg).trans k2, (h.cell hg).trans k3, (h.cell hg).trans k4, (h.cell hg).trans k5⟩))
  have HBT := hide_ (fun W (h : Below w.heap.size w W) => (show Calls Try.prog 86 _ W (ResB W (StepsFit L[K].h L[J].h (((t - L[K].l : Int) : Rat) / ((L[J].t - L[K].l : Int) : Rat))) (curveQ L[K].h L[J].h (((t - L[K].l : Int) : Rat) / ((L[J].t - L[K].l : Int) : Rat)))) from between_any L[K].t L[K].l L[J].t L[J].l t L[K].top L[J].top L[K].h L[J].h W _ _ _ _ _ _ _ _ _ _ _ _ _ _ (hvk.below h) (hvj.below h) (by omega) (by omega) (by omega) (by omega)))
  clear hrj hrk hvj hvk z0 z1 k0 k1 k2 k3 k4 k5 j0 j1 j2 j3 j4 j5 hsz h1K h1K' h0K hK0 hKm ht1 ht2 hs hp hl HFS hml2
  generalize (StepsFit L[K].h L[J].h (((t - L[K].l : Int) : Rat) / ((L[J].t - L[K].l : Int) : Rat))) = F at *
  generalize (curveQ L[K].h L[J].h (((t - L[K].l : Int) : Rat) / ((L[J].t - L[K].l : Int) : Rat))) = x at *
  generalize L[K].A.length = nk at *
  generalize L[K].D.length = mk at *
  generalize L[K].neg = sk at *
  generalize L[K].t = tk at *
  generalize L[K].l = lk at *
  generalize L[K].top = topk at *
  generalize L[J].A.length = nj at *
  generalize L[J].D.length = mj at *
  generalize L[J].neg = sj at *
  generalize L[J].t = tj at *
  generalize L[J].l = lj at *
  generalize L[J].top = topj at *
  go_enter Try.func54, Try.ntmps54
  go_wp2
  go_quiet (fail)
  obtain ⟨n1, hn1⟩ : ∃ n1, n1 = nq := ⟨_, rfl⟩
  subst hn1
  go_wp2_with (first
    | (go_at_call 82; go_must (
        (with_reducible refine (search_any _ _ _ _ _ HSZ.out (HFS2.out _) HMO.out).mono ?_)
        rintro e w1 ⟨⟨k, rfl, hk1, hk2, hk3⟩, q1, rfl⟩
        obtain rfl := HKK.out k hk1 hk2 hk3
        clear hk1 hk2 hk3)))
  go_quiet (fail)
  go_upto_region 7 with fail
  rw [World.drewN_drewN]
  have HQ5 := hide_ (HQ.out (n1 + q1 + nq))
  have hR5 := HQ.out (n1 + q1 + nq) _ (Below.refl _ _)
  clear HQ HB HFS2 HKK HP y0 e0 e1 e2 e3 hc0 hc1 hb0 HMO
  generalize (((((w.alloc (.cells #[.slice (some ⟨g, o, none⟩) L.length c] 22)).alloc (.cells #[.int .i64 t] 3)).alloc (.cells #[.bool false, .slice none 0 0, .slice none 0 0] 32)).alloc (.cells #[.int .i64 0, .int .i64 0] 27)).drewN (n1 + q1 + nq)) = w5 at *
  have hb5 := hR5.2
  have hlt5 : w.heap.size + 1 + 1 + 1 < w5.heap.size := lt_of_heap hR5.1.2.2.2
  have HQC := hide_ (fun W (h : Below w5.heap.size w5 W) => (⟨(HQ5.out W h).1.1, (HQ5.out W h).1.2.1, HC.out W (HQ5.out W h).2⟩ : W.cell? ⟨w.heap.size, 0, none⟩ = _ ∧ W.cell? ⟨w.heap.size + 1, 0, none⟩ = _ ∧ _))
  have hd5 : Below w5.heap.size w5 w5.drew := (Below.refl _ _).drew
  have hdz5 : Below w5.heap.size w5 (w5.alloc (.cells #[.bool false, .slice none 0 0, .slice none 0 0] 32)).drew := (below_alloc _ _).drew
  clear hR5
  go_cut [9, 10] (fun s9 s10 wx => ∃ b s p n c q m d er, s9 = .pointer (some ⟨b, 0, none⟩) ∧ s10 = .int .i64 er ∧ w5.heap.size ≤ b ∧ wx.heap[b]? = some (.cells #[.bool s, .slice p n c, .slice q m d] 32) ∧ CaseB wx w5.heap.size F x er (.agg #[.bool s, .slice p n c, .slice q m d]) ∧ Below w5.heap.size w5 wx)
  case first =>
    go_region_held3 (fun w' => w'.cell? ⟨w.heap.size, 0, none⟩ = some (.slice (some ⟨g, o, none⟩) L.length c) ∧ w'.cell? ⟨w.heap.size + 1, 0, none⟩ = some (.int .i64 t) ∧ (w'.cell? ⟨g, o + k * 6, none⟩ = some (.int .i64 tj) ∧ w'.cell? ⟨g, o + k * 6 + 1, none⟩ = some (.int .i64 lj) ∧ w'.cell? ⟨g, o + k * 6 + 2, none⟩ = some (.bool topj) ∧ w'.cell? ⟨g, o + k * 6 + 3, none⟩ = some (.bool sj) ∧ w'.cell? ⟨g, o + k * 6 + 4, none⟩ = some (.slice pj nj cj) ∧ w'.cell? ⟨g, o + k * 6 + 5, none⟩ = some (.slice qj mj dj)) ∧ w'.cell? ⟨g, o + K * 6, none⟩ = some (.int .i64 tk) ∧ w'.cell? ⟨g, o + K * 6 + 1, none⟩ = some (.int .i64 lk) ∧ w'.cell? ⟨g, o + K * 6 + 2, none⟩ = some (.bool topk) ∧ w'.cell? ⟨g, o + K * 6 + 3, none⟩ = some (.bool sk) ∧ w'.cell? ⟨g, o + K * 6 + 4, none⟩ = some (.slice pk nk ck) ∧ w'.cell? ⟨g, o + K * 6 + 5, none⟩ = some (.slice qk mk dk))
      (first | (exact HQC.out _ (by assumption)) | go_keep)
      ((first
        | (go_at_call 86
           (with_reducible refine (HBT.out ((w5.alloc (.cells #[.bool false, .slice none 0 0, .slice none 0 0] 32)).drew) (hb5.trans (hdz5.mono hb5.size))).mono ?_)
           rintro e w4 h4
           obtain ⟨s4, p4, n4, c4, q4, m4, d4, er4, rfl, hcb⟩ := h4.form
           have hb4 := h4.2
           clear h4
           have hzb : w4.heap[w5.heap.size]? = some (.cells #[.bool false, .slice none 0 0, .slice none 0 0] 32) := (hb4.block _ (lt_of_heap (heap_alloc_last w5 (.cells #[.bool false, .slice none 0 0, .slice none 0 0] 32)))).trans (heap_alloc_last w5 (.cells #[.bool false, .slice none 0 0, .slice none 0 0] 32))
           have hB4 : Below w5.heap.size w5 w4 := hdz5.trans (hb4.mono hdz5.size)
           obtain ⟨t0, t1, t2⟩ := cells_three hzb
           obtain ⟨t3, t4, t5⟩ := free_three hzb
           have hGs := below_setRow hB4 (Nat.le_refl _) #[.bool s4, .slice p4 n4 c4, .slice q4 m4 d4]
           have HFIN : ∃ b' s' p' n' c' q' m' d' er', Value.pointer (some ⟨w5.heap.size, 0, none⟩) = .pointer (some ⟨b', 0, none⟩) ∧ Value.int .i64 er4 = .int .i64 er' ∧ w5.heap.size ≤ b' ∧ (w4.setRow w5.heap.size #[.bool s4, .slice p4 n4 c4, .slice q4 m4 d4]).heap[b']? = some (.cells #[.bool s', .slice p' n' c', .slice q' m' d'] 32) ∧ CaseB (w4.setRow w5.heap.size #[.bool s4, .slice p4 n4 c4, .slice q4 m4 d4]) w5.heap.size F x er' (.agg #[.bool s', .slice p' n' c', .slice q' m' d']) ∧ Below w5.heap.size w5 (w4.setRow w5.heap.size #[.bool s4, .slice p4 n4 c4, .slice q4 m4 d4]) :=
             ⟨_, s4, p4, n4, c4, q4, m4, d4, er4, rfl, rfl, Nat.le_refl _, setRow_heap _ _ _ _ _ _ hzb, (hcb.set (w0 := w) (by simp)).later (Below.refl _ _) (by simp), hGs⟩
           rw [← set3_row hzb] at HFIN hGs)
        | (go_at_call 86; go_must (
           (with_reducible refine (HBT.out w5.drew (hb5.trans (hd5.mono hb5.size))).mono ?_)
           rintro e w4 h4
           obtain ⟨s4, p4, n4, c4, q4, m4, d4, er4, rfl, hcb⟩ := h4.form
           have hb4 := h4.2
           clear h4
           have hB4 : Below w5.heap.size w5 w4 := hd5.trans (hb4.mono hd5.size)
           have hB4a := hB4.alloc hB4.size (.cells #[.bool false, .slice none 0 0, .slice none 0 0] 32)
           obtain ⟨t0, t1, t2⟩ := cells_three (heap_alloc_last w4 (.cells #[.bool false, .slice none 0 0, .slice none 0 0] 32))
           obtain ⟨t3, t4, t5⟩ := free_three (heap_alloc_last w4 (.cells #[.bool false, .slice none 0 0, .slice none 0 0] 32))
           have hGs := hB4.alloc hB4.size (.cells #[.bool s4, .slice p4 n4 c4, .slice q4 m4 d4] 32)
           have HFIN : ∃ b' s' p' n' c' q' m' d' er', Value.pointer (some ⟨w4.heap.size, 0, none⟩) = .pointer (some ⟨b', 0, none⟩) ∧ Value.int .i64 er4 = .int .i64 er' ∧ w5.heap.size ≤ b' ∧ (w4.alloc (.cells #[.bool s4, .slice p4 n4 c4, .slice q4 m4 d4] 32)).heap[b']? = some (.cells #[.bool s', .slice p' n' c', .slice q' m' d'] 32) ∧ CaseB (w4.alloc (.cells #[.bool s4, .slice p4 n4 c4, .slice q4 m4 d4] 32)) w5.heap.size F x er' (.agg #[.bool s', .slice p' n' c', .slice q' m' d']) ∧ Below w5.heap.size w5 (w4.alloc (.cells #[.bool s4, .slice p4 n4 c4, .slice q4 m4 d4] 32)) :=
             ⟨_, s4, p4, n4, c4, q4, m4, d4, er4, rfl, rfl, hB4.size, heap_alloc_last _ _, hcb.later (below_alloc _ _) (Nat.le_refl _), hGs⟩))))
    all_goals (go_wp2_with fail; go_meet; exact HFIN)
  case rest =>
    obtain ⟨b, s4, p4, n4, c4, q4, m4, d4, er4, rfl, rfl, hb, hr4, hcb, hB4⟩ := hcut
    obtain ⟨⟨_, _, f2, f3⟩, hbw⟩ := HQ5.out wc hB4
    obtain ⟨x0, x1, x2⟩ := cells_three hr4
    rcases hcb with ⟨rfl, hF, ho4⟩ | ⟨rfl, hF⟩
    · have f4 := row_other (cs := #[.bool s4, .slice p4 n4 c4, .slice q4 m4 d4]) f3 (show w.heap.size + 1 + 1 + 1 ≠ w.heap.size + 1 + 1 by omega)
      clear f3
      go_wp2_with ((with_reducible apply wpList_store_blk); (with_reducible rfl); (with_reducible rfl); rfl; assumption; rfl; kernel_rfl; rfl; kernel_rfl)
      refine ret_cc rfl (w.heap.size + 1 + 1) 32 _ _ (w.heap.size + 1 + 1 + 1) 27 _ _ rfl (row_other (setRow_heap _ _ _ _ _ _ f2) (by omega)) Try.underlying32 rfl (by kernel_rfl) rfl (setRow_heap _ _ _ _ _ _ f4) Try.underlying27 rfl (by kernel_rfl) rfl ?_
      exact ⟨.inl ⟨hF, s4, p4, n4, c4, q4, m4, d4, rfl, ((ho4.stored (W := w) (by omega)).stored (W := w) (by omega)).mono (by omega)⟩, below_setRow (below_setRow hbw (by omega) _) (by omega) _⟩
    · have HFA := hide_ (fun W => fault_any 3 (-1) W)
      have hgt := lt_of_heap f3
      go_wp2_with (first
        | (go_at_call 55; go_must (
            (with_reducible refine (HFA.out _).mono ?_)
            rintro e w6 ⟨rfl, hb6⟩
            have f2' := (hb6.block _ (lt_of_heap f2)).trans f2
            have f3' := (hb6.block _ (lt_of_heap f3)).trans f3
            have f4 := row_other (cs := #[.bool false, .slice none 0 0, .slice none 0 0]) f3' (show w.heap.size + 1 + 1 + 1 ≠ w.heap.size + 1 + 1 by omega)
            clear f3 f3' f2))
        | ((with_reducible apply wpList_store_blk); (with_reducible rfl); (with_reducible rfl); rfl; assumption; rfl; kernel_rfl; rfl; kernel_rfl))
      refine ret_cc rfl (w.heap.size + 1 + 1) 32 _ _ (w.heap.size + 1 + 1 + 1) 27 _ _ rfl (row_other (setRow_heap _ _ _ _ _ _ f2') (by omega)) Try.underlying32 rfl (by kernel_rfl) rfl (setRow_heap _ _ _ _ _ _ f4) Try.underlying27 rfl (by kernel_rfl) rfl ?_
      exact ⟨.inr ⟨hF, rfl⟩, below_setRow (below_setRow (hbw.trans (hb6.mono hbw.size)) (by omega) _) (by omega) _⟩
end Go.Proofs.Ytcibbnphkpaifaa
