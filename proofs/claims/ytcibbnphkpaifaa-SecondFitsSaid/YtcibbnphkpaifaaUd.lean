/- second.fit, of a list of pairs. -/
import Derived.Test.YtcibbnphkpaifaaUc
namespace Go.Proofs.Ytcibbnphkpaifaa
open Go.RowKit
set_option linter.unusedVariables false
set_option maxRecDepth 100000
set_option maxHeartbeats 3200000 in
theorem fit_nil (p q : Option Addr) (n c d : Nat) (w : World) :
    Calls Try.prog 61 #[.slice p 0 c, .slice q n d] w fun e w' => e = .returned (.tuple #[.agg #[.int .i64 0, .bool false, .slice none 0 0, .slice none 0 0, .bool false, .slice none 0 0, .slice none 0 0], .int .i64 6]) ∧ Below w.heap.size w w' := by
  have hb0 : Below w.heap.size w (w.alloc (.cells #[.int .i64 0, .bool false, .slice none 0 0, .slice none 0 0, .bool false, .slice none 0 0, .slice none 0 0] 46)) := below_alloc _ _
  have hr0 := heap_alloc_last w (.cells #[.int .i64 0, .bool false, .slice none 0 0, .slice none 0 0, .bool false, .slice none 0 0, .slice none 0 0] 46)
  go_enter Try.func61, Try.ntmps61
  go_wp2_with ((with_reducible apply wpList_store_blk); (with_reducible rfl); (with_reducible rfl); rfl; assumption; rfl; kernel_rfl; rfl; kernel_rfl)
  refine ret_ct rfl w.heap.size 46 _ _ rfl (setRow_heap _ _ _ _ _ _ hr0) Try.underlying46 rfl (by kernel_rfl) rfl ?_
  exact ⟨rfl, below_setRow hb0 (Nat.le_refl _) _⟩
/-- One pair, of a list. -/
def pAt (P : List (Wt × Wt)) (i : Nat) : Wt × Wt := P.getD i (⟨0, 0, false, false, [], []⟩, ⟨0, 0, false, false, [], []⟩)
def fitD (P : List (Wt × Wt)) : Int := (pAt P 0).2.t - (pAt P 0).1.t
def fitQ (P : List (Wt × Wt)) : Rat := fitF (P.length - 1) (pAt P 0).1.h (pAt P (P.length - 1)).1.h (pAt P 0).2.h (pAt P (P.length - 1)).2.h
def fitZ (P : List (Wt × Wt)) : Rat := (pAt P 0).2.h - fitQ P * (pAt P 0).1.h
def fitOK (P : List (Wt × Wt)) : Prop := fitC (P.length - 1) (pAt P 0).1.h (pAt P (P.length - 1)).1.h (pAt P 0).2.h (pAt P (P.length - 1)).2.h
open Classical in
noncomputable def fitE (P : List (Wt × Wt)) : Int := if P.length = 0 then 6 else if fitOK P then (if farB (fitD P) = true then 2 else 0) else 3
theorem pAt_eq {P : List (Wt × Wt)} {i : Nat} (h : i < P.length) : pAt P i = P[i] := by unfold pAt; simp [List.getD, h]
/-- A water that may be. -/
def WtOK (x : Wt) : Prop := 0 ≤ x.t ∧ x.t ≤ 1048576 ∧ chkR x.neg x.A x.D = 0
/-- What fit tells of a list of pairs. -/
def ResP (w : World) (P : List (Wt × Wt)) (e : Ending) (w' : World) : Prop := (∃ D s p n c q m d s' p' n' c' q' m' d' er, e = .returned (.tuple #[.agg #[.int .i64 D, .bool s, .slice p n c, .slice q m d, .bool s', .slice p' n' c', .slice q' m' d'], .int .i64 er]) ∧ Hid (er = fitE P) ∧ Hid (fitE P = 0 → D = fitD P ∧ Fits (fitQ P) ∧ Fits (fitZ P) ∧ ∃ B, w.heap.size ≤ B ∧ (∀ j, (Value.slice p n c).ownBlock = some j ∨ (Value.slice q m d).ownBlock = some j → j < B) ∧ RO w' w.heap.size (.agg #[.bool s, .slice p n c, .slice q m d]) (fitQ P) ∧ RO w' B (.agg #[.bool s', .slice p' n' c', .slice q' m' d']) (fitZ P))) ∧ Below w.heap.size w w'
/-- What the walk asks of one water in a list. -/
theorem wsl_need {w : World} {g o : Nat} {L : List Wt} (hp : WSl w (some ⟨g, o, none⟩) L) {i : Nat} (hi : i < L.length) (hs : WtOK L[i]) : ∃ p c q d, Hid (∀ W, Below w.heap.size w W → W.cell? ⟨g, o + i * 6, none⟩ = some (.int .i64 L[i].t)) ∧
    Hid (∀ W, Below w.heap.size w W → W.cell? ⟨g, o + i * 6 + 3, none⟩ = some (.bool L[i].neg) ∧ W.cell? ⟨g, o + i * 6 + 4, none⟩ = some (.slice p L[i].A.length c) ∧ W.cell? ⟨g, o + i * 6 + 5, none⟩ = some (.slice q L[i].D.length d)) ∧
    Hid (∀ W, Below w.heap.size w W → RV W (.agg #[.bool L[i].neg, .slice p L[i].A.length c, .slice q L[i].D.length d]) L[i].h) := by
  obtain ⟨hg, p, c, q, d, ⟨a0, a1, a2, a3, a4, a5⟩, hr⟩ := hp.at hi
  exact ⟨p, c, q, d, hide_ fun W h => (h.cell hg).trans a0, hide_ fun W h => ⟨(h.cell hg).trans a3, (h.cell hg).trans a4, (h.cell hg).trans a5⟩, hide_ fun W h => (hr.rv hs.2.2).below h⟩
theorem fitC_fits {k : Nat} {x0 xk y0 yk : Rat} (h : fitC k x0 xk y0 yk) : Fits (fitF k x0 xk y0 yk) ∧ Fits (y0 - fitF k x0 xk y0 yk * x0) := by
  refine ⟨?_, h.2⟩
  have h1 := h.1.1
  unfold fitF
  split
  · rename_i hu
    exact (h1 hu).2.2
  · exact fits_one
theorem fit_list (p q : Option Addr) (n c d : Nat) (P : List (Wt × Wt)) (w : World) (hn : n = P.length) (hl : n ≤ 4096) (hp : WSl w p (P.map (·.1))) (hq : WSl w q (P.map (·.2))) (hs : ∀ x ∈ P, WtOK x.1 ∧ WtOK x.2) :
    Calls Try.prog 61 #[.slice p n c, .slice q n d] w (ResP w P) := by
  subst hn
  by_cases h0 : P.length = 0
  · have e6 : fitE P = 6 := by unfold fitE; rw [if_pos h0]
    rw [h0]
    refine (fit_nil p q 0 c d w).mono ?_
    rintro e w' ⟨rfl, hb⟩
    exact ⟨⟨_, _, _, _, _, _, _, _, _, _, _, _, _, _, _, _, rfl, hide_ e6.symm, hide_ (fun h => by rw [e6] at h; cases h)⟩, hb⟩
  · obtain ⟨k, hk⟩ : ∃ k, P.length = k + 1 := ⟨P.length - 1, by omega⟩
    have l1 : (P.map (·.1)).length = k + 1 := by rw [List.length_map, hk]
    have l2 : (P.map (·.2)).length = k + 1 := by rw [List.length_map, hk]
    obtain ⟨ga, oa, rfl⟩ : ∃ g o, p = some ⟨g, o, none⟩ := by
      rcases hp with ⟨_, e⟩ | ⟨g, o, e, _⟩
      · rw [e] at l1; cases l1
      · exact ⟨g, o, e⟩
    obtain ⟨gb, ob, rfl⟩ : ∃ g o, q = some ⟨g, o, none⟩ := by
      rcases hq with ⟨_, e⟩ | ⟨g, o, e, _⟩
      · rw [e] at l2; cases l2
      · exact ⟨g, o, e⟩
    have a0 : pAt P 0 = P[0] := pAt_eq (by omega)
    have ak : pAt P (P.length - 1) = P[k]'(by omega) := by rw [show P.length - 1 = k by omega]; exact pAt_eq (by omega)
    have s0 := hs P[0] (List.getElem_mem (by omega))
    have sk := hs (P[k]'(by omega)) (List.getElem_mem (by omega))
    have g1 : (P.map (·.1))[0]'(by omega) = P[0].1 := by simp
    have g2 : (P.map (·.2))[0]'(by omega) = P[0].2 := by simp
    have g3 : (P.map (·.1))[k]'(by omega) = (P[k]'(by omega)).1 := by simp
    have g4 : (P.map (·.2))[k]'(by omega) = (P[k]'(by omega)).2 := by simp
    obtain ⟨p1, c1, q1, d1, t1, x1, v1⟩ := wsl_need hp (i := 0) (by omega) (by rw [g1]; exact s0.1)
    obtain ⟨p2, c2, q2, d2, t2, x2, v2⟩ := wsl_need hp (i := k) (by omega) (by rw [g3]; exact sk.1)
    obtain ⟨p3, c3, q3, d3, t3, x3, v3⟩ := wsl_need hq (i := 0) (by omega) (by rw [g2]; exact s0.2)
    obtain ⟨p4, c4, q4, d4, t4, x4, v4⟩ := wsl_need hq (i := k) (by omega) (by rw [g4]; exact sk.2)
    rw [g1] at t1 x1 v1
    rw [g3] at t2 x2 v2
    rw [g2] at t3 x3 v3
    rw [g4] at t4 x4 v4
    simp only [Nat.zero_mul, Nat.add_zero] at t1 x1 t3 x3
    have hD : fitD P = P[0].2.t - P[0].1.t := by unfold fitD; rw [a0]
    have hQ : fitQ P = fitF k P[0].1.h (P[k]'(by omega)).1.h P[0].2.h (P[k]'(by omega)).2.h := by unfold fitQ; rw [ak, a0, show P.length - 1 = k by omega]
    have hZ : fitZ P = P[0].2.h - fitQ P * P[0].1.h := by unfold fitZ; rw [a0]
    have hC : fitOK P = fitC k P[0].1.h (P[k]'(by omega)).1.h P[0].2.h (P[k]'(by omega)).2.h := by unfold fitOK; rw [ak, a0, show P.length - 1 = k by omega]
    refine (fit_any k P.length ga oa gb ob c d P[0].1.t P[0].2.t P[0].1.h (P[k]'(by omega)).1.h P[0].2.h (P[k]'(by omega)).2.h _ _ _ _ _ _ _ _ _ _ _ _ _ _ _ _ _ _ _ _ _ _ _ _ _ _ _ _ w (by omega) hk ⟨s0.1.1, s0.1.2.1⟩ ⟨s0.2.1, s0.2.2.1⟩ (hide_ fun W h => ⟨t3.out W h, t1.out W h⟩) x1 x2 x3 x4 v1 v2 v3 v4).mono ?_
    rw [← hD, ← hQ, ← hZ, ← hC]
    rintro e w' ⟨⟨s, p, n, c, q, m, d, s', p', n', c', q', m', d', er, rfl, her, hro⟩, hb⟩
    have hE : er = fitE P := by
      unfold fitE
      rw [if_neg h0]
      rcases her with ⟨h1, h2⟩ | ⟨h1, h2⟩
      · rw [if_pos h1, h2]
      · rw [if_neg h1, h2]
    refine ⟨⟨_, _, _, _, _, _, _, _, _, _, _, _, _, _, _, _, rfl, hide_ hE, hide_ fun hz => ?_⟩, hb⟩
    have hC1 : fitOK P := by
      rcases her with ⟨h1, h2⟩ | ⟨h1, h2⟩
      · exact h1
      · rw [← hE, h2] at hz; cases hz
    have hf := fitC_fits (by rw [← hC]; exact hC1)
    rw [← hQ, ← hZ] at hf
    exact ⟨rfl, hf.1, hf.2, hro hC1⟩
end Go.Proofs.Ytcibbnphkpaifaa
