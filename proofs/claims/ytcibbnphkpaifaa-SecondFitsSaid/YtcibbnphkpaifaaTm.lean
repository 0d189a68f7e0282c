/- The kit's comparisons of words and fractions. -/
import Derived.Test.YtcibbnphkpaifaaTk
namespace Go.Proofs.Ytcibbnphkpaifaa
open Go.RowKit
set_option linter.unusedVariables false
set_option maxRecDepth 100000
set_option maxHeartbeats 3200000 in
theorem kwords_any (p q : Option Addr) (n m c d : Nat) (A B : List Nat) (w : World) (hn : n = A.length) (hm : m = B.length) (hp : WL w p A) (hq : WL w q B) (hs : n ≤ 140737488355328) (ht : m ≤ 140737488355328) :
    Calls Try.prog 79 #[.slice p n c, .slice q m d] w fun e w' => e = .returned (.bool (decide (A = B))) ∧ ∃ k, w' = w.drewN k := by
  subst hn hm
  by_cases hl : A.length = B.length
  · have hne : ((A.length : Int) != (B.length : Int)) = false := by rw [hl]; simp
    have HP := hide_ (fun h => hp.some_ h)
    have HQ := hide_ (fun h => hq.some_ h)
    have HL := hide_ hl
    clear hp hq hl
    go_enter Try.func79, Try.ntmps79
    go_wp2
    go_loopw [5] (fun i wr => ∃ k : Nat, k ≤ A.length ∧ i = .int .i64 (k : Int) ∧ Hid (A.take k = B.take k) ∧ ∃ q, wr = w.drewN q) (fun i _ => (A.length : Int).toNat - (intOf i).toNat)
    case atStart => exact ⟨0, Nat.zero_le _, rfl, hide_ rfl, 0, rfl⟩
    case round =>
      obtain ⟨k, hk, rfl, HV, q', rfl⟩ := hrel
      by_cases h0 : k = A.length
      · subst h0
        have HE : Hid (decide (A = B) = true) := hide_ (decide_eq_true (by
          have h := HV.out
          rw [List.take_length, HL.out, List.take_length] at h
          exact h))
        have d1 : decide ((A.length : Int) < (A.length : Int)) = false := decide_eq_false (by omega)
        have hlt : ¬ (A.length : Int) < (A.length : Int) := by omega
        go_wp2
        go_ret
        exact ⟨by rw [HE.out]; simp, by first | exact ⟨0, rfl⟩ | exact ⟨_, rfl⟩ | exact ⟨_, World.drewN_drewN _ _ _⟩ | (simp only [World.drewN_drewN]; exact ⟨_, rfl⟩)⟩
      · have hk1 : k < A.length := by omega
        have hk2 : k < B.length := by have := HL.out; omega
        obtain ⟨g, o, rfl, hg, hce⟩ := HP.out (by omega)
        obtain ⟨g2, o2, rfl, hg2, hce2⟩ := HQ.out (by omega)
        have e0 := hce k hk1
        have e1 := hce2 k hk2
        have i4 : (0 : Int) ≤ (k : Int) := by omega
        have i5 : (k : Int) < (A.length : Int) := by omega
        have i6 : (k : Int) < (B.length : Int) := by omega
        have d1 : decide ((k : Int) < (A.length : Int)) = true := decide_eq_true i5
        have hw : IntKind.i64.wrap ((k : Int) + 1) = ((k + 1 : Nat) : Int) := by rw [IntWalk.i64_in _ (by omega)]; omega
        have HEQ := hide_ (fun (h : A.getD k 0 = B.getD k 0) => show A.take (k + 1) = B.take (k + 1) from by
          rw [take_succ_getD hk1, take_succ_getD hk2, h, HV.out])
        have HNE := hide_ (fun (h : A.getD k 0 ≠ B.getD k 0) => show decide (A = B) = false from decide_eq_false (fun e => h (by rw [e])))
        clear hce hce2
        generalize A.getD k 0 = x at *
        generalize B.getD k 0 = y at *
        by_cases h : x = y
        · subst h
          have b1 : ((x : Int) != (x : Int)) = false := by simp
          have HV2 := hide_ (HEQ.out rfl)
          clear HEQ HNE
          go_wp2
          go_quiet (fail)
          go_wp2
          exact ⟨⟨k + 1, by omega, rfl, HV2, by first | exact ⟨0, rfl⟩ | exact ⟨_, rfl⟩ | exact ⟨_, World.drewN_drewN _ _ _⟩ | (simp only [World.drewN_drewN]; exact ⟨_, rfl⟩)⟩, by simp [intOf] <;> omega⟩
        · have b1 : ((x : Int) != (y : Int)) = true := by simp; omega
          have HE := hide_ (HNE.out h)
          clear HEQ HNE
          go_wp2
          go_quiet (fail)
          go_wp2
          go_ret
          exact ⟨by rw [HE.out]; simp, by first | exact ⟨0, rfl⟩ | exact ⟨_, rfl⟩ | exact ⟨_, World.drewN_drewN _ _ _⟩ | (simp only [World.drewN_drewN]; exact ⟨_, rfl⟩)⟩
  · have hne : ((A.length : Int) != (B.length : Int)) = true := by simp; omega
    have HE := hide_ (show decide (A = B) = false from decide_eq_false (fun e => hl (by rw [e])))
    clear hp hq hl
    go_enter Try.func79, Try.ntmps79
    go_wp2
    go_ret
    exact ⟨by rw [HE.out]; simp, 0, rfl⟩
set_option maxHeartbeats 3200000 in
theorem ksame_any (va vb : Value) (n1 n2 : Bool) (A1 D1 A2 D2 : List Nat) (w : World) (hx : RG w va n1 A1 D1) (hy : RG w vb n2 A2 D2) :
    Calls Try.prog 50 #[va, vb] w fun e w' => e = .returned (.bool (sameG n1 A1 D1 n2 A2 D2)) ∧ Below w.heap.size w w' := by
  obtain ⟨p, c, q, d, rfl, hp, hq, hc, hd, _, _, lA, lD⟩ := hx
  obtain ⟨p', c', q', d', rfl, hp', hq', hc', hd', _, _, lA', lD'⟩ := hy
  have HW1 := hide_ (fun W (h : Below w.heap.size w W) => kwords_any p p' _ _ c c' A1 A2 W rfl rfl (hp.below h) (hp'.below h) (by omega) (by omega))
  have HW2 := hide_ (fun W (h : Below w.heap.size w W) => kwords_any q q' _ _ d d' D1 D2 W rfl rfl (hq.below h) (hq'.below h) (by omega) (by omega))
  have HB := hide_ (boxes2 w n1 p A1.length c q D1.length d n2 p' A2.length c' q' D2.length d')
  unfold boxR at HB
  have hb0 : Below w.heap.size w ((w.alloc (.cells #[.bool n1, .slice p A1.length c, .slice q D1.length d] 32)).alloc (.cells #[.bool n2, .slice p' A2.length c', .slice q' D2.length d'] 32)) := (below_alloc _ _).alloc (by simp) _
  obtain ⟨⟨a0, a1, a2⟩, ⟨b0, b1, b2⟩⟩ := HB.out _ (Below.refl _ _)
  clear hp hq hp' hq' hc hd hc' hd' lA lD lA' lD'
  unfold sameG
  generalize A1.length = k1 at *
  generalize A2.length = k2 at *
  generalize D1.length = k3 at *
  generalize D2.length = k4 at *
  generalize decide (A1 = A2) = bA at *
  generalize decide (D1 = D2) = bD at *
  have tok : True := trivial
  cases hn : (n1 == n2)
  · go_enter Try.func50, Try.ntmps50
    go_wp2
    go_ret
    exact ⟨by simp, hb0⟩
  · cases bA
    · go_enter Try.func50, Try.ntmps50
      go_wp2_with (first
        | (go_at_call 79; go_must ((with_reducible refine (HW1.out _ hb0).mono ?_); rintro e w1 ⟨rfl, k, rfl⟩)))
      go_ret
      exact ⟨by simp, below_drewN hb0 _⟩
    · go_enter Try.func50, Try.ntmps50
      go_wp2_with (first
        | (go_at_call 79; have _t := tok; go_must ((with_reducible refine (HW1.out _ hb0).mono ?_); rintro e w1 ⟨rfl, k, rfl⟩; have hb1 := below_drewN hb0 k; obtain ⟨⟨c0, c1, c2⟩, ⟨d0, d1, d2⟩⟩ := HB.out _ (below_drewN (Below.refl _ _) k); clear tok))
        | (go_at_call 79; go_must ((with_reducible refine (HW2.out _ hb1).mono ?_); rintro e w2 ⟨rfl, k2, rfl⟩)))
      go_ret
      exact ⟨by simp, below_drewN hb0 _⟩
theorem ksame_rat (va vb : Value) (x y : Rat) (w : World) (hx : RV w va x) (hy : RV w vb y) :
    Calls Try.prog 50 #[va, vb] w fun e w' => e = .returned (.bool (decide (x = y))) ∧ Below w.heap.size w w' := by
  rw [← same_rat]
  exact ksame_any va vb _ _ _ _ _ _ w hx.rg hy.rg
/-- Fractions that can be read, one behind the other. -/
def FRs (w : World) (p : Option Addr) (X : List Rat) : Prop := X = [] ∨ ∃ g o, p = some ⟨g, o, none⟩ ∧ g < w.heap.size ∧ ∀ i, ∀ h : i < X.length, ∃ p1 c1 q1 d1, (w.cell? ⟨g, o + i * 3, none⟩ = some (.bool (rneg X[i])) ∧ w.cell? ⟨g, o + i * 3 + 1, none⟩ = some (.slice p1 (rn X[i]).length c1) ∧ w.cell? ⟨g, o + i * 3 + 2, none⟩ = some (.slice q1 (rd X[i]).length d1)) ∧
    RV w (.agg #[.bool (rneg X[i]), .slice p1 (rn X[i]).length c1, .slice q1 (rd X[i]).length d1]) X[i]
theorem FRs.below {w w' : World} {p : Option Addr} {X : List Rat} (h : FRs w p X) (hb : Below w.heap.size w w') : FRs w' p X := by
  rcases h with h | ⟨g, o, e, hg, h⟩
  · exact .inl h
  · refine .inr ⟨g, o, e, Nat.lt_of_lt_of_le hg hb.size, fun i hi => ?_⟩
    obtain ⟨p1, c1, q1, d1, ⟨a0, a1, a2⟩, h1⟩ := h i hi
    exact ⟨p1, c1, q1, d1, ⟨(hb.cell hg).trans a0, (hb.cell hg).trans a1, (hb.cell hg).trans a2⟩, h1.below hb⟩
set_option maxHeartbeats 6400000 in
theorem ksames_any (p q : Option Addr) (n m c d : Nat) (X Y : List Rat) (w : World) (hn : n = X.length) (hm : m = Y.length) (hp : FRs w p X) (hq : FRs w q Y) (hs : n ≤ 1000000) :
    Calls Try.prog 18 #[.slice p n c, .slice q m d] w fun e w' => e = .returned (.bool (decide (X = Y))) ∧ Below w.heap.size w w' := by
  subst hn hm
  by_cases hl : X.length = Y.length
  · have hne : ((X.length : Int) != (Y.length : Int)) = false := by rw [hl]; simp
    have HP := hide_ (fun W (h : Below w.heap.size w W) => hp.below h)
    have HQ := hide_ (fun W (h : Below w.heap.size w W) => hq.below h)
    have HL := hide_ hl
    clear hp hq hl
    go_enter Try.func18, Try.ntmps18
    go_wp2
    go_loopw [5] (fun i wr => ∃ k : Nat, k ≤ X.length ∧ i = .int .i64 (k : Int) ∧ Hid (X.take k = Y.take k) ∧ Grew w.heap.size w wr) (fun i _ => X.length - (intOf i).toNat)
    case atStart => exact ⟨0, Nat.zero_le _, rfl, hide_ rfl, Grew.refl _⟩
    case round =>
      obtain ⟨k, hk, rfl, HV, hgr⟩ := hrel
      have HW := hide_ hgr
      by_cases h0 : k = X.length
      · subst h0
        have HE : Hid (decide (X = Y) = true) := hide_ (decide_eq_true (by
          have h := HV.out
          rw [List.take_length, HL.out, List.take_length] at h
          exact h))
        have d1 : decide ((X.length : Int) < (X.length : Int)) = false := decide_eq_false (by omega)
        have hlt : ¬ (X.length : Int) < (X.length : Int) := by omega
        clear hgr
        go_wp2
        go_ret
        exact ⟨by rw [HE.out]; simp, HW.out.below⟩
      · have hk1 : k < X.length := by omega
        have hk2 : k < Y.length := by have := HL.out; omega
        obtain ⟨g, o, rfl, hg, hce⟩ : ∃ g o, p = some ⟨g, o, none⟩ ∧ g < wr.heap.size ∧ _ := (HP.out wr hgr.below).resolve_left (fun h => by rw [h] at hk1; cases hk1)
        obtain ⟨g2, o2, rfl, hg2, hce2⟩ : ∃ g o, q = some ⟨g, o, none⟩ ∧ g < wr.heap.size ∧ _ := (HQ.out wr hgr.below).resolve_left (fun h => by rw [h] at hk2; cases hk2)
        obtain ⟨p1, c1, q1, d1, ⟨y0, y1, y2⟩, hv1⟩ := hce k hk1
        obtain ⟨p2, c2, q2, d2, ⟨u0, u1, u2⟩, hv2⟩ := hce2 k hk2
        have i4 : (0 : Int) ≤ (k : Int) := by omega
        have i5 : (k : Int) < (X.length : Int) := by omega
        have i6 : (k : Int) < (Y.length : Int) := by omega
        have z1 : decide ((k : Int) < (X.length : Int)) = true := decide_eq_true i5
        have hw : IntKind.i64.wrap ((k : Int) + 1) = ((k + 1 : Nat) : Int) := by rw [IntWalk.i64_in _ (by omega)]; omega
        have HEQ := hide_ (fun (h : X[k] = Y[k]) => show X.take (k + 1) = Y.take (k + 1) from by
          rw [List.take_succ_eq_append_getElem hk1, List.take_succ_eq_append_getElem hk2, h, HV.out])
        have HNE := hide_ (fun (h : X[k] ≠ Y[k]) => show decide (X = Y) = false from decide_eq_false (fun e => h (by subst e; rfl)))
        have hdw : Below wr.heap.size wr wr.drew := (Below.refl _ _).drew
        have HSA := hide_ (ksame_rat _ _ X[k] Y[k] wr.drew (hv1.below hdw) (hv2.below hdw))
        have HCL := hide_ (fun W (h : Below wr.heap.size wr W) => (⟨⟨(h.cell hg).trans y0, (h.cell hg).trans y1, (h.cell hg).trans y2⟩, (h.cell hg2).trans u0, (h.cell hg2).trans u1, (h.cell hg2).trans u2⟩ : (_ ∧ _ ∧ _) ∧ _ ∧ _ ∧ _))
        clear hce hce2 hv1 hv2 hgr y0 y1 y2 u0 u1 u2
        generalize X[k] = xk at *
        generalize Y[k] = yk at *
        generalize rneg xk = sx at *
        generalize (rn xk).length = nx at *
        generalize (rd xk).length = mx at *
        generalize rneg yk = sy at *
        generalize (rn yk).length = ny at *
        generalize (rd yk).length = my at *
        obtain ⟨⟨y0, y1, y2⟩, u0, u1, u2⟩ := HCL.out _ hdw
        by_cases h : xk = yk
        · rw [decide_eq_true h] at HSA
          have HV2 := hide_ (HEQ.out h)
          clear HEQ HNE h
          go_wp2
          go_region_held3 (fun w' => (w'.cell? ⟨g, o + k * 3, none⟩ = some (.bool sx) ∧ w'.cell? ⟨g, o + k * 3 + 1, none⟩ = some (.slice p1 nx c1) ∧ w'.cell? ⟨g, o + k * 3 + 2, none⟩ = some (.slice q1 mx d1)) ∧ w'.cell? ⟨g2, o2 + k * 3, none⟩ = some (.bool sy) ∧ w'.cell? ⟨g2, o2 + k * 3 + 1, none⟩ = some (.slice p2 ny c2) ∧ w'.cell? ⟨g2, o2 + k * 3 + 2, none⟩ = some (.slice q2 my d2))
            (first | (exact HCL.out _ (by assumption)) | go_keep)
            ((first | (go_at_call 50; go_must ((with_reducible refine (HSA.out).mono ?_); rintro e w3 ⟨rfl, hb3⟩; have hb4 := hdw.trans (hb3.mono hdw.size)))))
          go_wp2
          exact ⟨⟨k + 1, by omega, by simp, HV2, HW.out.step hb4⟩, by simp [intOf]; omega⟩
        · rw [decide_eq_false h] at HSA
          have HE := hide_ (HNE.out h)
          clear HEQ HNE h
          go_wp2
          go_region_held3 (fun w' => (w'.cell? ⟨g, o + k * 3, none⟩ = some (.bool sx) ∧ w'.cell? ⟨g, o + k * 3 + 1, none⟩ = some (.slice p1 nx c1) ∧ w'.cell? ⟨g, o + k * 3 + 2, none⟩ = some (.slice q1 mx d1)) ∧ w'.cell? ⟨g2, o2 + k * 3, none⟩ = some (.bool sy) ∧ w'.cell? ⟨g2, o2 + k * 3 + 1, none⟩ = some (.slice p2 ny c2) ∧ w'.cell? ⟨g2, o2 + k * 3 + 2, none⟩ = some (.slice q2 my d2))
            (first | (exact HCL.out _ (by assumption)) | go_keep)
            ((first | (go_at_call 50; go_must ((with_reducible refine (HSA.out).mono ?_); rintro e w3 ⟨rfl, hb3⟩; have hb4 := hdw.trans (hb3.mono hdw.size)))))
          go_wp2
          go_ret
          exact ⟨by rw [HE.out]; simp, (HW.out.step hb4).below⟩
  · have hne : ((X.length : Int) != (Y.length : Int)) = true := by simp; omega
    have HE := hide_ (show decide (X = Y) = false from decide_eq_false (fun e => hl (by rw [e])))
    clear hp hq hl
    go_enter Try.func18, Try.ntmps18
    go_wp2
    go_ret
    exact ⟨by rw [HE.out]; simp, Below.refl _ _⟩
/-- A list of one's own can be read. -/
theorem OFs.frs {w : World} {base : Nat} {p : Option Addr} {c : Nat} {Z : List Ze} (h : OFs w base (.slice p Z.length c) Z) : FRs w p (Z.map Ze.h) := by
  rcases Nat.eq_zero_or_pos Z.length with h0 | h0
  · left
    rw [List.eq_nil_of_length_eq_zero h0]; rfl
  · obtain ⟨g, rfl, hbg, hg, hc⟩ := row_cells h.1 h0
    refine .inr ⟨g, 0, rfl, hg, fun i hi => ?_⟩
    have hi' : i < Z.length := by simpa using hi
    have hz := h.2.1 Z[i] (List.getElem_mem hi')
    have k : ∀ j u, j < 3 → (Ze.c3 Z[i])[j]? = some u → w.cell? ⟨g, 0 + i * 3 + j, none⟩ = some u := fun j u hj hu => by
      rw [Nat.zero_add]
      exact hc _ _ (by rw [flat_get Ze.c3 3 ze3 Z i j hi' hj]; exact hu)
    simp only [List.getElem_map]
    exact ⟨Z[i].p, Z[i].c, Z[i].q, Z[i].d, ⟨k 0 _ (by decide) rfl, k 1 _ (by decide) rfl, k 2 _ (by decide) rfl⟩, hz.1.rv hz.2⟩
/-- Curve in pieces. -/
theorem curveE_split {L : List Wt} {t : Int} : ∀ (m k : Nat), curveE L t (m + k) = 0 → curveE L t m = 0 ∧ curveE L (t + (m : Int)) k = 0
  | 0, k, h => ⟨rfl, by simpa using h⟩
  | m + 1, k, h => by
    have e : m + 1 + k = (m + k) + 1 := by omega
    rw [e] at h
    unfold curveE at h
    by_cases h0 : (atQ L t).2 = 0
    · rw [if_pos h0] at h
      have := curveE_split (t := t + 1) m k h
      refine ⟨?_, ?_⟩
      · show curveE L t (m + 1) = 0
        unfold curveE
        rw [if_pos h0]
        exact this.1
      · rw [show t + ((m + 1 : Nat) : Int) = t + 1 + (m : Int) by omega]
        exact this.2
    · rw [if_neg h0] at h
      exact absurd h h0
theorem curveH_split (L : List Wt) (t : Int) (m k : Nat) : curveH L t (m + k) = curveH L t m ++ curveH L (t + (m : Int)) k := by
  induction k with
  | zero => simp [curveH]
  | succ k ih =>
    rw [← Nat.add_assoc, curveH_succ, ih, curveH_succ, List.append_assoc, show t + ((m + k : Nat) : Int) = t + (m : Int) + (k : Int) by omega]
end Go.Proofs.Ytcibbnphkpaifaa
