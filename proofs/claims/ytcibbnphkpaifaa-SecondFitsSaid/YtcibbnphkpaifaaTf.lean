/- LongWaters, Pick, order. -/
import Derived.Test.YtcibbnphkpaifaaTe
namespace Go.Proofs.Ytcibbnphkpaifaa
open Go.RowKit
set_option linter.unusedVariables false
set_option maxRecDepth 100000
/-- Waters as they come in: of any length. -/
def WSr (w : World) (p : Option Addr) (L : List Wt) : Prop := L = [] ∨ ∃ g o, p = some ⟨g, o, none⟩ ∧ g < w.heap.size ∧ ∀ i, ∀ h : i < L.length, ∃ p1 c1 q1 d1,
    (w.cell? ⟨g, o + i * 6, none⟩ = some (.int .i64 (L[i]).t) ∧ w.cell? ⟨g, o + i * 6 + 1, none⟩ = some (.int .i64 (L[i]).l) ∧ w.cell? ⟨g, o + i * 6 + 2, none⟩ = some (.bool (L[i]).top) ∧ w.cell? ⟨g, o + i * 6 + 3, none⟩ = some (.bool (L[i]).neg) ∧ w.cell? ⟨g, o + i * 6 + 4, none⟩ = some (.slice p1 (L[i]).A.length c1) ∧ w.cell? ⟨g, o + i * 6 + 5, none⟩ = some (.slice q1 (L[i]).D.length d1)) ∧
    (WL w p1 (L[i]).A ∧ WL w q1 (L[i]).D ∧ (L[i]).A.length ≤ c1 ∧ (L[i]).D.length ≤ d1 ∧ Dig (L[i]).A ∧ Dig (L[i]).D)
def longW (L : List Wt) : Bool := L.any fun x => longB x.A.length || longB x.D.length
theorem longW_step {L : List Wt} {k : Nat} (h : k < L.length) : longW (L.drop k) = ((longB L[k].A.length || longB L[k].D.length) || longW (L.drop (k + 1))) := by
  rw [List.drop_eq_getElem_cons h]; rfl
theorem longW_false {L : List Wt} (h : longW L = false) : ∀ x ∈ L, x.A.length ≤ 2056 ∧ x.D.length ≤ 2056 := by
  intro x hx
  unfold longW at h
  rw [List.any_eq_false] at h
  have h1 := h x hx
  rw [Bool.not_eq_true, Bool.or_eq_false_iff] at h1
  exact ⟨longB_false h1.1, longB_false h1.2⟩
theorem WSr.wsl {w : World} {p : Option Addr} {L : List Wt} (h : WSr w p L) (h0 : 0 < L.length) (hl : longW L = false) : WSl w p L := by
  rcases h with rfl | ⟨g, o, rfl, hg, h⟩
  · cases h0
  · refine .inr ⟨g, o, rfl, hg, fun i hi => ?_⟩
    obtain ⟨p1, c1, q1, d1, ⟨a0, a1, a2, a3, a4, a5⟩, h1, h2, h3, h4, h5, h6⟩ := h i hi
    have hb := longW_false hl L[i] (List.getElem_mem hi)
    rw [Nat.mul_comm 6 i]
    exact ⟨p1, c1, q1, d1, a0, a1, a2, a3, a4, a5, p1, c1, q1, d1, rfl, h1, h2, h3, h4, h5, h6, by omega, by omega⟩
theorem WSr.below {w w' : World} {p : Option Addr} {L : List Wt} (h : WSr w p L) (hb : Below w.heap.size w w') : WSr w' p L := by
  rcases h with h | ⟨g, o, e, hg, h⟩
  · exact .inl h
  · refine .inr ⟨g, o, e, Nat.lt_of_lt_of_le hg hb.size, fun i hi => ?_⟩
    obtain ⟨p1, c1, q1, d1, ⟨a0, a1, a2, a3, a4, a5⟩, h1, h2, h3⟩ := h i hi
    exact ⟨p1, c1, q1, d1, ⟨(hb.cell hg).trans a0, (hb.cell hg).trans a1, (hb.cell hg).trans a2, (hb.cell hg).trans a3, (hb.cell hg).trans a4, (hb.cell hg).trans a5⟩, h1.below hb, h2.below hb, h3⟩
set_option maxHeartbeats 6400000 in
theorem LongWaters_any (p : Option Addr) (n c : Nat) (L : List Wt) (w : World) (hn : n = L.length) (hp : WSr w p L) (hl : n ≤ 1000000) :
    Calls Try.prog 12 #[.slice p n c] w fun e w' => e = .returned (.bool (longW L)) ∧ Below w.heap.size w w' := by
  subst hn
  have HP := hide_ (fun W (h : Below w.heap.size w W) => hp.below h)
  clear hp
  go_enter Try.func12, Try.ntmps12
  go_wp2
  go_loopw [3] (fun i wr => ∃ k : Nat, k ≤ L.length ∧ i = .int .i64 (k : Int) ∧ Hid (longW L = longW (L.drop k)) ∧ Grew w.heap.size w wr) (fun i _ => L.length - (intOf i).toNat)
  case atStart => exact ⟨0, Nat.zero_le _, rfl, hide_ rfl, Grew.refl _⟩
  case round =>
    obtain ⟨k, hk, rfl, HE, hgr⟩ := hrel
    have HW := hide_ hgr
    by_cases h0 : k = L.length
    · subst h0
      have hE : longW L = false := by rw [HE.out, List.drop_length]; rfl
      have HE2 := hide_ hE
      clear hE hgr
      have d1 : decide ((L.length : Int) < (L.length : Int)) = false := decide_eq_false (by omega)
      have hlt : ¬ (L.length : Int) < (L.length : Int) := by omega
      go_wp2
      go_ret
      exact ⟨by rw [HE2.out]; simp, HW.out.below⟩
    · have hk1 : k < L.length := by omega
      obtain ⟨g, o, rfl, hg, hce⟩ : ∃ g o, p = some ⟨g, o, none⟩ ∧ g < wr.heap.size ∧ ∀ i, ∀ h : i < L.length, ∃ p1 c1 q1 d1, (wr.cell? ⟨g, o + i * 6 + 3, none⟩ = some (.bool (L[i]).neg) ∧ wr.cell? ⟨g, o + i * 6 + 4, none⟩ = some (.slice p1 (L[i]).A.length c1) ∧ wr.cell? ⟨g, o + i * 6 + 5, none⟩ = some (.slice q1 (L[i]).D.length d1)) := by
        rcases HP.out wr hgr.below with h | ⟨g, o, e, hg, h⟩
        · subst h; cases hk1
        · refine ⟨g, o, e, hg, fun i hi => ?_⟩
          obtain ⟨p1, c1, q1, d1, ⟨_, _, _, a3, a4, a5⟩, _⟩ := h i hi
          exact ⟨p1, c1, q1, d1, a3, a4, a5⟩
      obtain ⟨p1, c1, q1, d1, y0, y1, y2⟩ := hce k hk1
      have i4 : (0 : Int) ≤ (k : Int) := by omega
      have i5 : (k : Int) < (L.length : Int) := by omega
      have z1 : decide ((k : Int) < (L.length : Int)) = true := decide_eq_true i5
      have hw : IntKind.i64.wrap ((k : Int) + 1) = ((k + 1 : Nat) : Int) := by rw [IntWalk.i64_in _ (by omega)]; omega
      have hN := longW_step hk1
      rw [← HE.out] at hN
      clear hce
      generalize L[k].A.length = a at *
      generalize L[k].D.length = b at *
      generalize L[k].neg = sg at *
      have hA := below_alloc wr (.cells #[.bool sg, .slice p1 a c1, .slice q1 b d1] 32)
      have hh := heap_alloc_last wr (.cells #[.bool sg, .slice p1 a c1, .slice q1 b d1] 32)
      have hLO := Long_any (some ⟨wr.heap.size, 0, none⟩) 1 1 [(a, b)] (wr.alloc (.cells #[.bool sg, .slice p1 a c1, .slice q1 b d1] 32)) rfl (.inr ⟨wr.heap.size, 0, rfl, lt_of_heap hh, fun i hi => by
        obtain rfl : i = 0 := by simp at hi; omega
        exact ⟨p1, c1, q1, d1, cell_of_row _ _ _ _ _ _ hh, cell_of_row _ _ _ _ _ _ hh⟩⟩) (by omega)
      have hls : longs [(a, b)] = (longB a || longB b) := by simp [longs]
      rw [hls] at hLO
      clear hls hgr
      cases hab : (longB a || longB b)
      · rw [hab] at hLO
        rw [hab, Bool.false_or] at hN
        have HN := hide_ hN
        have HLO := hide_ hLO
        clear hN hLO hab hh
        go_wp2_with (first | (go_at_call 19; go_must ((with_reducible refine (HLO.out).mono ?_); rintro e w1 ⟨rfl, q, rfl⟩)))
        exact ⟨⟨k + 1, by omega, by simp, hide_ HN.out, (HW.out.step hA).drewN _⟩, by simp [intOf]; omega⟩
      · rw [hab] at hLO
        rw [hab, Bool.true_or] at hN
        have HN := hide_ hN
        have HLO := hide_ hLO
        clear hN hLO hab hh
        go_wp2_with (first | (go_at_call 19; go_must ((with_reducible refine (HLO.out).mono ?_); rintro e w1 ⟨rfl, q, rfl⟩)))
        go_ret
        exact ⟨by rw [HN.out]; simp, ((HW.out.step hA).drewN _).below⟩
/-- Pick. -/
def pickN (x n : Int) : Int := if x.tmod n < 0 then x.tmod n + n else x.tmod n
theorem pickN_range (x n : Int) (hn : 0 < n) : 0 ≤ pickN x n ∧ pickN x n < n := by
  unfold pickN
  have h1 := Int.tmod_lt_of_pos x hn
  have h2 : -n < x.tmod n := by
    have := Int.tmod_lt_of_pos (-x) hn
    rw [Int.neg_tmod] at this
    omega
  split <;> omega
set_option maxHeartbeats 3200000 in
theorem Pick_any (x n : Int) (w : World) (hn : 0 < n) (hn2 : n < 9223372036854775808) (h1 : -9223372036854775808 ≤ x) (h2 : x < 9223372036854775808) :
    Calls Try.prog 14 #[.int .i64 x, .int .i64 n] w fun e w' => e = .returned (.int .i64 (pickN x n)) ∧ w' = w := by
  have hz : ¬ n = 0 := by omega
  have hz1 : (n == 0) = false := by simpa using hz
  have k1 := Int.tmod_lt_of_pos x hn
  have k2 : -n < x.tmod n := by
    have := Int.tmod_lt_of_pos (-x) hn
    rw [Int.neg_tmod] at this
    omega
  unfold pickN
  by_cases hr : x.tmod n < 0
  · have d1 : decide (x.tmod n < 0) = true := decide_eq_true hr
    rw [if_pos hr]
    go_enter Try.func14, Try.ntmps14
    go_wp2
    go_ret
    exact ⟨by simp, rfl⟩
  · have d1 : decide (x.tmod n < 0) = false := decide_eq_false hr
    rw [if_neg hr]
    go_enter Try.func14, Try.ntmps14
    go_wp2
    go_ret
    exact ⟨by simp, rfl⟩
set_option maxHeartbeats 3200000 in
theorem order_any (va vb : Value) (x y : Rat) (w : World) (hx : RV w va x) (hy : RV w vb y) : Calls Try.prog 16 #[va, vb] w fun e w' => e = .returned (.int .i64 (cmpQ x y)) ∧ Below w.heap.size w w' := by
  have HC := hide_ (fun W (h : Below w.heap.size w W) => rcompare_any va vb x y W (hx.below h) (hy.below h))
  obtain ⟨_, p, c, q, d, rfl, _⟩ := hx
  obtain ⟨_, p', c', q', d', rfl, _⟩ := hy
  have HB := hide_ (boxes2 w (rneg x) p (rn x).length c q (rd x).length d (rneg y) p' (rn y).length c' q' (rd y).length d')
  unfold boxR at HB
  generalize cmpQ x y = R at *
  generalize rneg x = nx at *
  generalize rneg y = ny at *
  generalize (rn x).length = lx at *
  generalize (rd x).length = mx at *
  generalize (rn y).length = ly at *
  generalize (rd y).length = my at *
  have hb0 : Below w.heap.size w ((w.alloc (.cells #[.bool nx, .slice p lx c, .slice q mx d] 32)).alloc (.cells #[.bool ny, .slice p' ly c', .slice q' my d'] 32)) := (below_alloc _ _).alloc (by simp) _
  obtain ⟨⟨a0, a1, a2⟩, b0, b1, b2⟩ := HB.out _ (Below.refl _ _)
  go_enter Try.func16, Try.ntmps16
  go_wp2_with (first | (go_at_call 34; go_must ((with_reducible refine (HC.out _ hb0).mono ?_); rintro e w1 ⟨rfl, hb1⟩)))
  go_ret
  exact ⟨by simp, hb0.trans (hb1.mono hb0.size)⟩
end Go.Proofs.Ytcibbnphkpaifaa
