/- The kit's comparison of waters, where they are the same. -/
import Derived.Test.YtcibbnphkpaifaaTp
namespace Go.Proofs.Ytcibbnphkpaifaa
open Go.RowKit
set_option linter.unusedVariables false
set_option maxRecDepth 100000
set_option maxHeartbeats 6400000 in
theorem ksamew_true (t l : Int) (top s1 s2 : Bool) (p1 q1 p2 q2 : Option Addr) (n1 c1 m1 d1 n2 c2 m2 d2 : Nat) (x : Rat) (w : World) (hx : RV w (.agg #[.bool s1, .slice p1 n1 c1, .slice q1 m1 d1]) x) (hy : RV w (.agg #[.bool s2, .slice p2 n2 c2, .slice q2 m2 d2]) x) :
    Calls Try.prog 60 #[.agg #[.int .i64 t, .int .i64 l, .bool top, .bool s1, .slice p1 n1 c1, .slice q1 m1 d1], .agg #[.int .i64 t, .int .i64 l, .bool top, .bool s2, .slice p2 n2 c2, .slice q2 m2 d2]] w fun e w' => e = .returned (.bool true) ∧ Below w.heap.size w w' := by
  have HS := hide_ (fun W (h : Below w.heap.size w W) => (show Calls Try.prog 50 _ W fun e w' => e = .returned (.bool true) ∧ Below W.heap.size W w' from by have h9 := ksame_rat _ _ x x W (hx.below h) (hy.below h); rw [decide_eq_true rfl] at h9; exact h9))
  have hb0 : Below w.heap.size w ((w.alloc (.cells #[.int .i64 t, .int .i64 l, .bool top, .bool s1, .slice p1 n1 c1, .slice q1 m1 d1] 34)).alloc (.cells #[.int .i64 t, .int .i64 l, .bool top, .bool s2, .slice p2 n2 c2, .slice q2 m2 d2] 34)) := (below_alloc _ _).alloc (by simp) _
  obtain ⟨a0, a1, a2, a3, a4, a5⟩ := cells_six (heap_past (o' := .cells #[.int .i64 t, .int .i64 l, .bool top, .bool s2, .slice p2 n2 c2, .slice q2 m2 d2] 34) (heap_alloc_last w (.cells #[.int .i64 t, .int .i64 l, .bool top, .bool s1, .slice p1 n1 c1, .slice q1 m1 d1] 34)))
  obtain ⟨b0, b1, b2, b3, b4, b5⟩ := cells_six (heap_at1 w (.cells #[.int .i64 t, .int .i64 l, .bool top, .bool s1, .slice p1 n1 c1, .slice q1 m1 d1] 34) (.cells #[.int .i64 t, .int .i64 l, .bool top, .bool s2, .slice p2 n2 c2, .slice q2 m2 d2] 34))
  clear hx hy
  go_enter Try.func60, Try.ntmps60
  go_wp2_with (first | (go_at_call 50; go_must ((with_reducible refine (HS.out _ hb0).mono ?_); rintro e w1 ⟨rfl, hb1⟩)))
  go_ret
  exact ⟨by simp, hb0.trans (hb1.mono hb0.size)⟩
/-- Two lists of the same sound waters, wherever their words lie. -/
def Same2 (L M : List Wt) : Prop := ∀ i, ∀ h : i < L.length, ∀ h2 : i < M.length, L[i].t = M[i].t ∧ L[i].l = M[i].l ∧ L[i].top = M[i].top ∧ L[i].h = M[i].h ∧ chkR L[i].neg L[i].A L[i].D = 0 ∧ chkR M[i].neg M[i].A M[i].D = 0
set_option maxHeartbeats 6400000 in
theorem ksamews_true (p q : Option Addr) (n m c d : Nat) (L M : List Wt) (w : World) (hn : n = L.length) (hm : m = M.length) (hlm : L.length = M.length) (hp : WSl w p L) (hq : WSl w q M) (hs : n ≤ 1000000) (hS : Same2 L M) :
    Calls Try.prog 23 #[.slice p n c, .slice q m d] w fun e w' => e = .returned (.bool true) ∧ Below w.heap.size w w' := by
  subst hn hm
  have hne : ((L.length : Int) != (M.length : Int)) = false := by rw [hlm]; simp
  have HP := hide_ (fun W (h : Below w.heap.size w W) => hp.below h)
  have HQ := hide_ (fun W (h : Below w.heap.size w W) => hq.below h)
  have HL := hide_ hlm
  have HS := hide_ hS
  clear hp hq hlm hS
  go_enter Try.func23, Try.ntmps23
  go_wp2
  go_loopw [5] (fun i wr => ∃ k : Nat, k ≤ L.length ∧ i = .int .i64 (k : Int) ∧ Grew w.heap.size w wr) (fun i _ => L.length - (intOf i).toNat)
  case atStart => exact ⟨0, Nat.zero_le _, rfl, Grew.refl _⟩
  case round =>
    obtain ⟨k, hk, rfl, hgr⟩ := hrel
    have HW := hide_ hgr
    by_cases h0 : k = L.length
    · subst h0
      have d1 : decide ((L.length : Int) < (L.length : Int)) = false := decide_eq_false (by omega)
      have hlt : ¬ (L.length : Int) < (L.length : Int) := by omega
      clear hgr
      go_wp2
      go_ret
      exact ⟨by simp, HW.out.below⟩
    · have hk1 : k < L.length := by omega
      have hk2 : k < M.length := by have := HL.out; omega
      obtain ⟨g, o, rfl⟩ : ∃ g o, p = some ⟨g, o, none⟩ := by
        rcases HP.out wr hgr.below with ⟨_, h⟩ | ⟨g, o, e, _⟩
        · subst h; cases hk1
        · exact ⟨g, o, e⟩
      obtain ⟨g2, o2, rfl⟩ : ∃ g o, q = some ⟨g, o, none⟩ := by
        rcases HQ.out wr hgr.below with ⟨_, h⟩ | ⟨g, o, e, _⟩
        · subst h; cases hk2
        · exact ⟨g, o, e⟩
      obtain ⟨hg, p1, c1, q1, d1, ⟨y0, y1, y2, y3, y4, y5⟩, hr1⟩ := (HP.out wr hgr.below).at hk1
      obtain ⟨hg2, p2, c2, q2, d2, ⟨u0, u1, u2, u3, u4, u5⟩, hr2⟩ := (HQ.out wr hgr.below).at hk2
      obtain ⟨e1, e2, e3, e4, e5, e6⟩ := HS.out k hk1 hk2
      have hv1 := hr1.rv e5
      have hv2 := hr2.rv e6
      have f1 : ratG L[k].neg L[k].A L[k].D = L[k].h := rfl
      have f2 : ratG M[k].neg M[k].A M[k].D = L[k].h := e4.symm
      rw [f1] at hv1
      rw [f2] at hv2
      rw [← e1] at u0
      rw [← e2] at u1
      rw [← e3] at u2
      have i4 : (0 : Int) ≤ (k : Int) := by omega
      have i5 : (k : Int) < (L.length : Int) := by omega
      have i6 : (k : Int) < (M.length : Int) := by omega
      have z1 : decide ((k : Int) < (L.length : Int)) = true := decide_eq_true i5
      have hw : IntKind.i64.wrap ((k : Int) + 1) = ((k + 1 : Nat) : Int) := by rw [IntWalk.i64_in _ (by omega)]; omega
      have hdw : Below wr.heap.size wr wr.drew := (Below.refl _ _).drew
      have HSA := hide_ (ksamew_true L[k].t L[k].l L[k].top _ _ _ _ _ _ _ _ _ _ _ _ _ _ _ wr.drew (hv1.below hdw) (hv2.below hdw))
      have HCL := hide_ (fun W (h : Below wr.heap.size wr W) => (⟨⟨(h.cell hg).trans y0, (h.cell hg).trans y1, (h.cell hg).trans y2, (h.cell hg).trans y3, (h.cell hg).trans y4, (h.cell hg).trans y5⟩, (h.cell hg2).trans u0, (h.cell hg2).trans u1, (h.cell hg2).trans u2, (h.cell hg2).trans u3, (h.cell hg2).trans u4, (h.cell hg2).trans u5⟩ : (_ ∧ _ ∧ _ ∧ _ ∧ _ ∧ _) ∧ _ ∧ _ ∧ _ ∧ _ ∧ _ ∧ _))
      clear hv1 hv2 hgr y0 y1 y2 y3 y4 y5 u0 u1 u2 u3 u4 u5 hr1 hr2 e1 e2 e3 e4 e5 e6 f1 f2
      generalize L[k].t = tk at *
      generalize L[k].l = lk at *
      generalize L[k].top = topk at *
      generalize L[k].neg = s1 at *
      generalize L[k].A.length = n1 at *
      generalize L[k].D.length = m1 at *
      generalize M[k].neg = s2 at *
      generalize M[k].A.length = n2 at *
      generalize M[k].D.length = m2 at *
      obtain ⟨⟨y0, y1, y2, y3, y4, y5⟩, u0, u1, u2, u3, u4, u5⟩ := HCL.out _ hdw
      go_wp2
      go_region_held3 (fun w' => (w'.cell? ⟨g, o + k * 6, none⟩ = some (.int .i64 tk) ∧ w'.cell? ⟨g, o + k * 6 + 1, none⟩ = some (.int .i64 lk) ∧ w'.cell? ⟨g, o + k * 6 + 2, none⟩ = some (.bool topk) ∧ w'.cell? ⟨g, o + k * 6 + 3, none⟩ = some (.bool s1) ∧ w'.cell? ⟨g, o + k * 6 + 4, none⟩ = some (.slice p1 n1 c1) ∧ w'.cell? ⟨g, o + k * 6 + 5, none⟩ = some (.slice q1 m1 d1)) ∧ w'.cell? ⟨g2, o2 + k * 6, none⟩ = some (.int .i64 tk) ∧ w'.cell? ⟨g2, o2 + k * 6 + 1, none⟩ = some (.int .i64 lk) ∧ w'.cell? ⟨g2, o2 + k * 6 + 2, none⟩ = some (.bool topk) ∧ w'.cell? ⟨g2, o2 + k * 6 + 3, none⟩ = some (.bool s2) ∧ w'.cell? ⟨g2, o2 + k * 6 + 4, none⟩ = some (.slice p2 n2 c2) ∧ w'.cell? ⟨g2, o2 + k * 6 + 5, none⟩ = some (.slice q2 m2 d2))
        (first | (exact HCL.out _ (by assumption)) | go_keep)
        ((first | (go_at_call 60; go_must ((with_reducible refine (HSA.out).mono ?_); rintro e w3 ⟨rfl, hb3⟩; have hb4 := hdw.trans (hb3.mono hdw.size)))))
      go_wp2
      exact ⟨⟨k + 1, by omega, by simp, HW.out.step hb4⟩, by simp [intOf]; omega⟩
end Go.Proofs.Ytcibbnphkpaifaa
