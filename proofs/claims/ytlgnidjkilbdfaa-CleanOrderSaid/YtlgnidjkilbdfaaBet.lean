/- Chapter 19: Between: the samples of a span. -/
import Derived.Test.YtlgnidjkilbdfaaAll
import Derived.RangeFuncNested
namespace Go.Proofs.Ytlgnidjkilbdfaa
open Go.RowKit Go.Shelf
set_option linter.unusedVariables false
set_option maxRecDepth 100000
attribute [local go_sem] Oper.semAt_some
def inSp (a b : Int) (p : Int × Nat) : Bool := decide (a ≤ p.1) && decide (p.1 < b)
def btw (S : Rc) (a b : Int) : Rc := S.filter (inSp a b)
def bt (L : Rc) (a b : Int) : Rc := if askE a b = 0 then btw (ones L) a b else []
theorem btw_hit {S : Rc} {a b : Int} {x : Int × Nat} (h : inSp a b x = true) : btw (S ++ [x]) a b = btw S a b ++ [x] := by simp [btw, h]
theorem btw_miss {S : Rc} {a b : Int} {x : Int × Nat} (h : inSp a b x = false) : btw (S ++ [x]) a b = btw S a b := by simp [btw, h]
set_option maxHeartbeats 2000000 in
theorem between_e {w : World} {rb mb : Nat} {L : Rc} {a b : Int} (h : Rec w rb mb L) (he : askE a b ≠ 0) : Calls Try.prog 36 #[.pointer (some ⟨rb, 0, none⟩), .int .i64 a, .int .i64 b] w fun e w' =>
    e = .returned (.tuple #[.slice none 0 0, .int .i64 (askE a b)]) ∧ Below w.heap.size w w' := by
  have hR := (h.below (below_alloc w (.cells #[.int .i64 a] 3))).below (below_alloc _ (.cells #[.int .i64 b] 3))
  have HA := hide_ (asked_rec (a := a) (b := b) hR)
  have hne : (askE a b != 0) = true := by simpa using he
  generalize askE a b = ev at *
  clear h hR he
  go_enter Try.func36, Try.ntmps36
  go_wp2_with (go_at_call 80; (with_reducible refine (HA.out).mono ?_); rintro e w1 ⟨rfl, rfl⟩)
  go_ret2
  exact ⟨rfl, ((Below.refl _ _).alloc (Nat.le_refl _) _).alloc (by simp) _⟩
theorem news_two (W : World) (a b : Value) (T : TypeId) : ∀ j u, [a, b][j]? = some u → (W.alloc (.cells #[a, b] T)).cell? ((⟨W.heap.size, 0, none⟩ : Addr).add j) = some u := by
  intro j u hu
  rw [Addr.add_lit, Nat.zero_add, cell_of_row _ _ _ _ _ _ (heap_alloc_last W _)]
  simpa using hu
theorem ownFrom_size {β : Type} (B m : Nat) : OwnFrom B (fun (_ : β) W => m ≤ W.heap.size) := fun _ _ _ _ hs hg _ => Nat.le_trans hs hg.size
theorem app_box {W w1 : World} {n1 B0 B g : Nat} {t e : TypeId} {size : Nat} {v v' : Value} {k m : Nat} {xs ys : List Value} {tmp : Obj}
    (hv : Boxed W B t v) (hte : t ≠ e) (hrow : W.ownsRow n1 e size v k xs) (hge : n1 ≤ W.heap.size) (hB0 : B0 ≤ B) (hB1 : B0 ≤ n1) (hg : g < n1) (hgB : g ≠ B)
    (hown' : w1.ownsRow n1 e size v' m ys) (hgrow : (W.alloc tmp).grownBy w1 v.ownBlock) :
    Boxed w1 B t v ∧ Boxed (w1.setCell ⟨B, 0, none⟩ v') B t v' ∧ (w1.setCell ⟨B, 0, none⟩ v').ownsRow n1 e size v' m ys ∧ KeepsOthers W (w1.setCell ⟨B, 0, none⟩ v') ∧ Below B0 W (w1.setCell ⟨B, 0, none⟩ v') ∧
      KpB g W (w1.setCell ⟨B, 0, none⟩ v') ∧ (∀ b, b < n1 → b ≠ B → (w1.setCell ⟨B, 0, none⟩ v').heap[b]? = W.heap[b]?) := by
  obtain ⟨h1, h2, _, h4, h5⟩ := hv.appended hte (Go.Proofs.ownsRow_base_a hrow hB1) (Nat.le_trans hB1 hge) hB0 (Go.Proofs.ownsRow_base_a hown' hB1) hgrow
  have hall : ∀ b, b < n1 → b ≠ B → (w1.setCell ⟨B, 0, none⟩ v').heap[b]? = W.heap[b]? := by
    intro b hb hbB
    rw [set_other (fun e => hbB e.symm), hgrow.block b (by simp; omega) (fun e => by have := (hrow.lt b e.symm).1; omega)]
    exact Below.heap_alloc _ _ _ (by omega)
  exact ⟨h1, h2, hown'.kept (grownBy_setCell' w1 B v') (.inr (h1.not_row hte hown').symm), h4, h5, hall g hg hgB, hall⟩
theorem btw_len (S : Rc) (a b : Int) : (btw S a b).length ≤ S.length := List.length_filter_le _ _
set_option maxHeartbeats 4000000 in
theorem between_0 {w : World} {rb mb : Nat} {L : Rc} {a b : Int} (h : Rec w rb mb L) (he : askE a b = 0) : Calls Try.prog 36 #[.pointer (some ⟨rb, 0, none⟩), .int .i64 a, .int .i64 b] w fun e w' =>
    ∃ v, e = .returned (.tuple #[v, .int .i64 0]) ∧ w'.ownsRow w.heap.size 26 2 v (btw (ones L) a b).length (flat (btw (ones L) a b)) ∧ (v = .slice none 0 0 ↔ btw (ones L) a b = []) ∧ Below w.heap.size w w' := by
  refine (callsIn_wide (n := 6)).1 ?_
  have hR := (h.below (below_alloc w (.cells #[.int .i64 a] 3))).below (below_alloc _ (.cells #[.int .i64 b] 3))
  have HA := hide_ (asked_rec (a := a) (b := b) hR)
  rw [he] at HA
  have HA := hide_ (fun n => callsIn_wide (n := n).2 HA.out)
  have HL := hide_ (fun n => callsIn_wide (n := n).2 (all_rec (hR.below (below_alloc _ (.cells #[.slice none 0 0] 23)))))
  have hol : (ones L).length ≤ 5000 := Nat.le_trans (List.length_filter_le _ _) (by have := h.ok.len; omega)
  clear h he
  have hf1 : Fence.wide.fn 80 := trivial
  have hf2 : Fence.wide.fn 79 := trivial
  obtain ⟨i0, hi, hz0, hz1, hz2⟩ := info_parts info26
  refine callsIn_of_wp_marks Try.func36 rfl trivial ?_ rfl
  simp only [Try.ntmps36, List.size_toArray, List.length_cons, List.length_nil, Nat.reduceAdd, Nat.reduceSub, Array.replicate_succ, Array.replicate_zero, List.push_toArray, List.append_toArray, List.nil_append, List.cons_append]
  gi_wp2_with (first
    | (gi_at_call 80; refine (HA.out _).mono ?_; rintro e w' ⟨rfl, rfl⟩)
    | (gi_at_call 79; refine (HL.out _).mono ?_; rintro e w1 ⟨B, v, rfl, hB, hv, hBs, hb⟩))
  have hB1 : Below w.heap.size w w1 := ((((Below.refl _ w).alloc (Nat.le_refl _) (.cells #[.int .i64 a] 3)).alloc (by simp) (.cells #[.int .i64 b] 3)).alloc (by first | assumption | (simp; done) | (simp; omega) | omega) (.cells #[.slice none 0 0] 23)).trans (hb.mono (by first | assumption | (simp; done) | (simp; omega) | omega))
  have hsz := hb.size
  simp only [World.size_alloc] at hsz hBs
  have bA : Boxed w1 w.heap.size 3 (.int .i64 a) := (hb.block _ (by first | assumption | (simp; done) | (simp; omega) | omega)).trans (heap_past (heap_past (heap_alloc_last w _)))
  have bB : Boxed w1 (w.heap.size + 1) 3 (.int .i64 b) := (hb.block _ (by first | assumption | (simp; done) | (simp; omega) | omega)).trans (heap_past (heap_at1 w _ _))
  have bO : Boxed w1 (w.heap.size + 1 + 1) 23 (.slice none 0 0) := (hb.block _ (by first | assumption | (simp; done) | (simp; omega) | omega)).trans (heap_at2 w _ _ _)
  obtain ⟨g, hgl, hSG⟩ := SG.of hv (by omega)
  have hgne : ∀ x : Nat, x < (ones L).length → g ≠ w.heap.size + 1 + 1 := by
    intro x hx e
    rcases hSG with ⟨_, h⟩ | ⟨c, cur, _, hg, _⟩
    · rw [h] at hx; cases hx
    · subst e
      rw [show w1.heap[w.heap.size + 1 + 1]? = _ from bO] at hg
      cases hg
  have Hgne := hide_ hgne
  refine wpIn_rangeFunc_ownG rfl (by omega) (gf := 108) (lb := #[.pointer (some ⟨B, 0, none⟩)]) rfl trivial (enters_of Try.func108 (by kernel_rfl) rfl)
    (all_stops Fence.wide 5 trivial rfl (by omega) B g v (ones L) hol w1 (lt_of_heap hB) hgl (cells_one hB) hSG) kpB_t (kpB_b hgl) (Below.refl _ _) (fun _ => rfl)
    (fun pre W => (∃ v, Boxed W (w.heap.size + 1 + 1) 23 v ∧ W.ownsRow w1.heap.size 26 2 v (btw pre a b).length (flat (btw pre a b)) ∧ (v = .slice none 0 0 ↔ btw pre a b = [])) ∧ Boxed W w.heap.size 3 (.int .i64 a) ∧ Boxed W (w.heap.size + 1) 3 (.int .i64 b) ∧ w1.heap.size ≤ W.heap.size ∧ Below w.heap.size w W)
    (fun _ _ _ => False)
    (OwnFrom.and (Own.from (holdsRow_own w1.heap.size (w.heap.size + 1 + 1) 23 26 2 (fun pre => (btw pre a b).length) (fun pre => flat (btw pre a b)) (fun pre v => v = .slice none 0 0 ↔ btw pre a b = [])) _)
      (OwnFrom.and (Own.from (boxed_own _ _ _) _) (OwnFrom.and (Own.from (boxed_own _ _ _) _) (OwnFrom.and (ownFrom_size _ _) (ownFrom_below (Nat.le_refl _) hB1.size)))))
    (fun _ _ _ _ _ hs _ _ => hs)
    ⟨⟨_, bO, World.ownsRow_nil _ _ _ _, by simp [btw]⟩, bA, bB, Nat.le_refl _, hB1⟩
    (fun x => { tmps := #[.pointer (some ⟨rb, 0, none⟩), .int .i64 a, .int .i64 b, undef, .pointer (some ⟨w.heap.size, 0, none⟩), .pointer (some ⟨w.heap.size + 1, 0, none⟩), .slice none 0 0, .int .i64 0, .int .i64 0, .pointer (some ⟨w.heap.size + 1 + 1, 0, none⟩), .int .i64 x.1, .float .f64 x.2, .pointer (some ⟨rb, 0, none⟩), .int .i64 a, .int .i64 b, .int .i64 0, .int .i64 0, .bool false, undef, .pointer (some ⟨rb, 0, none⟩), .func (.func 108) #[] #[.pointer (some ⟨B, 0, none⟩)], .int .i64 x.1, .float .f64 x.2, undef, undef, undef, undef, undef, undef, undef, undef, undef, undef, undef, undef, undef, undef, undef], defers := [] }) ?assign ?body ?done ?stop
  case assign =>
    intro l x W K hK
    dsimp only [encS]
    gi_wp2
    exact hK
  case body =>
    rintro l pre x W ⟨⟨v, hv, hrow, hnil⟩, hA, hBb, hge, hB⟩ hlt
    have hc := hv.cell
    have hcA := hA.cell
    have hcB := hBb.cell
    have hgo := Hgne.out _ hlt
    have hpl := btw_len pre a b
    have hsz2 : w1.heap.size ≤ (W.alloc (.cells #[.int .i64 x.1, .float .f64 x.2] 26)).heap.size := by simp; omega
    gi_wp2_with (gi_at_builtin; go_must (refine wpListIn_append_own _ rfl _ _ 23 rfl w1.heap.size 26 i0 (.agg #[.int .i64 0, .float .f64 0]) 2 16 Try.underlying23 hi hz0 hz1 hz2 rfl (by decide) _ _ _ rfl (hrow.alloc _) ⟨W.heap.size, 0, none⟩ 1 1 [.int .i64 x.1, .float .f64 x.2] rfl rfl (news_two _ _ _ _) (by simp [Value.oneCell']) (by unfold maxLen; omega) (by omega) hsz2 ?_; intro v' w2 hown' hgrow _; obtain ⟨g', cap', rfl⟩ := ownsRow_succ hown'; obtain ⟨hv1, hv2, hr2, hk2, hb2, hp2, ho2⟩ := app_box (B0 := w.heap.size) (g := g) hv (by decide) hrow hge (by omega) (by omega) hgl hgo hown' hgrow; have hc1 := hv1.cell; have hf1 := hv1.frozen))
    · have h1 : a ≤ x.1 := by assumption
      have h2 : x.1 < b := by assumption
      have hin : inSp a b x = true := by simp [inSp, h1, h2]
      refine ⟨hk2.from _, hp2, ⟨_, hv2, ?_, ?_⟩, (ho2 w.heap.size (by omega) (by omega)).trans hA, (ho2 (w.heap.size + 1) (by omega) (by omega)).trans hBb, ?_, hB.trans hb2⟩
      · rw [btw_hit hin, List.length_append, flat_append]; exact hr2
      · rw [btw_hit hin]; simp
      · exact Nat.le_trans hge hk2.size
    · have h2 : b ≤ x.1 := by assumption
      have hin : inSp a b x = false := by simp [inSp]; omega
      exact ⟨KeepsFrom.refl _ _, Eq.refl _, ⟨v, hv, by rw [btw_miss hin]; exact hrow, by rw [btw_miss hin]; exact hnil⟩, hA, hBb, hge, hB⟩
    · have h2 : x.1 < a := by assumption
      have hin : inSp a b x = false := by simp [inSp]; omega
      exact ⟨KeepsFrom.refl _ _, Eq.refl _, ⟨v, hv, by rw [btw_miss hin]; exact hrow, by rw [btw_miss hin]; exact hnil⟩, hA, hBb, hge, hB⟩
  case done =>
    rintro D ys W hD rfl ⟨⟨v, hv, hrow, hnil⟩, hA, hBb, hge, hB⟩ hK
    have hc := hv.cell
    gi_wp2
    refine ⟨by simp, .inl ⟨_, _, rfl, run_takeDeferred hK, ?_⟩⟩
    refine ⟨_, by simp [results, Try.results36, go_sem], v, rfl, Go.Proofs.ownsRow_base_a (ownsRow_putObj hrow _ hK rfl) hB1.size, hnil, hB.trans ?_⟩
    exact belowK_b (w := w) (Nat.le_refl _) W D _ _ (Nat.le_trans hB1.size hD) hK rfl rfl
  case stop =>
    rintro D c pre W _ _ h _
    exact h.elim
theorem between_rec {w : World} {rb mb : Nat} {L : Rc} {a b : Int} (h : Rec w rb mb L) : Calls Try.prog 36 #[.pointer (some ⟨rb, 0, none⟩), .int .i64 a, .int .i64 b] w fun e w' =>
    ∃ v, e = .returned (.tuple #[v, .int .i64 (askE a b)]) ∧ w'.ownsRow w.heap.size 26 2 v (bt L a b).length (flat (bt L a b)) ∧ (v = .slice none 0 0 ↔ bt L a b = []) ∧ Below w.heap.size w w' := by
  unfold bt
  by_cases he : askE a b = 0
  · rw [if_pos he, he]
    exact between_0 h he
  · rw [if_neg he]
    exact (between_e h he).mono fun e w' ⟨h1, h2⟩ => ⟨_, h1, World.ownsRow_nil _ _ _ _, by simp, h2⟩
end Go.Proofs.Ytlgnidjkilbdfaa
