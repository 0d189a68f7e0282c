/- Chapter 20: CleanOrder: what the three merges have in common. -/
import Derived.Test.YtlgnidjkilbdfaaPf
namespace Go.Proofs.Ytlgnidjkilbdfaa
open Go.RowKit Ieee
set_option linter.unusedVariables false
set_option maxRecDepth 100000
def onesL (L : Rc) : Rc := L.filter fun x => oneB x.2
def fineL (S : Ls) : Ls := S.map onesL
theorem onesL_zero (L : Rc) : onesL (L.take 0) = [] := rfl
theorem onesL_yes {L : Rc} {m : Nat} {x : Int × Nat} (h : m < L.length) (e : L.getD m (0, 0) = x) (hx : oneB x.2 = true) : onesL (L.take (m + 1)) = onesL (L.take m) ++ [x] := by
  unfold onesL
  rw [take_snoc L m h, List.filter_append, e, List.filter_cons_of_pos (p := fun y : Int × Nat => oneB y.2) hx]
  rfl
theorem onesL_no {L : Rc} {m : Nat} {x : Int × Nat} (h : m < L.length) (e : L.getD m (0, 0) = x) (hx : oneB x.2 = false) : onesL (L.take (m + 1)) = onesL (L.take m) := by
  unfold onesL
  rw [take_snoc L m h, List.filter_append, e, List.filter_cons_of_neg (p := fun y : Int × Nat => oneB y.2) (by rw [hx]; simp), List.filter_nil, List.append_nil]
theorem onesL_len (L : Rc) : (onesL L).length ≤ L.length := List.length_filter_le _ _
theorem allP_fine (S : Ls) : allP (fineL S) = allP S := by
  unfold allP fineL
  induction S with
  | nil => rfl
  | cons a r ih =>
    rw [List.map_cons, List.flatten_cons, List.flatten_cons, List.filter_append, List.filter_append, ih]
    congr 1
    unfold onesL
    rw [List.filter_filter]
    simp
theorem fine_take {S : Ls} {k : Nat} (h : k < S.length) : (fineL S).take (k + 1) = (fineL S).take k ++ [onesL (S.getD k [])] := by
  unfold fineL
  rw [← List.map_take, ← List.map_take, List.take_succ_eq_append_getElem h, List.map_append, List.getD_eq_getElem?_getD, List.getElem?_eq_getElem h, Option.getD_some, List.map_cons, List.map_nil]
theorem fine_len (S : Ls) : (fineL S).length = S.length := by unfold fineL; rw [List.length_map]
def OkL (L : Rc) : Prop := L.length ≤ 60 ∧ ∀ x ∈ L, 0 ≤ x.1 ∧ x.1 ≤ 1048576
theorem okl_of {L : Rc} {n : Nat} (h : n = L.length) (hn : L.length ≤ 60) (hr : ∀ j, j < n → 0 ≤ (L.getD j (0, 0)).1 ∧ (L.getD j (0, 0)).1 ≤ 1048576) : OkL L := by
  refine ⟨hn, fun x hx => ?_⟩
  obtain ⟨j, hj, rfl⟩ := List.getElem_of_mem hx
  have := hr j (by omega)
  rw [List.getD_eq_getElem?_getD, List.getElem?_eq_getElem hj, Option.getD_some] at this
  exact this
theorem Ls.get_mem {S : Ls} {P : Rc → Prop} (h : ∀ j, j < S.length → P (S.getD j [])) : ∀ L ∈ S, P L := fun L hL => by
  obtain ⟨j, hj, rfl⟩ := List.getElem_of_mem hL
  have := h j hj
  rw [List.getD_eq_getElem?_getD, List.getElem?_eq_getElem hj, Option.getD_some] at this
  exact this
theorem Fine.of {S : Ls} (h16 : S.length ≤ 16) (hJ : ∀ L ∈ S, OkL L) (h64 : LW64 S) : Fine S :=
  ⟨h16, fun L hL => ⟨by have := (hJ L hL).1; omega, fun x hx => ⟨(hJ L hL).2 x hx, h64 L hL x hx⟩⟩⟩
theorem Fine.fine {S : Ls} (h : Fine S) : Fine (fineL S) := by
  refine ⟨by rw [fine_len]; exact h.1, fun L hL => ?_⟩
  obtain ⟨M, hM, rfl⟩ := List.mem_map.1 hL
  obtain ⟨h1, h2⟩ := h.2 M hM
  exact ⟨by have := onesL_len M; omega, fun x hx => h2 x (List.mem_filter.1 hx).1⟩
theorem Fine.turn {S T : Ls} (h : Fine S) (hp : T.flatten.Perm S.flatten) (hl : T.length = S.length) (h60 : ∀ L ∈ T, L.length ≤ 60) : Fine T := by
  refine ⟨by rw [hl]; exact h.1, fun L hL => ⟨by have := h60 L hL; omega, fun x hx => ?_⟩⟩
  obtain ⟨M, hM, hx2⟩ := List.mem_flatten.1 (hp.mem_iff.1 (List.mem_flatten.2 ⟨L, hL, hx⟩))
  exact (h.2 M hM).2 x hx2
theorem allP_perm {S T : Ls} (h : T.flatten.Perm S.flatten) : (allP S).Perm (allP T) := by
  unfold allP
  exact (h.filter _).symm
theorem flatten_len {S : Ls} {a b : Nat} (h1 : S.length ≤ a) (h2 : ∀ L ∈ S, L.length ≤ b) : S.flatten.length ≤ a * b := by
  induction S generalizing a with
  | nil => simp
  | cons x r ih =>
    have hx := h2 x (by simp)
    rw [List.length_cons] at h1
    have := ih (a := a - 1) (by omega) (fun L hL => h2 L (by simp [hL]))
    rw [List.flatten_cons, List.length_append]
    obtain ⟨a', rfl⟩ : ∃ a', a = a' + 1 := ⟨a - 1, by omega⟩
    rw [Nat.add_sub_cancel] at this
    rw [Nat.add_mul]
    omega
theorem allP_len {S : Ls} (h16 : S.length ≤ 16) (hJ : ∀ L ∈ S, OkL L) : (allP S).length ≤ 960 := by
  have h1 := flatten_len h16 (fun L hL => (hJ L hL).1)
  have h2 : (allP S).length ≤ S.flatten.length := by unfold allP; exact List.length_filter_le _ _
  omega
theorem res_two {S : Ls} (hF : Fine S) (hl : (allP S).length ≤ 960) : mRes1 (allP S) = ([], 9, -1) ∨ (mOver (allP S) = false ∧ mRes1 (allP S) = (mOut (allP S), 0, 0) ∧ (mOut (allP S)).length ≤ 960) := by
  have hk : (KT (allP S)).length ≤ 960 := KT_big hl (fun x hx => hF.inv.1 x hx)
  unfold mRes1
  cases ho : mOver (allP S)
  · right
    refine ⟨rfl, by rw [if_neg (by simp), if_neg (by omega)], by unfold mOut; rw [List.length_map]; exact hk⟩
  · left
    rw [if_pos rfl]
theorem Fine.short {S : Ls} (h : Fine S) : ∀ L ∈ S, L.length ≤ 140737488355328 := fun L hL => by have := (h.2 L hL).1; omega
theorem alike_merge (p : Option Addr) (n c : Nat) (S : Ls) (P : Rc) (w : World) (hn : n = S.length) (hp : ML w p S) (hF : Fine S) (hP : P.Perm (allP S)) (h64 : ∀ x ∈ P, x.2 < 2 ^ 64) :
    Calls Try.prog 61 #[.slice p n c] w fun e w' => (∃ v, e = .returned (.tuple #[v, .agg #[.int .i64 (mRes1 P).2.1, .int .i64 (mRes1 P).2.2]]) ∧ SL w' w.heap.size v (mRes1 P).1) ∧ Below w.heap.size w w' := by
  rw [← mRes1_congr hP h64, ← hF.res]
  exact merge_any p n c S w hn hp hF.lw (by have := hF.1; omega) hF.short
theorem IL.below {w w' : World} {p : Option Addr} {O : List Int} (h : IL w p O) (hb : Below w.heap.size w w') : IL w' p O := by
  rcases h with h | ⟨g, o, rfl, hg, hc⟩
  · exact .inl h
  · exact .inr ⟨g, o, rfl, Nat.lt_of_lt_of_le hg hb.size, fun k hk => (hb.cell (p := ⟨g, o + k, none⟩) hg).trans (hc k hk)⟩
/-- What the second merge of a told list comes to. -/
theorem again_merge {P : Rc} (hi : PInv P) (hl : P.length ≤ 1000000) (h : mOver P = false) (h4 : (KT P).length ≤ 4096) : ∃ B, Alk B (mOut P) ∧ ∀ (p : Option Addr) (c : Nat) (w : World), ML w p [mOut P] →
    Calls Try.prog 61 #[.slice p 1 c] w fun e w' => (∃ v, e = .returned (.tuple #[v, .agg #[.int .i64 0, .int .i64 0]]) ∧ SL w' w.heap.size v B) ∧ Below w.heap.size w w' := by
  obtain ⟨B, hB, hBl, hBk⟩ := twice hi hl h h4
  refine ⟨B, ⟨hBl, hBk⟩, fun p c w hp => ?_⟩
  have hw : ∀ x ∈ mOut P, x.2 < 2 ^ 64 := fun x hx => (out_fin hi hl h hx).2
  have hm := merge_any p 1 c [mOut P] w rfl hp (fun L hL x hx => by rw [List.mem_singleton] at hL; subst hL; exact hw x hx) (by omega) (fun L hL => by rw [List.mem_singleton] at hL; subst hL; unfold mOut; rw [List.length_map]; omega)
  rw [hB] at hm
  exact hm
end Go.Proofs.Ytlgnidjkilbdfaa
