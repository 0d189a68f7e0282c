/- SecondFits: the plain law. -/
import Derived.Test.YtcibbnphkpaifaaUh
namespace Go.Proofs.Ytcibbnphkpaifaa
open Go.RowKit
set_option linter.unusedVariables false
set_option maxRecDepth 100000
/-- The waters that are told. -/
def toldL (d : Df) (L : List Wt) : List Wt := (L.map (tW d)).map toWt
theorem toldL_len (d : Df) (L : List Wt) : (toldL d L).length = L.length := by unfold toldL; simp
theorem toldL_top (d : Df) (L : List Wt) : ∀ i, ∀ h : i < L.length, ∀ h2 : i < (toldL d L).length, L[i].top = (toldL d L)[i].top := by
  intro i h h2
  have e : (toldL d L)[i] = toWt (tW d L[i]) := by
    apply Option.some.inj
    rw [← List.getElem?_eq_getElem h2]
    unfold toldL
    simp [h]
  rw [e]
  rfl
theorem appF_snd {d : Df} {L : List Wt} (h : (appF L d).1 = 0) : Snd (toldL d L) := by
  unfold appF at h
  split at h
  · rename_i h1
    exact absurd h h1
  · split at h
    · cases h
    · rename_i h2
      refine snd_of ?_
      by_cases h3 : (checkW none 0 (toldL d L)).1 = 0
      · exact h3
      · exact absurd h3 h2
theorem pairL_told (top : Bool) (d : Df) (L : List Wt) : pairL top L (toldL d L) = (kindL top L).map fun x => (x, toWt (tW d x)) := by
  unfold pairL toldL kindL
  rw [List.map_map]
  have e : L.zip (L.map (toWt ∘ tW d)) = L.map fun x => (x, toWt (tW d x)) := by
    induction L with
    | nil => rfl
    | cons x L ih => simp only [List.map_cons, List.zip_cons_cons, ih]; rfl
  rw [e, List.filter_map]
  rfl
theorem kind_top {top : Bool} {L : List Wt} {x : Wt} (h : x ∈ kindL top L) : x.top = top := by
  have := (List.mem_filter.1 h).2
  simpa using this
theorem fit_back (f z x y : Rat) (h : x ≠ y) : ((f * y + z) - (f * x + z)) / (y - x) = f := by
  have h1 : y - x ≠ 0 := by
    intro e
    apply h
    grind
  have h2 : (f * y + z) - (f * x + z) = f * (y - x) := by grind
  rw [h2]
  exact Rat.mul_div_cancel h1
theorem fit_told {top : Bool} {d : Df} {L : List Wt} (hc : d.chk = 0) (hp : partB top L = true) :
    fitD (pairL top L (toldL d L)) = d.k top ∧ fitQ (pairL top L (toldL d L)) = d.f top ∧ fitZ (pairL top L (toldL d L)) = d.z top ∧ (fitE (pairL top L (toldL d L)) = 0 ∨ fitE (pairL top L (toldL d L)) = 3) := by
  rw [pairL_told]
  generalize hK : kindL top L = K at *
  have hne : K ≠ [] := by
    intro e
    unfold partB at hp
    rw [hK, e] at hp
    cases hp
  have hl : 0 < K.length := List.length_pos_iff.2 hne
  have hp2 : (K[0]).h ≠ (K[K.length - 1]'(by omega)).h := by
    unfold partB at hp
    rw [hK, List.head?_eq_getElem?, List.getElem?_eq_getElem hl, List.getLast?_eq_getElem?, List.getElem?_eq_getElem (by omega)] at hp
    simpa using hp
  have hk1 : 0 < K.length - 1 := by
    rcases Nat.eq_zero_or_pos (K.length - 1) with h | h
    · exfalso
      apply hp2
      congr 2
      exact h.symm
    · exact h
  have t0 : K[0].top = top := kind_top (L := L) (by rw [hK]; exact List.getElem_mem _)
  have t1 : (K[K.length - 1]'(by omega)).top = top := kind_top (L := L) (by rw [hK]; exact List.getElem_mem _)
  have hlen : (K.map fun x => (x, toWt (tW d x))).length = K.length := List.length_map _
  have a0 : pAt (K.map fun x => (x, toWt (tW d x))) 0 = (K[0], toWt (tW d K[0])) := by rw [pAt_eq (by omega)]; simp
  have a1 : pAt (K.map fun x => (x, toWt (tW d x))) (K.length - 1) = (K[K.length - 1]'(by omega), toWt (tW d (K[K.length - 1]'(by omega)))) := by rw [pAt_eq (by omega)]; simp
  have hD : fitD (K.map fun x => (x, toWt (tW d x))) = d.k top := by
    unfold fitD
    rw [a0]
    show (K[0].t + d.k K[0].top) - K[0].t = d.k top
    rw [t0]; omega
  have hQ : fitQ (K.map fun x => (x, toWt (tW d x))) = d.f top := by
    unfold fitQ
    rw [hlen, a0, a1]
    simp only [toWt_h]
    unfold fitF fitU
    rw [if_pos (by simp [hk1, hp2])]
    show ((d.f (K[K.length - 1]'(by omega)).top * (K[K.length - 1]'(by omega)).h + d.z (K[K.length - 1]'(by omega)).top) - (d.f K[0].top * K[0].h + d.z K[0].top)) / ((K[K.length - 1]'(by omega)).h - K[0].h) = d.f top
    rw [t0, t1]
    exact fit_back _ _ _ _ hp2
  refine ⟨hD, hQ, ?_, ?_⟩
  · unfold fitZ
    rw [hQ, a0]
    simp only [toWt_h]
    show (d.f K[0].top * K[0].h + d.z K[0].top) - d.f top * K[0].h = d.z top
    rw [t0]; grind
  · have hb := (chk_zero hc).1 top
    have hf : farB (d.k top) = false := by unfold farB; rw [decide_eq_false (by omega), decide_eq_false (by omega)]; rfl
    unfold fitE
    rw [if_neg (by omega), hD, hf]
    split
    · exact .inl rfl
    · exact .inr rfl
/-- No difference. -/
def noneD : Df := ⟨0, 0, frOf 1, frOf 0, frOf 1, frOf 0⟩
theorem noneD_chk : noneD.chk = 0 := by
  unfold Df.chk checkD
  rw [if_neg (by decide)]
  unfold noneD
  simp only [firstE, frOf_chk fits_zero, frOf_chk fits_one, if_true]
theorem noneD_k (top : Bool) : noneD.k top = 0 := by cases top <;> rfl
theorem noneD_f (top : Bool) : noneD.f top = 1 := by cases top <;> exact frOf_h 1
theorem noneD_z (top : Bool) : noneD.z top = 0 := by cases top <;> exact frOf_h 0
theorem noneD_tW (x : Wt) : tW noneD x = (x.t, x.l, x.top, x.h) := by
  unfold tW
  rw [noneD_k, noneD_f, noneD_z]
  have e : (1 : Rat) * x.h + 0 = x.h := by grind
  rw [e]
  simp
/-- A water's words are digits. -/
def DigL (L : List Wt) : Prop := ∀ x ∈ L, Dig x.A ∧ Dig x.D
theorem toWt_back {x : Wt} (hd : Dig x.A ∧ Dig x.D) (hs : chkR x.neg x.A x.D = 0) : toWt (x.t, x.l, x.top, x.h) = x ∧ Fits x.h := by
  obtain ⟨h0, h1, h2, h3⟩ := ratG_ok hd.1 hd.2 hs
  refine ⟨?_, h0⟩
  show (⟨x.t, x.l, x.top, rneg x.h, rn x.h, rd x.h⟩ : Wt) = x
  have e : x.h = ratG x.neg x.A x.D := rfl
  rw [e, ← h1, ← h2, ← h3]
theorem none_told {L : List Wt} (hs : Snd L) (hd : DigL L) : toldL noneD L = L := by
  unfold toldL
  rw [List.map_map]
  apply List.ext_getElem (by simp)
  intro i h1 h2
  simp only [List.getElem_map, Function.comp]
  rw [noneD_tW]
  exact (toWt_back (hd _ (List.getElem_mem _)) (hs.one h2).2.2.2).1
theorem applyE_zero {d : Df} : ∀ {L : List Wt} (k : Nat), (∀ x ∈ L, tE d x = 0) → applyE d k L = (0, 0)
  | [], _, _ => rfl
  | x :: L, k, h => by
    unfold applyE
    rw [if_pos (h x (List.mem_cons_self ..))]
    exact applyE_zero (k + 1) fun y hy => h y (List.mem_cons_of_mem _ hy)
theorem none_appF {L : List Wt} (hs : Snd L) (hd : DigL L) : appF L noneD = (0, 0) := by
  have h1 : applyE noneD 0 L = (0, 0) := by
    refine applyE_zero 0 fun x hx => ?_
    obtain ⟨i, hi, rfl⟩ := List.getElem_of_mem hx
    obtain ⟨o1, o2, o3, o4⟩ := hs.one hi
    have hf := (toWt_back (hd _ hx) o4).2
    unfold tE
    rw [noneD_k, noneD_f, noneD_z]
    have e1 : (1 : Rat) * L[i].h = L[i].h := by grind
    have e2 : L[i].h + (0 : Rat) = L[i].h := by grind
    rw [e1, e2]
    unfold toldE
    rw [if_neg (by omega), if_pos ⟨hf, hf⟩]
  unfold appF
  rw [h1, if_neg (by simp)]
  have h2 := none_told hs hd
  unfold toldL at h2
  rw [h2, hs.zero, if_neg (by simp)]
end Go.Proofs.Ytcibbnphkpaifaa
