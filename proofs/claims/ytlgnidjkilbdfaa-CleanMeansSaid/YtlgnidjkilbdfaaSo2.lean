/- Chapter 20: the finite heights, sorted: DeleteFunc, SortFunc, sorted. -/
import Derived.Test.YtlgnidjkilbdfaaSo
namespace Go.Proofs.Ytlgnidjkilbdfaa
open Go.RowKit Ieee Go.Shelf Go.Lib Go.Sort
set_option linter.unusedVariables false
set_option maxRecDepth 100000
theorem getD_bang (l : List Nat) (j : Nat) (h : j < l.length) : l.toArray[j]! = l.getD j 0 := by
  rw [getElem!_pos l.toArray j (by simpa using h), List.getD_eq_getElem?_getD, List.getElem?_eq_getElem h]
  rfl
theorem holds_own {w : World} {B g n c : Nat} {L : List Nat} (hown : w.ownsRow B 24 1 (.slice (some ⟨g, 0, none⟩) n c) n (L.map encF)) (hw : W64 L) : Holds encW w g 0 L.toArray := by
  intro j hj
  have hj' : j < L.length := by simpa using hj
  have h1 := hown.cells (g := g) rfl j (encF L[j]) (by rw [List.getElem?_map, List.getElem?_eq_getElem hj']; rfl)
  have e : (⟨g, 0, none⟩ : Addr).add j = ⟨g, 0 + j, none⟩ := Addr.add_lit _ _ _
  rw [e] at h1
  refine ⟨?_, ?_⟩
  · rw [h1, getD_bang L j hj', List.getD_eq_getElem?_getD, List.getElem?_eq_getElem hj']
    unfold encF encW
    rw [Option.getD_some, wd_of (hw _ (List.getElem_mem hj'))]
  · rcases hown.2 with ⟨h, _⟩ | ⟨g', cap, cur, h, _, hg, _⟩
    · cases h
    · cases h
      simp [World.frozen?, hg]
/-- DeleteFunc: the finite ones are left. -/
theorem del_any {w : World} {B n : Nat} {v : Value} {L : List Nat} (hown : w.ownsRow B 24 1 v n (L.map encF)) (hw : W64 L) :
    Calls Try.prog 109 #[v, .func (.func 111) #[] #[]] w fun e w' => (∃ p c, e = .returned (.slice p (L.filter oneB).length c) ∧
      (p = none ∧ L.filter oneB = [] ∨ ∃ g, p = some ⟨g, 0, none⟩ ∧ B ≤ g ∧ g < w'.heap.size ∧ Holds encD w' g 0 (L.filter oneB).toArray)) ∧ Below B w w' := by
  have hn : n = L.length := by have := hown.1; simpa using this.symm
  rcases id hown.2 with ⟨rfl, h0⟩ | ⟨g, cap, cur, rfl, hB, hg, hnc, hcm, hcs, htake⟩
  · obtain rfl : L = [] := List.eq_nil_of_length_eq_zero (by omega)
    exact (del_nil w).mono fun e w' ⟨he, hw'⟩ => ⟨⟨none, 0, he, .inl ⟨rfl, rfl⟩⟩, by rw [hw']; exact Below.refl _ _⟩
  · subst hn
    have hH := holds_own hown hw
    have h := AnyE.slices_DeleteFunc Try.del109 encW (fun _ => rfl) (fun x => !oneB (wd x)) 111 #[] eg111 0 Try.zeroValue24 g 0 cap L.toArray w
      (fun W x _ => gives111 x W) (fun n os dk x _ => gives111 x _) hH (by simp [maxLen] at hcm ⊢; omega) (by simpa using hnc)
    have hF : (L.toArray.toList.filter fun x => !!oneB (wd x)) = L.filter oneB := by
      refine List.filter_congr fun x hx => ?_
      rw [Bool.not_not, wd_of (hw x hx)]
    rw [hF] at h
    change Calls Try.prog 109 #[.slice (some ⟨g, 0, none⟩) L.length cap, .func (.func 111) #[] #[]] w _ at h
    refine h.mono ?_
    · rintro e w' ⟨he, q, rfl⟩
      have hlen : (L.filter oneB).length ≤ L.length := List.length_filter_le _ _
      refine ⟨⟨_, _, he, .inr ⟨g, rfl, hB, ?_, ?_⟩⟩, below_putRow (below_ahead (Below.refl _ _) _) hB⟩
      · rw [size_putRow]; exact lt_of_heap hg
      · have hP := holds_putRow encW (Sort.ahead w q) g 0 L.toArray (L.filter oneB ++ List.replicate (L.toArray.size - (L.filter oneB).length) 0).toArray hH (by simp; omega)
        intro j hj
        have hj' : j < (L.filter oneB).length := by simpa using hj
        obtain ⟨c1, c2⟩ := hP j (by simp; omega)
        refine ⟨?_, c2⟩
        rw [c1, getD_bang _ j (by simp; omega), getD_bang _ j hj']
        have e1 : (L.filter oneB ++ List.replicate (L.toArray.size - (L.filter oneB).length) 0).getD j 0 = (L.filter oneB).getD j 0 := by
          rw [List.getD_eq_getElem?_getD, List.getElem?_append_left hj', ← List.getD_eq_getElem?_getD]
        rw [e1]
        have hm : (L.filter oneB).getD j 0 ∈ L.filter oneB := by
          rw [List.getD_eq_getElem?_getD, List.getElem?_eq_getElem hj']; exact List.getElem_mem hj'
        rw [List.mem_filter] at hm
        unfold encW encD
        rw [wd_of (hw _ hm.1), fd_of (hw _ hm.1) hm.2]
def cfD (x y : Nat) : Int := cmpI (compare (rkW (fd x)) (rkW (fd y)))
theorem ltD (x y : Nat) : ltOf cfD x y = decide (rkW (fd x) < rkW (fd y)) := by
  unfold ltOf cfD
  rcases Int.lt_trichotomy (rkW (fd x)) (rkW (fd y)) with h | h | h
  · rw [cmp_lt h]; simp [cmpI, h]
  · rw [h, cmp_eq]; simp [cmpI]
  · rw [cmp_gt h]; simp [cmpI]; omega
theorem swoD : SWO (ltOf cfD) where
  irrefl x := by rw [ltD]; simp
  trans x y z h1 h2 := by rw [ltD] at *; simp at *; omega
  ntrans x y z h1 h2 := by rw [ltD] at *; simp at *; omega
theorem cmpD (g m : Nat) (w : World) : CmpReads Try.prog 113 #[] encD cfD g 0 m w := fun k os dk hs x y => by
  show Calls Try.prog 113 #[.float .f64 (fd x), .float .f64 (fd y)] _ _
  exact (order_rk (fd x) (fd y) (fd_lt x) (fd_lt y) (fd_one x) (fd_one y) _).mono fun _ _ ⟨h, hw⟩ => ⟨h, 0, hw.symm⟩
theorem sort_list {L : List Nat} (hw : W64 L) {d' : Array Nat} (hp : PermIn 0 (L.filter oneB).toArray.size (L.filter oneB).toArray d') (hs : SortedIn (ltOf cfD) 0 (L.filter oneB).toArray.size d') : d'.toList = srt L := by
  obtain ⟨hsz, _, hperm⟩ := hp
  have e1 : d'.extract 0 (L.filter oneB).toArray.size = d' := by rw [← hsz]; exact Array.extract_size
  rw [e1, Array.extract_size] at hperm
  have hpm : d'.toList.Perm (L.filter oneB) := by simpa using hperm
  refine srt_eq hw hpm ?_
  rw [List.pairwise_iff_getElem]
  intro i j hi hj hij
  have hi' : i < d'.size := by simpa using hi
  have hj' : j < d'.size := by simpa using hj
  have h := hs i j (Nat.zero_le _) hij (by omega)
  rw [getElem!_pos d' j hj', getElem!_pos d' i hi', ltD, decide_eq_false_iff_not] at h
  have mi := hpm.mem_iff.1 (List.getElem_mem hi)
  have mj := hpm.mem_iff.1 (List.getElem_mem hj)
  rw [List.mem_filter] at mi mj
  rw [Array.getElem_toList] at mi mj ⊢
  rw [Array.getElem_toList]
  rw [fd_of (hw _ mi.1) mi.2, fd_of (hw _ mj.1) mj.2] at h
  omega
/-- SortFunc at the finite ones. -/
theorem sort_any {w : World} {B c : Nat} {p : Option Addr} {L : List Nat} (hw : W64 L) (hL : L.length ≤ 140737488355328)
    (h : p = none ∧ L.filter oneB = [] ∨ ∃ g, p = some ⟨g, 0, none⟩ ∧ B ≤ g ∧ g < w.heap.size ∧ Holds encD w g 0 (L.filter oneB).toArray) :
    Calls Try.prog 112 #[.slice p (L.filter oneB).length c, .func (.func 113) #[] #[]] w fun e w' => e = .returned (.tuple #[]) ∧ FL w' p (srt L) ∧ Below B w w' := by
  rcases Nat.eq_zero_or_pos (L.filter oneB).length with h0 | h0
  · rw [h0]
    have hs : srt L = [] := List.eq_nil_of_length_eq_zero (by rw [srt_len]; exact h0)
    have hc := AnyF.slices_SortFunc_none { Try.sort112 with } p c (.func (.func 113) #[] #[]) w
    change Calls Try.prog 112 #[.slice p 0 c, .func (.func 113) #[] #[]] w _ at hc
    refine hc.mono ?_
    · rintro e w' ⟨he, rfl⟩
      exact ⟨he, .inl hs, Below.refl _ _⟩
  · rcases h with ⟨_, h⟩ | ⟨g, rfl, hB, hg, hH⟩
    · rw [h] at h0; cases h0
    have hlen : (L.filter oneB).length ≤ L.length := List.length_filter_le _ _
    have hc := Any.slices_SortFunc Try.sort112 encD (fun _ => rfl) cfD swoD 113 #[] g 0 c (L.filter oneB).toArray w eg113 (cmpD g _ w).lays hH hg (by simp; omega)
    change Calls Try.prog 112 #[.slice (some ⟨g, 0, none⟩) (L.filter oneB).length c, .func (.func 113) #[] #[]] w _ at hc
    refine hc.mono ?_
    · rintro e w' ⟨he, d', n, os, hp, hs, rfl⟩
      have hd := sort_list hw hp hs
      have hsz : d'.size = (srt L).length := by rw [← hd]; simp
      have hsz2 : d'.size = (L.filter oneB).toArray.size := hp.1
      refine ⟨he, .inr ⟨g, 0, rfl, ?_, ?_⟩, ?_⟩
      · unfold sortWorld; rw [size_grow, size_putRow]; exact Nat.lt_of_lt_of_le hg (Nat.le_add_right _ _)
      · intro k hk
        unfold sortWorld
        rw [cell?_grow _ _ _ (by rw [size_putRow]; exact hg), cell?_putRow encD (Sort.ahead w n) g 0 (L.filter oneB).toArray d' hH hsz2 k (by omega)]
        have hm : (srt L).getD k 0 ∈ srt L := by
          rw [List.getD_eq_getElem?_getD, List.getElem?_eq_getElem hk]; exact List.getElem_mem hk
        have hm2 := srt_mem.1 hm
        have e1 : d'[k]! = (srt L).getD k 0 := by
          rw [← hd, getElem!_pos d' k (by omega), List.getD_eq_getElem?_getD, List.getElem?_eq_getElem (by simp; omega)]
          simp
        rw [e1]
        unfold encD
        rw [fd_of (hw _ hm2.1) hm2.2]
      · unfold sortWorld
        exact below_grow (below_putRow (below_ahead (Below.refl _ _) _) hB) (by rw [size_putRow]; show B ≤ w.heap.size; omega) _
/-- sorted: the finite heights in their order, in new memory. -/
theorem sorted_any (p : Option Addr) (n c : Nat) (L : List Nat) (w : World) (hn : n = L.length) (hp : FL w p L) (hw : W64 L) (hsz : n * 8 ≤ 140737488355328) :
    Calls Try.prog 83 #[.slice p n c] w fun e w' => (∃ q c', e = .returned (.slice q (srt L).length c') ∧ FL w' q (srt L)) ∧ Below w.heap.size w w' := by
  have H1 := hide_ (clone_any p n c L w hn hp hsz)
  have hL : L.length ≤ 140737488355328 := by omega
  have HW := hide_ hw
  have HL := hide_ hL
  clear hp hn hw hL
  go_enter Try.func83, Try.ntmps83
  go_wp2_with (first
    | (go_at_call 110; (with_reducible refine (H1.out).mono ?_); rintro e w1 ⟨⟨v1, rfl, hown⟩, hb1⟩)
    | (go_at_call 109; (with_reducible refine (del_any hown HW.out).mono ?_); rintro e w2 ⟨⟨q, c', rfl, hq⟩, hb2⟩)
    | (go_at_call 112; (with_reducible refine (sort_any HW.out HL.out hq).mono ?_); rintro e w3 ⟨rfl, hf, hb3⟩))
  go_ret
  exact ⟨⟨q, c', by rw [srt_len]; rfl, hf⟩, (hb1.trans hb2).trans hb3⟩
end Go.Proofs.Ytlgnidjkilbdfaa
