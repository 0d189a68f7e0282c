/- Chapter 20, texts joined: Chapter 20: the finite heights, sorted. Chapter 20: the finite heights, sorted: DeleteFunc, SortFunc, sorted. Chapter 20: Median. -/
import Derived.Test.YtlgnidjkilbdfaaShelg
import Derived.Test.YtlgnidjkilbdfaaKa
import Derived.IntWalk
namespace Go.Proofs.Ytlgnidjkilbdfaa
open Go.RowKit Ieee Go.Shelf Go.Lib Go.Sort
set_option linter.unusedVariables false
set_option maxRecDepth 100000
/-- A slice of heights that reads as a list. -/
def FL (w : World) (p : Option Addr) (L : List Nat) : Prop := L = [] ∨ ∃ g o, p = some ⟨g, o, none⟩ ∧ g < w.heap.size ∧ ∀ k, k < L.length → w.cell? ⟨g, o + k, none⟩ = some (.float .f64 (L.getD k 0))
theorem FL.below {w w' : World} {p : Option Addr} {L : List Nat} (h : FL w p L) (hb : Below w.heap.size w w') : FL w' p L := by
  rcases h with rfl | ⟨g, o, rfl, hg, hc⟩
  · exact .inl rfl
  · exact .inr ⟨g, o, rfl, Nat.lt_of_lt_of_le hg hb.size, fun k hk => (hb.cell (p := ⟨g, _, none⟩) hg).trans (hc k hk)⟩
theorem FL.some_ {w : World} {p : Option Addr} {L : List Nat} (h : FL w p L) (hL : 0 < L.length) : ∃ g o, p = some ⟨g, o, none⟩ ∧ g < w.heap.size ∧ ∀ k, k < L.length → w.cell? ⟨g, o + k, none⟩ = some (.float .f64 (L.getD k 0)) := by
  rcases h with rfl | h
  · cases hL
  · exact h
def encF (x : Nat) : Value := .float .f64 x
theorem info24 : (Try.prog.info? 24).map (fun i => (i.zero, i.size, i.bytes)) = some (some (.float .f64 0), 1, 8) := by kernel_rfl
/-- slices.Clone at heights. -/
theorem clone_any (p : Option Addr) (n c : Nat) (L : List Nat) (w : World) (hn : n = L.length) (hp : FL w p L) (hsz : n * 8 ≤ 140737488355328) :
    Calls Try.prog 110 #[.slice p n c] w fun e w' => (∃ v, e = .returned v ∧ w'.ownsRow w.heap.size 24 1 v n (L.map encF)) ∧ Below w.heap.size w w' := by
  have q22 : ∀ (w : World) (a : Option Addr) (n c n' c' : Nat), (binOp .eql 80 (.slice a n c) (.slice none n' c')).run Try.prog w = .ok (.bool a.isNone) w := fun w a n c n' c' => Lib.run_eql_slice_nil w _ _ a n c n' c' Try.underlying80
  rcases p with _ | a
  · have hL : L = [] := by
      rcases hp with h | ⟨g, o, h, _⟩
      · exact h
      · cases h
    subst hL
    subst hn
    go_enter Try.func110, Try.ntmps110
    go_wp2
    go_ret
    exact ⟨⟨_, rfl, ⟨rfl, .inl ⟨rfl, rfl⟩⟩⟩, Below.refl _ _⟩
  · obtain ⟨i0, hi, hz0, hz1, hz2⟩ := info_parts info24
    have A : Hid (∀ j u, (L.map encF)[j]? = some u → w.cell? (a.add j) = some u) := hide_ (by
      intro j u hu
      rcases hp with rfl | ⟨g, o, h, hg, hc⟩
      · simp at hu
      · cases h
        have hj : j < L.length := by
          rcases Nat.lt_or_ge j L.length with h | h
          · exact h
          · rw [List.getElem?_eq_none (by simpa using h)] at hu; cases hu
        rw [Addr.add_lit, hc j hj]
        rw [List.getElem?_map, List.getElem?_eq_getElem hj] at hu
        simp only [Option.map_some, Option.some.injEq] at hu
        rw [← hu, List.getD_eq_getElem?_getD, List.getElem?_eq_getElem hj]
        rfl)
    have hl : (L.map encF).length = n * 1 := by simp [hn]
    clear hp hn
    go_enter Try.func110, Try.ntmps110
    go_wp2_with (at_builtin; refine wpList_append_own _ rfl _ _ 80 rfl w.heap.size 24 i0 _ 1 8 Try.underlying80 hi hz0 hz1 hz2 rfl (by omega) _ _ _ rfl (World.ownsRow_made w #[] 0 (Nat.le_refl _) (Nat.zero_le _) (by simp)) a n c (L.map encF) rfl ?qc1 ?qc2 ?qc3 ?qc4 ?qc5 ?qc6 ?_)
    case qc1 => exact hl
    case qc2 => exact fun j u hj => Lib.cell?_alloc_some _ (A.out j u hj)
    case qc3 =>
      intro u hu
      obtain ⟨x, _, rfl⟩ := List.mem_map.1 hu
      rfl
    case qc4 => rw [Nat.zero_add]; unfold maxLen; omega
    case qc5 => rw [Nat.zero_add]; exact hsz
    case qc6 => simp
    intro v' w1 hown hgrow hnil
    go_wp2
    go_ret
    exact ⟨⟨v', rfl, by simpa using hown⟩, ((Below.refl _ w).alloc (Nat.le_refl _) _).grown hgrow (by simp) (by intro k hk; simp [Value.ownBlock] at hk; omega)⟩
theorem closure111 (x : Nat) (hx : x < 2 ^ 64) (w : World) : Calls Try.prog 111 #[.float .f64 x] w fun e w' => e = .returned (.bool (!oneB x)) ∧ w = w' := by
  have HF := hide_ (finite_any x hx)
  generalize oneB x = b at *
  clear hx
  go_enter Try.func111, Try.ntmps111
  go_wp2_with (go_at_call 86; (with_reducible refine (HF.out _).mono ?_); rintro e w1 ⟨rfl, rfl⟩)
  go_ret
  exact ⟨rfl, rfl⟩
/-- A number as a word of 64 bits; as a finite one. -/
def wd (x : Nat) : Nat := if x < 2 ^ 64 then x else 0
def fd (x : Nat) : Nat := if x < 2 ^ 64 ∧ oneB x = true then x else 0
theorem wd_lt (x : Nat) : wd x < 2 ^ 64 := by unfold wd; split <;> omega
theorem fd_lt (x : Nat) : fd x < 2 ^ 64 := by unfold fd; split <;> omega
theorem fd_one (x : Nat) : oneB (fd x) = true := by
  unfold fd
  split
  · rename_i h; exact h.2
  · decide +kernel
theorem wd_of {x : Nat} (h : x < 2 ^ 64) : wd x = x := if_pos h
theorem fd_of {x : Nat} (h : x < 2 ^ 64) (h1 : oneB x = true) : fd x = x := if_pos ⟨h, h1⟩
def encW (x : Nat) : Value := .float .f64 (wd x)
def encD (x : Nat) : Value := .float .f64 (fd x)
theorem below_putRow {α : Type} [Inhabited α] {enc : α → Value} {B : Nat} {w0 w : World} {g o : Nat} {d : Array α} (h : Below B w0 w) (hg : B ≤ g) : Below B w0 (putRow enc w g o d) :=
  ⟨h.os, h.tape, h.output, by rw [size_putRow]; exact h.size, fun i hi => by
    rw [← h.block i hi]
    simp only [putRow, mapBlock, Array.getElem?_modify]
    rw [if_neg (by omega)]⟩
theorem below_grow {B : Nat} {w0 w : World} (h : Below B w0 w) (hB : B ≤ w.heap.size) (os : Array Obj) : Below B w0 (grow w os) :=
  ⟨h.os, h.tape, h.output, by have := h.size; simp; omega, fun i hi => by rw [heap_grow_old w os (by omega)]; exact h.block i hi⟩
theorem below_ahead {B : Nat} {w0 w : World} (h : Below B w0 w) (q : Nat) : Below B w0 (Sort.ahead w q) := ⟨h.os, h.tape, h.output, h.size, h.block⟩
theorem eg111 : ∀ args w, (callFunc 111 args).run Try.prog w = .ok (.enter 111 args) w := enters_of Try.func111 (by kernel_rfl) rfl
theorem eg113 : ∀ args w, (callFunc 113 args).run Try.prog w = .ok (.enter 113 args) w := enters_of Try.func113 (by kernel_rfl) rfl
theorem gives111 (x : Nat) (W : World) : FnGives Try.prog 111 #[] #[encW x] (.bool (!oneB (wd x))) W := by
  show Calls Try.prog 111 #[.float .f64 (wd x)] W _
  exact (closure111 (wd x) (wd_lt x) W).mono fun _ _ ⟨h, hw⟩ => ⟨h, 0, hw.symm⟩
/-- slices.DeleteFunc: nil. -/
theorem del_nil (w : World) : Calls Try.prog 109 #[.slice none 0 0, .func (.func 111) #[] #[]] w fun e w' => e = .returned (.slice none 0 0) ∧ w' = w := by
  have H := hide_ (fun W => AnyE.slices_IndexFunc_empty { Try.del109 with } none 0 (.func (.func 111) #[] #[]) W)
  have H2 : Hid (∀ W, Calls Try.prog 120 #[.slice none 0 0, .func (.func 111) #[] #[]] W fun e w' => e = .returned (.int .i64 (-1)) ∧ w' = W) := H
  clear H
  go_enter Try.func109, Try.ntmps109
  go_wp2_with (go_at_call 120; (with_reducible refine (H2.out _).mono ?_); rintro e w1 ⟨rfl, rfl⟩)
  go_ret
  exact ⟨rfl, rfl⟩
end Go.Proofs.Ytlgnidjkilbdfaa

namespace Go.Proofs.Ytlgnidjkilbdfaa
open Go.RowKit Ieee Go.Shelf Go.Lib Go.Sort
set_option linter.unusedVariables false
set_option maxRecDepth 100000
theorem getD_bang (l : List Nat) (j : Nat) (h : j < l.length) : l.toArray[j]! = l.getD j 0 := by
  rw [getElem!_pos l.toArray j (by simpa using h), List.getD_eq_getElem?_getD, List.getElem?_eq_getElem h]
  rfl
theorem holds_own {w : World} {B g n c : Nat} {L : List Nat} (hown : w.ownsRow B 24 1 (.slice (some ⟨g, 0, none⟩) n c) n (L.map encF)) (hw : W64 L) : Holds encW w g 0 L.toArray := by
  intro j hj
  have hj' : j < L.length := by simpa using hj
  have h1 := hown.cells (g := g) rfl j (encF L[j]) (by rw [List.getElem?_map, List.getElem?_eq_getElem hj']; rfl)
  have e : (⟨g, 0, none⟩ : Addr).add j = ⟨g, 0 + j, none⟩ := Addr.add_lit _ _ _
  rw [e] at h1
  refine ⟨?_, ?_⟩
  · rw [h1, getD_bang L j hj', List.getD_eq_getElem?_getD, List.getElem?_eq_getElem hj']
    unfold encF encW
    rw [Option.getD_some, wd_of (hw _ (List.getElem_mem hj'))]
  · rcases hown.2 with ⟨h, _⟩ | ⟨g', cap, cur, h, _, hg, _⟩
    · cases h
    · cases h
      simp [World.frozen?, hg]
/-- DeleteFunc: the finite ones are left. -/
theorem del_any {w : World} {B n : Nat} {v : Value} {L : List Nat} (hown : w.ownsRow B 24 1 v n (L.map encF)) (hw : W64 L) :
    Calls Try.prog 109 #[v, .func (.func 111) #[] #[]] w fun e w' => (∃ p c, e = .returned (.slice p (L.filter oneB).length c) ∧
      (p = none ∧ L.filter oneB = [] ∨ ∃ g, p = some ⟨g, 0, none⟩ ∧ B ≤ g ∧ g < w'.heap.size ∧ Holds encD w' g 0 (L.filter oneB).toArray)) ∧ Below B w w' := by
  have hn : n = L.length := by have := hown.1; simpa using this.symm
  rcases id hown.2 with ⟨rfl, h0⟩ | ⟨g, cap, cur, rfl, hB, hg, hnc, hcm, hcs, htake⟩
  · obtain rfl : L = [] := List.eq_nil_of_length_eq_zero (by omega)
    exact (del_nil w).mono fun e w' ⟨he, hw'⟩ => ⟨⟨none, 0, he, .inl ⟨rfl, rfl⟩⟩, by rw [hw']; exact Below.refl _ _⟩
  · subst hn
    have hH := holds_own hown hw
    have h := AnyE.slices_DeleteFunc Try.del109 encW (fun _ => rfl) (fun x => !oneB (wd x)) 111 #[] eg111 0 Try.zeroValue24 g 0 cap L.toArray w
      (fun W x _ => gives111 x W) (fun n os dk x _ => gives111 x _) hH (by simp [maxLen] at hcm ⊢; omega) (by simpa using hnc)
    have hF : (L.toArray.toList.filter fun x => !!oneB (wd x)) = L.filter oneB := by
      refine List.filter_congr fun x hx => ?_
      rw [Bool.not_not, wd_of (hw x hx)]
    rw [hF] at h
    change Calls Try.prog 109 #[.slice (some ⟨g, 0, none⟩) L.length cap, .func (.func 111) #[] #[]] w _ at h
    refine h.mono ?_
    · rintro e w' ⟨he, q, rfl⟩
      have hlen : (L.filter oneB).length ≤ L.length := List.length_filter_le _ _
      refine ⟨⟨_, _, he, .inr ⟨g, rfl, hB, ?_, ?_⟩⟩, below_putRow (below_ahead (Below.refl _ _) _) hB⟩
      · rw [size_putRow]; exact lt_of_heap hg
      · have hP := holds_putRow encW (Sort.ahead w q) g 0 L.toArray (L.filter oneB ++ List.replicate (L.toArray.size - (L.filter oneB).length) 0).toArray hH (by simp; omega)
        intro j hj
        have hj' : j < (L.filter oneB).length := by simpa using hj
        obtain ⟨c1, c2⟩ := hP j (by simp; omega)
        refine ⟨?_, c2⟩
        rw [c1, getD_bang _ j (by simp; omega), getD_bang _ j hj']
        have e1 : (L.filter oneB ++ List.replicate (L.toArray.size - (L.filter oneB).length) 0).getD j 0 = (L.filter oneB).getD j 0 := by
          rw [List.getD_eq_getElem?_getD, List.getElem?_append_left hj', ← List.getD_eq_getElem?_getD]
        rw [e1]
        have hm : (L.filter oneB).getD j 0 ∈ L.filter oneB := by
          rw [List.getD_eq_getElem?_getD, List.getElem?_eq_getElem hj']; exact List.getElem_mem hj'
        rw [List.mem_filter] at hm
        unfold encW encD
        rw [wd_of (hw _ hm.1), fd_of (hw _ hm.1) hm.2]
def cfD (x y : Nat) : Int := cmpI (compare (rkW (fd x)) (rkW (fd y)))
theorem ltD (x y : Nat) : ltOf cfD x y = decide (rkW (fd x) < rkW (fd y)) := by
  unfold ltOf cfD
  rcases Int.lt_trichotomy (rkW (fd x)) (rkW (fd y)) with h | h | h
  · rw [cmp_lt h]; simp [cmpI, h]
  · rw [h, cmp_eq]; simp [cmpI]
  · rw [cmp_gt h]; simp [cmpI]; omega
theorem swoD : SWO (ltOf cfD) where
  irrefl x := by rw [ltD]; simp
  trans x y z h1 h2 := by rw [ltD] at *; simp at *; omega
  ntrans x y z h1 h2 := by rw [ltD] at *; simp at *; omega
theorem cmpD (g m : Nat) (w : World) : CmpReads Try.prog 113 #[] encD cfD g 0 m w := fun k os dk hs x y => by
  show Calls Try.prog 113 #[.float .f64 (fd x), .float .f64 (fd y)] _ _
  exact (order_rk (fd x) (fd y) (fd_lt x) (fd_lt y) (fd_one x) (fd_one y) _).mono fun _ _ ⟨h, hw⟩ => ⟨h, 0, hw.symm⟩
theorem sort_list {L : List Nat} (hw : W64 L) {d' : Array Nat} (hp : PermIn 0 (L.filter oneB).toArray.size (L.filter oneB).toArray d') (hs : SortedIn (ltOf cfD) 0 (L.filter oneB).toArray.size d') : d'.toList = srt L := by
  obtain ⟨hsz, _, hperm⟩ := hp
  have e1 : d'.extract 0 (L.filter oneB).toArray.size = d' := by rw [← hsz]; exact Array.extract_size
  rw [e1, Array.extract_size] at hperm
  have hpm : d'.toList.Perm (L.filter oneB) := by simpa using hperm
  refine srt_eq hw hpm ?_
  rw [List.pairwise_iff_getElem]
  intro i j hi hj hij
  have hi' : i < d'.size := by simpa using hi
  have hj' : j < d'.size := by simpa using hj
  have h := hs i j (Nat.zero_le _) hij (by omega)
  rw [getElem!_pos d' j hj', getElem!_pos d' i hi', ltD, decide_eq_false_iff_not] at h
  have mi := hpm.mem_iff.1 (List.getElem_mem hi)
  have mj := hpm.mem_iff.1 (List.getElem_mem hj)
  rw [List.mem_filter] at mi mj
  rw [Array.getElem_toList] at mi mj ⊢
  rw [Array.getElem_toList]
  rw [fd_of (hw _ mi.1) mi.2, fd_of (hw _ mj.1) mj.2] at h
  omega
/-- SortFunc at the finite ones. -/
theorem sort_any {w : World} {B c : Nat} {p : Option Addr} {L : List Nat} (hw : W64 L) (hL : L.length ≤ 140737488355328)
    (h : p = none ∧ L.filter oneB = [] ∨ ∃ g, p = some ⟨g, 0, none⟩ ∧ B ≤ g ∧ g < w.heap.size ∧ Holds encD w g 0 (L.filter oneB).toArray) :
    Calls Try.prog 112 #[.slice p (L.filter oneB).length c, .func (.func 113) #[] #[]] w fun e w' => e = .returned (.tuple #[]) ∧ FL w' p (srt L) ∧ Below B w w' := by
  rcases Nat.eq_zero_or_pos (L.filter oneB).length with h0 | h0
  · rw [h0]
    have hs : srt L = [] := List.eq_nil_of_length_eq_zero (by rw [srt_len]; exact h0)
    have hc := AnyF.slices_SortFunc_none { Try.sort112 with } p c (.func (.func 113) #[] #[]) w
    change Calls Try.prog 112 #[.slice p 0 c, .func (.func 113) #[] #[]] w _ at hc
    refine hc.mono ?_
    · rintro e w' ⟨he, rfl⟩
      exact ⟨he, .inl hs, Below.refl _ _⟩
  · rcases h with ⟨_, h⟩ | ⟨g, rfl, hB, hg, hH⟩
    · rw [h] at h0; cases h0
    have hlen : (L.filter oneB).length ≤ L.length := List.length_filter_le _ _
    have hc := Any.slices_SortFunc Try.sort112 encD (fun _ => rfl) cfD swoD 113 #[] g 0 c (L.filter oneB).toArray w eg113 (cmpD g _ w).lays hH hg (by simp; omega)
    change Calls Try.prog 112 #[.slice (some ⟨g, 0, none⟩) (L.filter oneB).length c, .func (.func 113) #[] #[]] w _ at hc
    refine hc.mono ?_
    · rintro e w' ⟨he, d', n, os, hp, hs, rfl⟩
      have hd := sort_list hw hp hs
      have hsz : d'.size = (srt L).length := by rw [← hd]; simp
      have hsz2 : d'.size = (L.filter oneB).toArray.size := hp.1
      refine ⟨he, .inr ⟨g, 0, rfl, ?_, ?_⟩, ?_⟩
      · unfold sortWorld; rw [size_grow, size_putRow]; exact Nat.lt_of_lt_of_le hg (Nat.le_add_right _ _)
      · intro k hk
        unfold sortWorld
        rw [cell?_grow _ _ _ (by rw [size_putRow]; exact hg), cell?_putRow encD (Sort.ahead w n) g 0 (L.filter oneB).toArray d' hH hsz2 k (by omega)]
        have hm : (srt L).getD k 0 ∈ srt L := by
          rw [List.getD_eq_getElem?_getD, List.getElem?_eq_getElem hk]; exact List.getElem_mem hk
        have hm2 := srt_mem.1 hm
        have e1 : d'[k]! = (srt L).getD k 0 := by
          rw [← hd, getElem!_pos d' k (by omega), List.getD_eq_getElem?_getD, List.getElem?_eq_getElem (by simp; omega)]
          simp
        rw [e1]
        unfold encD
        rw [fd_of (hw _ hm2.1) hm2.2]
      · unfold sortWorld
        exact below_grow (below_putRow (below_ahead (Below.refl _ _) _) hB) (by rw [size_putRow]; show B ≤ w.heap.size; omega) _
/-- sorted: the finite heights in their order, in new memory. -/
theorem sorted_any (p : Option Addr) (n c : Nat) (L : List Nat) (w : World) (hn : n = L.length) (hp : FL w p L) (hw : W64 L) (hsz : n * 8 ≤ 140737488355328) :
    Calls Try.prog 83 #[.slice p n c] w fun e w' => (∃ q c', e = .returned (.slice q (srt L).length c') ∧ FL w' q (srt L)) ∧ Below w.heap.size w w' := by
  have H1 := hide_ (clone_any p n c L w hn hp hsz)
  have hL : L.length ≤ 140737488355328 := by omega
  have HW := hide_ hw
  have HL := hide_ hL
  clear hp hn hw hL
  go_enter Try.func83, Try.ntmps83
  go_wp2_with (first
    | (go_at_call 110; (with_reducible refine (H1.out).mono ?_); rintro e w1 ⟨⟨v1, rfl, hown⟩, hb1⟩)
    | (go_at_call 109; (with_reducible refine (del_any hown HW.out).mono ?_); rintro e w2 ⟨⟨q, c', rfl, hq⟩, hb2⟩)
    | (go_at_call 112; (with_reducible refine (sort_any HW.out HL.out hq).mono ?_); rintro e w3 ⟨rfl, hf, hb3⟩))
  go_ret
  exact ⟨⟨q, c', by rw [srt_len]; rfl, hf⟩, (hb1.trans hb2).trans hb3⟩
end Go.Proofs.Ytlgnidjkilbdfaa

namespace Go.Proofs.Ytlgnidjkilbdfaa
open Go.RowKit Ieee
set_option linter.unusedVariables false
set_option maxRecDepth 100000
def half (x : Nat) : Nat := (double.div x 4611686018427387904).getD 0
def plus (x y : Nat) : Nat := (double.add x y).getD 0
theorem half_word {x : Nat} (hx : x < 2 ^ 64) (h : oneB x = true) : half x = double.word (negB x) (hR (x % 2 ^ 63)) ∧ double.div x 4611686018427387904 = some (half x) := by
  have h1 := div_two (negB x) (one_rung h)
  rw [word_of hx] at h1
  unfold half
  rw [h1]
  exact ⟨rfl, rfl⟩
theorem plus_of {x y : Nat} (hx : x < 2 ^ 64) (hy : y < 2 ^ 64) (h1 : oneB x = true) (h2 : oneB y = true) : double.add (half x) (half y) = some (plus (half x) (half y)) := by
  have a := add_word (negB x) (negB y) (R := hR (x % 2 ^ 63)) (T := hR (y % 2 ^ 63)) (by have := hR_le (one_rung h1); omega) (by have := hR_le (one_rung h2); omega)
  rw [← (half_word hx h1).1, ← (half_word hy h2).1] at a
  unfold plus
  rw [a]
  rfl
/-- The median of a sorted list. -/
def medL (S : List Nat) : Nat := if S.length = 0 then 0 else if S.length % 2 = 1 then S.getD (S.length / 2) 0 else plus (half (S.getD (S.length / 2 - 1) 0)) (half (S.getD (S.length / 2) 0))
theorem getD_mem {L : List Nat} {k : Nat} (h : k < L.length) : L.getD k 0 ∈ L := by
  rw [List.getD_eq_getElem?_getD, List.getElem?_eq_getElem h]; exact List.getElem_mem h
theorem median_any (p : Option Addr) (n c : Nat) (L : List Nat) (w : World) (hn : n = L.length) (hp : FL w p L) (hw : W64 L) (hsz : n * 8 ≤ 140737488355328) :
    Calls Try.prog 45 #[.slice p n c] w fun e w' => e = .returned (.tuple #[.float .f64 (medL (srt L)), .bool (decide (0 < (srt L).length))]) ∧ Below w.heap.size w w' := by
  have H := hide_ (sorted_any p n c L w hn hp hw hsz)
  have hb : (srt L).length ≤ 140737488355328 := by have := srt_le L; omega
  have hS : Hid (∀ k, k < (srt L).length → (srt L).getD k 0 < 2 ^ 64 ∧ oneB ((srt L).getD k 0) = true) := hide_ (fun k hk => ⟨hw _ (srt_mem.1 (getD_mem hk)).1, (srt_mem.1 (getD_mem hk)).2⟩)
  generalize srt L = S at *
  clear hn hp hw
  rcases Nat.eq_zero_or_pos S.length with h0 | h0
  · have hm : medL S = 0 := if_pos h0
    rw [hm]
    rw [h0] at H ⊢
    clear hm h0 hb hS
    go_enter Try.func45, Try.ntmps45
    go_wp2_with (go_at_call 83; (with_reducible refine (H.out).mono ?_); rintro e w1 ⟨⟨q, c', rfl, hf⟩, hb1⟩)
    go_ret2
    exact ⟨rfl, hb1⟩
  · rw [decide_eq_true h0]
    rcases Nat.mod_two_eq_zero_or_one S.length with h2 | h2
    · obtain ⟨k, hk⟩ : ∃ k, S.length = 2 * (k + 1) := ⟨S.length / 2 - 1, by omega⟩
      have hm : medL S = plus (half (S.getD k 0)) (half (S.getD (k + 1) 0)) := by
        unfold medL
        rw [if_neg (by omega), if_neg (by omega), show S.length / 2 - 1 = k by omega, show S.length / 2 = k + 1 by omega]
      rw [hm]
      obtain ⟨a1, a2⟩ := hS.out k (by omega)
      obtain ⟨b1, b2⟩ := hS.out (k + 1) (by omega)
      have e1 := fun wx => run_float_arith (P := Try.prog) wx .quo 24 .f64 (S.getD k 0) 4611686018427387904 _ (half_word a1 a2).2
      have e2 := fun wx => run_float_arith (P := Try.prog) wx .quo 24 .f64 (S.getD (k + 1) 0) 4611686018427387904 _ (half_word b1 b2).2
      have e3 := fun wx => run_float_arith (P := Try.prog) wx .add 24 .f64 _ _ _ (plus_of a1 b1 a2 b2)
      generalize plus (half (S.getD k 0)) (half (S.getD (k + 1) 0)) = r at *
      generalize half (S.getD k 0) = x at *
      generalize half (S.getD (k + 1) 0) = y at *
      have HC : Hid (∀ (w : World) q, FL w q S → ∃ g o, q = some ⟨g, o, none⟩ ∧ g < w.heap.size ∧ w.cell? ⟨g, o + k, none⟩ = some (.float .f64 (S.getD k 0)) ∧ w.cell? ⟨g, o + (k + 1), none⟩ = some (.float .f64 (S.getD (k + 1) 0))) := hide_ (fun w q h => by
        obtain ⟨g, o, h1, h2, h3⟩ := h.some_ h0
        exact ⟨g, o, h1, h2, h3 k (by omega), h3 (k + 1) (by omega)⟩)
      generalize S.getD k 0 = u at *
      generalize S.getD (k + 1) 0 = v at *
      obtain ⟨j, hj⟩ : ∃ j, j = k + 1 := ⟨_, rfl⟩
      rw [← hj] at hk HC
      have i0 : ((S.length : Nat) : Int) / 2 = (j : Int) := by omega
      have i1 : ((S.length : Nat) : Int) % 2 = 0 := by omega
      have i2 : (j : Int) - 1 = (k : Int) := by omega
      have i3 : (k : Int) < ((S.length : Nat) : Int) := by omega
      have i4 : (j : Int) < ((S.length : Nat) : Int) := by omega
      have i5 : ((S.length : Nat) : Int).tdiv 2 = (j : Int) := by rw [Int.tdiv_eq_ediv_of_nonneg (by omega)]; exact i0
      have i6 : IntKind.i64.wrap ((j : Int) - 1) = (k : Int) := by rw [i2]; exact IntWalk.i64_in _ (by omega)
      have i7 : (0 : Int) ≤ (k : Int) := by omega
      have i8 : (0 : Int) ≤ (j : Int) := by omega
      have i9 : k < S.length := by omega
      have i10 : j < S.length := by omega
      have i11 : (((S.length : Nat) : Int) == 0) = false := by rw [beq_eq_false_iff_ne]; omega
      clear hm hS a1 a2 b1 b2 hk h0 h2 hj
      generalize S.length = m at *
      go_enter Try.func45, Try.ntmps45
      go_wp2_with (go_at_call 83; (with_reducible refine (H.out).mono ?_); rintro e w1 ⟨⟨q, c', rfl, hf⟩, hb1⟩; obtain ⟨g, o, rfl, hg, c1, c2⟩ := HC.out _ _ hf)
      go_quiet (fail)
      go_wp2
      go_ret2
      exact ⟨rfl, below_drewN hb1 _⟩
    · obtain ⟨j, hk⟩ : ∃ j, S.length = 2 * j + 1 := ⟨S.length / 2, by omega⟩
      have hm : medL S = S.getD j 0 := by
        unfold medL
        rw [if_neg (by omega), if_pos h2, show S.length / 2 = j by omega]
      rw [hm]
      have HC : Hid (∀ (w : World) q, FL w q S → ∃ g o, q = some ⟨g, o, none⟩ ∧ g < w.heap.size ∧ w.cell? ⟨g, o + j, none⟩ = some (.float .f64 (S.getD j 0))) := hide_ (fun w q h => by
        obtain ⟨g, o, h1, h2, h3⟩ := h.some_ h0
        exact ⟨g, o, h1, h2, h3 j (by omega)⟩)
      generalize S.getD j 0 = v at *
      have i0 : ((S.length : Nat) : Int) / 2 = (j : Int) := by omega
      have i1 : ((S.length : Nat) : Int) % 2 = 1 := by omega
      have i4 : (j : Int) < ((S.length : Nat) : Int) := by omega
      have i8 : (0 : Int) ≤ (j : Int) := by omega
      have i10 : j < S.length := by omega
      have i11 : (((S.length : Nat) : Int) == 0) = false := by rw [beq_eq_false_iff_ne]; omega
      clear hm hS hk h0 h2
      generalize S.length = m at *
      go_enter Try.func45, Try.ntmps45
      go_wp2_with (go_at_call 83; (with_reducible refine (H.out).mono ?_); rintro e w1 ⟨⟨q, c', rfl, hf⟩, hb1⟩; obtain ⟨g, o, rfl, hg, c2⟩ := HC.out _ _ hf)
      go_ret2
      exact ⟨rfl, hb1⟩
end Go.Proofs.Ytlgnidjkilbdfaa
