/- Chapter 20: the ticks of the grouped heights, rising (slices.Sorted of maps.Keys). -/
import Derived.Test.YtlgnidjkilbdfaaMg
namespace Go.Proofs.Ytlgnidjkilbdfaa
open Go.RowKit Go.Maps Go.Sort Go.Shelf
set_option linter.unusedVariables false
set_option maxRecDepth 100000
theorem keys_in99 (mb : Nat) (W : World) : Calls Try.prog 99 #[.map (some mb)] W fun e w' => e = .returned (.func (.func 118) #[] #[.pointer (some ⟨W.heap.size, 0, none⟩)]) ∧ w' = W.alloc (.cells #[.map (some mb)] 120) :=
  callsIn_wide.1 (AnyZI.keys_in Try.keys99 Fence.wide 5 trivial rfl (some mb) W)
theorem KT_len (P : Rc) : (KT P).length ≤ 1048577 := by
  unfold KT
  refine Nat.le_trans (List.length_filter_le _ _) ?_
  simp
theorem KT_rng {P : Rc} {t : Int} (h : t ∈ KT P) : 0 ≤ t ∧ t ≤ 1048576 := by
  unfold KT at h
  have h1 := (List.mem_filter.1 h).1
  obtain ⟨i, hi, rfl⟩ := List.mem_map.1 h1
  have := List.mem_range.1 hi
  omega
theorem ticks_sorted {w : World} {B mb n : Nat} {P : Rc} {D : DataW Unit} {V : Int → Value} (h : GrpV w B mb n P D V) (hr : ∀ x ∈ P, 0 ≤ x.1 ∧ x.1 ≤ 1048576) :
    Calls Try.prog 98 #[.func (.func 118) #[] #[.pointer (some ⟨w.heap.size, 0, none⟩)]] (w.alloc (.cells #[.map (some mb)] 120)) fun e w' =>
      ∃ v, e = .returned v ∧ w'.ownsRow (w.heap.size + 1) 3 1 v (KT P).length ((KT P).map iv) ∧ Below (w.alloc (.cells #[.map (some mb)] 120)).heap.size (w.alloc (.cells #[.map (some mb)] 120)) w' := by
  refine (callsIn_wide (n := 5)).1 ?_
  have hk := h.keys hr
  have hown := h.own
  have hbl := hown.lt
  have hsz : Maps.size D = (KT P).length := by
    rw [hk.length_eq]
    obtain ⟨es, hD, _⟩ := h.own.tidy (int_keyed Try.underlying3)
    rw [hD]
    simp [Maps.size, intKeys]
  have hlen := KT_len P
  have hseq : SeqGives Fence.wide 2 Try.prog 118 #[.pointer (some ⟨w.heap.size, 0, none⟩)] encZ (fun ss => ss.Perm (intKeys D)) (Maps.size D) (w.alloc (.cells #[.map (some mb)] 120)) :=
    AnyZI.keys_gives (ρ := Try.keys99_ren) { Try.keys99 with } Fence.wide _ trivial rfl (by omega) w.heap.size mb n D _ (by simp) (by simp) (by
      obtain ⟨es, clock, hb, Ft, hs, hD⟩ := hown
      exact ⟨es, clock, (Below.heap_alloc _ _ mb hbl).trans hb, Ft, hs, hD⟩)
  have cS := AnyZI.sorted_in Try.sorted98 Fence.wide 5 trivial trivial trivial trivial rfl (by omega) (sorts98 _) (enters_of Try.func117 (by kernel_rfl) rfl) 118 #[.pointer (some ⟨w.heap.size, 0, none⟩)] trivial (enters_of Try.func118 (by kernel_rfl) rfl) _ _ (by rw [hsz]; unfold maxLen; omega) (by rw [hsz]; omega) _ hseq
  change CallsIn _ _ Try.prog 98 _ _ _ at cS
  refine cS.mono ?_
  rintro e w' ⟨v, ss, rfl, hS, hrow, hnil, hb⟩
  have hP : ss.Perm (KT P) := hS.trans hk.symm
  rw [KT_sort hP, hP.length_eq] at hrow
  exact ⟨v, rfl, ownsRow_base_a hrow (by simp), hb⟩
end Go.Proofs.Ytlgnidjkilbdfaa
