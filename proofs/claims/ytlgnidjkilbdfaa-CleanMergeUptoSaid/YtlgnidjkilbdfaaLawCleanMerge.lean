/- The given statement CleanMerge, at arguments of the given bulk: any lists; no condition of its own. -/
import Derived.Test.YtlgnidjkilbdfaaRows
import Derived.Test.YtlgnidjkilbdfaaMq
import Derived.WalkKit
import Derived.ProofKit
import Derived.OpenShut
import Derived.ChangeOld
import Derived.JoinedCond
import Derived.Below
namespace Go.Proofs.Ytlgnidjkilbdfaa.cleanMerge
open Go.ChangeShapes Go.WideShapes Go.ChangeAt Go.RowKit
set_option linter.unusedVariables false
theorem own : ownKnob Try.prog.godebug = none := by kernel_rfl
theorem laidOut : laidOutB Try.prog = true := by kernel_rfl
theorem one_le {H : Type} (d : DataW H) : 1 ≤ Rows.uptoBulk d := by
  cases d with
  | lit l => cases l <;> simp [Rows.uptoBulk]
  | nil => simp [Rows.uptoBulk]
  | ptr d => simp [Rows.uptoBulk]
  | slice elems spare => simp [Rows.uptoBulk]
  | agg parts => simp [Rows.uptoBulk]
  | iface t d => simp [Rows.uptoBulk]
  | map entries => simp [Rows.uptoBulk]
  | held h => simp [Rows.uptoBulk]
theorem part_le {H : Type} {d : DataW H} {l : List (DataW H)} (h : d ∈ l) : Rows.uptoBulk d ≤ Rows.uptoBulkAll l := by
  induction l with
  | nil => cases h
  | cons x r ih =>
    simp only [Rows.uptoBulkAll]
    cases List.mem_cons.1 h with
    | inl e => subst e; omega
    | inr e => have := ih e; omega
theorem length_le {H : Type} (l : List (DataW H)) : l.length ≤ Rows.uptoBulkAll l := by
  induction l with
  | nil => simp [Rows.uptoBulkAll]
  | cons x r ih => have := one_le x; simp only [Rows.uptoBulkAll, List.length_cons]; omega
theorem slice_le {H : Type} (es sp : List (DataW H)) : es.length ≤ Rows.uptoBulk (.slice es sp) ∧ Rows.uptoBulkAll es ≤ Rows.uptoBulk (.slice es sp) := by
  have h1 := length_le es
  simp only [Rows.uptoBulk]
  omega
/-- What the bound says of the lists. -/
theorem small {H : Type} {d : DataW H} {S : Ls} {n : Nat} (hk : Rows.uptoBulk d ≤ 1048576) (hn : n = S.length) (h : n = 0 ∨ ∃ es sp, d = .slice es sp ∧ es.length = n ∧ ∀ k, k < n → (S.getD k []).length = 0 ∨ ∃ es' sp', es[k]? = some (.slice es' sp') ∧ es'.length = (S.getD k []).length) :
    n ≤ 1048576 ∧ ∀ L ∈ S, L.length ≤ 1048576 := by
  rcases h with h | ⟨es, sp, rfl, h1, h2⟩
  · refine ⟨by omega, fun L hL => ?_⟩
    rw [List.eq_nil_of_length_eq_zero (by omega : S.length = 0)] at hL
    cases hL
  · obtain ⟨g1, g2⟩ := slice_le es sp
    refine ⟨by omega, fun L hL => ?_⟩
    obtain ⟨k, hk', rfl⟩ := List.getElem_of_mem hL
    have e : S.getD k [] = S[k] := by rw [List.getD_eq_getElem?_getD, List.getElem?_eq_getElem hk']; rfl
    rcases h2 k (by omega) with h3 | ⟨es', sp', h3, h4⟩
    · rw [e] at h3; omega
    · rw [e] at h4
      have h5 := part_le (List.mem_of_getElem? h3)
      have h6 := (slice_le es' sp').1
      omega
set_option maxRecDepth 100000 in
theorem lifted (os : Os) (started : os.Started) (H : Type) (enc : TypeId × Value → H) (F : Stop.Interp) :
    ReturnsInHanded {} Try.checked os 13 .any ((Rows.OpenSpec.upto Rows.cleanMergeSpec).pre6 enc Try.prog Try.f13 Rows.cleanMergeUptoRow.domain false) (((Rows.OpenSpec.upto Rows.cleanMergeSpec).at F).post enc Try.prog Try.f13 false true false false) := by
  refine returnsInHanded_of_cond (C := Try.checked) (s := Rows.OpenSpec.upto Rows.cleanMergeSpec) (k := Rows.uptoSmall) rfl own started (by kernel_rfl) Try.func13
    (OpenSpec.witness (enc := enc) (C := Try.checked) (s := Rows.OpenSpec.upto Rows.cleanMergeSpec) (k := Rows.uptoSmall) rfl false ⟨#[], #[.slice none 0 0], []⟩ 8 (by kernel_rfl) (by kernel_rfl) (by kernel_rfl)
      (x := ([.nil], [], [])) (by kernel_rfl) rfl (by kernel_rfl)) ?_
  intro W base args ds gs before hval0 hW hcnd hk0 _
  have hval : ∀ (j : Nat) t v, Try.f13.params[j]? = some t → args[j]? = some v → Value.okWide Try.prog W .any base t v := hval0
  have hW' := hW
  obtain ⟨p, q, hA0, hV, rfl, hfz, hnd⟩ := hW
  have hA : DataW.TrodAll enc Try.prog W 0 (fun _ => true) true Try.f13.params.toList args.toList ds p := hA0
  rw [Try.params13] at hA hval
  obtain ⟨v0, vs0, d0, ds0, p0, q0, hargs, rfl, rfl, h0, r0⟩ := trodAll_cons hA
  obtain ⟨rfl, rfl, rfl⟩ := trodAll_nil r0
  obtain rfl : args = #[v0] := by cases args; simp_all
  obtain ⟨rfl, rfl⟩ := trodVars_none hV
  obtain ⟨a0, len0, cap0, rfl⟩ := okWide_slice Try.underlying95 (hval 0 95 v0 rfl rfl)
  have k0 := h0
  have lt0 : ∀ x ∈ p0, x.block < W.heap.size := by obtain ⟨m, hm⟩ := k0; exact DataW.trod_lt m _ _ _ hm
  obtain ⟨S0, hS0⟩ := open_smpss_ h0
  have hk1 : Rows.uptoBulk d0 ≤ 1048576 := by
    have h1 := of_decide_eq_true hk0
    have h2 := part_le (l := [d0] ++ []) (d := d0) (by simp)
    omega
  obtain ⟨b1, b2⟩ := small hk1 hS0.1 hS0.2.2.2.2.2
  clear hA0 hval0
  simp only [List.append_nil] at hW'
  refine (cmerge_walk a0 len0 cap0 S0 W hS0.1 hS0.2.2.2.1 (fun L hL => (hS0.2.2.2.2.1 L hL).w) b2 b1).mono fun e W' ⟨he, bel⟩ => ?_
  subst he
  exact ⟨_, rfl, _, _, _, [], _, [], hW', trodAll_mk1 (shut_bool Try.underlying4 _), (trodAll_cons_mk (Below.trod laidOut (by kernel_rfl) (of_decide_eq_true (by kernel_rfl)) k0 bel lt0) trodAll_mk0), rfl, bel.frame _, fun h => by cases h⟩
theorem over : Rows.cleanMergeUptoRow.holds Try.pinned (Rows.OpenSpec.upto Rows.cleanMergeSpec) :=
  OpenClaim.holds_of_cond 13 Try.f13 rfl rfl rfl rfl rfl rfl rfl ⟨rfl, rfl, rfl, rfl, rfl⟩ rfl rfl rfl rfl rfl (by kernel_rfl) Try.func13 (by kernel_rfl)
    (of_decide_eq_true (by kernel_rfl)) (by unfold Func.isWrapper; first | (rw [if_pos (by decide +kernel)]; kernel_rfl) | (rw [if_neg (by decide +kernel)]; exact ⟨rfl, rfl⟩))
    (fun os started H enc _ F => lifted os started H enc F)
end Go.Proofs.Ytlgnidjkilbdfaa.cleanMerge
namespace Go.Proofs.Ytlgnidjkilbdfaa
theorem cleanMerge_holds : Rows.CleanMergeUptoSaid := cleanMerge.over
#print axioms cleanMerge_holds
end Go.Proofs.Ytlgnidjkilbdfaa
