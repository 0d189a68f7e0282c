/- Chapter 20: the document's examples, closed. -/
import Derived.Test.YtlgnidjkilbdfaaMi
import Derived.Test.YtlgnidjkilbdfaaSp
namespace Go.Proofs.Ytlgnidjkilbdfaa
open Go.RowKit Ieee
set_option linter.unusedVariables false
set_option maxRecDepth 100000
/-- A sort that reduces. -/
def insR (x : Nat) : List Nat → List Nat
  | [] => [x]
  | y :: r => if rkW x ≤ rkW y then x :: y :: r else y :: insR x r
def isrt (L : List Nat) : List Nat := (L.filter oneB).foldr insR []
theorem insR_perm (x : Nat) : ∀ l, (insR x l).Perm (x :: l)
  | [] => List.Perm.refl _
  | y :: r => by
    unfold insR
    split
    · exact List.Perm.refl _
    · exact ((insR_perm x r).cons y).trans (List.Perm.swap x y r)
theorem insR_sorted (x : Nat) : ∀ l, l.Pairwise (fun a b => rkW a ≤ rkW b) → (insR x l).Pairwise (fun a b => rkW a ≤ rkW b)
  | [], _ => by simp [insR]
  | y :: r, h => by
    obtain ⟨h1, h2⟩ := List.pairwise_cons.1 h
    unfold insR
    split
    · rename_i hxy
      refine List.pairwise_cons.2 ⟨fun z hz => ?_, h⟩
      rcases List.mem_cons.1 hz with rfl | hz
      · exact hxy
      · have := h1 z hz; omega
    · rename_i hxy
      refine List.pairwise_cons.2 ⟨fun z hz => ?_, insR_sorted x r h2⟩
      rcases List.mem_cons.1 ((insR_perm x r).mem_iff.1 hz) with rfl | hz
      · omega
      · exact h1 z hz
theorem fold_perm : ∀ l : List Nat, (l.foldr insR []).Perm l
  | [] => List.Perm.refl _
  | x :: r => (insR_perm x _).trans ((fold_perm r).cons x)
theorem fold_sorted : ∀ l : List Nat, (l.foldr insR []).Pairwise (fun a b => rkW a ≤ rkW b)
  | [] => List.Pairwise.nil
  | x :: r => insR_sorted x _ (fold_sorted r)
theorem srt_is {L : List Nat} (h : W64 L) : srt L = isrt L := (srt_eq h (fold_perm _) (fold_sorted _)).symm
def F1 : Nat := 4607182418800017408
def outI (S : Rc) (i wd lim : Nat) : Bool := oneB (S.getD i (0, 0)).2 && decide (0 < (isrt (nearL S i wd)).length) && fgtB (less (S.getD i (0, 0)).2 (medL (isrt (nearL S i wd))) % 2 ^ 63) lim
def SP : Rc := [(0, 4607182418800017408), (0, 4607182418800017408), (0, 4621256167635550208), (0, 4607182418800017408), (0, 4607182418800017408)]
theorem near_w (i : Nat) (hi : i < 5) : W64 (nearL SP i 2) := by
  have h : ∀ i, i < 5 → (nearL SP i 2).all (fun x => decide (x < 2 ^ 64)) = true := by decide +kernel
  intro x hx
  have := List.all_eq_true.1 (h i hi) x hx
  simpa using this
theorem sp_is (lim : Nat) : spL SP 2 lim 5 = ((List.range 5).filter fun i => outI SP i 2 lim).map fun (i : Nat) => (i : Int) := by
  unfold spL
  congr 1
  refine List.filter_congr fun i hi => ?_
  rw [List.mem_range] at hi
  unfold outB outI
  rw [srt_is (near_w i hi)]
theorem sp5 : spL SP 2 4617315517961601024 5 = [2] := by rw [sp_is]; decide +kernel
theorem sp3 : spL SP 2 4613937818241073152 5 = [0, 2, 4] := by rw [sp_is]; decide +kernel
theorem sp8 : spL SP 2 4620693217682128896 5 = [] := by rw [sp_is]; decide +kernel
theorem spn : spE 5 2 9221120237041090561 = 8 := by decide +kernel
theorem spm : spE 5 2 13830554455654793216 = 2 := by decide +kernel
theorem spz : spE 5 0 9221120237041090561 = 2 := by decide +kernel
theorem w64_of {L : List Nat} (h : L.all (fun x => decide (x < 2 ^ 64)) = true) : W64 L := fun x hx => by simpa using List.all_eq_true.1 h x hx
theorem m1 : meanV (srt [4607182418800017408, 4611686018427387904, 4616752568008179712]) = 4612811918334230528 ∧ meanE (srt [4607182418800017408, 4611686018427387904, 4616752568008179712]) = 0 := by
  rw [srt_is (w64_of (by decide +kernel))]; decide +kernel
theorem m2 : meanV (srt [9221120237041090561, 9218868437227405312, 4613937818241073152]) = 4613937818241073152 ∧ meanE (srt [9221120237041090561, 9218868437227405312, 4613937818241073152]) = 0 := by
  rw [srt_is (w64_of (by decide +kernel))]; decide +kernel
theorem m3 : meanV (srt []) = 0 ∧ meanE (srt []) = 0 := by
  rw [srt_is (w64_of (by decide +kernel))]; decide +kernel
theorem m4 : meanV (srt [9214871658872686752, 9214871658872686752]) = 0 ∧ meanE (srt [9214871658872686752, 9214871658872686752]) = 9 := by
  rw [srt_is (w64_of (by decide +kernel))]; decide +kernel
theorem d1 : medL (srt [9214871658872686752, 9214871658872686752]) = 9214871658872686752 ∧ decide (0 < (srt [9214871658872686752, 9214871658872686752]).length) = true := by
  rw [srt_is (w64_of (by decide +kernel))]; decide +kernel
theorem d2 : medL (srt [9221120237041090561]) = 0 ∧ decide (0 < (srt [9221120237041090561]).length) = false := by
  rw [srt_is (w64_of (by decide +kernel))]; decide +kernel
/-! ### Merge -/
def MG : Ls := [[(1, 4611686018427387904), (3, 4617315517961601024)], [(3, 4619567317775286272), (2, 9221120237041090561)]]
theorem mgP : allP MG = [(1, 4611686018427387904), (3, 4617315517961601024), (3, 4619567317775286272)] := by decide +kernel
theorem KT_eq {P : Rc} {Ks : List Int} (hr : ∀ x ∈ P, 0 ≤ x.1 ∧ x.1 ≤ 1048576) (ha : Ks.Pairwise (· < ·)) (h1 : ∀ t ∈ Ks, t ∈ P.map (·.1)) (h2 : ∀ t ∈ P.map (·.1), t ∈ Ks) : KT P = Ks := by
  refine asc_unique (KT_asc P) ha fun t => ?_
  rw [KT_mem hr]
  constructor
  · intro h
    obtain ⟨x, hx⟩ := List.exists_mem_of_ne_nil _ h
    exact h2 t (List.mem_map.2 ⟨_, hts_mem.1 hx, rfl⟩)
  · intro h e
    obtain ⟨x, hx, rfl⟩ := List.mem_map.1 (h1 t h)
    have h3 : x.2 ∈ hts P x.1 := hts_mem.2 hx
    rw [e] at h3
    cases h3
theorem mgK : KT (allP MG) = [1, 3] := by
  rw [mgP]
  exact KT_eq (by decide) (by decide) (by decide) (by decide)
theorem mgB : firstBad MG = none := by decide +kernel
theorem mgM : mRes MG = ([(1, 4611686018427387904), (3, 4618441417868443648)], 0, 0) := by
  have e1 : srt [4611686018427387904] = [4611686018427387904] := by rw [srt_is (w64_of (by decide +kernel))]; decide +kernel
  have e2 : srt [4617315517961601024, 4619567317775286272] = [4617315517961601024, 4619567317775286272] := by rw [srt_is (w64_of (by decide +kernel))]; decide +kernel
  have h1 : hts (allP MG) 1 = [4611686018427387904] := by rw [mgP]; decide +kernel
  have h3 : hts (allP MG) 3 = [4617315517961601024, 4619567317775286272] := by rw [mgP]; decide +kernel
  have ho : mOver (allP MG) = false := by
    unfold mOver
    rw [mgK]
    simp only [List.any_cons, List.any_nil, h1, h3, e1, e2]
    decide +kernel
  have hm : mOut (allP MG) = [(1, 4611686018427387904), (3, 4618441417868443648)] := by
    unfold mOut
    rw [mgK]
    simp only [List.map_cons, List.map_nil, h1, h3, e1, e2]
    decide +kernel
  unfold mRes
  rw [if_neg (by decide), mgB]
  simp only [ho, hm, mgK]
  rfl
def MB : Ls := [[], [(-1, 0)]]
theorem mbM : mRes MB = ([], 2, 1) := by decide +kernel
/-! ### Fill -/
def FX : Rc := [(1, 0), (4, 4613937818241073152), (9, 4613937818241073152)]
theorem fx : fillE FX = 0 ∧ fillL FX = [(1, 0), (2, 4607182418800017408), (3, 4611686018427387904), (4, 4613937818241073152), (9, 4613937818241073152)] := by decide +kernel
theorem fs : fillE SP = 2 := by decide +kernel
end Go.Proofs.Ytlgnidjkilbdfaa
