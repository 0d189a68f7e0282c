/- Chapter 19: RecordKnown, the walk. -/
import Derived.Test.YtlgnidjkilbdfaaAwk
namespace Go.Proofs.Ytlgnidjkilbdfaa
open Go.RowKit
set_option linter.unusedVariables false
set_option maxRecDepth 100000
theorem all_one : ∀ j : Nat, j < 4096 → oneB (floatOfInt .f64 (j : Int)) = true := by decide +kernel
theorem all_64 : ∀ j : Nat, j < 4096 → floatOfInt .f64 (j : Int) < 2 ^ 64 := by decide +kernel
def full (k : Nat) : Rc := (List.range k).map fun (j : Nat) => ((j : Int), floatOfInt .f64 (j : Int))
theorem ins_end {t : Int} {h : Nat} : ∀ {L : Rc}, (∀ p ∈ L, p.1 < t) → insT L t h = L ++ [(t, h)]
  | [], _ => rfl
  | p :: L, hp => by
    rw [ins_cons, if_pos (hp p (by simp)), ins_end (fun q hq => hp q (by simp [hq]))]
    rfl
theorem full_mem {k : Nat} {p : Int × Nat} (h : p ∈ full k) : ∃ j : Nat, j < k ∧ p = ((j : Int), floatOfInt .f64 (j : Int)) := by
  unfold full at h
  obtain ⟨j, hj, rfl⟩ := List.mem_map.1 h
  exact ⟨j, by simpa using hj, rfl⟩
theorem full_has (k t : Nat) : hasT (full k) t = decide (t < k) := by
  unfold hasT
  rw [Bool.eq_iff_iff, List.any_eq_true, decide_eq_true_iff]
  constructor
  · rintro ⟨p, hp, e⟩
    obtain ⟨j, hj, rfl⟩ := full_mem hp
    simp at e
    omega
  · intro h
    exact ⟨((t : Int), floatOfInt .f64 (t : Int)), List.mem_map.2 ⟨t, by simpa using h, rfl⟩, by simp⟩
theorem full_len (k : Nat) : (full k).length = k := by simp [full]
theorem full_e {k : Nat} (h : k < 4096) : addE (full k) k = 0 := by
  unfold addE
  rw [if_neg (by omega), full_has, if_neg (by simp), full_len, if_neg (by omega)]
theorem full_r {k : Nat} (h : k < 4096) : addR (full k) k (floatOfInt .f64 (k : Int)) = full (k + 1) := by
  unfold addR
  rw [if_pos (full_e h), ins_end (fun p hp => by obtain ⟨j, hj, rfl⟩ := full_mem hp; simp only; omega)]
  unfold full
  rw [List.range_succ, List.map_append]
  rfl
theorem full_ones : ones (full 4096) = full 4096 := by
  unfold ones
  rw [List.filter_eq_self]
  intro p hp
  obtain ⟨j, hj, rfl⟩ := full_mem hp
  exact all_one j hj
theorem at_at {w : World} {rb mb : Nat} {L : Rc} {t : Int} (x : Nat) (o : Bool) (h : Rec w rb mb L) (ht : I64 t) (ho : (hasT L t && oneB (atT L t)) = o) (hx : (if o then atT L t else 0) = x) : Calls Try.prog 37 #[.pointer (some ⟨rb, 0, none⟩), .int .i64 t] w fun e w' =>
    e = .returned (.tuple #[.float .f64 x, .bool o]) ∧ Below w.heap.size w w' := by
  subst ho hx
  exact (at_rec h ht).mono fun e w' ⟨h1, n, h2⟩ => ⟨h1, by rw [h2]; exact below_drewN (Below.refl _ _) n⟩
theorem from_at {w : World} {base k : Nat} {v : Value} {S : Rc} (E : Int) (h : SL w base v S) (h64 : In64 S) (hn : S.length ≤ 5000) (hf : fromR S = some k) (hE : errAt S k = E) : Calls Try.prog 17 #[v] w fun e w' =>
    e = .returned (.tuple #[.pointer none, .agg #[.int .i64 E, .int .i64 k]]) ∧ Below w.heap.size w w' := by
  subst hE
  exact from_bad h h64 hn hf
def B3 : Rc := [(1, 9221120237041090561), (3, 4609434218613702656), (5, 9218868437227405312)]
def B4 : Rc := [(3, 4609434218613702656), (5, 9218868437227405312)]
def B5 : Rc := [(3, 4609434218613702656), (5, 9218868437227405312), (1048576, 4607182418800017408)]
def S11 : Rc := [(1, 0), (1, 0)]
theorem kE1 : addE [] 3 = 0 := by decide
theorem kE2 : addE A1 1 = 0 := by decide
theorem kE3 : addE A2 5 = 0 := by decide
theorem kL1 : addR [] 3 4609434218613702656 = A1 := by decide
theorem kL2 : addR A1 1 9221120237041090561 = A2 := by decide
theorem kL3 : addR A2 5 9218868437227405312 = B3 := by decide
theorem kA1 : askE 3 4 = 0 := by decide
theorem kA2 : askE 4 4 = 0 := by decide
theorem kA3 : askE 5 4 = 2 := by decide
theorem kG1 : gapsOf B3 3 4 = [] := by decide +kernel
theorem kG2 : gapsOf B3 4 4 = [] := by decide +kernel
theorem kG3 : gapsOf B3 5 4 = [] := by decide +kernel
theorem kQ1 : (hasT B3 3 && oneB (atT B3 3)) = true := by decide +kernel
theorem kQ2 : (if true then atT B3 3 else 0) = 4609434218613702656 := by decide +kernel
theorem kQ3 : (hasT B3 5 && oneB (atT B3 5)) = false := by decide +kernel
theorem kQ4 : (if false then atT B3 5 else 0) = 0 := by decide +kernel
theorem kT1 : takeE B3 1 = 0 := by decide
theorem kT2 : delT B3 1 = B4 := by decide
theorem kT3 : takeE B4 1 = 6 := by decide
theorem kT4 : delT B4 1 = B4 := by decide
theorem kE5 : addE B4 1048576 = 0 := by decide
theorem kL5 : addR B4 1048576 4607182418800017408 = B5 := by decide
theorem kE6 : addE B5 1048577 = 2 := by decide
theorem kL6 : addR B5 1048577 4607182418800017408 = B5 := by decide
theorem kE7 : addE (full 4096) 4096 = 3 := by
  have h : hasT (full 4096) ((4096 : Nat) : Int) = false := by rw [full_has]; rfl
  unfold addE; rw [if_neg (by decide), show hasT (full 4096) 4096 = false from h, if_neg (by decide), full_len, if_pos (by decide)]
theorem kL7 : addR (full 4096) 4096 4607182418800017408 = full 4096 := by unfold addR; rw [kE7, if_neg (by decide)]
theorem kE8 : addE (full 4096) 7 = 5 := by
  have h : hasT (full 4096) ((7 : Nat) : Int) = true := by rw [full_has]; rfl
  unfold addE; rw [if_neg (by decide), show hasT (full 4096) 7 = true from h, if_pos rfl]
theorem kL8 : addR (full 4096) 7 4607182418800017408 = full 4096 := by unfold addR; rw [kE8, if_neg (by decide)]
theorem kO1 : ((ones (full 4096)).length : Int) = 4096 := by rw [full_ones, full_len]; rfl
theorem kF1 : fromR S11 = some 1 := by decide
theorem kF2 : errAt S11 1 = 5 := by decide
theorem kF3 : In64 S11 := ⟨by intro p hp; simp [S11] at hp; subst hp; exact i64s (by decide) (by decide), by intro p hp; simp [S11] at hp; subst hp; decide⟩
theorem kC1 : FloatKind.f64.format.order 4609434218613702656 4609434218613702656 = some .eq := by decide +kernel
theorem kC2 : FloatKind.f64.format.order 0 0 = some .eq := by decide +kernel
end Go.Proofs.Ytlgnidjkilbdfaa
