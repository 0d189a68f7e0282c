/- Contracts of the reference's chapter 11: the sum of two lists of numbers. -/
import Derived.Test.YtklhdpkofpkmjaaRc4
namespace Go.Proofs.Ytklhdpkofpkmjaa
open Go.RowKit
def op102 (s : Int) (f g : Nat → Int) (j : Nat) : Int := f j + s * g j
set_option maxHeartbeats 1600000 in
set_option maxRecDepth 100000 in
theorem rsum_ok (s : Int) (f g : Nat → Int) (w : World) (hs : s = 1 ∨ s = -1) (hf : Good f) (hg : Good g) :
    Calls Try.prog 102 #[.agg #[.int .i8 (f 0), .int .i8 (f 1), .int .i8 (f 2), .int .i8 (f 3), .int .i8 (f 4), .int .i8 (f 5)], .agg #[.int .i8 (g 0), .int .i8 (g 1), .int .i8 (g 2), .int .i8 (g 3), .int .i8 (g 4), .int .i8 (g 5)], .int .i8 s] w fun e w' =>
      ((Good (op102 s f g) ∧ e = .returned (.tuple #[.agg #[.int .i8 (op102 s f g 0), .int .i8 (op102 s f g 1), .int .i8 (op102 s f g 2), .int .i8 (op102 s f g 3), .int .i8 (op102 s f g 4), .int .i8 (op102 s f g 5)], .int .i64 0])) ∨ (¬ Good (op102 s f g) ∧ e = .returned (.tuple #[.agg #[.int .i8 0, .int .i8 0, .int .i8 0, .int .i8 0, .int .i8 0, .int .i8 0], .int .i64 210]))) ∧ Below w.heap.size w w' := by
  have HF := hide_ (fun wx => rcheck_ok f wx hf)
  have HG := hide_ (fun wx => rcheck_ok g wx hg)
  have GF := hide_ hf
  have GG := hide_ hg
  have HS := hide_ hs
  clear hf hg hs
  have tok1 : True := trivial
  go_enter Try.func102, Try.ntmps102
  go_wp2_with (first
    | (go_at_call 56; have _t := tok1; (with_reducible refine (HF.out _).mono ?_); rintro e w1 ⟨rfl, hb1⟩; clear tok1; have A1 := (Abc.new w f g).below hb1; have a1 := A1.g1)
    | (go_at_call 56; (with_reducible refine (HG.out _).mono ?_); rintro e w2 ⟨rfl, hb2⟩; have A2 := A1.below hb2)
    | ((with_reducible apply wpList_load_row (hu := Try.underlying54)); (with_reducible rfl); (with_reducible rfl); rfl; (first | assumption | exact heap_alloc_last _ _ | exact heap_past (by assumption)); rfl; kernel_rfl) | ((with_reducible apply wpList_store_new); (with_reducible rfl); (with_reducible rfl); rfl; rfl; kernel_rfl; rfl; kernel_rfl) | ((with_reducible apply wpList_store_blk); (with_reducible rfl); (with_reducible rfl); rfl; assumption; rfl; kernel_rfl; rfl; kernel_rfl))
  have hw1 := A1.lt
  have hw2 := A2.lt
  have hg0 := ((((Grew.refl w).alloc (.cells #[.int .i8 (f 0), .int .i8 (f 1), .int .i8 (f 2), .int .i8 (f 3), .int .i8 (f 4), .int .i8 (f 5)] 54)).alloc (.cells #[.int .i8 (g 0), .int .i8 (g 1), .int .i8 (g 2), .int .i8 (g 3), .int .i8 (g 4), .int .i8 (g 5)] 54)).alloc (.cells #[.int .i8 0, .int .i8 0, .int .i8 0, .int .i8 0, .int .i8 0, .int .i8 0] 54)).step hb1
  have hgr := hg0.step hb2
  go_loopw [10] (fun i wq => ∃ k : Nat, k ≤ 6 ∧ i = .int .i64 k ∧ Abc w.heap.size f g wq ∧ wq.heap[w2.heap.size]? = some (.cells #[.int .i8 (part (op102 s f g) k 0), .int .i8 (part (op102 s f g) k 1), .int .i8 (part (op102 s f g) k 2), .int .i8 (part (op102 s f g) k 3), .int .i8 (part (op102 s f g) k 4), .int .i8 (part (op102 s f g) k 5)] 54) ∧ Grew w.heap.size w wq) (fun i _ => 6 - (intOf i).toNat)
  case atStart => exact ⟨0, by omega, rfl, A2.below ((Below.refl _ _).alloc (Nat.le_refl _) _), heap_alloc_last _ _, hgr.alloc _⟩
  case round =>
    obtain ⟨k, hk, rfl, hq, hn, hgq⟩ := hrel
    by_cases hk6 : k < 6
    · have hbf := GF.out k hk6
      have hbg := GG.out k hk6
      have hsg : -4 ≤ s * g k ∧ s * g k ≤ 4 := by rcases HS.out with rfl | rfl <;> omega
      have hs1 : -1 ≤ s ∧ s ≤ 1 := by rcases HS.out with rfl | rfl <;> omega
      have hca := cell_ar hq.g0 k hk6
      have hcb := cell_ar hq.g1 k hk6
      have hcn := cell_ar hn k hk6
      have hfn := free_ar hn k
      have hn2 := set_ar (h := op102 s f g) hn hk6
      have Q2 := hide_ hq
      have hk0 : (0 : Int) ≤ (k : Int) := by omega
      have hk66 : (k : Int) < 6 := by omega
      have N2 := hide_ hn2
      have hwn : w.heap.size ≤ w2.heap.size := by omega
      clear hq hn hn2 A1 A2 a1
      go_wp2
      go_region
      all_goals
        go_wp2
        go_roundw
        case rel => exact ⟨k + 1, by omega, by go_num, (Q2.out.drew).set_ hw2, N2.out, (hgq.drew).setCell hwn _⟩
        case measure => simp [intOf]; omega
    · obtain rfl : k = 6 := by omega
      rw [part_all] at hn
      by_cases hgd : Good (op102 s f g)
      · have HC := hide_ (fun wx => rcheck_ok (op102 s f g) wx hgd)
        have n0 := hq.g2
        have hq2 := hq.lt
        have hql := lt_of_heap hn
        go_wp2_with (first | (go_at_call 56; (with_reducible refine (HC.out _).mono ?_); rintro e w5 ⟨rfl, hb5⟩; have p0 := (hb5.block _ hql).trans hn; have n2 := (hb5.block _ hq2).trans n0) | ((with_reducible apply wpList_load_row (hu := Try.underlying54)); (with_reducible rfl); (with_reducible rfl); rfl; (first | assumption | exact heap_alloc_last _ _ | exact heap_past (by assumption)); rfl; kernel_rfl) | ((with_reducible apply wpList_store_blk); (with_reducible rfl); (with_reducible rfl); rfl; assumption; rfl; kernel_rfl; rfl; kernel_rfl))
        refine ret_ct rfl _ 54 _ _ rfl (setRow_heap _ _ _ _ _ _ n2) Try.underlying54 rfl (by kernel_rfl) rfl ⟨.inl ⟨hgd, ?_⟩, ?_⟩
        · simp
        · exact Grew.below (by repeat (first | exact Grew.refl _ | assumption | refine Grew.alloc ?_ _ | refine Grew.drewN ?_ _ | refine Grew.drew ?_ | refine Grew.setRow ?_ (by first | assumption | (simp; done) | (simp; omega) | omega) _ | refine Grew.setCell ?_ (by first | assumption | (simp; done) | (simp; omega) | omega) _ | refine Grew.step ?_ (by assumption)))
      · have HC := hide_ (fun wx => rcheck_no (op102 s f g) wx hgd)
        have n0 := hq.g2
        have hq2 := hq.lt
        have hql := lt_of_heap hn
        go_wp2_with (first | (go_at_call 56; (with_reducible refine (HC.out _).mono ?_); rintro e w5 ⟨rfl, hb5⟩; have p0 := (hb5.block _ hql).trans hn; have n2 := (hb5.block _ hq2).trans n0) | ((with_reducible apply wpList_load_row (hu := Try.underlying54)); (with_reducible rfl); (with_reducible rfl); rfl; (first | assumption | exact heap_alloc_last _ _ | exact heap_past (by assumption)); rfl; kernel_rfl) | ((with_reducible apply wpList_store_blk); (with_reducible rfl); (with_reducible rfl); rfl; assumption; rfl; kernel_rfl; rfl; kernel_rfl))
        refine ret_ct rfl _ 54 _ _ rfl (setRow_heap _ _ _ _ _ _ n2) Try.underlying54 rfl (by kernel_rfl) rfl ⟨.inr ⟨hgd, ?_⟩, ?_⟩
        · simp
        · exact Grew.below (by repeat (first | exact Grew.refl _ | assumption | refine Grew.alloc ?_ _ | refine Grew.drewN ?_ _ | refine Grew.drew ?_ | refine Grew.setRow ?_ (by first | assumption | (simp; done) | (simp; omega) | omega) _ | refine Grew.setCell ?_ (by first | assumption | (simp; done) | (simp; omega) | omega) _ | refine Grew.step ?_ (by assumption)))
end Go.Proofs.Ytklhdpkofpkmjaa
