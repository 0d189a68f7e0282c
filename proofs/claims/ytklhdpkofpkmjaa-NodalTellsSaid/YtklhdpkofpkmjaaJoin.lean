/- Contracts of package doodson: joined, with each of the three functions that are handed to it. -/
import Derived.Test.YtklhdpkofpkmjaaDood2
namespace Go.Proofs.Ytklhdpkofpkmjaa
open Go.RowKit
def op95 (f g : Nat → Int) (j : Nat) : Int := f j + g j
def op96 (f g : Nat → Int) (j : Nat) : Int := f j - g j
def op97 (f _g : Nat → Int) (j : Nat) : Int := -f j
theorem cl95 (x y : Int) (w : World) (hx : -4 ≤ x ∧ x ≤ 4) (hy : -4 ≤ y ∧ y ≤ 4) : Calls Try.prog 95 #[.int .i8 x, .int .i8 y] w fun e w' => e = .returned (.int .i8 (x + y)) ∧ w = w' := by
  go_enter Try.func95, Try.ntmps95
  go_wp2
  go_ret
  exact ⟨rfl, rfl⟩
theorem cl96 (x y : Int) (w : World) (hx : -4 ≤ x ∧ x ≤ 4) (hy : -4 ≤ y ∧ y ≤ 4) : Calls Try.prog 96 #[.int .i8 x, .int .i8 y] w fun e w' => e = .returned (.int .i8 (x - y)) ∧ w = w' := by
  go_enter Try.func96, Try.ntmps96
  go_wp2
  go_ret
  exact ⟨rfl, rfl⟩
theorem cl97 (x y : Int) (w : World) (hx : -4 ≤ x ∧ x ≤ 4) (_hy : -4 ≤ y ∧ y ≤ 4) : Calls Try.prog 97 #[.int .i8 x, .int .i8 y] w fun e w' => e = .returned (.int .i8 (-x)) ∧ w = w' := by
  go_enter Try.func97, Try.ntmps97
  go_wp2
  go_ret
  exact ⟨rfl, rfl⟩
theorem index138 (f g : Nat → Int) (w : World) : (Instr.index 138 (.agg #[.int .i8 (f 0), .int .i8 (f 1), .int .i8 (f 2), .int .i8 (f 3), .int .i8 (f 4), .int .i8 (f 5), .int .i8 (g 0), .int .i8 (g 1), .int .i8 (g 2), .int .i8 (g 3), .int .i8 (g 4), .int .i8 (g 5)]) (.int .i64 0)).run Try.prog w = .ok (.agg #[.int .i8 (f 0), .int .i8 (f 1), .int .i8 (f 2), .int .i8 (f 3), .int .i8 (f 4), .int .i8 (f 5)]) w ∧
    (Instr.index 138 (.agg #[.int .i8 (f 0), .int .i8 (f 1), .int .i8 (f 2), .int .i8 (f 3), .int .i8 (f 4), .int .i8 (f 5), .int .i8 (g 0), .int .i8 (g 1), .int .i8 (g 2), .int .i8 (g 3), .int .i8 (g 4), .int .i8 (g 5)]) (.int .i64 1)).run Try.prog w = .ok (.agg #[.int .i8 (g 0), .int .i8 (g 1), .int .i8 (g 2), .int .i8 (g 3), .int .i8 (g 4), .int .i8 (g 5)]) w := ⟨by kernel_rfl, by kernel_rfl⟩
def zero6 (_j : Nat) : Int := 0
/-- Blocks b, b + 1, b + 2: two lists of numbers, and the answer's place. -/
structure Abc (b : Nat) (f g : Nat → Int) (w : World) : Prop where
  g0 : w.heap[b]? = some (.cells #[.int .i8 (f 0), .int .i8 (f 1), .int .i8 (f 2), .int .i8 (f 3), .int .i8 (f 4), .int .i8 (f 5)] 54)
  g1 : w.heap[b + 1]? = some (.cells #[.int .i8 (g 0), .int .i8 (g 1), .int .i8 (g 2), .int .i8 (g 3), .int .i8 (g 4), .int .i8 (g 5)] 54)
  g2 : w.heap[b + 2]? = some (.cells #[.int .i8 0, .int .i8 0, .int .i8 0, .int .i8 0, .int .i8 0, .int .i8 0] 54)
theorem Abc.lt {b : Nat} {f g : Nat → Int} {w : World} (h : Abc b f g w) : b + 2 < w.heap.size := lt_of_heap h.g2
theorem Abc.below {b : Nat} {f g : Nat → Int} {w w' : World} (h : Abc b f g w) (hb : Below w.heap.size w w') : Abc b f g w' := by
  have hl := h.lt
  exact ⟨(hb.block _ (by omega)).trans h.g0, (hb.block _ (by omega)).trans h.g1, (hb.block _ (by omega)).trans h.g2⟩
theorem Abc.drew {b : Nat} {f g : Nat → Int} {w : World} (h : Abc b f g w) : Abc b f g w.drew := ⟨h.g0, h.g1, h.g2⟩
theorem Abc.set_ {b r i : Nat} {f g : Nat → Int} {w : World} {u : Value} (h : Abc b f g w) (hr : b + 2 < r) : Abc b f g (w.setCell ⟨r, i, none⟩ u) :=
  ⟨(Below.heap_setCell w ⟨r, i, none⟩ u _ (by simp; omega)).trans h.g0, (Below.heap_setCell w ⟨r, i, none⟩ u _ (by simp; omega)).trans h.g1, (Below.heap_setCell w ⟨r, i, none⟩ u _ (by simp; omega)).trans h.g2⟩
theorem Abc.new (w : World) (f g : Nat → Int) : Abc w.heap.size f g (((w.alloc (.cells #[.int .i8 (f 0), .int .i8 (f 1), .int .i8 (f 2), .int .i8 (f 3), .int .i8 (f 4), .int .i8 (f 5)] 54)).alloc (.cells #[.int .i8 (g 0), .int .i8 (g 1), .int .i8 (g 2), .int .i8 (g 3), .int .i8 (g 4), .int .i8 (g 5)] 54)).alloc (.cells #[.int .i8 0, .int .i8 0, .int .i8 0, .int .i8 0, .int .i8 0, .int .i8 0] 54)) := by
  have e1 : (w.alloc (.cells #[.int .i8 (f 0), .int .i8 (f 1), .int .i8 (f 2), .int .i8 (f 3), .int .i8 (f 4), .int .i8 (f 5)] 54)).heap.size = w.heap.size + 1 := by simp
  have e2 : ((w.alloc (.cells #[.int .i8 (f 0), .int .i8 (f 1), .int .i8 (f 2), .int .i8 (f 3), .int .i8 (f 4), .int .i8 (f 5)] 54)).alloc (.cells #[.int .i8 (g 0), .int .i8 (g 1), .int .i8 (g 2), .int .i8 (g 3), .int .i8 (g 4), .int .i8 (g 5)] 54)).heap.size = w.heap.size + 2 := by simp
  refine ⟨?_, ?_, ?_⟩
  · rw [Below.heap_alloc _ _ _ (by omega), Below.heap_alloc _ _ _ (by omega)]
    exact heap_alloc_last _ _
  · rw [Below.heap_alloc _ _ _ (by omega), ← e1]
    exact heap_alloc_last _ _
  · rw [← e2]
    exact heap_alloc_last _ _
/-- The first k of some numbers, 0 behind them. -/
def part (h : Nat → Int) (k j : Nat) : Int := if j < k then h j else 0
theorem part_all (h : Nat → Int) : (#[.int .i8 (part h 6 0), .int .i8 (part h 6 1), .int .i8 (part h 6 2), .int .i8 (part h 6 3), .int .i8 (part h 6 4), .int .i8 (part h 6 5)] : Array Value) = #[.int .i8 (h 0), .int .i8 (h 1), .int .i8 (h 2), .int .i8 (h 3), .int .i8 (h 4), .int .i8 (h 5)] := by simp [part]
theorem cell_ar {w : World} {r : Nat} {f : Nat → Int} (h : w.heap[r]? = some (.cells #[.int .i8 (f 0), .int .i8 (f 1), .int .i8 (f 2), .int .i8 (f 3), .int .i8 (f 4), .int .i8 (f 5)] 54)) (k : Nat) (hk : k < 6) : w.cell? ⟨r, k, none⟩ = some (.int .i8 (f k)) := by
  obtain ⟨a0, a1, a2, a3, a4, a5⟩ := cells_ar h
  exact six_cases (P := fun k => w.cell? ⟨r, k, none⟩ = some (.int .i8 (f k))) a0 a1 a2 a3 a4 a5 k hk
theorem free_ar {w : World} {r : Nat} {cs : Array Value} {T : TypeId} (h : w.heap[r]? = some (.cells cs T)) (k : Nat) : w.frozen? ⟨r, k, none⟩ = false := by simp [World.frozen?, h]
theorem set_ar {w : World} {r k : Nat} {h : Nat → Int} (hn : w.heap[r]? = some (.cells #[.int .i8 (part h k 0), .int .i8 (part h k 1), .int .i8 (part h k 2), .int .i8 (part h k 3), .int .i8 (part h k 4), .int .i8 (part h k 5)] 54)) (hk : k < 6) : (w.drew.setCell ⟨r, k, none⟩ (.int .i8 (h k))).heap[r]? = some (.cells #[.int .i8 (part h (k + 1) 0), .int .i8 (part h (k + 1) 1), .int .i8 (part h (k + 1) 2), .int .i8 (part h (k + 1) 3), .int .i8 (part h (k + 1) 4), .int .i8 (part h (k + 1) 5)] 54) := by
  have e : (w.drew.setCell ⟨r, k, none⟩ (.int .i8 (h k))).heap[r]? = some (.cells ((#[.int .i8 (part h k 0), .int .i8 (part h k 1), .int .i8 (part h k 2), .int .i8 (part h k 3), .int .i8 (part h k 4), .int .i8 (part h k 5)] : Array Value).setIfInBounds k (.int .i8 (h k))) 54) := by
    have hn' : w.drew.heap[r]? = some (.cells #[.int .i8 (part h k 0), .int .i8 (part h k 1), .int .i8 (part h k 2), .int .i8 (part h k 3), .int .i8 (part h k 4), .int .i8 (part h k 5)] 54) := hn
    simp [World.setCell, Array.getElem?_modify, hn']
  rw [e]
  rcases (show k = 0 ∨ k = 1 ∨ k = 2 ∨ k = 3 ∨ k = 4 ∨ k = 5 by omega) with rfl | rfl | rfl | rfl | rfl | rfl <;> simp [part]
set_option maxHeartbeats 1600000 in
set_option maxRecDepth 100000 in
theorem joined95_ok (f g : Nat → Int) (w : World) (hf : Good f) (hg : Good g) :
    Calls Try.prog 94 #[.agg #[.int .i8 (f 0), .int .i8 (f 1), .int .i8 (f 2), .int .i8 (f 3), .int .i8 (f 4), .int .i8 (f 5)], .agg #[.int .i8 (g 0), .int .i8 (g 1), .int .i8 (g 2), .int .i8 (g 3), .int .i8 (g 4), .int .i8 (g 5)], .func (.func 95) #[] #[]] w fun e w' =>
      ((Good (op95 f g) ∧ e = .returned (.tuple #[.agg #[.int .i8 (op95 f g 0), .int .i8 (op95 f g 1), .int .i8 (op95 f g 2), .int .i8 (op95 f g 3), .int .i8 (op95 f g 4), .int .i8 (op95 f g 5)], .int .i64 0])) ∨ (¬ Good (op95 f g) ∧ e = .returned (.tuple #[.agg #[.int .i8 0, .int .i8 0, .int .i8 0, .int .i8 0, .int .i8 0, .int .i8 0], .int .i64 210]))) ∧ Below w.heap.size w w' := by
  have HF := hide_ (fun wx => dcheck_ok f wx hf)
  have HG := hide_ (fun wx => dcheck_ok g wx hg)
  have GF := hide_ hf
  have GG := hide_ hg
  clear hf hg
  have hi := fun wx => (index138 f g wx).1
  have hj := fun wx => (index138 f g wx).2
  have HI := hide_ hi
  have HJ := hide_ hj
  clear hi hj
  go_enter Try.func94, Try.ntmps94
  go_wp2
  go_loopw [17, 10] (fun i _ wr => ∃ k : Nat, k ≤ 2 ∧ i = .int .i64 k ∧ Abc w.heap.size f g wr ∧ Grew w.heap.size w wr) (fun i _ _ => 2 - (intOf i).toNat)
  case atStart => exact ⟨0, by omega, rfl, Abc.new _ _ _, ((Grew.refl w).alloc _).alloc _ |>.alloc _⟩
  case round =>
    obtain ⟨k, hk, rfl, ht, hgr⟩ := hrel
    rcases (show k = 0 ∨ k = 1 ∨ k = 2 by omega) with rfl | rfl | rfl
    · have hi := HI.out
      clear HG
      go_wp2_with (go_at_call 55; (with_reducible refine (HF.out _).mono ?_); rintro e w3 ⟨rfl, hb3⟩)
      go_roundw
      case rel => exact ⟨1, by omega, rfl, (ht.below ((Below.refl _ _).alloc (Nat.le_refl _) _)).below hb3, (hgr.alloc _).step hb3⟩
      case measure => simp [intOf]
    · have hj := HJ.out
      clear HF
      go_wp2_with (go_at_call 55; (with_reducible refine (HG.out _).mono ?_); rintro e w3 ⟨rfl, hb3⟩)
      go_roundw
      case rel => exact ⟨2, by omega, rfl, (ht.below ((Below.refl _ _).alloc (Nat.le_refl _) _)).below hb3, (hgr.alloc _).step hb3⟩
      case measure => simp [intOf]
    · clear HF HG
      have T2 := hide_ ht
      have hlt := ht.lt
      clear ht
      obtain ⟨wo, hwo⟩ : ∃ wo : World, wo = wr := ⟨_, rfl⟩
      subst hwo
      rw [show ((2 : Nat) : Int) = 2 from rfl]
      go_wp2
      go_loopw [27] (fun i wq => ∃ k : Nat, k ≤ 6 ∧ i = .int .i64 k ∧ Abc w.heap.size f g wq ∧ wq.heap[wo.heap.size]? = some (.cells #[.int .i8 (part (op95 f g) k 0), .int .i8 (part (op95 f g) k 1), .int .i8 (part (op95 f g) k 2), .int .i8 (part (op95 f g) k 3), .int .i8 (part (op95 f g) k 4), .int .i8 (part (op95 f g) k 5)] 54) ∧ Grew w.heap.size w wq) (fun i _ => 6 - (intOf i).toNat)
      case atStart => exact ⟨0, by omega, rfl, T2.out.below ((Below.refl _ _).alloc (Nat.le_refl _) _), heap_alloc_last _ _, hgr.alloc _⟩
      case round =>
        obtain ⟨k, hk, rfl, hq, hn, hgq⟩ := hrel
        by_cases hk6 : k < 6
        · have hbf := GF.out k hk6
          have hbg := GG.out k hk6
          have hca := cell_ar hq.g0 k hk6
          have hcb := cell_ar hq.g1 k hk6
          have hcn := cell_ar hn k hk6
          have hfn := free_ar hn k
          have hn2 := set_ar (h := op95 f g) hn hk6
          have Q2 := hide_ hq
          have hk0 : (0 : Int) ≤ (k : Int) := by omega
          have hk66 : (k : Int) < 6 := by omega
          have hwn : w.heap.size ≤ wo.heap.size := by omega
          have hw2 : w.heap.size + 2 < wo.heap.size := hlt
          have N2 := hide_ hn2
          clear hq hn hn2
          go_wp2
          go_region_with (go_at_call 95; (with_reducible refine (cl95 _ _ _ hbf hbg).mono ?_); rintro e w4 ⟨rfl, rfl⟩)
          all_goals
            go_wp2
            go_roundw
            case rel => exact ⟨k + 1, by omega, by go_num, (Q2.out.drew).set_ hw2, N2.out, (hgq.drew).setCell hwn _⟩
            case measure => simp [intOf]; omega
        · obtain rfl : k = 6 := by omega
          rw [part_all] at hn
          by_cases hgd : Good (op95 f g)
          · have HC := hide_ (fun wx => dcheck_ok (op95 f g) wx hgd)
            have n0 := hq.g2
            have hq2 := hq.lt
            have hql := lt_of_heap hn
            obtain ⟨c0, c1, c2, c3, c4, c5⟩ := cells_ar hn
            have HN := hide_ hn
            clear hn hq
            go_wp2_with (first | (go_at_call 55; (with_reducible refine (HC.out _).mono ?_); rintro e w5 ⟨rfl, hb5⟩; obtain ⟨p0, p1, p2, p3, p4, p5⟩ := cells_ar ((hb5.block _ hql).trans HN.out); have n2 := (hb5.block _ hq2).trans n0) | ((with_reducible apply wpList_store_blk); (with_reducible rfl); (with_reducible rfl); rfl; assumption; rfl; kernel_rfl; rfl; kernel_rfl))
            refine ret_ct rfl _ 54 _ _ rfl (setRow_heap _ _ _ _ _ _ n2) Try.underlying54 rfl (by kernel_rfl) rfl ⟨.inl ⟨hgd, ?_⟩, ?_⟩
            · simp
            · exact Grew.below (by repeat (first | exact Grew.refl _ | assumption | refine Grew.alloc ?_ _ | refine Grew.drewN ?_ _ | refine Grew.drew ?_ | refine Grew.setRow ?_ (by first | assumption | (simp; done) | (simp; omega) | omega) _ | refine Grew.setCell ?_ (by first | assumption | (simp; done) | (simp; omega) | omega) _ | refine Grew.step ?_ (by assumption)))
          · have HC := hide_ (fun wx => dcheck_no (op95 f g) wx hgd)
            have n0 := hq.g2
            have hq2 := hq.lt
            have hql := lt_of_heap hn
            obtain ⟨c0, c1, c2, c3, c4, c5⟩ := cells_ar hn
            have HN := hide_ hn
            clear hn hq
            go_wp2_with (first | (go_at_call 55; (with_reducible refine (HC.out _).mono ?_); rintro e w5 ⟨rfl, hb5⟩; obtain ⟨p0, p1, p2, p3, p4, p5⟩ := cells_ar ((hb5.block _ hql).trans HN.out); have n2 := (hb5.block _ hq2).trans n0) | ((with_reducible apply wpList_store_blk); (with_reducible rfl); (with_reducible rfl); rfl; assumption; rfl; kernel_rfl; rfl; kernel_rfl))
            refine ret_ct rfl _ 54 _ _ rfl (setRow_heap _ _ _ _ _ _ n2) Try.underlying54 rfl (by kernel_rfl) rfl ⟨.inr ⟨hgd, ?_⟩, ?_⟩
            · simp
            · exact Grew.below (by repeat (first | exact Grew.refl _ | assumption | refine Grew.alloc ?_ _ | refine Grew.drewN ?_ _ | refine Grew.drew ?_ | refine Grew.setRow ?_ (by first | assumption | (simp; done) | (simp; omega) | omega) _ | refine Grew.setCell ?_ (by first | assumption | (simp; done) | (simp; omega) | omega) _ | refine Grew.step ?_ (by assumption)))
set_option maxHeartbeats 1600000 in
set_option maxRecDepth 100000 in
theorem joined96_ok (f g : Nat → Int) (w : World) (hf : Good f) (hg : Good g) :
    Calls Try.prog 94 #[.agg #[.int .i8 (f 0), .int .i8 (f 1), .int .i8 (f 2), .int .i8 (f 3), .int .i8 (f 4), .int .i8 (f 5)], .agg #[.int .i8 (g 0), .int .i8 (g 1), .int .i8 (g 2), .int .i8 (g 3), .int .i8 (g 4), .int .i8 (g 5)], .func (.func 96) #[] #[]] w fun e w' =>
      ((Good (op96 f g) ∧ e = .returned (.tuple #[.agg #[.int .i8 (op96 f g 0), .int .i8 (op96 f g 1), .int .i8 (op96 f g 2), .int .i8 (op96 f g 3), .int .i8 (op96 f g 4), .int .i8 (op96 f g 5)], .int .i64 0])) ∨ (¬ Good (op96 f g) ∧ e = .returned (.tuple #[.agg #[.int .i8 0, .int .i8 0, .int .i8 0, .int .i8 0, .int .i8 0, .int .i8 0], .int .i64 210]))) ∧ Below w.heap.size w w' := by
  have HF := hide_ (fun wx => dcheck_ok f wx hf)
  have HG := hide_ (fun wx => dcheck_ok g wx hg)
  have GF := hide_ hf
  have GG := hide_ hg
  clear hf hg
  have hi := fun wx => (index138 f g wx).1
  have hj := fun wx => (index138 f g wx).2
  have HI := hide_ hi
  have HJ := hide_ hj
  clear hi hj
  go_enter Try.func94, Try.ntmps94
  go_wp2
  go_loopw [17, 10] (fun i _ wr => ∃ k : Nat, k ≤ 2 ∧ i = .int .i64 k ∧ Abc w.heap.size f g wr ∧ Grew w.heap.size w wr) (fun i _ _ => 2 - (intOf i).toNat)
  case atStart => exact ⟨0, by omega, rfl, Abc.new _ _ _, ((Grew.refl w).alloc _).alloc _ |>.alloc _⟩
  case round =>
    obtain ⟨k, hk, rfl, ht, hgr⟩ := hrel
    rcases (show k = 0 ∨ k = 1 ∨ k = 2 by omega) with rfl | rfl | rfl
    · have hi := HI.out
      clear HG
      go_wp2_with (go_at_call 55; (with_reducible refine (HF.out _).mono ?_); rintro e w3 ⟨rfl, hb3⟩)
      go_roundw
      case rel => exact ⟨1, by omega, rfl, (ht.below ((Below.refl _ _).alloc (Nat.le_refl _) _)).below hb3, (hgr.alloc _).step hb3⟩
      case measure => simp [intOf]
    · have hj := HJ.out
      clear HF
      go_wp2_with (go_at_call 55; (with_reducible refine (HG.out _).mono ?_); rintro e w3 ⟨rfl, hb3⟩)
      go_roundw
      case rel => exact ⟨2, by omega, rfl, (ht.below ((Below.refl _ _).alloc (Nat.le_refl _) _)).below hb3, (hgr.alloc _).step hb3⟩
      case measure => simp [intOf]
    · clear HF HG
      have T2 := hide_ ht
      have hlt := ht.lt
      clear ht
      obtain ⟨wo, hwo⟩ : ∃ wo : World, wo = wr := ⟨_, rfl⟩
      subst hwo
      rw [show ((2 : Nat) : Int) = 2 from rfl]
      go_wp2
      go_loopw [27] (fun i wq => ∃ k : Nat, k ≤ 6 ∧ i = .int .i64 k ∧ Abc w.heap.size f g wq ∧ wq.heap[wo.heap.size]? = some (.cells #[.int .i8 (part (op96 f g) k 0), .int .i8 (part (op96 f g) k 1), .int .i8 (part (op96 f g) k 2), .int .i8 (part (op96 f g) k 3), .int .i8 (part (op96 f g) k 4), .int .i8 (part (op96 f g) k 5)] 54) ∧ Grew w.heap.size w wq) (fun i _ => 6 - (intOf i).toNat)
      case atStart => exact ⟨0, by omega, rfl, T2.out.below ((Below.refl _ _).alloc (Nat.le_refl _) _), heap_alloc_last _ _, hgr.alloc _⟩
      case round =>
        obtain ⟨k, hk, rfl, hq, hn, hgq⟩ := hrel
        by_cases hk6 : k < 6
        · have hbf := GF.out k hk6
          have hbg := GG.out k hk6
          have hca := cell_ar hq.g0 k hk6
          have hcb := cell_ar hq.g1 k hk6
          have hcn := cell_ar hn k hk6
          have hfn := free_ar hn k
          have hn2 := set_ar (h := op96 f g) hn hk6
          have Q2 := hide_ hq
          have hk0 : (0 : Int) ≤ (k : Int) := by omega
          have hk66 : (k : Int) < 6 := by omega
          have hwn : w.heap.size ≤ wo.heap.size := by omega
          have hw2 : w.heap.size + 2 < wo.heap.size := hlt
          have N2 := hide_ hn2
          clear hq hn hn2
          go_wp2
          go_region_with (go_at_call 96; (with_reducible refine (cl96 _ _ _ hbf hbg).mono ?_); rintro e w4 ⟨rfl, rfl⟩)
          all_goals
            go_wp2
            go_roundw
            case rel => exact ⟨k + 1, by omega, by go_num, (Q2.out.drew).set_ hw2, N2.out, (hgq.drew).setCell hwn _⟩
            case measure => simp [intOf]; omega
        · obtain rfl : k = 6 := by omega
          rw [part_all] at hn
          by_cases hgd : Good (op96 f g)
          · have HC := hide_ (fun wx => dcheck_ok (op96 f g) wx hgd)
            have n0 := hq.g2
            have hq2 := hq.lt
            have hql := lt_of_heap hn
            obtain ⟨c0, c1, c2, c3, c4, c5⟩ := cells_ar hn
            have HN := hide_ hn
            clear hn hq
            go_wp2_with (first | (go_at_call 55; (with_reducible refine (HC.out _).mono ?_); rintro e w5 ⟨rfl, hb5⟩; obtain ⟨p0, p1, p2, p3, p4, p5⟩ := cells_ar ((hb5.block _ hql).trans HN.out); have n2 := (hb5.block _ hq2).trans n0) | ((with_reducible apply wpList_store_blk); (with_reducible rfl); (with_reducible rfl); rfl; assumption; rfl; kernel_rfl; rfl; kernel_rfl))
            refine ret_ct rfl _ 54 _ _ rfl (setRow_heap _ _ _ _ _ _ n2) Try.underlying54 rfl (by kernel_rfl) rfl ⟨.inl ⟨hgd, ?_⟩, ?_⟩
            · simp
            · exact Grew.below (by repeat (first | exact Grew.refl _ | assumption | refine Grew.alloc ?_ _ | refine Grew.drewN ?_ _ | refine Grew.drew ?_ | refine Grew.setRow ?_ (by first | assumption | (simp; done) | (simp; omega) | omega) _ | refine Grew.setCell ?_ (by first | assumption | (simp; done) | (simp; omega) | omega) _ | refine Grew.step ?_ (by assumption)))
          · have HC := hide_ (fun wx => dcheck_no (op96 f g) wx hgd)
            have n0 := hq.g2
            have hq2 := hq.lt
            have hql := lt_of_heap hn
            obtain ⟨c0, c1, c2, c3, c4, c5⟩ := cells_ar hn
            have HN := hide_ hn
            clear hn hq
            go_wp2_with (first | (go_at_call 55; (with_reducible refine (HC.out _).mono ?_); rintro e w5 ⟨rfl, hb5⟩; obtain ⟨p0, p1, p2, p3, p4, p5⟩ := cells_ar ((hb5.block _ hql).trans HN.out); have n2 := (hb5.block _ hq2).trans n0) | ((with_reducible apply wpList_store_blk); (with_reducible rfl); (with_reducible rfl); rfl; assumption; rfl; kernel_rfl; rfl; kernel_rfl))
            refine ret_ct rfl _ 54 _ _ rfl (setRow_heap _ _ _ _ _ _ n2) Try.underlying54 rfl (by kernel_rfl) rfl ⟨.inr ⟨hgd, ?_⟩, ?_⟩
            · simp
            · exact Grew.below (by repeat (first | exact Grew.refl _ | assumption | refine Grew.alloc ?_ _ | refine Grew.drewN ?_ _ | refine Grew.drew ?_ | refine Grew.setRow ?_ (by first | assumption | (simp; done) | (simp; omega) | omega) _ | refine Grew.setCell ?_ (by first | assumption | (simp; done) | (simp; omega) | omega) _ | refine Grew.step ?_ (by assumption)))
set_option maxHeartbeats 1600000 in
set_option maxRecDepth 100000 in
theorem joined97_ok (f g : Nat → Int) (w : World) (hf : Good f) (hg : Good g) :
    Calls Try.prog 94 #[.agg #[.int .i8 (f 0), .int .i8 (f 1), .int .i8 (f 2), .int .i8 (f 3), .int .i8 (f 4), .int .i8 (f 5)], .agg #[.int .i8 (g 0), .int .i8 (g 1), .int .i8 (g 2), .int .i8 (g 3), .int .i8 (g 4), .int .i8 (g 5)], .func (.func 97) #[] #[]] w fun e w' =>
      ((Good (op97 f g) ∧ e = .returned (.tuple #[.agg #[.int .i8 (op97 f g 0), .int .i8 (op97 f g 1), .int .i8 (op97 f g 2), .int .i8 (op97 f g 3), .int .i8 (op97 f g 4), .int .i8 (op97 f g 5)], .int .i64 0])) ∨ (¬ Good (op97 f g) ∧ e = .returned (.tuple #[.agg #[.int .i8 0, .int .i8 0, .int .i8 0, .int .i8 0, .int .i8 0, .int .i8 0], .int .i64 210]))) ∧ Below w.heap.size w w' := by
  have HF := hide_ (fun wx => dcheck_ok f wx hf)
  have HG := hide_ (fun wx => dcheck_ok g wx hg)
  have GF := hide_ hf
  have GG := hide_ hg
  clear hf hg
  have hi := fun wx => (index138 f g wx).1
  have hj := fun wx => (index138 f g wx).2
  have HI := hide_ hi
  have HJ := hide_ hj
  clear hi hj
  go_enter Try.func94, Try.ntmps94
  go_wp2
  go_loopw [17, 10] (fun i _ wr => ∃ k : Nat, k ≤ 2 ∧ i = .int .i64 k ∧ Abc w.heap.size f g wr ∧ Grew w.heap.size w wr) (fun i _ _ => 2 - (intOf i).toNat)
  case atStart => exact ⟨0, by omega, rfl, Abc.new _ _ _, ((Grew.refl w).alloc _).alloc _ |>.alloc _⟩
  case round =>
    obtain ⟨k, hk, rfl, ht, hgr⟩ := hrel
    rcases (show k = 0 ∨ k = 1 ∨ k = 2 by omega) with rfl | rfl | rfl
    · have hi := HI.out
      clear HG
      go_wp2_with (go_at_call 55; (with_reducible refine (HF.out _).mono ?_); rintro e w3 ⟨rfl, hb3⟩)
      go_roundw
      case rel => exact ⟨1, by omega, rfl, (ht.below ((Below.refl _ _).alloc (Nat.le_refl _) _)).below hb3, (hgr.alloc _).step hb3⟩
      case measure => simp [intOf]
    · have hj := HJ.out
      clear HF
      go_wp2_with (go_at_call 55; (with_reducible refine (HG.out _).mono ?_); rintro e w3 ⟨rfl, hb3⟩)
      go_roundw
      case rel => exact ⟨2, by omega, rfl, (ht.below ((Below.refl _ _).alloc (Nat.le_refl _) _)).below hb3, (hgr.alloc _).step hb3⟩
      case measure => simp [intOf]
    · clear HF HG
      have T2 := hide_ ht
      have hlt := ht.lt
      clear ht
      obtain ⟨wo, hwo⟩ : ∃ wo : World, wo = wr := ⟨_, rfl⟩
      subst hwo
      rw [show ((2 : Nat) : Int) = 2 from rfl]
      go_wp2
      go_loopw [27] (fun i wq => ∃ k : Nat, k ≤ 6 ∧ i = .int .i64 k ∧ Abc w.heap.size f g wq ∧ wq.heap[wo.heap.size]? = some (.cells #[.int .i8 (part (op97 f g) k 0), .int .i8 (part (op97 f g) k 1), .int .i8 (part (op97 f g) k 2), .int .i8 (part (op97 f g) k 3), .int .i8 (part (op97 f g) k 4), .int .i8 (part (op97 f g) k 5)] 54) ∧ Grew w.heap.size w wq) (fun i _ => 6 - (intOf i).toNat)
      case atStart => exact ⟨0, by omega, rfl, T2.out.below ((Below.refl _ _).alloc (Nat.le_refl _) _), heap_alloc_last _ _, hgr.alloc _⟩
      case round =>
        obtain ⟨k, hk, rfl, hq, hn, hgq⟩ := hrel
        by_cases hk6 : k < 6
        · have hbf := GF.out k hk6
          have hbg := GG.out k hk6
          have hca := cell_ar hq.g0 k hk6
          have hcb := cell_ar hq.g1 k hk6
          have hcn := cell_ar hn k hk6
          have hfn := free_ar hn k
          have hn2 := set_ar (h := op97 f g) hn hk6
          have Q2 := hide_ hq
          have hk0 : (0 : Int) ≤ (k : Int) := by omega
          have hk66 : (k : Int) < 6 := by omega
          have hwn : w.heap.size ≤ wo.heap.size := by omega
          have hw2 : w.heap.size + 2 < wo.heap.size := hlt
          have N2 := hide_ hn2
          clear hq hn hn2
          go_wp2
          go_region_with (go_at_call 97; (with_reducible refine (cl97 _ _ _ hbf hbg).mono ?_); rintro e w4 ⟨rfl, rfl⟩)
          all_goals
            go_wp2
            go_roundw
            case rel => exact ⟨k + 1, by omega, by go_num, (Q2.out.drew).set_ hw2, N2.out, (hgq.drew).setCell hwn _⟩
            case measure => simp [intOf]; omega
        · obtain rfl : k = 6 := by omega
          rw [part_all] at hn
          by_cases hgd : Good (op97 f g)
          · have HC := hide_ (fun wx => dcheck_ok (op97 f g) wx hgd)
            have n0 := hq.g2
            have hq2 := hq.lt
            have hql := lt_of_heap hn
            obtain ⟨c0, c1, c2, c3, c4, c5⟩ := cells_ar hn
            have HN := hide_ hn
            clear hn hq
            go_wp2_with (first | (go_at_call 55; (with_reducible refine (HC.out _).mono ?_); rintro e w5 ⟨rfl, hb5⟩; obtain ⟨p0, p1, p2, p3, p4, p5⟩ := cells_ar ((hb5.block _ hql).trans HN.out); have n2 := (hb5.block _ hq2).trans n0) | ((with_reducible apply wpList_store_blk); (with_reducible rfl); (with_reducible rfl); rfl; assumption; rfl; kernel_rfl; rfl; kernel_rfl))
            refine ret_ct rfl _ 54 _ _ rfl (setRow_heap _ _ _ _ _ _ n2) Try.underlying54 rfl (by kernel_rfl) rfl ⟨.inl ⟨hgd, ?_⟩, ?_⟩
            · simp
            · exact Grew.below (by repeat (first | exact Grew.refl _ | assumption | refine Grew.alloc ?_ _ | refine Grew.drewN ?_ _ | refine Grew.drew ?_ | refine Grew.setRow ?_ (by first | assumption | (simp; done) | (simp; omega) | omega) _ | refine Grew.setCell ?_ (by first | assumption | (simp; done) | (simp; omega) | omega) _ | refine Grew.step ?_ (by assumption)))
          · have HC := hide_ (fun wx => dcheck_no (op97 f g) wx hgd)
            have n0 := hq.g2
            have hq2 := hq.lt
            have hql := lt_of_heap hn
            obtain ⟨c0, c1, c2, c3, c4, c5⟩ := cells_ar hn
            have HN := hide_ hn
            clear hn hq
            go_wp2_with (first | (go_at_call 55; (with_reducible refine (HC.out _).mono ?_); rintro e w5 ⟨rfl, hb5⟩; obtain ⟨p0, p1, p2, p3, p4, p5⟩ := cells_ar ((hb5.block _ hql).trans HN.out); have n2 := (hb5.block _ hq2).trans n0) | ((with_reducible apply wpList_store_blk); (with_reducible rfl); (with_reducible rfl); rfl; assumption; rfl; kernel_rfl; rfl; kernel_rfl))
            refine ret_ct rfl _ 54 _ _ rfl (setRow_heap _ _ _ _ _ _ n2) Try.underlying54 rfl (by kernel_rfl) rfl ⟨.inr ⟨hgd, ?_⟩, ?_⟩
            · simp
            · exact Grew.below (by repeat (first | exact Grew.refl _ | assumption | refine Grew.alloc ?_ _ | refine Grew.drewN ?_ _ | refine Grew.drew ?_ | refine Grew.setRow ?_ (by first | assumption | (simp; done) | (simp; omega) | omega) _ | refine Grew.setCell ?_ (by first | assumption | (simp; done) | (simp; omega) | omega) _ | refine Grew.step ?_ (by assumption)))
end Go.Proofs.Ytklhdpkofpkmjaa
