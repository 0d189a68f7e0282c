/- Chapter 20: Without at two lists of places. -/
import Derived.Test.YtlgnidjkilbdfaaNa
namespace Go.Proofs.Ytlgnidjkilbdfaa
open Go.RowKit Ieee
set_option linter.unusedVariables false
set_option maxRecDepth 100000
set_option maxHeartbeats 1600000 in
theorem without_bad (p : Option Addr) (c g d : Nat) (w : World) (h0 : w.cell? ⟨g, 0, none⟩ = some (.int .i64 1)) (h1 : w.cell? ⟨g, 1, none⟩ = some (.int .i64 0)) :
    Calls Try.prog 65 #[.slice p 5 c, .slice (some ⟨g, 0, none⟩) 2 d] w fun e w' => e = .returned (.tuple #[.slice none 0 0, .int .i64 2]) ∧ w = w' := by
  go_enter Try.func65, Try.ntmps65
  go_wp2
  go_loopw [21] (fun i wr => ∃ k : Nat, k ≤ 1 ∧ i = .int .i64 k ∧ wr = w) (fun i _ => 2 - (intOf i).toNat)
  case atStart => exact ⟨0, by omega, rfl, rfl⟩
  case round =>
    obtain ⟨k, hk, rfl, rfl⟩ := hrel
    rcases (show k = 0 ∨ k = 1 by omega) with rfl | rfl
    · go_wp2
      exact ⟨⟨1, by omega, rfl, trivial⟩, by decide⟩
    · go_wp2
      go_ret2
      exact ⟨rfl, rfl⟩
def WO (a : Nat) : Rc := match a with | 0 => [] | 1 => [] | 2 => [(0, 4607182418800017408)] | 3 => [(0, 4607182418800017408)] | 4 => [(0, 4607182418800017408), (0, 4607182418800017408)] | _ => [(0, 4607182418800017408), (0, 4607182418800017408), (0, 4607182418800017408)]
def WK (a : Nat) : Nat := match a with | 0 => 0 | 1 => 1 | 2 => 1 | _ => 2
set_option maxHeartbeats 3200000 in
theorem without_ok (p : Option Addr) (c g d : Nat) (w : World) (hp : TL w p SP) (hg : g < w.heap.size) (h0 : w.cell? ⟨g, 0, none⟩ = some (.int .i64 0)) (h1 : w.cell? ⟨g, 1, none⟩ = some (.int .i64 2)) :
    Calls Try.prog 65 #[.slice p 5 c, .slice (some ⟨g, 0, none⟩) 2 d] w fun e w' => (∃ v, e = .returned (.tuple #[v, .int .i64 0]) ∧ SL w' w.heap.size v (WO 5)) ∧ Below w.heap.size w w' := by
  obtain ⟨g', o', rfl, hg', hc⟩ := hp.some_ (k := 0) (by decide)
  have HC0 := hide_ (fun W (h : Below w.heap.size w W) => And.intro ((h.cell (p := ⟨g, 0, none⟩) hg).trans h0) ((h.cell (p := ⟨g, 1, none⟩) hg).trans h1))
  have HCA := hide_ (fun k (hk : k < 5) W (h : Below w.heap.size w W) => And.intro ((h.cell (p := ⟨g', o' + k * 2, none⟩) hg').trans (hc k hk).1) ((h.cell (p := ⟨g', o' + k * 2 + 1, none⟩) hg').trans (hc k hk).2))
  obtain ⟨i0, hi0, hz0, hz1, hz2⟩ := info_parts info26
  have hn0 : 0 < w.heap.size := by omega
  clear hc hp
  go_enter Try.func65, Try.ntmps65
  go_wp2
  go_loopw [21] (fun i wr => ∃ k : Nat, k ≤ 2 ∧ i = .int .i64 k ∧ wr = w) (fun i _ => 2 - (intOf i).toNat)
  case atStart => exact ⟨0, by omega, rfl, rfl⟩
  case round =>
    obtain ⟨k, hk, rfl, rfl⟩ := hrel
    rcases (show k = 0 ∨ k = 1 ∨ k = 2 by omega) with rfl | rfl | rfl
    · go_wp2
      exact ⟨⟨1, by omega, rfl, trivial⟩, by decide⟩
    · go_wp2
      exact ⟨⟨2, by omega, rfl, trivial⟩, by decide⟩
    · go_wp2
      obtain ⟨wo, hwo⟩ : ∃ wo, wo = wr := ⟨_, rfl⟩
      subst hwo
      go_loopw [8, 9, 10] (fun u i j wr => ∃ a : Nat, a ≤ 5 ∧ i = .int .i64 a ∧ j = .int .i64 (WK a) ∧ SL wr wo.heap.size u (WO a) ∧ Grew wo.heap.size wo wr) (fun _ i _ _ => 5 - (intOf i).toNat)
      case atStart => exact ⟨0, by omega, rfl, rfl, World.ownsRow_nil _ _ _ _, Grew.refl _⟩
      case round =>
        obtain ⟨a, ha, rfl, rfl, hu, hgr⟩ := hrel
        obtain ⟨x0, x1⟩ := HC0.out _ hgr.below
        rcases (show a = 0 ∨ a = 1 ∨ a = 2 ∨ a = 3 ∨ a = 4 ∨ a = 5 by omega) with rfl | rfl | rfl | rfl | rfl | rfl
        · simp only [WK]
          go_wp2
          exact ⟨⟨1, by omega, rfl, rfl, hu, hgr⟩, by decide⟩
        · have hu2 : World.ownsRow wr wo.heap.size 26 2 u8 0 (flat (WO 1)) := hu
          obtain ⟨e0, e1⟩ := HCA.out 1 (by decide) _ hgr.below
          have e0 : wr.cell? ⟨g', o' + 2, none⟩ = some (.int .i64 0) := e0
          have e1 : wr.cell? ⟨g', o' + 2 + 1, none⟩ = some (.float .f64 4607182418800017408) := e1
          simp only [WK]
          clear hu
          go_wp2_with (at_builtin; go_must (
            refine wpList_push2 rfl _ _ 23 rfl wo.heap.size 26 i0 (.agg #[.int .i64 0, .float .f64 0]) 2 16 Try.underlying23 hi0 hz0 hz1 hz2 rfl (by decide) (by decide) _ 0 _ rfl (hu2.alloc _) wr.heap.size #[.int .i64 0, .float .f64 4607182418800017408] 26 1 1 rfl (heap_alloc_last _ _) rfl (by kernel_rfl) (by decide) (hgr.alloc _).2 ?_
            intro v' w6 ho6 hg6 hf6 hn6
            have hgr6 := own_grew (hgr.alloc (.cells #[.int .i64 0, .float .f64 4607182418800017408] 26)) (hu2.alloc (.cells #[.int .i64 0, .float .f64 4607182418800017408] 26)) hg6))
          exact ⟨⟨_, _, _, ⟨2, by omega, rfl, rfl, ho6⟩, rfl, rfl, rfl⟩, by decide⟩
        · simp only [WK]
          go_wp2
          exact ⟨⟨3, by omega, rfl, rfl, hu, hgr⟩, by decide⟩
        · have hu2 : World.ownsRow wr wo.heap.size 26 2 u8 1 (flat (WO 3)) := hu
          obtain ⟨e0, e1⟩ := HCA.out 3 (by decide) _ hgr.below
          have e0 : wr.cell? ⟨g', o' + 6, none⟩ = some (.int .i64 0) := e0
          have e1 : wr.cell? ⟨g', o' + 6 + 1, none⟩ = some (.float .f64 4607182418800017408) := e1
          simp only [WK]
          clear hu
          go_wp2_with (at_builtin; go_must (
            refine wpList_push2 rfl _ _ 23 rfl wo.heap.size 26 i0 (.agg #[.int .i64 0, .float .f64 0]) 2 16 Try.underlying23 hi0 hz0 hz1 hz2 rfl (by decide) (by decide) _ 1 _ rfl (hu2.alloc _) wr.heap.size #[.int .i64 0, .float .f64 4607182418800017408] 26 1 1 rfl (heap_alloc_last _ _) rfl (by kernel_rfl) (by decide) (hgr.alloc _).2 ?_
            intro v' w6 ho6 hg6 hf6 hn6
            have hgr6 := own_grew (hgr.alloc (.cells #[.int .i64 0, .float .f64 4607182418800017408] 26)) (hu2.alloc (.cells #[.int .i64 0, .float .f64 4607182418800017408] 26)) hg6))
          exact ⟨⟨_, _, _, ⟨4, by omega, rfl, rfl, ho6⟩, rfl, rfl, rfl⟩, by decide⟩
        · have hu2 : World.ownsRow wr wo.heap.size 26 2 u8 2 (flat (WO 4)) := hu
          obtain ⟨e0, e1⟩ := HCA.out 4 (by decide) _ hgr.below
          have e0 : wr.cell? ⟨g', o' + 8, none⟩ = some (.int .i64 0) := e0
          have e1 : wr.cell? ⟨g', o' + 8 + 1, none⟩ = some (.float .f64 4607182418800017408) := e1
          simp only [WK]
          clear hu
          go_wp2_with (at_builtin; go_must (
            refine wpList_push2 rfl _ _ 23 rfl wo.heap.size 26 i0 (.agg #[.int .i64 0, .float .f64 0]) 2 16 Try.underlying23 hi0 hz0 hz1 hz2 rfl (by decide) (by decide) _ 2 _ rfl (hu2.alloc _) wr.heap.size #[.int .i64 0, .float .f64 4607182418800017408] 26 1 1 rfl (heap_alloc_last _ _) rfl (by kernel_rfl) (by decide) (hgr.alloc _).2 ?_
            intro v' w6 ho6 hg6 hf6 hn6
            have hgr6 := own_grew (hgr.alloc (.cells #[.int .i64 0, .float .f64 4607182418800017408] 26)) (hu2.alloc (.cells #[.int .i64 0, .float .f64 4607182418800017408] 26)) hg6))
          exact ⟨⟨_, _, _, ⟨5, by omega, rfl, rfl, ho6⟩, rfl, rfl, rfl⟩, by decide⟩
        · simp only [WK]
          have HU := hide_ hu
          clear hu
          go_wp2
          go_ret2
          exact ⟨⟨_, rfl, HU.out⟩, hgr.below⟩
end Go.Proofs.Ytlgnidjkilbdfaa
