/- second.pairs: the waters of one kind, of two lists. -/
import Derived.Test.YtcibbnphkpaifaaTf
namespace Go.Proofs.Ytcibbnphkpaifaa
open Go.RowKit
set_option linter.unusedVariables false
set_option maxRecDepth 100000
/-- Two rows of one's own that are not one. -/
def Apart (u v : Value) : Prop := ∀ k, u.ownBlock = some k → v.ownBlock ≠ some k
theorem Apart.fresh {u v u' : Value} {B : Nat} (h : Apart u v) (hf : Fresh u u' B) (hv : ∀ k, v.ownBlock = some k → k < B) : Apart u' v := by
  intro k hk hv'
  rcases hf with e | ⟨j, e, hj⟩
  · exact h k (by rw [← e]; exact hk) hv'
  · rw [e] at hk
    cases hk
    have := hv _ hv'
    omega
theorem Apart.symm {u v : Value} (h : Apart u v) : Apart v u := fun k hv hu => h k hu hv
theorem Apart.kept {w w' : World} {base : Nat} {e : TypeId} {size n : Nat} {u v : Value} {xs : List Value} (h : Apart u v) (hown : w.ownsRow base e size u n xs) (hg : w.grownBy w' v.ownBlock) : w'.ownsRow base e size u n xs :=
  hown.kept hg (by
    cases hu : u.ownBlock with
    | none => exact .inl rfl
    | some k => exact .inr (fun hv => h k hu hv.symm))
/-- A water and where its words lie. -/
structure Hz where
  x : Wt
  p : Option Addr
  c : Nat
  q : Option Addr
  d : Nat
def Hz.c6 (z : Hz) : List Value := [.int .i64 z.x.t, .int .i64 z.x.l, .bool z.x.top, .bool z.x.neg, .slice z.p z.x.A.length z.c, .slice z.q z.x.D.length z.d]
def Hz.rg (w : World) (z : Hz) : Prop := RG w (.agg #[.bool z.x.neg, .slice z.p z.x.A.length z.c, .slice z.q z.x.D.length z.d]) z.x.neg z.x.A z.x.D
theorem hz6 (z : Hz) : (Hz.c6 z).length = 6 := rfl
/-- A row of waters of one's own can be read. -/
theorem hz_wsl {w : World} {base n : Nat} {p : Option Addr} {c : Nat} {Z : List Hz} (h : w.ownsRow base 34 6 (.slice p n c) n (Z.flatMap Hz.c6)) (hn : n = Z.length) (hr : ∀ z ∈ Z, z.rg w) : WSl w p (Z.map Hz.x) := by
  subst hn
  rcases Nat.eq_zero_or_pos Z.length with h0 | h0
  · have : Z = [] := List.eq_nil_of_length_eq_zero h0
    subst this
    rcases h.2 with ⟨e, _⟩ | ⟨g, cap, cur, e, hb, hg, _⟩
    · cases e; exact .inl ⟨rfl, rfl⟩
    · cases e; exact .inr ⟨g, 0, rfl, lt_of_heap hg, fun i hi => absurd hi (by simp)⟩
  · obtain ⟨g, rfl, hbg, hg, hc⟩ := row_cells h h0
    refine .inr ⟨g, 0, rfl, hg, fun i hi => ?_⟩
    have hi' : i < Z.length := by simpa using hi
    have hz := hr Z[i] (List.getElem_mem hi')
    have k : ∀ j u, j < 6 → (Hz.c6 Z[i])[j]? = some u → w.cell? ⟨g, 0 + 6 * i + j, none⟩ = some u := fun j u hj hu => by
      rw [Nat.zero_add, Nat.mul_comm 6 i]
      exact hc _ _ (by rw [flat_get Hz.c6 6 hz6 Z i j hi' hj]; exact hu)
    simp only [List.getElem_map]
    exact ⟨Z[i].p, Z[i].c, Z[i].q, Z[i].d, k 0 _ (by decide) rfl, k 1 _ (by decide) rfl, k 2 _ (by decide) rfl, k 3 _ (by decide) rfl, k 4 _ (by decide) rfl, k 5 _ (by decide) rfl, hz⟩
/-- The pairs of waters of which the first is of one kind. -/
def pairL (top : Bool) (L M : List Wt) : List (Wt × Wt) := (L.zip M).filter fun x => x.1.top == top
theorem pairL_take {top : Bool} {L M : List Wt} {k : Nat} (h : L.length = M.length) (hk : k < L.length) :
    pairL top (L.take (k + 1)) (M.take (k + 1)) = pairL top (L.take k) (M.take k) ++ if (L[k].top == top) = true then [(L[k], M[k]'(h ▸ hk))] else [] := by
  have e : (L.take (k + 1)).zip (M.take (k + 1)) = (L.take k).zip (M.take k) ++ [(L[k], M[k]'(h ▸ hk))] := by
    have h0 : ∀ j, (L.take j).zip (M.take j) = (L.zip M).take j := fun j => by simp [List.zip, List.take_zipWith]
    rw [h0, h0]
    have hk2 : k < (L.zip M).length := by simp; omega
    rw [List.take_add_one, List.getElem?_eq_getElem hk2]
    simp
  unfold pairL
  rw [e, List.filter_append]
  cases hb : (L[k].top == top) <;> simp [hb]
/-- What stands at one place of two lists. -/
theorem pair_at {top : Bool} {L M : List Wt} {w : World} {pa pb : Option Addr} {k : Nat} (hLM : L.length = M.length) (hA : WSl w pa L) (hB : WSl w pb M) (hk : k < L.length) :
    ∃ (xa xb : Wt) (ga oa gb ob : Nat) (p1 : Option Addr) (c1 : Nat) (q1 : Option Addr) (d1 : Nat) (p2 : Option Addr) (c2 : Nat) (q2 : Option Addr) (d2 : Nat), pa = some ⟨ga, oa, none⟩ ∧ pb = some ⟨gb, ob, none⟩ ∧ Hid (pairL top (L.take (k + 1)) (M.take (k + 1)) = pairL top (L.take k) (M.take k) ++ if (xa.top == top) = true then [(xa, xb)] else []) ∧
      Hid (Hz.rg w ⟨xa, p1, c1, q1, d1⟩) ∧ Hid (Hz.rg w ⟨xb, p2, c2, q2, d2⟩) ∧
      Hid (∀ W, Below w.heap.size w W → W.cell? ⟨ga, oa + k * 6, none⟩ = some (.int .i64 xa.t) ∧ W.cell? ⟨ga, oa + k * 6 + 1, none⟩ = some (.int .i64 xa.l) ∧ W.cell? ⟨ga, oa + k * 6 + 2, none⟩ = some (.bool xa.top) ∧ W.cell? ⟨ga, oa + k * 6 + 3, none⟩ = some (.bool xa.neg) ∧ W.cell? ⟨ga, oa + k * 6 + 4, none⟩ = some (.slice p1 xa.A.length c1) ∧ W.cell? ⟨ga, oa + k * 6 + 5, none⟩ = some (.slice q1 xa.D.length d1)) ∧
      Hid (∀ W, Below w.heap.size w W → W.cell? ⟨gb, ob + k * 6, none⟩ = some (.int .i64 xb.t) ∧ W.cell? ⟨gb, ob + k * 6 + 1, none⟩ = some (.int .i64 xb.l) ∧ W.cell? ⟨gb, ob + k * 6 + 2, none⟩ = some (.bool xb.top) ∧ W.cell? ⟨gb, ob + k * 6 + 3, none⟩ = some (.bool xb.neg) ∧ W.cell? ⟨gb, ob + k * 6 + 4, none⟩ = some (.slice p2 xb.A.length c2) ∧ W.cell? ⟨gb, ob + k * 6 + 5, none⟩ = some (.slice q2 xb.D.length d2)) := by
  have hkB : k < M.length := by rw [← hLM]; exact hk
  obtain ⟨ga, oa, rfl⟩ : ∃ g o, pa = some ⟨g, o, none⟩ := by
    rcases hA with ⟨_, e⟩ | ⟨g, o, e, _⟩
    · rw [e] at hk; cases hk
    · exact ⟨g, o, e⟩
  obtain ⟨gb, ob, rfl⟩ : ∃ g o, pb = some ⟨g, o, none⟩ := by
    rcases hB with ⟨_, e⟩ | ⟨g, o, e, _⟩
    · rw [e] at hkB; cases hkB
    · exact ⟨g, o, e⟩
  obtain ⟨hga, p1, c1, q1, d1, ⟨a0, a1, a2, a3, a4, a5⟩, hra⟩ := hA.at hk
  obtain ⟨hgb, p2, c2, q2, d2, ⟨b0, b1, b2, b3, b4, b5⟩, hrb⟩ := hB.at hkB
  exact ⟨L[k], M[k], ga, oa, gb, ob, p1, c1, q1, d1, p2, c2, q2, d2, rfl, rfl, hide_ (pairL_take hLM hk), hide_ hra, hide_ hrb,
    hide_ fun W h => ⟨(h.cell hga).trans a0, (h.cell hga).trans a1, (h.cell hga).trans a2, (h.cell hga).trans a3, (h.cell hga).trans a4, (h.cell hga).trans a5⟩,
    hide_ fun W h => ⟨(h.cell hgb).trans b0, (h.cell hgb).trans b1, (h.cell hgb).trans b2, (h.cell hgb).trans b3, (h.cell hgb).trans b4, (h.cell hgb).trans b5⟩⟩
set_option maxHeartbeats 12800000 in
theorem pairs_any (pa pb : Option Addr) (n ca cb : Nat) (top : Bool) (L M : List Wt) (w : World) (hn : n = L.length) (hm : n = M.length) (hpa : WSl w pa L) (hpb : WSl w pb M) (hl : n ≤ 4096) :
    Calls Try.prog 62 #[.slice pa n ca, .slice pb n cb, .bool top] w fun e w' => (∃ p c q d m, e = .returned (.tuple #[.slice p m c, .slice q m d]) ∧ Hid (m = (pairL top L M).length) ∧ WSl w' p ((pairL top L M).map (·.1)) ∧ WSl w' q ((pairL top L M).map (·.2))) ∧ Below w.heap.size w w' := by
  have HA := hide_ (fun W (h : Below w.heap.size w W) => hpa.below h)
  have HB := hide_ (fun W (h : Below w.heap.size w W) => hpb.below h)
  have HL := hide_ hn
  have HLM := hide_ (show L.length = M.length by omega)
  clear hpa hpb hn hm
  obtain ⟨i0, hi, hz0, hz1, hz2⟩ := info_parts info_W
  go_enter Try.func62, Try.ntmps62
  go_wp2
  go_loopw [8, 9, 14] (fun u v i wr => ∃ k : Nat, k ≤ n ∧ i = .int .i64 k ∧ (∃ (ZA ZB : List Hz) (m : Nat), wr.ownsRow w.heap.size 34 6 u m (ZA.flatMap Hz.c6) ∧ wr.ownsRow w.heap.size 34 6 v m (ZB.flatMap Hz.c6) ∧ Hid (m ≤ k ∧ m = ZA.length ∧ m = ZB.length ∧ ZA.map Hz.x = (pairL top (L.take k) (M.take k)).map (·.1) ∧ ZB.map Hz.x = (pairL top (L.take k) (M.take k)).map (·.2) ∧ (∀ z ∈ ZA, z.rg w) ∧ (∀ z ∈ ZB, z.rg w))) ∧ Apart u v ∧ Grew w.heap.size w wr)
    (fun _ _ i _ => n - (intOf i).toNat)
  case atStart => exact ⟨0, by omega, rfl, ⟨[], [], 0, World.ownsRow_nil _ _ _ _, World.ownsRow_nil _ _ _ _, hide_ ⟨by omega, rfl, rfl, rfl, rfl, (fun z h => by cases h), (fun z h => by cases h)⟩⟩, (fun k hk => by cases hk), Grew.refl _⟩
  case round =>
    obtain ⟨k, hk, rfl, ⟨ZA, ZB, m, hu, hv, HH⟩, hap, hgr⟩ := hrel
    by_cases hlt : k < n
    · have hkA : k < L.length := by rw [← HL.out]; exact hlt
      obtain ⟨xa, xb, ga, oa, gb, ob, p1, c1, q1, d1, p2, c2, q2, d2, rfl, rfl, HT, HRA, HRB, HC, HD⟩ := pair_at (top := top) HLM.out (HA.out w (Below.refl _ _)) (HB.out w (Below.refl _ _)) hkA
      have HZA := hide_ (show Hz.c6 ⟨xa, p1, c1, q1, d1⟩ = [.int .i64 xa.t, .int .i64 xa.l, .bool xa.top, .bool xa.neg, .slice p1 xa.A.length c1, .slice q1 xa.D.length d1] from rfl)
      have HZB := hide_ (show Hz.c6 ⟨xb, p2, c2, q2, d2⟩ = [.int .i64 xb.t, .int .i64 xb.l, .bool xb.top, .bool xb.neg, .slice p2 xb.A.length c2, .slice q2 xb.D.length d2] from rfl)
      have hm := HH.out.1
      have HK := hide_ (show (⟨xa, p1, c1, q1, d1⟩ : Hz).x = xa ∧ (⟨xb, p2, c2, q2, d2⟩ : Hz).x = xb from ⟨rfl, rfl⟩)
      clear hkA
      generalize (⟨xa, p1, c1, q1, d1⟩ : Hz) = za at *
      generalize (⟨xb, p2, c2, q2, d2⟩ : Hz) = zb at *
      generalize xa.top = tk at *
      generalize xa.t = xa0 at *
      generalize xa.l = xa1 at *
      generalize xa.neg = xa3 at *
      generalize xa.A.length = xa4 at *
      generalize xa.D.length = xa5 at *
      generalize xb.top = xb2 at *
      generalize xb.t = xb0 at *
      generalize xb.l = xb1 at *
      generalize xb.neg = xb3 at *
      generalize xb.A.length = xb4 at *
      generalize xb.D.length = xb5 at *
      obtain ⟨a0, a1, a2, a3, a4, a5⟩ := HC.out _ hgr.below
      have hx1 := heap_alloc_last wr (.cells #[.int .i64 xa0, .int .i64 xa1, .bool tk, .bool xa3, .slice p1 xa4 c1, .slice q1 xa5 d1] 34)
      obtain ⟨e0, e1, e2, e3, e4, e5⟩ := cells_six hx1
      have hu1 := hu.alloc (.cells #[.int .i64 xa0, .int .i64 xa1, .bool tk, .bool xa3, .slice p1 xa4 c1, .slice q1 xa5 d1] 34)
      have hv1 := hv.alloc (.cells #[.int .i64 xa0, .int .i64 xa1, .bool tk, .bool xa3, .slice p1 xa4 c1, .slice q1 xa5 d1] 34)
      have hgr1 := hgr.alloc (.cells #[.int .i64 xa0, .int .i64 xa1, .bool tk, .bool xa3, .slice p1 xa4 c1, .slice q1 xa5 d1] 34)
      obtain ⟨b0, b1, b2, b3, b4, b5⟩ := HD.out _ hgr1.below
      have hkn : (m + 1) * 80 ≤ 140737488355328 := by omega
      cases hb : (tk == top)
      · go_wp2_with (first | ((with_reducible apply wpList_store_new); (with_reducible rfl); (with_reducible rfl); rfl; rfl; kernel_rfl; rfl; kernel_rfl))
        go_roundw
        case rel =>
          refine ⟨k + 1, by omega, by go_num, ⟨ZA, ZB, m, hu1, hv1, hide_ ?_⟩, hap, hgr1⟩
          obtain ⟨h1, h2, h3, h4, h5, h6, h7⟩ := HH.out
          have ht := HT.out
          rw [hb] at ht
          rw [ht]
          exact ⟨by omega, h2, h3, by simpa using h4, by simpa using h5, h6, h7⟩
        all_goals (simp [intOf]; omega)
      · have hbA := below_alloc (wr.alloc (.cells #[.int .i64 xa0, .int .i64 xa1, .bool tk, .bool xa3, .slice p1 xa4 c1, .slice q1 xa5 d1] 34)) (.cells #[.int .i64 xa0, .int .i64 xa1, .bool tk, .bool xa3, .slice p1 xa4 c1, .slice q1 xa5 d1] 34)
        have hbB := below_alloc (wr.alloc (.cells #[.int .i64 xa0, .int .i64 xa1, .bool tk, .bool xa3, .slice p1 xa4 c1, .slice q1 xa5 d1] 34)) (.cells #[.int .i64 xb0, .int .i64 xb1, .bool xb2, .bool xb3, .slice p2 xb4 c2, .slice q2 xb5 d2] 34)
        obtain ⟨f0, f1, f2, f3, f4, f5⟩ := HD.out _ (hgr1.alloc (.cells #[.int .i64 xa0, .int .i64 xa1, .bool tk, .bool xa3, .slice p1 xa4 c1, .slice q1 xa5 d1] 34)).below
        obtain ⟨g0, g1, g2, g3, g4, g5⟩ := cells_six (heap_past (o' := (.cells #[.int .i64 xb0, .int .i64 xb1, .bool xb2, .bool xb3, .slice p2 xb4 c2, .slice q2 xb5 d2] 34)) hx1)
        have hgrA : Grew w.heap.size w ((wr.alloc (.cells #[.int .i64 xa0, .int .i64 xa1, .bool tk, .bool xa3, .slice p1 xa4 c1, .slice q1 xa5 d1] 34)).alloc (.cells #[.int .i64 xa0, .int .i64 xa1, .bool tk, .bool xa3, .slice p1 xa4 c1, .slice q1 xa5 d1] 34)).drew := (hgr1.alloc (.cells #[.int .i64 xa0, .int .i64 xa1, .bool tk, .bool xa3, .slice p1 xa4 c1, .slice q1 xa5 d1] 34)).drew
        have huA : ((wr.alloc (.cells #[.int .i64 xa0, .int .i64 xa1, .bool tk, .bool xa3, .slice p1 xa4 c1, .slice q1 xa5 d1] 34)).alloc (.cells #[.int .i64 xa0, .int .i64 xa1, .bool tk, .bool xa3, .slice p1 xa4 c1, .slice q1 xa5 d1] 34)).drew.ownsRow w.heap.size 34 6 u8 m (ZA.flatMap Hz.c6) := hu1.alloc (.cells #[.int .i64 xa0, .int .i64 xa1, .bool tk, .bool xa3, .slice p1 xa4 c1, .slice q1 xa5 d1] 34)
        have hvA : ((wr.alloc (.cells #[.int .i64 xa0, .int .i64 xa1, .bool tk, .bool xa3, .slice p1 xa4 c1, .slice q1 xa5 d1] 34)).alloc (.cells #[.int .i64 xa0, .int .i64 xa1, .bool tk, .bool xa3, .slice p1 xa4 c1, .slice q1 xa5 d1] 34)).drew.ownsRow w.heap.size 34 6 u9 m (ZB.flatMap Hz.c6) := hv1.alloc (.cells #[.int .i64 xa0, .int .i64 xa1, .bool tk, .bool xa3, .slice p1 xa4 c1, .slice q1 xa5 d1] 34)
        have hgrAB : Grew w.heap.size w (((wr.alloc (.cells #[.int .i64 xa0, .int .i64 xa1, .bool tk, .bool xa3, .slice p1 xa4 c1, .slice q1 xa5 d1] 34)).alloc (.cells #[.int .i64 xa0, .int .i64 xa1, .bool tk, .bool xa3, .slice p1 xa4 c1, .slice q1 xa5 d1] 34)).alloc (.cells #[.int .i64 xb0, .int .i64 xb1, .bool xb2, .bool xb3, .slice p2 xb4 c2, .slice q2 xb5 d2] 34)).drew := ((hgr1.alloc (.cells #[.int .i64 xa0, .int .i64 xa1, .bool tk, .bool xa3, .slice p1 xa4 c1, .slice q1 xa5 d1] 34)).alloc (.cells #[.int .i64 xb0, .int .i64 xb1, .bool xb2, .bool xb3, .slice p2 xb4 c2, .slice q2 xb5 d2] 34)).drew
        have huAB : (((wr.alloc (.cells #[.int .i64 xa0, .int .i64 xa1, .bool tk, .bool xa3, .slice p1 xa4 c1, .slice q1 xa5 d1] 34)).alloc (.cells #[.int .i64 xa0, .int .i64 xa1, .bool tk, .bool xa3, .slice p1 xa4 c1, .slice q1 xa5 d1] 34)).alloc (.cells #[.int .i64 xb0, .int .i64 xb1, .bool xb2, .bool xb3, .slice p2 xb4 c2, .slice q2 xb5 d2] 34)).drew.ownsRow w.heap.size 34 6 u8 m (ZA.flatMap Hz.c6) := (hu1.alloc (.cells #[.int .i64 xa0, .int .i64 xa1, .bool tk, .bool xa3, .slice p1 xa4 c1, .slice q1 xa5 d1] 34)).alloc (.cells #[.int .i64 xb0, .int .i64 xb1, .bool xb2, .bool xb3, .slice p2 xb4 c2, .slice q2 xb5 d2] 34)
        have hvAB : (((wr.alloc (.cells #[.int .i64 xa0, .int .i64 xa1, .bool tk, .bool xa3, .slice p1 xa4 c1, .slice q1 xa5 d1] 34)).alloc (.cells #[.int .i64 xa0, .int .i64 xa1, .bool tk, .bool xa3, .slice p1 xa4 c1, .slice q1 xa5 d1] 34)).alloc (.cells #[.int .i64 xb0, .int .i64 xb1, .bool xb2, .bool xb3, .slice p2 xb4 c2, .slice q2 xb5 d2] 34)).drew.ownsRow w.heap.size 34 6 u9 m (ZB.flatMap Hz.c6) := (hv1.alloc (.cells #[.int .i64 xa0, .int .i64 xa1, .bool tk, .bool xa3, .slice p1 xa4 c1, .slice q1 xa5 d1] 34)).alloc (.cells #[.int .i64 xb0, .int .i64 xb1, .bool xb2, .bool xb3, .slice p2 xb4 c2, .slice q2 xb5 d2] 34)
        have hgrBA : Grew w.heap.size w (((wr.alloc (.cells #[.int .i64 xa0, .int .i64 xa1, .bool tk, .bool xa3, .slice p1 xa4 c1, .slice q1 xa5 d1] 34)).alloc (.cells #[.int .i64 xb0, .int .i64 xb1, .bool xb2, .bool xb3, .slice p2 xb4 c2, .slice q2 xb5 d2] 34)).alloc (.cells #[.int .i64 xa0, .int .i64 xa1, .bool tk, .bool xa3, .slice p1 xa4 c1, .slice q1 xa5 d1] 34)).drew := ((hgr1.alloc (.cells #[.int .i64 xb0, .int .i64 xb1, .bool xb2, .bool xb3, .slice p2 xb4 c2, .slice q2 xb5 d2] 34)).alloc (.cells #[.int .i64 xa0, .int .i64 xa1, .bool tk, .bool xa3, .slice p1 xa4 c1, .slice q1 xa5 d1] 34)).drew
        have huBA : (((wr.alloc (.cells #[.int .i64 xa0, .int .i64 xa1, .bool tk, .bool xa3, .slice p1 xa4 c1, .slice q1 xa5 d1] 34)).alloc (.cells #[.int .i64 xb0, .int .i64 xb1, .bool xb2, .bool xb3, .slice p2 xb4 c2, .slice q2 xb5 d2] 34)).alloc (.cells #[.int .i64 xa0, .int .i64 xa1, .bool tk, .bool xa3, .slice p1 xa4 c1, .slice q1 xa5 d1] 34)).drew.ownsRow w.heap.size 34 6 u8 m (ZA.flatMap Hz.c6) := (hu1.alloc (.cells #[.int .i64 xb0, .int .i64 xb1, .bool xb2, .bool xb3, .slice p2 xb4 c2, .slice q2 xb5 d2] 34)).alloc (.cells #[.int .i64 xa0, .int .i64 xa1, .bool tk, .bool xa3, .slice p1 xa4 c1, .slice q1 xa5 d1] 34)
        have hvBA : (((wr.alloc (.cells #[.int .i64 xa0, .int .i64 xa1, .bool tk, .bool xa3, .slice p1 xa4 c1, .slice q1 xa5 d1] 34)).alloc (.cells #[.int .i64 xb0, .int .i64 xb1, .bool xb2, .bool xb3, .slice p2 xb4 c2, .slice q2 xb5 d2] 34)).alloc (.cells #[.int .i64 xa0, .int .i64 xa1, .bool tk, .bool xa3, .slice p1 xa4 c1, .slice q1 xa5 d1] 34)).drew.ownsRow w.heap.size 34 6 u9 m (ZB.flatMap Hz.c6) := (hv1.alloc (.cells #[.int .i64 xb0, .int .i64 xb1, .bool xb2, .bool xb3, .slice p2 xb4 c2, .slice q2 xb5 d2] 34)).alloc (.cells #[.int .i64 xa0, .int .i64 xa1, .bool tk, .bool xa3, .slice p1 xa4 c1, .slice q1 xa5 d1] 34)
        have hAA : ((wr.alloc (.cells #[.int .i64 xa0, .int .i64 xa1, .bool tk, .bool xa3, .slice p1 xa4 c1, .slice q1 xa5 d1] 34)).alloc (.cells #[.int .i64 xa0, .int .i64 xa1, .bool tk, .bool xa3, .slice p1 xa4 c1, .slice q1 xa5 d1] 34)).drew.heap[(wr.alloc (.cells #[.int .i64 xa0, .int .i64 xa1, .bool tk, .bool xa3, .slice p1 xa4 c1, .slice q1 xa5 d1] 34)).heap.size]? = some (.cells #[.int .i64 xa0, .int .i64 xa1, .bool tk, .bool xa3, .slice p1 xa4 c1, .slice q1 xa5 d1] 34) := heap_alloc_last _ _
        have hAAB : (((wr.alloc (.cells #[.int .i64 xa0, .int .i64 xa1, .bool tk, .bool xa3, .slice p1 xa4 c1, .slice q1 xa5 d1] 34)).alloc (.cells #[.int .i64 xa0, .int .i64 xa1, .bool tk, .bool xa3, .slice p1 xa4 c1, .slice q1 xa5 d1] 34)).alloc (.cells #[.int .i64 xb0, .int .i64 xb1, .bool xb2, .bool xb3, .slice p2 xb4 c2, .slice q2 xb5 d2] 34)).drew.heap[(wr.alloc (.cells #[.int .i64 xa0, .int .i64 xa1, .bool tk, .bool xa3, .slice p1 xa4 c1, .slice q1 xa5 d1] 34)).heap.size]? = some (.cells #[.int .i64 xa0, .int .i64 xa1, .bool tk, .bool xa3, .slice p1 xa4 c1, .slice q1 xa5 d1] 34) := heap_past (heap_alloc_last _ _)
        have hBAB : (((wr.alloc (.cells #[.int .i64 xa0, .int .i64 xa1, .bool tk, .bool xa3, .slice p1 xa4 c1, .slice q1 xa5 d1] 34)).alloc (.cells #[.int .i64 xa0, .int .i64 xa1, .bool tk, .bool xa3, .slice p1 xa4 c1, .slice q1 xa5 d1] 34)).alloc (.cells #[.int .i64 xb0, .int .i64 xb1, .bool xb2, .bool xb3, .slice p2 xb4 c2, .slice q2 xb5 d2] 34)).drew.heap[((wr.alloc (.cells #[.int .i64 xa0, .int .i64 xa1, .bool tk, .bool xa3, .slice p1 xa4 c1, .slice q1 xa5 d1] 34)).alloc (.cells #[.int .i64 xa0, .int .i64 xa1, .bool tk, .bool xa3, .slice p1 xa4 c1, .slice q1 xa5 d1] 34)).heap.size]? = some (.cells #[.int .i64 xb0, .int .i64 xb1, .bool xb2, .bool xb3, .slice p2 xb4 c2, .slice q2 xb5 d2] 34) := heap_alloc_last _ _
        have hABA : (((wr.alloc (.cells #[.int .i64 xa0, .int .i64 xa1, .bool tk, .bool xa3, .slice p1 xa4 c1, .slice q1 xa5 d1] 34)).alloc (.cells #[.int .i64 xb0, .int .i64 xb1, .bool xb2, .bool xb3, .slice p2 xb4 c2, .slice q2 xb5 d2] 34)).alloc (.cells #[.int .i64 xa0, .int .i64 xa1, .bool tk, .bool xa3, .slice p1 xa4 c1, .slice q1 xa5 d1] 34)).drew.heap[((wr.alloc (.cells #[.int .i64 xa0, .int .i64 xa1, .bool tk, .bool xa3, .slice p1 xa4 c1, .slice q1 xa5 d1] 34)).alloc (.cells #[.int .i64 xb0, .int .i64 xb1, .bool xb2, .bool xb3, .slice p2 xb4 c2, .slice q2 xb5 d2] 34)).heap.size]? = some (.cells #[.int .i64 xa0, .int .i64 xa1, .bool tk, .bool xa3, .slice p1 xa4 c1, .slice q1 xa5 d1] 34) := heap_alloc_last _ _
        have hBBA : (((wr.alloc (.cells #[.int .i64 xa0, .int .i64 xa1, .bool tk, .bool xa3, .slice p1 xa4 c1, .slice q1 xa5 d1] 34)).alloc (.cells #[.int .i64 xb0, .int .i64 xb1, .bool xb2, .bool xb3, .slice p2 xb4 c2, .slice q2 xb5 d2] 34)).alloc (.cells #[.int .i64 xa0, .int .i64 xa1, .bool tk, .bool xa3, .slice p1 xa4 c1, .slice q1 xa5 d1] 34)).drew.heap[(wr.alloc (.cells #[.int .i64 xa0, .int .i64 xa1, .bool tk, .bool xa3, .slice p1 xa4 c1, .slice q1 xa5 d1] 34)).heap.size]? = some (.cells #[.int .i64 xb0, .int .i64 xb1, .bool xb2, .bool xb3, .slice p2 xb4 c2, .slice q2 xb5 d2] 34) := heap_past (heap_alloc_last _ _)
        have hluA : ∀ k, u8.ownBlock = some k → k < wr.heap.size := fun k hk => (hu.lt k hk).2
        go_wp2_with (first | ((with_reducible apply wpList_store_new); (with_reducible rfl); (with_reducible rfl); rfl; rfl; kernel_rfl; rfl; kernel_rfl))
        have tok1 : True := trivial
        have tok2 : True := trivial
        go_region_law (first
          | (have _t := tok1; refine step_push rfl (.tmp 23) (.tmp 25) 22 rfl w.heap.size 34 i0 (.agg #[.int .i64 0, .int .i64 0, .bool false, .bool false, .slice none 0 0, .slice none 0 0]) 6 80 Try.underlying22 hi hz0 hz1 hz2 rfl (by decide) (by decide) u8 m _ (by simp [Act.eval]) huA (wr.alloc (.cells #[.int .i64 xa0, .int .i64 xa1, .bool tk, .bool xa3, .slice p1 xa4 c1, .slice q1 xa5 d1] 34)).heap.size #[.int .i64 xa0, .int .i64 xa1, .bool tk, .bool xa3, .slice p1 xa4 c1, .slice q1 xa5 d1] 34 1 1 (by simp [Act.eval]) hAA rfl (by kernel_rfl) hkn hgrA.2 ?_
             intro u' w3 ho3 hg3 hf3 hn3
             have hgr3 := own_grew hgrA huA hg3
             have hv3 := (hap.symm).kept hvA hg3
             have hap3 := hap.fresh hf3 (fun k hk => (hvA.lt k hk).2)
             obtain ⟨l0, l1, l2, l3, l4, l5⟩ := HD.out _ hgr3.below
             clear tok1)
          | (have _t := tok1; refine step_push rfl (.tmp 23) (.tmp 25) 22 rfl w.heap.size 34 i0 (.agg #[.int .i64 0, .int .i64 0, .bool false, .bool false, .slice none 0 0, .slice none 0 0]) 6 80 Try.underlying22 hi hz0 hz1 hz2 rfl (by decide) (by decide) u8 m _ (by simp [Act.eval]) huAB (wr.alloc (.cells #[.int .i64 xa0, .int .i64 xa1, .bool tk, .bool xa3, .slice p1 xa4 c1, .slice q1 xa5 d1] 34)).heap.size #[.int .i64 xa0, .int .i64 xa1, .bool tk, .bool xa3, .slice p1 xa4 c1, .slice q1 xa5 d1] 34 1 1 (by simp [Act.eval]) hAAB rfl (by kernel_rfl) hkn hgrAB.2 ?_
             intro u' w3 ho3 hg3 hf3 hn3
             have hgr3 := own_grew hgrAB huAB hg3
             have hv3 := (hap.symm).kept hvAB hg3
             have hap3 := hap.fresh hf3 (fun k hk => (hvAB.lt k hk).2)
             obtain ⟨l0, l1, l2, l3, l4, l5⟩ := HD.out _ hgr3.below
             have hBl : w3.heap[((wr.alloc (.cells #[.int .i64 xa0, .int .i64 xa1, .bool tk, .bool xa3, .slice p1 xa4 c1, .slice q1 xa5 d1] 34)).alloc (.cells #[.int .i64 xa0, .int .i64 xa1, .bool tk, .bool xa3, .slice p1 xa4 c1, .slice q1 xa5 d1] 34)).heap.size]? = some (.cells #[.int .i64 xb0, .int .i64 xb1, .bool xb2, .bool xb3, .slice p2 xb4 c2, .slice q2 xb5 d2] 34) := (hg3.block _ (lt_of_heap hBAB) (fun e => by have := hluA _ e.symm; simp at this; omega)).trans hBAB
             clear tok1)
          | (have _t := tok1; refine step_push rfl (.tmp 23) (.tmp 25) 22 rfl w.heap.size 34 i0 (.agg #[.int .i64 0, .int .i64 0, .bool false, .bool false, .slice none 0 0, .slice none 0 0]) 6 80 Try.underlying22 hi hz0 hz1 hz2 rfl (by decide) (by decide) u8 m _ (by simp [Act.eval]) huBA ((wr.alloc (.cells #[.int .i64 xa0, .int .i64 xa1, .bool tk, .bool xa3, .slice p1 xa4 c1, .slice q1 xa5 d1] 34)).alloc (.cells #[.int .i64 xb0, .int .i64 xb1, .bool xb2, .bool xb3, .slice p2 xb4 c2, .slice q2 xb5 d2] 34)).heap.size #[.int .i64 xa0, .int .i64 xa1, .bool tk, .bool xa3, .slice p1 xa4 c1, .slice q1 xa5 d1] 34 1 1 (by simp [Act.eval]) hABA rfl (by kernel_rfl) hkn hgrBA.2 ?_
             intro u' w3 ho3 hg3 hf3 hn3
             have hgr3 := own_grew hgrBA huBA hg3
             have hv3 := (hap.symm).kept hvBA hg3
             have hap3 := hap.fresh hf3 (fun k hk => (hvBA.lt k hk).2)
             obtain ⟨l0, l1, l2, l3, l4, l5⟩ := HD.out _ hgr3.below
             have hBl : w3.heap[(wr.alloc (.cells #[.int .i64 xa0, .int .i64 xa1, .bool tk, .bool xa3, .slice p1 xa4 c1, .slice q1 xa5 d1] 34)).heap.size]? = some (.cells #[.int .i64 xb0, .int .i64 xb1, .bool xb2, .bool xb3, .slice p2 xb4 c2, .slice q2 xb5 d2] 34) := (hg3.block _ (lt_of_heap hBBA) (fun e => by have := hluA _ e.symm; simp at this; omega)).trans hBBA
             clear tok1)
          | (have _t := tok2; refine step_push rfl (.tmp 27) (.tmp 32) 22 rfl w.heap.size 34 i0 (.agg #[.int .i64 0, .int .i64 0, .bool false, .bool false, .slice none 0 0, .slice none 0 0]) 6 80 Try.underlying22 hi hz0 hz1 hz2 rfl (by decide) (by decide) u9 m _ (by simp [Act.eval]) (hv3.alloc (.cells #[.int .i64 xb0, .int .i64 xb1, .bool xb2, .bool xb3, .slice p2 xb4 c2, .slice q2 xb5 d2] 34)) w3.heap.size #[.int .i64 xb0, .int .i64 xb1, .bool xb2, .bool xb3, .slice p2 xb4 c2, .slice q2 xb5 d2] 34 1 1 (by simp [Act.eval]) (heap_alloc_last _ _) rfl (by kernel_rfl) hkn (hgr3.alloc (.cells #[.int .i64 xb0, .int .i64 xb1, .bool xb2, .bool xb3, .slice p2 xb4 c2, .slice q2 xb5 d2] 34)).2 ?_
             intro v' w5 ho5 hg5 hf5 hn5
             have hgr5 := own_grew (hgr3.alloc (.cells #[.int .i64 xb0, .int .i64 xb1, .bool xb2, .bool xb3, .slice p2 xb4 c2, .slice q2 xb5 d2] 34)) (hv3.alloc (.cells #[.int .i64 xb0, .int .i64 xb1, .bool xb2, .bool xb3, .slice p2 xb4 c2, .slice q2 xb5 d2] 34)) hg5
             have hu5 := hap3.kept (ho3.alloc (.cells #[.int .i64 xb0, .int .i64 xb1, .bool xb2, .bool xb3, .slice p2 xb4 c2, .slice q2 xb5 d2] 34)) hg5
             have hap5 := (hap3.symm.fresh hf5 (fun k hk => ((ho3.alloc (.cells #[.int .i64 xb0, .int .i64 xb1, .bool xb2, .bool xb3, .slice p2 xb4 c2, .slice q2 xb5 d2] 34)).lt k hk).2)).symm
             clear tok2)
          | (have _t := tok2; refine step_push rfl (.tmp 27) (.tmp 32) 22 rfl w.heap.size 34 i0 (.agg #[.int .i64 0, .int .i64 0, .bool false, .bool false, .slice none 0 0, .slice none 0 0]) 6 80 Try.underlying22 hi hz0 hz1 hz2 rfl (by decide) (by decide) u9 m _ (by simp [Act.eval]) hv3 ((wr.alloc (.cells #[.int .i64 xa0, .int .i64 xa1, .bool tk, .bool xa3, .slice p1 xa4 c1, .slice q1 xa5 d1] 34)).alloc (.cells #[.int .i64 xa0, .int .i64 xa1, .bool tk, .bool xa3, .slice p1 xa4 c1, .slice q1 xa5 d1] 34)).heap.size #[.int .i64 xb0, .int .i64 xb1, .bool xb2, .bool xb3, .slice p2 xb4 c2, .slice q2 xb5 d2] 34 1 1 (by simp [Act.eval]) hBl rfl (by kernel_rfl) hkn hgr3.2 ?_
             intro v' w5 ho5 hg5 hf5 hn5
             have hgr5 := own_grew hgr3 hv3 hg5
             have hu5 := hap3.kept ho3 hg5
             have hap5 := (hap3.symm.fresh hf5 (fun k hk => (ho3.lt k hk).2)).symm
             clear tok2)
          | (have _t := tok2; refine step_push rfl (.tmp 27) (.tmp 32) 22 rfl w.heap.size 34 i0 (.agg #[.int .i64 0, .int .i64 0, .bool false, .bool false, .slice none 0 0, .slice none 0 0]) 6 80 Try.underlying22 hi hz0 hz1 hz2 rfl (by decide) (by decide) u9 m _ (by simp [Act.eval]) hv3 (wr.alloc (.cells #[.int .i64 xa0, .int .i64 xa1, .bool tk, .bool xa3, .slice p1 xa4 c1, .slice q1 xa5 d1] 34)).heap.size #[.int .i64 xb0, .int .i64 xb1, .bool xb2, .bool xb3, .slice p2 xb4 c2, .slice q2 xb5 d2] 34 1 1 (by simp [Act.eval]) hBl rfl (by kernel_rfl) hkn hgr3.2 ?_
             intro v' w5 ho5 hg5 hf5 hn5
             have hgr5 := own_grew hgr3 hv3 hg5
             have hu5 := hap3.kept ho3 hg5
             have hap5 := (hap3.symm.fresh hf5 (fun k hk => (ho3.lt k hk).2)).symm
             clear tok2))
        all_goals go_wp2
        all_goals go_roundw
        all_goals first
          | (case rel =>
              refine ⟨k + 1, by omega, by go_num, ⟨ZA ++ [za], ZB ++ [zb], m + 1, ?_, ?_, hide_ ?_⟩, hap5, hgr5⟩
              · rw [List.flatMap_append, List.flatMap_cons, List.flatMap_nil, List.append_nil, HZA.out]; exact hu5
              · rw [List.flatMap_append, List.flatMap_cons, List.flatMap_nil, List.append_nil, HZB.out]; exact ho5
              · obtain ⟨h1, h2, h3, h4, h5, h6, h7⟩ := HH.out
                obtain ⟨k1, k2⟩ := HK.out
                have ht := HT.out
                rw [hb, if_pos rfl] at ht
                rw [ht]
                refine ⟨by omega, by simp; omega, by simp; omega, by simp [h4, k1], by simp [h5, k2], fun z hz => ?_, fun z hz => ?_⟩
                · rcases List.mem_append.1 hz with hz | hz
                  · exact h6 z hz
                  · rw [List.mem_singleton.1 hz]; exact HRA.out
                · rcases List.mem_append.1 hz with hz | hz
                  · exact h7 z hz
                  · rw [List.mem_singleton.1 hz]; exact HRB.out)
          | skip
        all_goals (simp [intOf]; omega)
    · obtain rfl : k = n := by omega
      obtain ⟨p5, c5, rfl⟩ := row_slice hu
      obtain ⟨q5, d5, rfl⟩ := row_slice hv
      obtain ⟨h1, h2, h3, h4, h5, h6, h7⟩ := HH.out
      have ht : pairL top (L.take k) (M.take k) = pairL top L M := by rw [List.take_of_length_le (by rw [← HL.out]; omega), List.take_of_length_le (by rw [← HLM.out, ← HL.out]; omega)]
      rw [ht] at h4 h5
      have f1 := hz_wsl hu h2 (fun z hz => (h6 z hz).below hgr.below)
      have f2 := hz_wsl hv h3 (fun z hz => (h7 z hz).below hgr.below)
      rw [h4] at f1
      rw [h5] at f2
      have HM := hide_ (show m = (pairL top L M).length by rw [h2, ← List.length_map (f := Hz.x), h4, List.length_map])
      have HF := hide_ (⟨f1, f2⟩ : _ ∧ _)
      clear h1 h2 h3 h4 h5 h6 h7 ht f1 f2
      go_wp2
      go_ret2
      exact ⟨⟨p5, c5, q5, d5, m, rfl, HM, HF.out.1, HF.out.2⟩, hgr.below⟩
end Go.Proofs.Ytcibbnphkpaifaa
