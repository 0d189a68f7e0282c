/- Chapter 20: the reference's Merge. -/
import Derived.Test.YtlgnidjkilbdfaaMj
namespace Go.Proofs.Ytlgnidjkilbdfaa
open Go.RowKit Go.Maps Ieee
set_option linter.unusedVariables false
set_option maxRecDepth 100000
theorem KT_has {P : Rc} (hr : ∀ x ∈ P, 0 ≤ x.1 ∧ x.1 ≤ 1048576) {t : Int} : t ∈ KT P ↔ ∃ x ∈ P, x.1 = t := by
  rw [KT_mem hr]
  constructor
  · intro h
    obtain ⟨y, hy⟩ := List.exists_mem_of_ne_nil _ h
    exact ⟨_, hts_mem.1 hy, rfl⟩
  · rintro ⟨x, hx, rfl⟩ e
    have h1 : x.2 ∈ hts P x.1 := hts_mem.2 hx
    rw [e] at h1
    cases h1
theorem asc_lt {L : List Int} (h : L.Pairwise (· < ·)) {i j : Nat} (hij : i < j) (hj : j < L.length) : L.getD i 0 < L.getD j 0 := by
  rw [List.getD_eq_getElem?_getD, List.getD_eq_getElem?_getD, List.getElem?_eq_getElem hj, List.getElem?_eq_getElem (by omega), Option.getD_some, Option.getD_some]
  exact List.pairwise_iff_getElem.1 h i j (by omega) hj hij
theorem Nx.at_ {P : Rc} {Ks : List Int} (ha : Ks.Pairwise (· < ·)) (hm : ∀ t, t ∈ Ks ↔ ∃ x ∈ P, x.1 = t) {t b : Int} {s : Bool} (h : Nx P t b s) {k : Nat} (h1 : ∀ j, j < k → j < Ks.length → Ks.getD j 0 ≤ t) (h2 : ∀ j, k ≤ j → j < Ks.length → t < Ks.getD j 0) :
    s = decide (k < Ks.length) ∧ (k < Ks.length → b = Ks.getD k 0) := by
  have hmem : ∀ j, j < Ks.length → Ks.getD j 0 ∈ Ks := fun j hj => by
    rw [List.getD_eq_getElem?_getD, List.getElem?_eq_getElem hj, Option.getD_some]
    exact List.getElem_mem hj
  have hidx : ∀ x ∈ P, ∃ j, j < Ks.length ∧ Ks.getD j 0 = x.1 := fun x hx => by
    obtain ⟨j, hj, e⟩ := List.getElem_of_mem ((hm x.1).2 ⟨x, hx, rfl⟩)
    exact ⟨j, hj, by rw [List.getD_eq_getElem?_getD, List.getElem?_eq_getElem hj, Option.getD_some, e]⟩
  by_cases hk : k < Ks.length
  · obtain ⟨y, hy, hyk⟩ := (hm _).1 (hmem k hk)
    have hty := h2 k (Nat.le_refl _) hk
    cases s
    · have := h.no rfl y hy
      omega
    · refine ⟨by simp [hk], fun _ => ?_⟩
      obtain ⟨g1, ⟨z, hz, hzb⟩, g3⟩ := h.yes rfl
      have g4 := g3 y hy (by omega)
      obtain ⟨j, hj, hje⟩ := hidx z hz
      rcases Nat.lt_trichotomy j k with hjk | rfl | hjk
      · have := h1 j hjk hj
        omega
      · omega
      · have := asc_lt ha hjk hj
        omega
  · refine ⟨?_, fun h => absurd h hk⟩
    cases s
    · simp [hk]
    · obtain ⟨g1, ⟨z, hz, hzb⟩, g3⟩ := h.yes rfl
      obtain ⟨j, hj, hje⟩ := hidx z hz
      have := h1 j (by omega) hj
      omega
def lenV (v : Value) : Nat := match v with | .slice _ n _ => n | _ => 0
theorem lenV_own {w : World} {b e s n : Nat} {v : Value} {xs : List Value} (h : w.ownsRow b e s v n xs) : lenV v = n := by
  obtain ⟨p, c, rfl⟩ := row_slice h
  rfl
theorem badT_any {L : Rc} {m : Nat} (h : m < L.length) (hb : badT (L.getD m (0, 0)) = true) : L.any badT = true := List.any_eq_true.2 ⟨_, mem_getD h, hb⟩
theorem badT_none {L : Rc} (h : ∀ m, m < L.length → badT (L.getD m (0, 0)) = false) : L.any badT = false := by
  rw [List.any_eq_false]
  intro x hx
  obtain ⟨m, hm, rfl⟩ := List.getElem_of_mem hx
  have := h m hm
  rw [List.getD_eq_getElem?_getD, List.getElem?_eq_getElem hm, Option.getD_some] at this
  rw [this]
  simp
theorem rmerge_many (p : Option Addr) (n c : Nat) (w : World) (h : 16 < n) :
    Calls Try.prog 62 #[.slice p n c] w fun e w' => e = .returned (.tuple #[.slice none 0 0, .agg #[.int .i64 3, .int .i64 (-1)]]) ∧ Below w.heap.size w w' := by
  have d1 : decide ((16 : Int) < (n : Int)) = true := decide_eq_true (by omega)
  go_enter Try.func62, Try.ntmps62
  go_wp2_with (first | ((with_reducible apply wpList_store_blk); (with_reducible rfl); (with_reducible rfl); rfl; assumption; rfl; kernel_rfl; rfl; kernel_rfl) | ((with_reducible apply wpList_store_new); (with_reducible rfl); (with_reducible rfl); rfl; rfl; kernel_rfl; rfl; kernel_rfl))
  refine ret_tc rfl _ 34 _ _ rfl (heap_alloc_last _ _) Try.underlying34 rfl (by kernel_rfl) rfl ?_
  exact ⟨rfl, ((Grew.refl w).alloc _).below⟩
set_option maxHeartbeats 6400000 in
theorem rmerge_walk (p : Option Addr) (n c : Nat) (S : Ls) (w : World) (hn : n = S.length) (hp : ML w p S) (h64 : LW64 S) (h : n ≤ 16) (hls : ∀ L ∈ S, L.length ≤ 140737488355328) :
    Calls Try.prog 62 #[.slice p n c] w fun e w' => (∃ v, e = .returned (.tuple #[v, .agg #[.int .i64 (mRes S).2.1, .int .i64 (mRes S).2.2]]) ∧ SL w' w.heap.size v (mRes S).1) ∧ Below w.heap.size w w' := by
  subst hn
  have HP := hide_ hp
  have H16 : Hid (S.length ≤ 16) := hide_ h
  have HLL : Hid (∀ k, k < S.length → (S.getD k []).length ≤ 140737488355328) := hide_ (fun k hk => hls _ (getD_memL hk))
  have HB : Hid (∀ k, k < S.length → (∀ j, j < k → bad1 (S.getD j []) = 0) → bad1 (S.getD k []) ≠ 0 → mRes S = ([], bad1 (S.getD k []), (k : Int))) := hide_ (fun k hk h1 h2 => by unfold mRes; rw [if_neg (by omega), bad_some hk h1 h2])
  have HG : Hid ((∀ j, j < S.length → bad1 (S.getD j []) = 0) → mRes S = if mOver (allP S) then ([], 9, -1) else if 4096 < (KT (allP S)).length then ([], 3, -1) else (mOut (allP S), 0, 0)) := hide_ (fun h1 => by unfold mRes; rw [if_neg (by omega), bad_none h1])
  have H64 := hide_ h64
  clear hp h64 hls
  have d1 : decide ((16 : Int) < (S.length : Int)) = false := decide_eq_false (by omega)
  have hnl : (S.length : Int) ≤ 16 := by omega
  clear h
  go_enter Try.func62, Try.ntmps62
  go_wp2
  clear d1
  go_loopw [4] (fun i wr => ∃ k : Nat, k ≤ S.length ∧ i = .int .i64 k ∧ Hid (∀ j, j < k → bad1 (S.getD j []) = 0) ∧ wr.heap[w.heap.size]? = some (.cells #[.int .i64 0, .int .i64 0] 34) ∧ Grew w.heap.size w wr) (fun i _ => S.length - (intOf i).toNat)
  case atStart => exact ⟨0, by omega, rfl, hide_ (fun j hj => by omega), heap_alloc_last _ _, (Grew.refl w).alloc _⟩
  case round =>
    obtain ⟨k, hk, rfl, HJ, hfb, hgr⟩ := hrel
    by_cases hlt : k < S.length
    · obtain ⟨g, o, q, d, rfl, hc, htl⟩ := HP.out.at_ hgr.1 hlt
      have HT := hide_ htl
      have hll := HLL.out k hlt
      have HBk := hide_ (HB.out k hlt HJ.out)
      have i4 : (0 : Int) ≤ (k : Int) := by omega
      have i5 : (k : Int) < (S.length : Int) := by omega
      have hb1 : bad1 (S.getD k []) = if 4096 < (S.getD k []).length then 3 else if (S.getD k []).any badT then 2 else 0 := rfl
      have HLT := hide_ hlt
      by_cases hlong : 4096 < (S.getD k []).length
      · rw [if_pos hlong] at hb1
        have HR := hide_ (HBk.out (by rw [hb1]; decide))
        have HB1 := hide_ hb1
        have d2 : decide ((4096 : Int) < ((S.getD k []).length : Int)) = true := decide_eq_true (by omega)
        clear hb1 htl hlong
        generalize (S.getD k []).length = ll at *
        go_wp2_with (first | ((with_reducible apply wpList_store_blk); (with_reducible rfl); (with_reducible rfl); rfl; assumption; rfl; kernel_rfl; rfl; kernel_rfl) | ((with_reducible apply wpList_store_new); (with_reducible rfl); (with_reducible rfl); rfl; rfl; kernel_rfl; rfl; kernel_rfl))
        refine ret_tc rfl _ 34 _ _ rfl (setRow_heap hfb) Try.underlying34 rfl (by kernel_rfl) rfl ?_
        refine ⟨⟨_, by rw [HR.out, HB1.out], by rw [HR.out]; exact World.ownsRow_nil _ _ _ _⟩, (hgr.setRow (Nat.le_refl _) _).below⟩
      · rw [if_neg hlong] at hb1
        have d2 : decide ((4096 : Int) < ((S.getD k []).length : Int)) = false := decide_eq_false (by omega)
        have HB2 : Hid ((S.getD k []).any badT = true → bad1 (S.getD k []) = 2) := hide_ (fun h => by rw [hb1, if_pos h])
        have HB0 : Hid ((S.getD k []).any badT = false → bad1 (S.getD k []) = 0) := hide_ (fun h => by rw [hb1, if_neg (by rw [h]; simp)])
        have HBA := hide_ (fun m (h : m < (S.getD k []).length) => badT_any h)
        have HBN := hide_ (badT_none (L := S.getD k []))
        have HLG := hide_ hlong
        clear hb1 htl hlong
        generalize hbd : (S.getD k []).any badT = bd at *
        generalize hb1e : bad1 (S.getD k []) = b1 at *
        generalize hLe : S.getD k [] = L at *
        generalize hll2 : L.length = ll at *
        go_wp2
        obtain ⟨wo, hwo⟩ : ∃ wo, wo = wr := ⟨_, rfl⟩
        subst hwo
        go_loopw [5] (fun i wr => ∃ m : Nat, m ≤ ll ∧ i = .int .i64 m ∧ Hid (∀ j, j < m → badT (L.getD j (0, 0)) = false) ∧ wr = wo) (fun i _ => ll - (intOf i).toNat)
        case atStart => exact ⟨0, by omega, rfl, hide_ (fun j hj => by omega), rfl⟩
        case round =>
          obtain ⟨m, hm, rfl, HJm, rfl⟩ := hrel
          by_cases hlm : m < ll
          · obtain ⟨g', o', rfl, hg', hc'⟩ := HT.out.some_ (hll2.symm ▸ hlm)
            obtain ⟨c0, c1⟩ := hc' m (hll2.symm ▸ hlm)
            have e0 := (hgr.1.cell (p := ⟨g', o' + m * 2, none⟩) hg').trans c0
            have j4 : (0 : Int) ≤ (m : Int) := by omega
            have j5 : (m : Int) < (ll : Int) := by omega
            have HLM := hide_ hlm
            have HBAm := hide_ (HBA.out m hlm)
            clear hc' c0 c1
            have HBD : Hid (badT (L.getD m (0, 0)) = (decide ((L.getD m (0, 0)).1 < 0) || decide (1048576 < (L.getD m (0, 0)).1))) := hide_ rfl
            generalize hx : L.getD m (0, 0) = x at *
            have HX := hide_ hx
            clear hx
            obtain ⟨s, b⟩ := x
            simp only at e0 HBD
            by_cases hs0 : s < 0
            · have HR := hide_ (HBAm.out (by rw [HBD.out, decide_eq_true hs0]; rfl))
              have HB1 := hide_ (HB2.out HR.out)
              clear hll2 hbd hLe hb1e
              go_wp2_with (first | ((with_reducible apply wpList_store_blk); (with_reducible rfl); (with_reducible rfl); rfl; assumption; rfl; kernel_rfl; rfl; kernel_rfl) | ((with_reducible apply wpList_store_new); (with_reducible rfl); (with_reducible rfl); rfl; rfl; kernel_rfl; rfl; kernel_rfl))
              refine ret_tc rfl _ 34 _ _ rfl (setRow_heap hfb) Try.underlying34 rfl (by kernel_rfl) rfl ?_
              have hR : mRes S = ([], 2, (k : Int)) := by rw [HBk.out (by rw [HB1.out]; decide), HB1.out]
              refine ⟨⟨_, by rw [hR], by rw [hR]; exact World.ownsRow_nil _ _ _ _⟩, (hgr.setRow (Nat.le_refl _) _).below⟩
            · by_cases hs1 : 1048576 < s
              · have HR := hide_ (HBAm.out (by rw [HBD.out, decide_eq_true hs1]; simp))
                have HB1 := hide_ (HB2.out HR.out)
                clear hll2 hbd hLe hb1e
                go_wp2_with (first | ((with_reducible apply wpList_store_blk); (with_reducible rfl); (with_reducible rfl); rfl; assumption; rfl; kernel_rfl; rfl; kernel_rfl) | ((with_reducible apply wpList_store_new); (with_reducible rfl); (with_reducible rfl); rfl; rfl; kernel_rfl; rfl; kernel_rfl))
                refine ret_tc rfl _ 34 _ _ rfl (setRow_heap hfb) Try.underlying34 rfl (by kernel_rfl) rfl ?_
                have hR : mRes S = ([], 2, (k : Int)) := by rw [HBk.out (by rw [HB1.out]; decide), HB1.out]
                refine ⟨⟨_, by rw [hR], by rw [hR]; exact World.ownsRow_nil _ _ _ _⟩, (hgr.setRow (Nat.le_refl _) _).below⟩
              · have HNB : Hid (badT (s, b) = false) := hide_ (by rw [HBD.out, decide_eq_false hs0, decide_eq_false hs1]; rfl)
                go_wp2
                exact ⟨⟨m + 1, HLM.out, by simp, hide_ (fun j hj => by rcases (show j < m ∨ j = m by omega) with h' | rfl; exact HJm.out j h'; rw [HX.out]; exact HNB.out), trivial⟩, by have := HLM.out; simp [intOf]; omega⟩
          · have hml : m = ll := by omega
            have HB1 := hide_ (HB0.out (HBN.out (fun j hj => HJm.out j (by omega))))
            have hge : ¬ ll < ll := by omega
            rw [hml]
            clear hm hlm hml
            have HBE := hide_ hb1e
            have HLE := hide_ hLe
            go_wp2
            exact ⟨⟨k + 1, HLT.out, by simp, hide_ (fun j hj => by rcases (show j < k ∨ j = k by omega) with h' | rfl; exact HJ.out j h'; rw [HLE.out, HBE.out]; exact HB1.out), hfb, hgr⟩, by have := HLT.out; simp [intOf]; omega⟩
    · have hkS : k = S.length := by omega
      subst hkS
      have hge : ¬ S.length < S.length := hlt
      have HGD := hide_ (good_of HJ.out)
      have HM := hide_ (HG.out HJ.out)
      have HPI : Hid (PInv (allP S)) := hide_ (PInv.all H64.out (fun L hL => (HGD.out L hL).2))
      have HAL : Hid ((allP S).length ≤ 65536) := hide_ (all_len (fun L hL => (HGD.out L hL).1) H16.out)
      have HNX := hide_ (fun t W (h : ML W p S) => next_any p S.length c S t W rfl h H16.out (fun L hL => (HGD.out L hL).1))
      have HAT := hide_ (fun t W (h : ML W p S) => at_any p S.length c S t W rfl h H16.out (fun L hL => (HGD.out L hL).1))
      have HMM := hide_ (fun t W q d (h : FL W q (hts (allP S) t)) => rmean_any q (hts (allP S) t).length d (hts (allP S) t) W rfl h (hts_w64 HPI.out.w64 t) (by have := hts_len (allP S) t; have := HAL.out; omega))
      have hK5 : (KT (allP S)).length ≤ 1048577 := KT_len _
      have HO := hide_ (fun k (h : k < (KT (allP S)).length) => outTo_succ h)
      have HOL := hide_ (fun k (h : k ≤ (KT (allP S)).length) => outTo_len h)
      have HOA := hide_ (outTo_all (allP S))
      have HO1 := hide_ (fun k (h : k < (KT (allP S)).length) => over_of h)
      have HO0 := hide_ (over_not (P := allP S))
      have HRG := hide_ (fun k (h : k < (KT (allP S)).length) => KT_rng (KT_getD h))
      have HO00 : Hid (outTo (allP S) 0 = []) := hide_ (by unfold outTo; simp)
      have HASC := hide_ (KT_asc (allP S))
      have HHAS := hide_ (fun t => KT_has (t := t) HPI.out.rng)
      clear HLL HB HG HJ hlt hk H16 hnl
      generalize allP S = P at *
      generalize KT P = Ks at *
      have HX0 : Hid (∀ b s, Nx P (-1) b s → s = decide (0 < Ks.length) ∧ (0 < Ks.length → b = Ks.getD 0 0)) := hide_ (fun b s h => h.at_ HASC.out HHAS.out (fun j hj => by omega) (fun j _ hj => by have := (HRG.out j hj).1; omega))
      have HX1 : Hid (∀ k b s, k < Ks.length → Nx P (Ks.getD k 0) b s → s = decide (k + 1 < Ks.length) ∧ (k + 1 < Ks.length → b = Ks.getD (k + 1) 0)) := hide_ (fun k b s hk h => h.at_ HASC.out HHAS.out (fun j hj hl => by
        rcases (show j < k ∨ j = k by omega) with h1 | rfl
        · have := asc_lt HASC.out h1 hk; omega
        · omega) (fun j hj hl => by have := asc_lt HASC.out (show k < j by omega) hl; omega))
      clear HASC HHAS
      generalize hKK : Ks.length = K at *
      go_wp2_with (go_at_call 100; go_must ((with_reducible refine (HNX.out _ _ (HP.out.below hgr.below)).mono ?_); rintro e w1 ⟨⟨b0, s0, rfl, hx0⟩, hb1⟩; obtain ⟨rfl, hb0⟩ := HX0.out _ _ hx0; have hg1 := hgr.step hb1; have hf1 := (hb1.block _ (lt_of_heap hfb)).trans hfb))
      have HB0 := hide_ hb0
      clear hb0 hx0 hb1 hfb hgr hge HX0
      go_loopw [6, 7, 8] (fun u t s wr => ∃ (k : Nat) (b : Int), k ≤ K ∧ t = .int .i64 b ∧ s = .bool (decide (k < K)) ∧ Hid (k < K → b = Ks.getD k 0) ∧ Hid (∀ j, j < k → meanE (srt (hts P (Ks.getD j 0))) = 0) ∧ SL wr w1.heap.size u (outTo P k) ∧ Grew w1.heap.size w1 wr) (fun u _ _ _ => K - lenV u)
      case atStart => exact ⟨0, b0, by omega, rfl, rfl, HB0, hide_ (fun j hj => by omega), by rw [HO00.out]; exact World.ownsRow_nil _ _ _ _, Grew.refl _⟩
      case round =>
        obtain ⟨k, b, hk, rfl, rfl, HB, HJ, hu, hgr⟩ := hrel
        have hlw : w.heap.size < w1.heap.size := lt_of_heap hf1
        have hfr := (hgr.1.block _ hlw).trans hf1
        have hgw : Grew w.heap.size w wr := hg1.step hgr.1
        have HLU := hide_ (lenV_own hu)
        have HOLk := HOL.out k hk
        by_cases hlt : k < K
        · have hbt := HB.out hlt
          have d3 : decide (k < K) = true := decide_eq_true hlt
          rw [d3]
          have HOk := hide_ (HO.out k hlt)
          have HE1 := hide_ (HO1.out k hlt)
          have HX1k := hide_ (fun b s => HX1.out k b s hlt)
          rw [← hbt] at HOk HE1 HX1k
          have HBT := hide_ hbt
          have HATb := hide_ (HAT.out b)
          have HMMb := hide_ (HMM.out b)
          have hE := meanE_or (srt (hts P b))
          generalize hme : meanE (srt (hts P b)) = me at *
          generalize meanV (srt (hts P b)) = mv at *
          have HLT := hide_ hlt
          have HPw := hide_ (HP.out.below hgw.below)
          have hL1 : 0 ≤ (hts P b).length := Nat.zero_le _
          clear hbt d3
          rcases hE with rfl | rfl
          · obtain ⟨i0, hi0, hz0, hz1, hz2⟩ := info_parts info26
            have hkb : ((outTo P k).length + 1) * 16 ≤ 140737488355328 := by omega
            have hu2 : World.ownsRow wr w1.heap.size 26 2 u6 (outTo P k).length (flat (outTo P k)) := hu
            have HME := hide_ hme
            clear hu hme hgw hlt
            go_wp2_with (first
              | (go_at_call 101; go_must ((with_reducible refine (HATb.out _ HPw.out).mono ?_); rintro e w5 ⟨⟨v5, rfl, ho5⟩, hb5⟩; have hg5 := hgr.step hb5; have hu5 := own_below hu2 hb5; obtain ⟨p5, c5, rfl⟩ := row_slice ho5; have F5 := (own_fl ho5).2))
              | (go_at_call 52; go_must ((with_reducible refine (HMMb.out _ _ _ F5).mono ?_); rintro e w6 ⟨rfl, hb6⟩; have hg6 := hg5.step hb6; have hu6 := own_below hu5 hb6))
              | (at_builtin; go_must (
                  refine wpList_push2 rfl _ _ 23 rfl w1.heap.size 26 i0 (.agg #[.int .i64 0, .float .f64 0]) 2 16 Try.underlying23 hi0 hz0 hz1 hz2 rfl (by decide) (by decide) _ (outTo P k).length _ rfl (hu6.alloc _) w6.heap.size #[.int .i64 b, .float .f64 mv] 26 1 1 rfl (heap_alloc_last _ _) rfl (by kernel_rfl) hkb (hg6.alloc _).2 ?_
                  intro v' w7 ho7 hg7 hf7 hn7
                  have hgr7 := own_grew (hg6.alloc (.cells #[.int .i64 b, .float .f64 mv] 26)) (hu6.alloc (.cells #[.int .i64 b, .float .f64 mv] 26)) hg7))
              | (go_at_call 100; go_must ((with_reducible refine (HNX.out _ _ (HP.out.below (hg1.step hgr7.below).below)).mono ?_); rintro e w8 ⟨⟨b2, s2, rfl, hx2⟩, hb8⟩; obtain ⟨rfl, hb2⟩ := HX1k.out _ _ hx2; have hgr8 := hgr7.step hb8; have ho8 := own_below ho7 hb8)))
            refine ⟨⟨k + 1, b2, HLT.out, rfl, rfl, hide_ hb2, hide_ (fun j hj => by rcases (show j < k ∨ j = k by omega) with h' | rfl; exact HJ.out j h'; rw [← HBT.out]; exact HME.out), by rw [HOk.out]; unfold SL; rw [flat_append, flat_one, List.length_append]; exact ho8, hgr8⟩, ?_⟩
            rw [lenV_own ho8, HLU.out]
            have := HLT.out
            omega
          · have HMO := hide_ (HE1.out (by decide))
            clear hme hu hlt
            go_wp2_with (first
              | (go_at_call 101; go_must ((with_reducible refine (HATb.out _ HPw.out).mono ?_); rintro e w5 ⟨⟨v5, rfl, ho5⟩, hb5⟩; have hg5 := hgw.step hb5; have hf5 := (hb5.block _ (lt_of_heap hfr)).trans hfr; obtain ⟨p5, c5, rfl⟩ := row_slice ho5; have F5 := (own_fl ho5).2; clear hfr))
              | (go_at_call 52; go_must ((with_reducible refine (HMMb.out _ _ _ F5).mono ?_); rintro e w6 ⟨rfl, hb6⟩; have hg6 := hg5.step hb6; have hf6 := (hb6.block _ (lt_of_heap hf5)).trans hf5; clear hf5))
              | ((with_reducible apply wpList_store_blk); (with_reducible rfl); (with_reducible rfl); rfl; assumption; rfl; kernel_rfl; rfl; kernel_rfl) | ((with_reducible apply wpList_store_new); (with_reducible rfl); (with_reducible rfl); rfl; rfl; kernel_rfl; rfl; kernel_rfl))
            refine ret_tc rfl _ 34 _ _ rfl (setRow_heap hf6) Try.underlying34 rfl (by kernel_rfl) rfl ?_
            have hR : mRes S = ([], 9, -1) := by rw [HM.out, if_pos HMO.out]
            refine ⟨⟨_, by rw [hR], by rw [hR]; exact World.ownsRow_nil _ _ _ _⟩, (hg6.setRow (Nat.le_refl _) _).below⟩
        · have hkK : k = K := by omega
          have d3 : decide (k < K) = false := decide_eq_false hlt
          rw [d3]
          subst hkK
          have HOV := hide_ (HO0.out (fun j hj => HJ.out j hj))
          have hol := HOLk
          have HU := hide_ hu
          obtain ⟨pu, cu, rfl⟩ := row_slice (show World.ownsRow wr w1.heap.size 26 2 u6 (outTo P k).length (flat (outTo P k)) from hu)
          rw [hol]
          clear hu hlt hk d3
          by_cases h5 : 4096 < k
          · have d5 : decide ((4096 : Int) < (k : Int)) = true := decide_eq_true (by omega)
            go_wp2_with (first | ((with_reducible apply wpList_store_blk); (with_reducible rfl); (with_reducible rfl); rfl; assumption; rfl; kernel_rfl; rfl; kernel_rfl) | ((with_reducible apply wpList_store_new); (with_reducible rfl); (with_reducible rfl); rfl; rfl; kernel_rfl; rfl; kernel_rfl))
            refine ret_tc rfl _ 34 _ _ rfl (setRow_heap hfr) Try.underlying34 rfl (by kernel_rfl) rfl ?_
            have hR : mRes S = ([], 3, -1) := by rw [HM.out, if_neg (by rw [HOV.out]; simp), if_pos h5]
            refine ⟨⟨_, by rw [hR], by rw [hR]; exact World.ownsRow_nil _ _ _ _⟩, (hgw.setRow (Nat.le_refl _) _).below⟩
          · have d5 : decide ((4096 : Int) < (k : Int)) = false := decide_eq_false (by omega)
            go_wp2_with (first | ((with_reducible apply wpList_store_blk); (with_reducible rfl); (with_reducible rfl); rfl; assumption; rfl; kernel_rfl; rfl; kernel_rfl) | ((with_reducible apply wpList_store_new); (with_reducible rfl); (with_reducible rfl); rfl; rfl; kernel_rfl; rfl; kernel_rfl))
            refine ret_tc rfl _ 34 _ _ rfl (setRow_heap hfr) Try.underlying34 rfl (by kernel_rfl) rfl ?_
            have hR : mRes S = (mOut P, 0, 0) := by rw [HM.out, if_neg (by rw [HOV.out]; simp), if_neg h5]
            have hU2 : SL wr w1.heap.size (.slice pu k cu) (mOut P) := by
              have h1 := HU.out
              rw [HOA.out] at h1 hol
              rw [hol] at h1
              exact h1
            have hU3 : SL (wr.setRow w.heap.size #[.int .i64 0, .int .i64 0]) w1.heap.size (.slice pu k cu) (mOut P) := hU2.grown (row := some w.heap.size) ⟨rfl, rfl, rfl, by simp [World.setRow], fun k hk hne => setRow_other (fun e => hne (by rw [e]))⟩ (by
              cases hob : (Value.slice pu k cu).ownBlock with
              | none => exact .inl rfl
              | some j => exact .inr (fun e => by cases e; have := (hU2.lt hob).1; omega))
            refine ⟨⟨_, by rw [hR], ?_⟩, (hgw.setRow (Nat.le_refl _) _).below⟩
            rw [hR]
            exact ownsRow_base_a hU3 (by omega)
end Go.Proofs.Ytlgnidjkilbdfaa
