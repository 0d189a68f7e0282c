/- Chapter 20: Merge, the walk. -/
import Derived.Test.YtlgnidjkilbdfaaMh
namespace Go.Proofs.Ytlgnidjkilbdfaa
open Go.RowKit Go.Maps Ieee
set_option linter.unusedVariables false
set_option maxRecDepth 100000
/-- Too many lists. -/
theorem merge_many (p : Option Addr) (n c : Nat) (w : World) (h : 16 < n) :
    Calls Try.prog 61 #[.slice p n c] w fun e w' => e = .returned (.tuple #[.slice none 0 0, .agg #[.int .i64 3, .int .i64 (-1)]]) ∧ Below w.heap.size w w' := by
  have d1 : decide ((16 : Int) < (n : Int)) = true := decide_eq_true (by omega)
  go_enter Try.func61, Try.ntmps61
  go_wp2_with (first | ((with_reducible apply wpList_store_blk); (with_reducible rfl); (with_reducible rfl); rfl; assumption; rfl; kernel_rfl; rfl; kernel_rfl) | ((with_reducible apply wpList_store_new); (with_reducible rfl); (with_reducible rfl); rfl; rfl; kernel_rfl; rfl; kernel_rfl))
  refine ret_tc rfl _ 34 _ _ rfl (heap_alloc_last _ _) Try.underlying34 rfl (by kernel_rfl) rfl ?_
  exact ⟨rfl, ((Grew.refl w).alloc _).below⟩
theorem GrpV.drew {w : World} {B mb n : Nat} {P : Rc} {D : DataW Unit} {V : Int → Value} (h : GrpV w B mb n P D V) : GrpV w.drew B mb n P D V := h.kept (Below.refl _ _).drew
set_option maxHeartbeats 6400000 in
theorem merge_walk (p : Option Addr) (n c : Nat) (S : Ls) (w : World) (hn : n = S.length) (hp : ML w p S) (h64 : LW64 S) (h : n ≤ 16) (hls : ∀ L ∈ S, L.length ≤ 140737488355328) :
    Calls Try.prog 61 #[.slice p n c] w fun e w' => (∃ v, e = .returned (.tuple #[v, .agg #[.int .i64 (mRes S).2.1, .int .i64 (mRes S).2.2]]) ∧ SL w' w.heap.size v (mRes S).1) ∧ Below w.heap.size w w' := by
  subst hn
  have HP := hide_ hp
  have H16 : Hid (S.length ≤ 16) := hide_ h
  have HC97 := hide_ (fun (k : Nat) (hk : k < S.length) (hl : (S.getD k []).length ≤ 4096) q d W (h : TL W q (S.getD k [])) => contains97 q (S.getD k []).length d (S.getD k []) W rfl h (h64 _ (getD_memL hk)) (by omega))
  have HLL : Hid (∀ k, k < S.length → (S.getD k []).length ≤ 140737488355328) := hide_ (fun k hk => hls _ (getD_memL hk))
  have HB : Hid (∀ k, k < S.length → (∀ j, j < k → bad1 (S.getD j []) = 0) → bad1 (S.getD k []) ≠ 0 → mRes S = ([], bad1 (S.getD k []), (k : Int))) := hide_ (fun k hk h1 h2 => by unfold mRes; rw [if_neg (by omega), bad_some hk h1 h2])
  have HG : Hid ((∀ j, j < S.length → bad1 (S.getD j []) = 0) → mRes S = if mOver (allP S) then ([], 9, -1) else if 4096 < (KT (allP S)).length then ([], 3, -1) else (mOut (allP S), 0, 0)) := hide_ (fun h1 => by unfold mRes; rw [if_neg (by omega), bad_none h1])
  have H64 := hide_ h64
  clear hp h64 hls
  have d1 : decide ((16 : Int) < (S.length : Int)) = false := decide_eq_false (by omega)
  have hnl : (S.length : Int) ≤ 16 := by omega
  clear h
  go_enter Try.func61, Try.ntmps61
  go_wp2
  clear d1
  go_loopw [22] (fun i wr => ∃ k : Nat, k ≤ S.length ∧ i = .int .i64 k ∧ Hid (∀ j, j < k → bad1 (S.getD j []) = 0) ∧ wr.heap[w.heap.size]? = some (.cells #[.int .i64 0, .int .i64 0] 34) ∧ Grew w.heap.size w wr) (fun i _ => S.length - (intOf i).toNat)
  case atStart => exact ⟨0, by omega, rfl, hide_ (fun j hj => by omega), heap_alloc_last _ _, (Grew.refl w).alloc _⟩
  case round =>
    obtain ⟨k, hk, rfl, HJ, hfb, hgr⟩ := hrel
    by_cases hlt : k < S.length
    · obtain ⟨g, o, q, d, rfl, hc, htl⟩ := HP.out.at_ hgr.1 hlt
      have HT := hide_ (htl.below hgr.1)
      have hll := HLL.out k hlt
      have HCk := hide_ (HC97.out k hlt)
      have HBk := hide_ (HB.out k hlt HJ.out)
      have i4 : (0 : Int) ≤ (k : Int) := by omega
      have i5 : (k : Int) < (S.length : Int) := by omega
      have hb1 : bad1 (S.getD k []) = if 4096 < (S.getD k []).length then 3 else if (S.getD k []).any badT then 2 else 0 := rfl
      have HLT := hide_ hlt
      by_cases hlong : 4096 < (S.getD k []).length
      · rw [if_pos hlong] at hb1
        have HR := hide_ (HBk.out (by rw [hb1]; decide))
        have HB1 := hide_ hb1
        have d2 : decide ((4096 : Int) < ((S.getD k []).length : Int)) = true := decide_eq_true (by omega)
        clear hb1 htl hlong
        generalize (S.getD k []).length = ll at *
        go_wp2_with (first | ((with_reducible apply wpList_store_blk); (with_reducible rfl); (with_reducible rfl); rfl; assumption; rfl; kernel_rfl; rfl; kernel_rfl) | ((with_reducible apply wpList_store_new); (with_reducible rfl); (with_reducible rfl); rfl; rfl; kernel_rfl; rfl; kernel_rfl))
        refine ret_tc rfl _ 34 _ _ rfl (setRow_heap hfb) Try.underlying34 rfl (by kernel_rfl) rfl ?_
        refine ⟨⟨_, by rw [HR.out, HB1.out], by rw [HR.out]; exact World.ownsRow_nil _ _ _ _⟩, (hgr.setRow (Nat.le_refl _) _).below⟩
      · rw [if_neg hlong] at hb1
        have HCl := hide_ (HCk.out (by omega))
        have d2 : decide ((4096 : Int) < ((S.getD k []).length : Int)) = false := decide_eq_false (by omega)
        generalize hbd : (S.getD k []).any badT = bd at *
        cases bd
        · have HB1 := hide_ hb1
          have HLG := hide_ hlong
          clear hb1 htl hlong hbd
          generalize hll2 : (S.getD k []).length = ll at *
          clear hll2
          go_wp2_with (first
            | (go_at_call 84; go_must (
                (with_reducible refine (HCl.out _ _ _ HT.out).mono ?_)
                rintro e w2 ⟨rfl, hb2⟩
                have hfb2 := (hb2.block _ (lt_of_heap hfb)).trans hfb
                have hgr2 := hgr.step hb2)))
          go_roundw
          case rel => exact ⟨k + 1, HLT.out, by go_num, hide_ (fun j hj => by rcases (show j < k ∨ j = k by omega) with h' | rfl; exact HJ.out j h'; exact HB1.out), hfb2, hgr2⟩
          case measure => have := HLT.out; simp [intOf]; omega
        · have hb1 : bad1 (S.getD k []) = 2 := hb1
          have HR := hide_ (HBk.out (by rw [hb1]; decide))
          have HB1 := hide_ hb1
          clear hb1 htl hlong hbd
          generalize hll2 : (S.getD k []).length = ll at *
          clear hll2
          go_wp2_with (first
            | (go_at_call 84; go_must (
                (with_reducible refine (HCl.out _ _ _ HT.out).mono ?_)
                rintro e w2 ⟨rfl, hb2⟩
                have hfb2 := (hb2.block _ (lt_of_heap hfb)).trans hfb
                have hgr2 := hgr.step hb2
                clear hfb hgr))
            | ((with_reducible apply wpList_store_blk); (with_reducible rfl); (with_reducible rfl); rfl; assumption; rfl; kernel_rfl; rfl; kernel_rfl) | ((with_reducible apply wpList_store_new); (with_reducible rfl); (with_reducible rfl); rfl; rfl; kernel_rfl; rfl; kernel_rfl))
          refine ret_tc rfl _ 34 _ _ rfl (setRow_heap hfb2) Try.underlying34 rfl (by kernel_rfl) rfl ?_
          refine ⟨⟨_, by rw [HR.out, HB1.out], by rw [HR.out]; exact World.ownsRow_nil _ _ _ _⟩, (hgr2.setRow (Nat.le_refl _) _).below⟩
    · have hkS : k = S.length := by omega
      subst hkS
      have hge : ¬ S.length < S.length := hlt
      have HGD := hide_ (good_of HJ.out)
      have HM := hide_ (HG.out HJ.out)
      have hmm := @run_makeMap Try.prog
      have HL4 : Hid (∀ k, k < S.length → (S.getD k []).length ≤ 4096) := hide_ (fun k hk => (HGD.out _ (getD_memL hk)).1)
      have HRW : Hid (∀ k m, k < S.length → m < (S.getD k []).length → (0 ≤ ((S.getD k []).getD m (0, 0)).1 ∧ ((S.getD k []).getD m (0, 0)).1 ≤ 1048576) ∧ ((S.getD k []).getD m (0, 0)).2 < 2 ^ 64) := hide_ (fun k m hk hm => ⟨rng_bad (HGD.out _ (getD_memL hk)).2 _ (mem_getD hm), H64.out _ (getD_memL hk) _ (mem_getD hm)⟩)
      have HPL : Hid (∀ k m, k ≤ S.length → m ≤ 4096 → (pTo S k m).length ≤ 69632) := hide_ (fun k m hk hm => pTo_len (fun L hL => (HGD.out L hL).1) H16.out hk hm)
      have HPI : Hid (PInv (allP S)) := hide_ (PInv.all H64.out (fun L hL => (HGD.out L hL).2))
      have HAL : Hid ((allP S).length ≤ 65536) := hide_ (all_len (fun L hL => (HGD.out L hL).1) H16.out)
      clear HC97 HLL HB HG HJ
      go_wp2
      have hgA := hgr.alloc (.map #[] 0)
      have hfA := heap_past (o' := .map #[] 0) hfb
      have HV0 := hide_ (GrpV.made wr (w.heap.size + 1))
      have hszA : w.heap.size < wr.heap.size := lt_of_heap hfb
      have hmb : wr.heap.size < w.heap.size + 1 ∨ w.heap.size + 1 ≤ wr.heap.size := by omega
      generalize hmbe : wr.heap.size = mb at *
      generalize hWA : wr.alloc (.map #[] 0) = WA at *
      clear hmbe hWA hfb hgr hk hlt hge
      go_loopw [40] (fun i wr => ∃ k : Nat, k ≤ S.length ∧ i = .int .i64 k ∧ Hid (∃ D V, GrpV wr (w.heap.size + 1) mb (pTo S k 0).length (pTo S k 0) D V) ∧ wr.heap[w.heap.size]? = some (.cells #[.int .i64 0, .int .i64 0] 34) ∧ Grew w.heap.size w wr) (fun i _ => S.length - (intOf i).toNat)
      case atStart => exact ⟨0, by omega, rfl, hide_ (by rw [pTo_zero]; exact ⟨_, _, HV0.out⟩), hfA, hgA⟩
      case round =>
        obtain ⟨k, hk, rfl, HV, hfb, hgr⟩ := hrel
        by_cases hlt : k < S.length
        · obtain ⟨g, o, q, d, rfl, hc, htl⟩ := HP.out.at_ hgr.1 hlt
          have HT := hide_ htl
          have hl4 := HL4.out k hlt
          have HRWk := hide_ (fun m => HRW.out k m hlt)
          have HPLk := hide_ (fun m => HPL.out k m hk)
          have HY := hide_ (fun m x => pTo_yes (S := S) (i := k) (k := m) (x := x))
          have HN := hide_ (fun m x => pTo_no (S := S) (i := k) (k := m) (x := x))
          have HX := hide_ (pTo_next hlt)
          have i4 : (0 : Int) ≤ (k : Int) := by omega
          have i5 : (k : Int) < (S.length : Int) := by omega
          have HLT := hide_ hlt
          clear htl
          generalize S.getD k [] = L at *
          generalize hLL : L.length = ll at *
          go_wp2
          obtain ⟨wo, hwo⟩ : ∃ wo, wo = wr := ⟨_, rfl⟩
          subst hwo
          clear i4 i5 hc
          go_loopw [46] (fun i wr => ∃ m : Nat, m ≤ ll ∧ i = .int .i64 m ∧ Hid (∃ D V, GrpV wr (w.heap.size + 1) mb (pTo S k m).length (pTo S k m) D V) ∧ wr.heap[w.heap.size]? = some (.cells #[.int .i64 0, .int .i64 0] 34) ∧ Grew w.heap.size w wr) (fun i _ => ll - (intOf i).toNat)
          case atStart => exact ⟨0, by omega, rfl, HV, hfb, hgr⟩
          case round =>
            obtain ⟨m, hm, rfl, HV, hfb, hgr⟩ := hrel
            by_cases hlm : m < ll
            · obtain ⟨g', o', rfl, hg', hc'⟩ := HT.out.some_ (hLL.symm ▸ hlm)
              obtain ⟨c0, c1⟩ := hc' m (hLL.symm ▸ hlm)
              have e0 := (hgr.1.cell (p := ⟨g', o' + m * 2, none⟩) hg').trans c0
              have e1 := (hgr.1.cell (p := ⟨g', o' + m * 2 + 1, none⟩) hg').trans c1
              obtain ⟨hr1, hr2⟩ := HRWk.out m (hLL.symm ▸ hlm)
              have HYm := hide_ (fun x => HY.out m x (hLL.symm ▸ hlm))
              have HNm := hide_ (fun x => HN.out m x (hLL.symm ▸ hlm))
              have HPm := HPLk.out m (by omega)
              have i4 : (0 : Int) ≤ (m : Int) := by omega
              have i5 : (m : Int) < (ll : Int) := by omega
              have HLM := hide_ hlm
              have HF := hide_ (finite_any _ hr2)
              clear hc' c0 c1
              generalize hgd : L.getD m (0, 0) = x at *
              obtain ⟨t, b⟩ := x
              simp only at hr1 hr2 e0 e1 HF
              have HYn := hide_ (HYm.out _ rfl)
              have HNn := hide_ (HNm.out _ rfl)
              clear HYm HNm
              have hI64 : I64 t := ⟨by omega, by omega⟩
              have HI := hide_ hI64
              clear hr1 hI64
              cases hone : oneB b
              · rw [hone] at HF
                have HNx := hide_ (HNn.out hone)
                clear hone hgd
                go_wp2_with (first
                  | (go_at_call 86; (with_reducible refine (HF.out _).mono ?_); rintro e w7 ⟨rfl, rfl⟩))
                obtain ⟨D, V, hV⟩ := HV.out
                exact ⟨⟨m + 1, HLM.out, by simp, hide_ (by rw [HNx.out]; exact ⟨D, V, hV.alloc _⟩), heap_past hfb, hgr.alloc _⟩, by have := HLM.out; simp [intOf]; omega⟩
              · rw [hone] at HF
                have HYx := hide_ (HYn.out hone)
                clear hone hgd
                go_wp2_with (first
                  | (go_at_call 86; (with_reducible refine (HF.out _).mono ?_); rintro e w7 ⟨rfl, rfl⟩))
                obtain ⟨D, V, hV⟩ := HV.out
                have hgrA := hgr.alloc (.cells #[.int .i64 t, .float .f64 b] 26)
                have hblk := heap_alloc_last wr (.cells #[.int .i64 t, .float .f64 b] 26)
                have hfA := heap_past (o' := .cells #[.int .i64 t, .float .f64 b] 26) hfb
                have hVA := (hV.alloc (.cells #[.int .i64 t, .float .f64 b] 26)).drew
                have hVB := hVA.alloc (.cells #[.float .f64 b] 24)
                have hvlt : ∀ j, (V t).ownBlock = some j → w.heap.size + 1 ≤ j ∧ j < wr.heap.size := (hV.row t).lt
                have HL0 := hVA.look HI.out
                have HL1 := hVB.look HI.out
                have HL2 := (((hV.alloc (.cells #[.int .i64 t, .float .f64 b] 26)).alloc (.cells #[.float .f64 b] 24)).drew).look HI.out
                have hrowA := hVA.row t
                have HGB := hide_ hVB
                have HPt := hide_ (hts_len (pTo S k m) t)
                have HSM := hide_ hmb
                generalize hWA : wr.alloc (.cells #[.int .i64 t, .float .f64 b] 26) = WA' at *
                have hww : w.heap.size < wr.heap.size := lt_of_heap hfb
                have hrs : wr.heap.size < WA'.heap.size := lt_of_heap hblk
                obtain ⟨r0, r1⟩ := cells_two hblk
                have q0 : WA'.drew.cell? ⟨wr.heap.size, 0, none⟩ = some (.int .i64 t) := r0
                have q1 : WA'.drew.cell? ⟨wr.heap.size, 1, none⟩ = some (.float .f64 b) := r1
                have qB0 := cell_past (o := .cells #[.float .f64 b] 24) q0
                have qB1 := cell_past (o := .cells #[.float .f64 b] 24) q1
                have hkb : ((hts (pTo S k m) t).length + 1) * 8 ≤ 140737488355328 := by have := HPt.out; omega
                have hn1 : (pTo S k m).length < 1000000 := by omega
                have hgrB : Grew w.heap.size w (WA'.drew.alloc (.cells #[.float .f64 b] 24)) := hgrA.drew.alloc _
                have hB1 : w.heap.size + 1 ≤ (WA'.drew.alloc (.cells #[.float .f64 b] 24)).heap.size := by simp; omega
                generalize hvt : V t = vt at *
                clear hWA hV hVA hVB hblk hfb hgr e0 e1 i4 i5 hr2 hgrA HV
                obtain ⟨i0, hi, hz0, hz1, hz2⟩ := info_parts info24
                go_region_law (first
                  | (go_must (
                    refine step_push rfl (.tmp 59) (.tmp 62) 80 rfl (w.heap.size + 1) 24 i0 (.float .f64 0) 1 8 Try.underlying80 hi hz0 hz1 hz2 rfl (by decide) (by decide) vt (hts (pTo S k m) t).length _ (by simp [Act.eval]) (hrowA.alloc _) WA'.heap.size #[.float .f64 b] 24 1 1 (by simp [Act.eval]) (heap_alloc_last _ _) rfl (by kernel_rfl) hkb hB1 ?_
                    intro v2 w2 ho2 hg2 hf2 hn2
                    obtain ⟨w3, D3, V3, hrun3, hV3, hg3⟩ := HGB.out.put (t := t) (x := b) HI.out hn1 HSM.out (by rw [hvt]; exact hg2) ho2 (by rw [hvt]; exact hf2)
                    have hsz2 : WA'.heap.size + 1 ≤ w2.heap.size := by have := hg2.size; simpa using this
                    have hsz3 := hg3.size
                    have s0 := hg2.cell qB0 (fun e => by have := (hvlt _ e.symm).2; simp at this)
                    have s1 := hg2.cell qB1 (fun e => by have := (hvlt _ e.symm).2; simp at this)
                    have hf3 := (hg3.block w.heap.size (by omega) (by simp; omega)).trans ((hg2.block w.heap.size (by simp; omega) (fun e => by have := (hvlt _ e.symm).1; omega)).trans (heap_past (o' := .cells #[.float .f64 b] 24) (show WA'.drew.heap[w.heap.size]? = _ from hfA)))
                    have hgr3 : Grew w.heap.size w w3 := ⟨(hgrB.1.grown hg2 (by simp; omega) (fun j hj => by have := (hvlt j hj).1; omega)).grown hg3 (by omega) (fun j hj => by cases hj; omega), by omega⟩
                    have HV3 := hide_ hV3
                    clear hV3 ho2)))
                all_goals have HV4 : Hid (∃ D V, GrpV w3 (w.heap.size + 1) mb (pTo S k (m + 1)).length (pTo S k (m + 1)) D V) := hide_ (by rw [HYx.out, List.length_append]; exact ⟨_, _, HV3.out⟩)
                all_goals clear HM HL4 HRW HPL HPI HAL HGD HPLk HRWk HY HN HYn HNn HV3
                all_goals go_wp2
                all_goals exact ⟨⟨m + 1, HLM.out, by simp, HV4, hf3, hgr3⟩, by have := HLM.out; simp [intOf]; omega⟩
            · have hml : m = ll := by omega
              rw [hml, HX.out] at HV
              have hge : ¬ ll < ll := by omega
              rw [hml]
              clear hm hlm hml
              go_wp2
              exact ⟨⟨k + 1, HLT.out, by simp, HV, hfb, hgr⟩, by have := HLT.out; simp [intOf]; omega⟩
        · have hkS : k = S.length := by omega
          rw [hkS, pTo_all] at HV
          have hge : ¬ S.length < S.length := by omega
          rw [hkS]
          clear hlt hk hkS HL4 HRW HPL HV0 hfA hgA H64 HGD
          obtain ⟨D, V, hV⟩ := HV.out
          have HKY := hide_ (fun W => keys_in99 mb W)
          have HSR := hide_ (ticks_sorted hV HPI.out.rng)
          have HVV := hide_ hV
          have hsw : w.heap.size < wr.heap.size := lt_of_heap hfb
          clear hV hnl
          go_wp2_with (first
            | (go_at_call 99; go_must ((with_reducible refine (HKY.out _).mono ?_); rintro e w1 ⟨rfl, rfl⟩))
            | (go_at_call 98; go_must (
                (with_reducible refine (HSR.out).mono ?_)
                rintro e wl ⟨vl, rfl, hol, hbl⟩
                have hgl := (hgr.alloc (.cells #[.map (some mb)] 120)).step hbl
                have hfl := (hbl.block _ (by simp; omega)).trans (heap_past (o' := .cells #[.map (some mb)] 120) hfb)
                have HVL := hide_ ((HVV.out.alloc (.cells #[.map (some mb)] 120)).kept hbl)
                obtain ⟨pl, cl, rfl⟩ := row_slice hol
                have HRL := hide_ (fun h => row_cells hol h))))
          have hK5 : (KT (allP S)).length ≤ 1048577 := KT_len _
          have HLK : Hid (∀ t, I64 t → ∃ q d, V t = .slice q (hts (allP S) t).length d) := hide_ (fun t _ => row_slice (HVL.out.row t))
          have HO := hide_ (fun k (h : k < (KT (allP S)).length) => outTo_succ h)
          have HOL := hide_ (fun k (h : k ≤ (KT (allP S)).length) => outTo_len h)
          have HOA := hide_ (outTo_all (allP S))
          have HO1 := hide_ (fun k (h : k < (KT (allP S)).length) => over_of h)
          have HO0 := hide_ (over_not (P := allP S))
          have HRG := hide_ (fun k (h : k < (KT (allP S)).length) => KT_rng (KT_getD h))
          have HCI := hide_ (fun k (h : k < (KT (allP S)).length) => getD_iv h)
          have HO00 : Hid (outTo (allP S) 0 = []) := hide_ (by unfold outTo; simp)
          have HW6 := hide_ (fun t => hts_w64 HPI.out.w64 t)
          have HTL := hide_ (fun t => hts_len (allP S) t)
          have HAl := HAL.out
          clear hgr hfb HV HKY HSR HVV hbl hol hge hmm hmb
          generalize allP S = P at *
          generalize KT P = Ks at *
          generalize hKK : Ks.length = K at *
          go_loopw [11, 70] (fun u i wr => ∃ k : Nat, k ≤ K ∧ i = .int .i64 k ∧ Hid (∀ j, j < k → meanE (srt (hts P (Ks.getD j 0))) = 0) ∧ SL wr wl.heap.size u (outTo P k) ∧ Grew wl.heap.size wl wr) (fun _ i _ => K - (intOf i).toNat)
          case atStart => exact ⟨0, by omega, rfl, hide_ (fun j hj => by omega), by rw [HO00.out]; exact World.ownsRow_nil _ _ _ _, Grew.refl _⟩
          case round =>
            obtain ⟨k, hk, rfl, HJ, hu, hgr⟩ := hrel
            have hlw : w.heap.size < wl.heap.size := lt_of_heap hfl
            have hfr := (hgr.1.block _ hlw).trans hfl
            have hgw : Grew w.heap.size w wr := hgl.step hgr.1
            by_cases hlt : k < K
            · obtain ⟨g, rfl, hg1, hg2, hcs⟩ := HRL.out (by omega)
              have c0 := (hgr.1.cell (p := ⟨g, k, none⟩) hg2).trans (hcs _ _ (HCI.out k hlt))
              have hrg := HRG.out k hlt
              have HOk := hide_ (HO.out k hlt)
              have HOLk := HOL.out k hk
              have HE1 := hide_ (HO1.out k hlt)
              generalize htt : Ks.getD k 0 = t at *
              have hI : I64 t := ⟨by omega, by omega⟩
              obtain ⟨qt, dt, hqt⟩ := HLK.out t hI
              have hlook := (HVL.out.kept hgr.1).look hI
              have hrow := (HVL.out.kept hgr.1).row t
              rw [hqt] at hlook hrow
              have HM1 := hide_ (mean_any qt (hts P t).length dt (hts P t) wr rfl (own_fl hrow).2 (HW6.out t) (by have := HTL.out t; omega))
              have HLT := hide_ hlt
              have i4 : (0 : Int) ≤ (k : Int) := by omega
              have i5 : (k : Int) < (K : Int) := by omega
              have hE := meanE_or (srt (hts P t))
              generalize hme : meanE (srt (hts P t)) = me at *
              generalize meanV (srt (hts P t)) = mv at *
              generalize (hts P t).length = lt at *
              clear hcs hrow hqt hI hrg
              rcases hE with rfl | rfl
              · obtain ⟨i0, hi0, hz0, hz1, hz2⟩ := info_parts info26
                have hkb : ((outTo P k).length + 1) * 16 ≤ 140737488355328 := by omega
                have hu2 : World.ownsRow wr wl.heap.size 26 2 u11 (outTo P k).length (flat (outTo P k)) := hu
                have HTT := hide_ htt
                have HME := hide_ hme
                clear hu htt hme
                go_wp2_with (first
                  | (go_at_call 50; go_must ((with_reducible refine (HM1.out).mono ?_); rintro e w5 ⟨rfl, hb5⟩; have hg5 := hgr.step hb5; have hu5 := own_below hu2 hb5))
                  | (at_builtin; go_must (
                      refine wpList_push2 rfl _ _ 23 rfl wl.heap.size 26 i0 (.agg #[.int .i64 0, .float .f64 0]) 2 16 Try.underlying23 hi0 hz0 hz1 hz2 rfl (by decide) (by decide) _ (outTo P k).length _ rfl (hu5.alloc _) w5.heap.size #[.int .i64 t, .float .f64 mv] 26 1 1 rfl (heap_alloc_last _ _) rfl (by kernel_rfl) hkb (hg5.alloc _).2 ?_
                      intro v' w6 ho6 hg6 hf6 hn6
                      have hgr6 := own_grew (hg5.alloc (.cells #[.int .i64 t, .float .f64 mv] 26)) (hu5.alloc (.cells #[.int .i64 t, .float .f64 mv] 26)) hg6)))
                exact ⟨⟨k + 1, HLT.out, by simp, hide_ (fun j hj => by rcases (show j < k ∨ j = k by omega) with h' | rfl; exact HJ.out j h'; rw [HTT.out]; exact HME.out), by rw [HOk.out]; unfold SL; rw [flat_append, flat_one, List.length_append]; exact ho6, hgr6⟩, by have := HLT.out; simp [intOf]; omega⟩
              · have HMO := hide_ (HE1.out (by decide))
                clear htt hme hu
                go_wp2_with (first
                  | (go_at_call 50; go_must ((with_reducible refine (HM1.out).mono ?_); rintro e w5 ⟨rfl, hb5⟩; have hg5 := hgw.step hb5; have hf5 := (hb5.block _ (lt_of_heap hfr)).trans hfr; clear hfr))
                  | ((with_reducible apply wpList_store_blk); (with_reducible rfl); (with_reducible rfl); rfl; assumption; rfl; kernel_rfl; rfl; kernel_rfl) | ((with_reducible apply wpList_store_new); (with_reducible rfl); (with_reducible rfl); rfl; rfl; kernel_rfl; rfl; kernel_rfl))
                refine ret_tc rfl _ 34 _ _ rfl (setRow_heap hf5) Try.underlying34 rfl (by kernel_rfl) rfl ?_
                have hR : mRes S = ([], 9, -1) := by rw [HM.out, if_pos HMO.out]
                refine ⟨⟨_, by rw [hR], by rw [hR]; exact World.ownsRow_nil _ _ _ _⟩, (hg5.setRow (Nat.le_refl _) _).below⟩
            · have hkK : k = K := by omega
              subst hkK
              have hge : ¬ k < k := hlt
              have HOV := hide_ (HO0.out (fun j hj => HJ.out j hj))
              have hol := HOL.out k (Nat.le_refl _)
              have HU := hide_ hu
              obtain ⟨pu, cu, rfl⟩ := row_slice (show World.ownsRow wr wl.heap.size 26 2 u11 (outTo P k).length (flat (outTo P k)) from hu)
              rw [hol]
              clear hu hlt hk
              by_cases h5 : 4096 < k
              · have d5 : decide ((4096 : Int) < (k : Int)) = true := decide_eq_true (by omega)
                go_wp2_with (first | ((with_reducible apply wpList_store_blk); (with_reducible rfl); (with_reducible rfl); rfl; assumption; rfl; kernel_rfl; rfl; kernel_rfl) | ((with_reducible apply wpList_store_new); (with_reducible rfl); (with_reducible rfl); rfl; rfl; kernel_rfl; rfl; kernel_rfl))
                refine ret_tc rfl _ 34 _ _ rfl (setRow_heap hfr) Try.underlying34 rfl (by kernel_rfl) rfl ?_
                have hR : mRes S = ([], 3, -1) := by rw [HM.out, if_neg (by rw [HOV.out]; simp), if_pos h5]
                refine ⟨⟨_, by rw [hR], by rw [hR]; exact World.ownsRow_nil _ _ _ _⟩, (hgw.setRow (Nat.le_refl _) _).below⟩
              · have d5 : decide ((4096 : Int) < (k : Int)) = false := decide_eq_false (by omega)
                go_wp2_with (first | ((with_reducible apply wpList_store_blk); (with_reducible rfl); (with_reducible rfl); rfl; assumption; rfl; kernel_rfl; rfl; kernel_rfl) | ((with_reducible apply wpList_store_new); (with_reducible rfl); (with_reducible rfl); rfl; rfl; kernel_rfl; rfl; kernel_rfl))
                refine ret_tc rfl _ 34 _ _ rfl (setRow_heap hfr) Try.underlying34 rfl (by kernel_rfl) rfl ?_
                have hR : mRes S = (mOut P, 0, 0) := by rw [HM.out, if_neg (by rw [HOV.out]; simp), if_neg h5]
                have hU2 : SL wr wl.heap.size (.slice pu k cu) (mOut P) := by
                  have h1 := HU.out
                  rw [HOA.out] at h1 hol
                  rw [hol] at h1
                  exact h1
                have hU3 : SL (wr.setRow w.heap.size #[.int .i64 0, .int .i64 0]) wl.heap.size (.slice pu k cu) (mOut P) := hU2.grown (row := some w.heap.size) ⟨rfl, rfl, rfl, by simp [World.setRow], fun k hk hne => setRow_other (fun e => hne (by rw [e]))⟩ (by
                  cases hob : (Value.slice pu k cu).ownBlock with
                  | none => exact .inl rfl
                  | some j => exact .inr (fun e => by cases e; have := (hU2.lt hob).1; omega))
                refine ⟨⟨_, by rw [hR], ?_⟩, (hgw.setRow (Nat.le_refl _) _).below⟩
                rw [hR]
                exact ownsRow_base_a hU3 (by omega)
end Go.Proofs.Ytlgnidjkilbdfaa
