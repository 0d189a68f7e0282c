/- Chapter 20: the reference's next and at. -/
import Derived.Test.YtlgnidjkilbdfaaMh
namespace Go.Proofs.Ytlgnidjkilbdfaa
open Go.RowKit Go.Maps Ieee
set_option linter.unusedVariables false
set_option maxRecDepth 100000
/-- The least tick above t at which a sample of P stands. -/
structure Nx (P : Rc) (t : Int) (best : Int) (some_ : Bool) : Prop where
  no : some_ = false → ∀ x ∈ P, x.1 ≤ t
  yes : some_ = true → t < best ∧ (∃ x ∈ P, x.1 = best) ∧ ∀ x ∈ P, t < x.1 → best ≤ x.1
theorem Nx.nil (t : Int) : Nx [] t 0 false := ⟨fun _ x hx => (by cases hx), fun h => (by cases h)⟩
theorem Nx.low {P : Rc} {t b : Int} {s : Bool} {x : Int × Nat} (h : Nx P t b s) (hx : ¬ t < x.1) : Nx (P ++ [x]) t b s := by
  refine ⟨fun hs y hy => ?_, fun hs => ?_⟩
  · rcases List.mem_append.1 hy with hy | hy
    · exact h.no hs y hy
    · rw [List.mem_singleton] at hy; subst hy; omega
  · obtain ⟨h1, ⟨z, hz, hzb⟩, h3⟩ := h.yes hs
    refine ⟨h1, ⟨z, by simp [hz], hzb⟩, fun y hy hty => ?_⟩
    rcases List.mem_append.1 hy with hy | hy
    · exact h3 y hy hty
    · rw [List.mem_singleton] at hy; subst hy; omega
theorem Nx.first {P : Rc} {t b : Int} {x : Int × Nat} (h : Nx P t b false) (hx : t < x.1) : Nx (P ++ [x]) t x.1 true := by
  refine ⟨fun hs => (by cases hs), fun _ => ⟨hx, ⟨x, by simp, rfl⟩, fun y hy hty => ?_⟩⟩
  rcases List.mem_append.1 hy with hy | hy
  · have := h.no rfl y hy; omega
  · rw [List.mem_singleton] at hy; subst hy; omega
theorem Nx.less {P : Rc} {t b : Int} {x : Int × Nat} (h : Nx P t b true) (hx : t < x.1) (hb : x.1 < b) : Nx (P ++ [x]) t x.1 true := by
  refine ⟨fun hs => (by cases hs), fun _ => ⟨hx, ⟨x, by simp, rfl⟩, fun y hy hty => ?_⟩⟩
  rcases List.mem_append.1 hy with hy | hy
  · have := (h.yes rfl).2.2 y hy hty; omega
  · rw [List.mem_singleton] at hy; subst hy; omega
theorem Nx.more {P : Rc} {t b : Int} {x : Int × Nat} (h : Nx P t b true) (hb : ¬ x.1 < b) : Nx (P ++ [x]) t b true := by
  obtain ⟨h1, ⟨z, hz, hzb⟩, h3⟩ := h.yes rfl
  refine ⟨fun hs => (by cases hs), fun _ => ⟨h1, ⟨z, by simp [hz], hzb⟩, fun y hy hty => ?_⟩⟩
  rcases List.mem_append.1 hy with hy | hy
  · exact h3 y hy hty
  · rw [List.mem_singleton] at hy; subst hy; omega
theorem own_drewN {w : World} {b e s n : Nat} {v : Value} {xs : List Value} (h : w.ownsRow b e s v n xs) (q : Nat) : (w.drewN q).ownsRow b e s v n xs := own_below h (below_drewN (Below.refl _ _) q)
set_option maxHeartbeats 3200000 in
theorem at_any (p : Option Addr) (n c : Nat) (S : Ls) (t : Int) (w : World) (hn : n = S.length) (hp : ML w p S) (h16 : n ≤ 16) (hls : ∀ L ∈ S, L.length ≤ 4096) :
    Calls Try.prog 101 #[.slice p n c, .int .i64 t] w fun e w' => (∃ v, e = .returned v ∧ w'.ownsRow w.heap.size 24 1 v (hts (allP S) t).length ((hts (allP S) t).map encF)) ∧ Below w.heap.size w w' := by
  subst hn
  have HP := hide_ hp
  have HPL : Hid (∀ i k, i ≤ S.length → k ≤ 4096 → (hts (pTo S i k) t).length ≤ 69632) := hide_ (fun i k hi hk => Nat.le_trans (hts_len _ _) (pTo_len hls h16 hi hk))
  have HL4 : Hid (∀ k, k < S.length → (S.getD k []).length ≤ 4096) := hide_ (fun k hk => hls _ (getD_memL hk))
  obtain ⟨i0, hi, hz0, hz1, hz2⟩ := info_parts info24
  have hnl : (S.length : Int) ≤ 16 := by omega
  clear hp hls h16
  go_enter Try.func101, Try.ntmps101
  go_wp2
  go_loopw [5, 6] (fun u i wr => ∃ k : Nat, k ≤ S.length ∧ i = .int .i64 k ∧ wr.ownsRow w.heap.size 24 1 u (hts (pTo S k 0) t).length ((hts (pTo S k 0) t).map encF) ∧ Grew w.heap.size w wr) (fun _ i _ => S.length - (intOf i).toNat)
  case atStart => exact ⟨0, by omega, rfl, by rw [pTo_zero]; exact World.ownsRow_nil _ _ _ _, Grew.refl _⟩
  case round =>
    obtain ⟨k, hk, rfl, hu, hgr⟩ := hrel
    by_cases hlt : k < S.length
    · obtain ⟨g, o, q, d, rfl, hc0, htl⟩ := HP.out.at_ (Below.refl _ _) hlt
      have hg : g < w.heap.size := by
        rcases HP.out with h | ⟨g', o', e, h, _⟩
        · rw [h] at hlt; cases hlt
        · cases e; exact h
      have HC := hide_ (fun wx (hb : Below w.heap.size w wx) => (hb.cell (p := ⟨g, o + k, none⟩) hg).trans hc0)
      have HT := hide_ htl
      have hl4 := HL4.out k hlt
      have HPLk := hide_ (fun m => HPL.out k m hk)
      have HY := hide_ (fun m x => pTo_yes (S := S) (i := k) (k := m) (x := x))
      have HN := hide_ (fun m x => pTo_no (S := S) (i := k) (k := m) (x := x))
      have HX := hide_ (pTo_next hlt)
      have i4 : (0 : Int) ≤ (k : Int) := by omega
      have i5 : (k : Int) < (S.length : Int) := by omega
      have HLT := hide_ hlt
      clear htl hc0
      generalize S.getD k [] = L at *
      generalize hLL : L.length = ll at *
      go_wp2
      obtain ⟨wo, hwo⟩ : ∃ wo, wo = wr := ⟨_, rfl⟩
      subst hwo
      go_loopw [5, 7] (fun u i wr => ∃ m : Nat, m ≤ ll ∧ i = .int .i64 m ∧ wr.ownsRow w.heap.size 24 1 u (hts (pTo S k m) t).length ((hts (pTo S k m) t).map encF) ∧ Grew w.heap.size w wr) (fun _ i _ => ll - (intOf i).toNat)
      case atStart => exact ⟨0, by omega, rfl, hu, hgr⟩
      case round =>
        obtain ⟨m, hm, rfl, hu, hgr⟩ := hrel
        have d0 := HC.out _ hgr.1
        by_cases hlm : m < ll
        · obtain ⟨g', o', rfl, hg', hc'⟩ := HT.out.some_ (hLL.symm ▸ hlm)
          obtain ⟨c0, c1⟩ := hc' m (hLL.symm ▸ hlm)
          have e0 := (hgr.1.cell (p := ⟨g', o' + m * 2, none⟩) hg').trans c0
          have e1 := (hgr.1.cell (p := ⟨g', o' + m * 2 + 1, none⟩) hg').trans c1
          have HYm := hide_ (fun x => HY.out m x (hLL.symm ▸ hlm))
          have HNm := hide_ (fun x => HN.out m x (hLL.symm ▸ hlm))
          have HPm := HPLk.out m (by omega)
          have j4 : (0 : Int) ≤ (m : Int) := by omega
          have j5 : (m : Int) < (ll : Int) := by omega
          have HLM := hide_ hlm
          clear hc' c0 c1
          generalize hgd : L.getD m (0, 0) = x at *
          obtain ⟨s, b⟩ := x
          have HF := hide_ (rfin_any b)
          simp only at e0 e1 HF
          have HYn := hide_ (HYm.out _ rfl)
          have HNn := hide_ (HNm.out _ rfl)
          clear HYm HNm hgd
          by_cases hst : s = t
          · subst hst
            cases hone : oneB b
            · rw [hone] at HF
              have HQ := hide_ (HNn.out hone)
              clear hone HYn HNn
              go_wp2_with (go_at_call 91; (with_reducible refine (HF.out _).mono ?_); rintro e w5 ⟨rfl, q5, rfl⟩)
              exact ⟨⟨m + 1, HLM.out, by simp, by rw [HQ.out]; exact hu, hgr.drewN _⟩, by have := HLM.out; simp [intOf]; omega⟩
            · rw [hone] at HF
              have HQ : Hid (hts (pTo S k (m + 1)) s = hts (pTo S k m) s ++ [b]) := hide_ (by rw [HYn.out hone, hts_snoc, if_pos rfl])
              clear hone HYn HNn
              have hkb : ((hts (pTo S k m) s).length + 1) * 8 ≤ 140737488355328 := by omega
              go_wp2_with (first
                | (go_at_call 91; (with_reducible refine (HF.out _).mono ?_); rintro e w5 ⟨rfl, q5, rfl⟩)
                | (at_builtin; go_must (
                    refine wpList_push2 rfl _ _ 80 rfl w.heap.size 24 i0 (.float .f64 0) 1 8 Try.underlying80 hi hz0 hz1 hz2 rfl (by decide) (by decide) _ (hts (pTo S k m) s).length _ rfl ((own_drewN hu q5).alloc _) wr.heap.size #[.float .f64 b] 24 1 1 rfl (heap_alloc_last _ _) rfl (by kernel_rfl) hkb ((hgr.drewN q5).alloc _).2 ?_
                    intro v' w6 ho6 hg6 hf6 hn6
                    have hgr6 := own_grew ((hgr.drewN q5).alloc (.cells #[.float .f64 b] 24)) ((own_drewN hu q5).alloc (.cells #[.float .f64 b] 24)) hg6)))
              exact ⟨⟨m + 1, HLM.out, by simp, by rw [HQ.out, List.length_append, List.map_append]; exact ho6, hgr6⟩, by have := HLM.out; simp [intOf]; omega⟩
          · have HQ : Hid (hts (pTo S k (m + 1)) t = hts (pTo S k m) t) := hide_ (by
              cases hone : oneB b
              · rw [HNn.out hone]
              · rw [HYn.out hone, hts_snoc, if_neg hst])
            have hst2 : (s == t) = false := by simpa using hst
            clear HYn HNn
            go_wp2
            exact ⟨⟨m + 1, HLM.out, by simp, by rw [HQ.out]; exact hu, hgr⟩, by have := HLM.out; simp [intOf]; omega⟩
        · have hml : m = ll := by omega
          rw [hml, HX.out] at hu
          have hge : ¬ ll < ll := by omega
          rw [hml]
          clear hm hlm hml
          go_wp2
          exact ⟨⟨k + 1, HLT.out, by simp, hu, hgr⟩, by have := HLT.out; simp [intOf]; omega⟩
    · have hkS : k = S.length := by omega
      rw [hkS, pTo_all] at hu
      have hge : ¬ S.length < S.length := by omega
      rw [hkS]
      have HU := hide_ hu
      clear hlt hk hkS hu
      go_wp2
      go_ret
      exact ⟨⟨_, rfl, HU.out⟩, hgr.below⟩
set_option maxHeartbeats 3200000 in
theorem next_any (p : Option Addr) (n c : Nat) (S : Ls) (t : Int) (w : World) (hn : n = S.length) (hp : ML w p S) (h16 : n ≤ 16) (hls : ∀ L ∈ S, L.length ≤ 4096) :
    Calls Try.prog 100 #[.slice p n c, .int .i64 t] w fun e w' => (∃ b s, e = .returned (.tuple #[.int .i64 b, .bool s]) ∧ Nx (allP S) t b s) ∧ Below w.heap.size w w' := by
  subst hn
  have HP := hide_ hp
  have HL4 : Hid (∀ k, k < S.length → (S.getD k []).length ≤ 4096) := hide_ (fun k hk => hls _ (getD_memL hk))
  have hnl : (S.length : Int) ≤ 16 := by omega
  clear hp hls h16
  go_enter Try.func100, Try.ntmps100
  go_wp2
  go_loopw [6, 7, 8] (fun u v i wr => ∃ k : Nat, k ≤ S.length ∧ i = .int .i64 k ∧ (∃ b s, u = .int .i64 b ∧ v = .bool s ∧ Hid (Nx (pTo S k 0) t b s)) ∧ Grew w.heap.size w wr) (fun _ _ i _ => S.length - (intOf i).toNat)
  case atStart => exact ⟨0, by omega, rfl, ⟨0, false, rfl, rfl, hide_ (by rw [pTo_zero]; exact Nx.nil t)⟩, Grew.refl _⟩
  case round =>
    obtain ⟨k, hk, rfl, ⟨bs, sm, rfl, rfl, HN0⟩, hgr⟩ := hrel
    by_cases hlt : k < S.length
    · obtain ⟨g, o, q, d, rfl, hc0, htl⟩ := HP.out.at_ (Below.refl _ _) hlt
      have hg : g < w.heap.size := by
        rcases HP.out with h | ⟨g', o', e, h, _⟩
        · rw [h] at hlt; cases hlt
        · cases e; exact h
      have HC := hide_ (fun wx (hb : Below w.heap.size w wx) => (hb.cell (p := ⟨g, o + k, none⟩) hg).trans hc0)
      have HT := hide_ htl
      have hl4 := HL4.out k hlt
      have HY := hide_ (fun m x => pTo_yes (S := S) (i := k) (k := m) (x := x))
      have HN := hide_ (fun m x => pTo_no (S := S) (i := k) (k := m) (x := x))
      have HX := hide_ (pTo_next hlt)
      have i4 : (0 : Int) ≤ (k : Int) := by omega
      have i5 : (k : Int) < (S.length : Int) := by omega
      have HLT := hide_ hlt
      clear htl hc0
      generalize S.getD k [] = L at *
      generalize hLL : L.length = ll at *
      go_wp2
      obtain ⟨wo, hwo⟩ : ∃ wo, wo = wr := ⟨_, rfl⟩
      subst hwo
      go_loopw [6, 7, 9] (fun u v i wr => ∃ m : Nat, m ≤ ll ∧ i = .int .i64 m ∧ (∃ b s, u = .int .i64 b ∧ v = .bool s ∧ Hid (Nx (pTo S k m) t b s)) ∧ Grew w.heap.size w wr) (fun _ _ i _ => ll - (intOf i).toNat)
      case atStart => exact ⟨0, by omega, rfl, ⟨_, _, rfl, rfl, HN0⟩, hgr⟩
      case round =>
        obtain ⟨m, hm, rfl, ⟨bs, sm, rfl, rfl, HN1⟩, hgr⟩ := hrel
        have d0 := HC.out _ hgr.1
        by_cases hlm : m < ll
        · obtain ⟨g', o', rfl, hg', hc'⟩ := HT.out.some_ (hLL.symm ▸ hlm)
          obtain ⟨c0, c1⟩ := hc' m (hLL.symm ▸ hlm)
          have e0 := (hgr.1.cell (p := ⟨g', o' + m * 2, none⟩) hg').trans c0
          have e1 := (hgr.1.cell (p := ⟨g', o' + m * 2 + 1, none⟩) hg').trans c1
          have HYm := hide_ (fun x => HY.out m x (hLL.symm ▸ hlm))
          have HNm := hide_ (fun x => HN.out m x (hLL.symm ▸ hlm))
          have j4 : (0 : Int) ≤ (m : Int) := by omega
          have j5 : (m : Int) < (ll : Int) := by omega
          have HLM := hide_ hlm
          clear hc' c0 c1
          generalize hgd : L.getD m (0, 0) = x at *
          obtain ⟨s, b⟩ := x
          have HF := hide_ (rfin_any b)
          simp only at e0 e1 HF
          have HYn := hide_ (HYm.out _ rfl)
          have HNn := hide_ (HNm.out _ rfl)
          clear HYm HNm hgd
          have hgrA := hgr.alloc (.cells #[.int .i64 s, .float .f64 b] 26)
          obtain ⟨r0, r1⟩ := cells_two (heap_alloc_last wr (.cells #[.int .i64 s, .float .f64 b] 26))
          cases hone : oneB b
          · rw [hone] at HF
            have HQ := hide_ (HNn.out hone)
            clear hone HYn HNn
            go_wp2_with (go_at_call 91; (with_reducible refine (HF.out _).mono ?_); rintro e w5 ⟨rfl, q5, rfl⟩)
            exact ⟨⟨m + 1, HLM.out, by simp, ⟨_, _, rfl, rfl, hide_ (by rw [HQ.out]; exact HN1.out)⟩, hgrA.drewN _⟩, by have := HLM.out; simp [intOf]; omega⟩
          · rw [hone] at HF
            have HQ := hide_ (HYn.out hone)
            clear hone HYn HNn
            by_cases hts : t < s
            · cases sm
              · have HR := hide_ (HN1.out.first (x := (s, b)) hts)
                go_wp2_with (go_at_call 91; (with_reducible refine (HF.out _).mono ?_); rintro e w5 ⟨rfl, q5, rfl⟩)
                exact ⟨⟨m + 1, HLM.out, by simp, ⟨_, _, rfl, rfl, hide_ (by rw [HQ.out]; exact HR.out)⟩, hgrA.drewN _⟩, by have := HLM.out; simp [intOf]; omega⟩
              · by_cases hsb : s < bs
                · have HR := hide_ (HN1.out.less (x := (s, b)) hts hsb)
                  go_wp2_with (go_at_call 91; (with_reducible refine (HF.out _).mono ?_); rintro e w5 ⟨rfl, q5, rfl⟩)
                  exact ⟨⟨m + 1, HLM.out, by simp, ⟨_, _, rfl, rfl, hide_ (by rw [HQ.out]; exact HR.out)⟩, hgrA.drewN _⟩, by have := HLM.out; simp [intOf]; omega⟩
                · have HR := hide_ (HN1.out.more (x := (s, b)) hsb)
                  go_wp2_with (go_at_call 91; (with_reducible refine (HF.out _).mono ?_); rintro e w5 ⟨rfl, q5, rfl⟩)
                  exact ⟨⟨m + 1, HLM.out, by simp, ⟨_, _, rfl, rfl, hide_ (by rw [HQ.out]; exact HR.out)⟩, hgrA.drewN _⟩, by have := HLM.out; simp [intOf]; omega⟩
            · have HR := hide_ (HN1.out.low (x := (s, b)) hts)
              go_wp2_with (go_at_call 91; (with_reducible refine (HF.out _).mono ?_); rintro e w5 ⟨rfl, q5, rfl⟩)
              exact ⟨⟨m + 1, HLM.out, by simp, ⟨_, _, rfl, rfl, hide_ (by rw [HQ.out]; exact HR.out)⟩, hgrA.drewN _⟩, by have := HLM.out; simp [intOf]; omega⟩
        · have hml : m = ll := by omega
          rw [hml, HX.out] at HN1
          have hge : ¬ ll < ll := by omega
          rw [hml]
          clear hm hlm hml
          go_wp2
          exact ⟨⟨k + 1, HLT.out, by simp, ⟨_, _, rfl, rfl, HN1⟩, hgr⟩, by have := HLT.out; simp [intOf]; omega⟩
    · have hkS : k = S.length := by omega
      rw [hkS, pTo_all] at HN0
      have hge : ¬ S.length < S.length := by omega
      rw [hkS]
      clear hlt hk hkS
      go_wp2
      go_ret2
      exact ⟨⟨_, _, rfl, HN0.out⟩, hgr.below⟩
end Go.Proofs.Ytlgnidjkilbdfaa
