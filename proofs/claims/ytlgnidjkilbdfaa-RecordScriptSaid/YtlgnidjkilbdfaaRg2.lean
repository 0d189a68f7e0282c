/- Chapter 19: the reference's record: Gaps. -/
import Derived.Test.YtlgnidjkilbdfaaRg
namespace Go.Proofs.Ytlgnidjkilbdfaa
open Go.RowKit
set_option linter.unusedVariables false
set_option maxRecDepth 100000
theorem getD_app {S : Rc} {p : Int × Nat} (k : Nat) (h : k ≤ S.length) : (S ++ [p]).getD k (0, 0) = if k < S.length then S.getD k (0, 0) else p := by
  split
  · rename_i hk
    simp [List.getD_eq_getElem?_getD, List.getElem?_append, hk]
  · rename_i hk
    obtain rfl : k = S.length := by omega
    simp [List.getD_eq_getElem?_getD]
set_option maxHeartbeats 3200000 in
theorem rgaps_0 {w : World} {qb : Nat} {v : Value} {L : Rc} {a b : Int} (h : RRec w qb v L) (he : askE a b = 0) : Calls Try.prog 106 #[.pointer (some ⟨qb, 0, none⟩), .int .i64 a, .int .i64 b] w fun e w' =>
    ∃ v, e = .returned (.tuple #[v, .int .i64 0]) ∧ w'.ownsRow w.heap.size 76 2 v (gapsOf L a b).length (flatG (gapsOf L a b)) ∧ (v = .slice none 0 0 ↔ gapsOf L a b = []) ∧ Below w.heap.size w w' := by
  have HB := hide_ (rbetween_rec (a := a) (b := b) h)
  rw [he] at HB
  have hgo : gapsOf L a b = (gst a (bt L a b ++ [(b, 0)]) (bt L a b ++ [(b, 0)]).length).1 := by unfold gapsOf; rw [if_pos he]
  rw [hgo]
  obtain ⟨r1, r2, r3⟩ := ask_zero he
  have hSr : ∀ p ∈ bt L a b ++ [(b, 0)], 0 ≤ p.1 ∧ p.1 ≤ 1048577 := by
    intro p hp
    rcases List.mem_append.1 hp with hp | hp
    · have := bt_mem hp; omega
    · simp at hp; subst hp; simp only; omega
  have hbl : (bt L a b).length ≤ 4096 := by have := bt_len L a b; have := h.ok.len; omega
  have HRg := hide_ (gst_rng r1 (by omega) hSr)
  have hSl : (bt L a b ++ [(b, 0)]).length = (bt L a b).length + 1 := by simp
  rw [hSl]
  have HSr := hide_ hSr
  generalize bt L a b = S at *
  clear h he hgo hSr hSl
  obtain ⟨i1, gi, gz0, gz1, gz2⟩ := info_parts info76
  go_enter Try.func106, Try.ntmps106
  go_wp2_with (go_at_call 107; (with_reducible refine (HB.out).mono ?_); rintro e w1 ⟨v, rfl, hrow, _, hb⟩; obtain ⟨p, c, rfl⟩ := row_slice hrow; have HR := hide_ (show SL w1 w.heap.size _ S from hrow); clear hrow)
  have hg0 := hide_ (Grew.of hb)
  clear hb
  go_loopw [10, 11, 12, 13] (fun o f i u wr => ∃ k : Nat, k ≤ S.length + 1 ∧ i = .int .i64 k ∧ f = .int .i64 (gst a (S ++ [(b, 0)]) k).2 ∧ wr.ownsRow w1.heap.size 76 2 o (gst a (S ++ [(b, 0)]) k).1.length (flatG (gst a (S ++ [(b, 0)]) k).1) ∧ Hid (o = .slice none 0 0 ↔ (gst a (S ++ [(b, 0)]) k).1 = []) ∧ Grew w1.heap.size w1 wr)
    (fun _ _ i _ _ => S.length + 1 - (intOf i).toNat)
  case atStart => exact ⟨0, by omega, rfl, rfl, World.ownsRow_nil _ _ _ _, hide_ (by simp [gst]), Grew.refl _⟩
  case round =>
    obtain ⟨k, hk, rfl, rfl, hown, hnil, hgr⟩ := hrel
    by_cases hle : k ≤ S.length
    · have hst := gst_succ a (S ++ [(b, 0)]) k (by simp; omega)
      have hmr := HSr.out _ (mem_getD (L := S ++ [(b, 0)]) (k := k) (by simp; omega))
      have hfr := HRg.out k
      have hgl2 := gst_len a (S ++ [(b, 0)]) k
      have hgd := getD_app (p := (b, 0)) k hle
      rw [hgd] at hst hmr
      clear hgd
      obtain ⟨G, hG⟩ : ∃ G, G = (gst a (S ++ [(b, 0)]) k).1 := ⟨_, rfl⟩
      obtain ⟨f, hf⟩ : ∃ f, f = (gst a (S ++ [(b, 0)]) k).2 := ⟨_, rfl⟩
      rw [← hf] at hfr
      rw [← hG] at hown hnil hgl2
      have HGf := hide_ (And.intro hG hf)
      rw [← hf]
      clear hG hf
      have hkb : (G.length + 1) * 16 ≤ 140737488355328 := by omega
      have hbase := hgr.2
      by_cases hlt : k < S.length
      · obtain ⟨g, rfl, hgl, hc0, hc1⟩ := (HR.out.below hgr.1).cells hlt
        rw [if_pos hlt] at hst hmr
        generalize htt : (S.getD k (0, 0)).1 = t at *
        generalize hhh : (S.getD k (0, 0)).2 = h at *
        have hgd : S.getD k (0, 0) = (t, h) := by rw [← htt, ← hhh]
        rw [hgd] at hst
        have HST := hide_ hst
        clear hst hgd htt hhh
        by_cases hcmp : f < t
        · have hs2 : gst a (S ++ [(b, 0)]) (k + 1) = (G ++ [(f, t - f)], t + 1) := by
            rw [HST.out]; unfold gstep; rw [← HGf.out.1, ← HGf.out.2]; simp only; rw [if_pos hcmp]
          have H2 := hide_ hs2
          clear hs2
          go_wp2_with (at_builtin; go_must (
            refine wpList_push rfl _ _ 66 rfl w1.heap.size 76 i1 (.agg #[.int .i64 0, .int .i64 0]) 2 16 Try.underlying66 gi gz0 gz1 gz2 rfl (by decide) (by decide) _ G.length _ rfl hown #[.int .i64 f, .int .i64 (t - f)] 76 1 1 rfl rfl (by kernel_rfl) hkb hbase ?_
            intro v' w3 ho3 hb3 hg3 hn3
            have hgr3 := hgr.more hb3
            clear hg3 hb3))
          go_roundw
          case rel =>
            refine ⟨k + 1, by omega, by go_num, by rw [H2.out], ?_, hide_ ?_, hgr3⟩
            · rw [H2.out]; simp only; rw [List.length_append, flatG_append]; exact ho3
            · rw [H2.out, hn3]; simp
          case measure => simp [intOf]; omega
        · have hs2 : gst a (S ++ [(b, 0)]) (k + 1) = (G, t + 1) := by
            rw [HST.out]; unfold gstep; rw [← HGf.out.1, ← HGf.out.2]; simp only; rw [if_neg hcmp]
          have H2 := hide_ hs2
          clear hs2
          have hge : t ≤ f := by omega
          clear hcmp
          go_wp2
          go_roundw
          case rel => exact ⟨k + 1, by omega, by go_num, by rw [H2.out], by rw [H2.out]; exact hown, hide_ (by rw [H2.out]; exact hnil.out), hgr⟩
          case measure => simp [intOf]; omega
      · have hk2 : S.length ≤ k := by omega
        have hk3 : k ≤ S.length := hle
        rw [if_neg hlt] at hst hmr
        have HST := hide_ hst
        clear hst
        by_cases hcmp : f < b
        · have hs2 : gst a (S ++ [(b, 0)]) (k + 1) = (G ++ [(f, b - f)], b + 1) := by
            rw [HST.out]; unfold gstep; rw [← HGf.out.1, ← HGf.out.2]; simp only; rw [if_pos hcmp]
          have H2 := hide_ hs2
          clear hs2
          go_wp2_with (at_builtin; go_must (
            refine wpList_push rfl _ _ 66 rfl w1.heap.size 76 i1 (.agg #[.int .i64 0, .int .i64 0]) 2 16 Try.underlying66 gi gz0 gz1 gz2 rfl (by decide) (by decide) _ G.length _ rfl hown #[.int .i64 f, .int .i64 (b - f)] 76 1 1 rfl rfl (by kernel_rfl) hkb hbase ?_
            intro v' w3 ho3 hb3 hg3 hn3
            have hgr3 := hgr.more hb3
            clear hg3 hb3))
          go_roundw
          case rel =>
            refine ⟨k + 1, by omega, by go_num, by rw [H2.out], ?_, hide_ ?_, hgr3⟩
            · rw [H2.out]; simp only; rw [List.length_append, flatG_append]; exact ho3
            · rw [H2.out, hn3]; simp
          case measure => simp [intOf]; omega
        · have hs2 : gst a (S ++ [(b, 0)]) (k + 1) = (G, b + 1) := by
            rw [HST.out]; unfold gstep; rw [← HGf.out.1, ← HGf.out.2]; simp only; rw [if_neg hcmp]
          have H2 := hide_ hs2
          clear hs2
          have hge : b ≤ f := by omega
          clear hcmp
          go_wp2
          go_roundw
          case rel => exact ⟨k + 1, by omega, by go_num, by rw [H2.out], by rw [H2.out]; exact hown, hide_ (by rw [H2.out]; exact hnil.out), hgr⟩
          case measure => simp [intOf]; omega
    · obtain rfl : k = S.length + 1 := by omega
      have hgt : ¬ ((S.length : Int) + 1 ≤ S.length) := by omega
      go_wp2
      go_ret2
      exact ⟨_, rfl, Go.Proofs.ownsRow_base_a hown hg0.out.2, hnil.out, (hg0.out.step hgr.1).below⟩
theorem rgaps_rec {w : World} {qb : Nat} {v : Value} {L : Rc} {a b : Int} (h : RRec w qb v L) : Calls Try.prog 106 #[.pointer (some ⟨qb, 0, none⟩), .int .i64 a, .int .i64 b] w fun e w' =>
    ∃ v, e = .returned (.tuple #[v, .int .i64 (askE a b)]) ∧ w'.ownsRow w.heap.size 76 2 v (gapsOf L a b).length (flatG (gapsOf L a b)) ∧ (v = .slice none 0 0 ↔ gapsOf L a b = []) ∧ Below w.heap.size w w' := by
  by_cases he : askE a b = 0
  · rw [he]
    exact rgaps_0 h he
  · have h0 : gapsOf L a b = [] := by unfold gapsOf; rw [if_neg he]
    have HB := hide_ (rbetween_rec (a := a) (b := b) h)
    have hne : (askE a b != 0) = true := by simpa using he
    rw [h0]
    generalize askE a b = ev at *
    clear h he h0
    go_enter Try.func106, Try.ntmps106
    go_wp2_with (go_at_call 107; (with_reducible refine (HB.out).mono ?_); rintro e w1 ⟨v, rfl, hrow, _, hb⟩; clear hrow)
    go_ret2
    exact ⟨_, rfl, World.ownsRow_nil _ _ _ _, by simp, hb⟩
end Go.Proofs.Ytlgnidjkilbdfaa
