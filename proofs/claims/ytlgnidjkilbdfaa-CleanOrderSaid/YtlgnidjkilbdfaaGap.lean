/- Chapter 19: Gaps: the gaps of a span. -/
import Derived.Test.YtlgnidjkilbdfaaBet
namespace Go.Proofs.Ytlgnidjkilbdfaa
open Go.RowKit
set_option linter.unusedVariables false
set_option maxRecDepth 100000
abbrev Gs := List (Int × Int)
def flatG (G : Gs) : List Value := G.flatMap fun p => [.int .i64 p.1, .int .i64 p.2]
theorem flatG_append (L M : Gs) : flatG (L ++ M) = flatG L ++ flatG M := List.flatMap_append
def gstep (s : Gs × Int) (p : Int × Nat) : Gs × Int := (if s.2 < p.1 then s.1 ++ [(s.2, p.1 - s.2)] else s.1, p.1 + 1)
def gst (a : Int) (S : Rc) (k : Nat) : Gs × Int := (S.take k).foldl gstep ([], a)
def gapsOf (L : Rc) (a b : Int) : Gs := if askE a b = 0 then (gst a (bt L a b ++ [(b, 0)]) (bt L a b ++ [(b, 0)]).length).1 else []
theorem gst_succ (a : Int) (S : Rc) (k : Nat) (h : k < S.length) : gst a S (k + 1) = gstep (gst a S k) (S.getD k (0, 0)) := by
  unfold gst
  rw [take_snoc S k h, List.foldl_append]
  rfl
theorem gst_len (a : Int) (S : Rc) (k : Nat) : (gst a S k).1.length ≤ k := by
  induction k with
  | zero => simp [gst]
  | succ k ih =>
    rcases Nat.lt_or_ge k S.length with h | h
    · rw [gst_succ a S k h]
      unfold gstep
      split
      · simp; omega
      · simp only; omega
    · have : gst a S (k + 1) = gst a S k := by unfold gst; rw [List.take_of_length_le (by omega), List.take_of_length_le h]
      rw [this]; omega
theorem gst_rng {a : Int} {S : Rc} (h0 : 0 ≤ a) (h1 : a ≤ 1048577) (hS : ∀ p ∈ S, 0 ≤ p.1 ∧ p.1 ≤ 1048577) (k : Nat) : 0 ≤ (gst a S k).2 ∧ (gst a S k).2 ≤ 1048578 := by
  induction k with
  | zero => simp [gst]; omega
  | succ k ih =>
    rcases Nat.lt_or_ge k S.length with h | h
    · rw [gst_succ a S k h]
      have := hS _ (mem_getD h)
      unfold gstep
      simp only
      omega
    · have : gst a S (k + 1) = gst a S k := by unfold gst; rw [List.take_of_length_le (by omega), List.take_of_length_le h]
      rw [this]; exact ih
theorem info76 : (Try.prog.info? 76).map (fun i => (i.zero, i.size, i.bytes)) = some (some (.agg #[.int .i64 0, .int .i64 0]), 2, 16) := by kernel_rfl
theorem ask_zero {a b : Int} (h : askE a b = 0) : 0 ≤ a ∧ b ≤ 1048577 ∧ a ≤ b := by
  unfold askE at h
  split at h
  · cases h
  · omega
theorem bt_len (L : Rc) (a b : Int) : (bt L a b).length ≤ L.length := by
  unfold bt
  split
  · exact Nat.le_trans (btw_len _ _ _) (List.length_filter_le _ _)
  · simp
theorem bt_mem {L : Rc} {a b : Int} {p : Int × Nat} (h : p ∈ bt L a b) : p ∈ L ∧ a ≤ p.1 ∧ p.1 < b ∧ oneB p.2 = true := by
  unfold bt at h
  split at h
  · obtain ⟨h1, h2⟩ := List.mem_filter.1 h
    obtain ⟨h3, h4⟩ := List.mem_filter.1 h1
    simp [inSp] at h2
    exact ⟨h3, h2.1, h2.2, h4⟩
  · cases h
theorem row_off {w : World} {B b : Nat} {e : TypeId} {size n : Nat} {v : Value} {xs : List Value} (h : w.ownsRow B e size v n xs) (hb : w.heap.size ≤ b) : some b ≠ v.ownBlock := fun e' => by have := (h.lt b e'.symm).2; omega
set_option maxHeartbeats 3200000 in
theorem gaps_e {w : World} {rb mb : Nat} {L : Rc} {a b : Int} (h : Rec w rb mb L) (he : askE a b ≠ 0) : Calls Try.prog 35 #[.pointer (some ⟨rb, 0, none⟩), .int .i64 a, .int .i64 b] w fun e w' =>
    e = .returned (.tuple #[.slice none 0 0, .int .i64 (askE a b)]) ∧ Below w.heap.size w w' := by
  have HA := hide_ (asked_rec (a := a) (b := b) h)
  have hne : (askE a b != 0) = true := by simpa using he
  generalize askE a b = ev at *
  clear h he
  go_enter Try.func35, Try.ntmps35
  go_wp2_with (go_at_call 80; (with_reducible refine (HA.out).mono ?_); rintro e w1 ⟨rfl, rfl⟩)
  go_ret2
  exact ⟨rfl, Below.refl _ _⟩
set_option maxHeartbeats 3200000 in
theorem gaps_0 {w : World} {rb mb : Nat} {L : Rc} {a b : Int} (h : Rec w rb mb L) (he : askE a b = 0) : Calls Try.prog 35 #[.pointer (some ⟨rb, 0, none⟩), .int .i64 a, .int .i64 b] w fun e w' =>
    ∃ v, e = .returned (.tuple #[v, .int .i64 0]) ∧ w'.ownsRow w.heap.size 76 2 v (gapsOf L a b).length (flatG (gapsOf L a b)) ∧ (v = .slice none 0 0 ↔ gapsOf L a b = []) ∧ Below w.heap.size w w' := by
  have HA := hide_ (asked_rec (a := a) (b := b) h)
  have HB := hide_ (between_rec (a := a) (b := b) h)
  rw [he] at HA HB
  have hgo : gapsOf L a b = (gst a (bt L a b ++ [(b, 0)]) (bt L a b ++ [(b, 0)]).length).1 := by unfold gapsOf; rw [if_pos he]
  rw [hgo]
  obtain ⟨r1, r2, r3⟩ := ask_zero he
  have hSr : ∀ p ∈ bt L a b ++ [(b, 0)], 0 ≤ p.1 ∧ p.1 ≤ 1048577 := by
    intro p hp
    rcases List.mem_append.1 hp with hp | hp
    · have := bt_mem hp; omega
    · simp at hp; subst hp; simp only; omega
  have hlen : (bt L a b ++ [(b, 0)]).length ≤ 4097 := by
    rw [List.length_append]; have := bt_len L a b; have := h.ok.len; simp; omega
  have hbl : (bt L a b).length ≤ 4096 := by have := bt_len L a b; have := h.ok.len; omega
  have HSr := hide_ hSr
  have HRg := hide_ (gst_rng r1 (by omega) hSr)
  have hSe : flat (bt L a b ++ [(b, 0)]) = flat (bt L a b) ++ [.int .i64 b, .float .f64 0] := by rw [flat_append]; rfl
  have hSl : (bt L a b ++ [(b, 0)]).length = (bt L a b).length + 1 := by simp
  generalize bt L a b ++ [(b, 0)] = S at *
  have HSe := hide_ hSe
  have HSl := hide_ hSl
  clear h he hgo hSr hSe hSl
  obtain ⟨i0, hi, hz0, hz1, hz2⟩ := info_parts info26
  obtain ⟨i1, gi, gz0, gz1, gz2⟩ := info_parts info76
  have tok1 : True := trivial
  go_enter Try.func35, Try.ntmps35
  go_wp2_with (first
    | (go_at_call 80; (with_reducible refine (HA.out).mono ?_); rintro e w1 ⟨rfl, rfl⟩)
    | (go_at_call 36; (with_reducible refine (HB.out).mono ?_); rintro e w1 ⟨v, rfl, hrow, _, hb⟩; have hs1 := hb.size)
    | (at_builtin; have _t := tok1; go_must (
        refine wpList_push rfl (.tmp 30) (.tmp 33) 23 rfl w.heap.size 26 i0 (.agg #[.int .i64 0, .float .f64 0]) 2 16 Try.underlying23 hi hz0 hz1 hz2 rfl (by decide) (by decide) _ _ _ rfl hrow #[.int .i64 b, .float .f64 0] 26 1 1 rfl rfl (by kernel_rfl) (by omega) hs1 ?_
        intro v2 w2 ho2 hb2 hg2 hn2
        have hw2 := hb.trans hb2
        have HS := hide_ (show SL w2 w.heap.size v2 S by unfold SL; rw [HSl.out, HSe.out]; exact ho2)
        obtain ⟨p, c, rfl⟩ := HS.out.slice
        clear tok1 ho2 hb2 hg2 hn2)))
  have hg0 : Grew w.heap.size w w2 := ⟨hw2, hw2.size⟩
  clear hw2 hb hrow hs1
  go_loopw [9, 10, 36] (fun o f i wr => ∃ k : Nat, k ≤ S.length ∧ i = .int .i64 k ∧ f = .int .i64 (gst a S k).2 ∧ wr.ownsRow w2.heap.size 76 2 o (gst a S k).1.length (flatG (gst a S k).1) ∧ Hid (o = .slice none 0 0 ↔ (gst a S k).1 = []) ∧ Grew w2.heap.size w2 wr)
    (fun _ _ i _ => S.length - (intOf i).toNat)
  case atStart => exact ⟨0, by omega, rfl, rfl, World.ownsRow_nil _ _ _ _, hide_ (by simp [gst]), Grew.refl _⟩
  case round =>
    obtain ⟨k, hk, rfl, rfl, hown, hnil, hgr⟩ := hrel
    by_cases hlt : k < S.length
    · obtain ⟨g, rfl, hgl, hc0, hc1⟩ := (HS.out.below hgr.1).cells hlt
      have hst := gst_succ a S k hlt
      have hmr := HSr.out _ (mem_getD hlt)
      have hfr := HRg.out k
      have hgl2 := gst_len a S k
      generalize htt : (S.getD k (0, 0)).1 = t at *
      generalize hhh : (S.getD k (0, 0)).2 = h at *
      have hgd : S.getD k (0, 0) = (t, h) := by rw [← htt, ← hhh]
      rw [hgd] at hst
      have HST := hide_ hst
      obtain ⟨G, hG⟩ : ∃ G, G = (gst a S k).1 := ⟨_, rfl⟩
      obtain ⟨f, hf⟩ : ∃ f, f = (gst a S k).2 := ⟨_, rfl⟩
      rw [← hf] at hfr
      rw [← hG] at hown hnil hgl2
      have HGf := hide_ (And.intro hG hf)
      rw [← hf]
      clear hst hgd htt hhh hG hf
      by_cases hcmp : f < t
      · have hs2 : gst a S (k + 1) = (G ++ [(f, t - f)], t + 1) := by
          rw [HST.out]; unfold gstep; rw [← HGf.out.1, ← HGf.out.2]; simp only; rw [if_pos hcmp]
        have H2 := hide_ hs2
        clear hs2
        have hA := heap_alloc_last wr (.cells #[.int .i64 t, .float .f64 h] 26)
        have hgrA := hgr.alloc (.cells #[.int .i64 t, .float .f64 h] 26)
        have hownA := hown.alloc (.cells #[.int .i64 t, .float .f64 h] 26)
        have hbA := hgrA.2
        have hkb : (G.length + 1) * 16 ≤ 140737488355328 := by omega
        have hlA : wr.heap.size < (wr.alloc (.cells #[.int .i64 t, .float .f64 h] 26)).heap.size := by simp
        obtain ⟨hcA0, hcA1⟩ := cells_two hA
        clear hA
        go_wp2_with (first
          | ((with_reducible apply wpList_store_new); (with_reducible rfl); (with_reducible rfl); rfl; rfl; kernel_rfl; rfl; kernel_rfl)
          | (at_builtin; go_must (
              refine wpList_push2 rfl _ _ 66 rfl w2.heap.size 76 i1 (.agg #[.int .i64 0, .int .i64 0]) 2 16 Try.underlying66 gi gz0 gz1 gz2 rfl (by decide) (by decide) _ G.length _ rfl (hownA.alloc _) (wr.heap.size + 1) #[.int .i64 f, .int .i64 (t - f)] 76 1 1 rfl (heap_at1 _ _ _) rfl (by kernel_rfl) hkb (hgrA.alloc _).2 ?_
              intro v' w3 ho3 hg3 hf3 hn3
              have hcB0 := cell_grown (cell_past (o := .cells #[.int .i64 f, .int .i64 (t - f)] 76) hcA0) hg3 (row_off hown (Nat.le_refl _))
              have hgr3 := own_grew (hgrA.alloc (.cells #[.int .i64 f, .int .i64 (t - f)] 76)) hown hg3
              clear hg3 hf3)))
        go_roundw
        case rel =>
          refine ⟨k + 1, by omega, by go_num, by rw [H2.out], ?_, hide_ ?_, hgr3⟩
          · rw [H2.out]; simp only; rw [List.length_append, flatG_append]; exact ho3
          · rw [H2.out, hn3]; simp
        case measure => simp [intOf]; omega
      · have hs2 : gst a S (k + 1) = (G, t + 1) := by
          rw [HST.out]; unfold gstep; rw [← HGf.out.1, ← HGf.out.2]; simp only; rw [if_neg hcmp]
        have H2 := hide_ hs2
        clear hs2
        have hge : t ≤ f := by omega
        go_wp2_with (first | ((with_reducible apply wpList_store_new); (with_reducible rfl); (with_reducible rfl); rfl; rfl; kernel_rfl; rfl; kernel_rfl))
        go_roundw
        case rel =>
          refine ⟨k + 1, by omega, by go_num, by rw [H2.out], ?_, hide_ ?_, hgr.alloc _⟩
          · rw [H2.out]; exact hown.alloc _
          · rw [H2.out]; exact hnil.out
        case measure => simp [intOf]; omega
    · obtain rfl : k = S.length := by omega
      have hge : ¬ S.length < S.length := by omega
      go_wp2
      go_ret2
      exact ⟨_, rfl, Go.Proofs.ownsRow_base_a hown hg0.2, hnil.out, (hg0.step hgr.1).below⟩
theorem gaps_rec {w : World} {rb mb : Nat} {L : Rc} {a b : Int} (h : Rec w rb mb L) : Calls Try.prog 35 #[.pointer (some ⟨rb, 0, none⟩), .int .i64 a, .int .i64 b] w fun e w' =>
    ∃ v, e = .returned (.tuple #[v, .int .i64 (askE a b)]) ∧ w'.ownsRow w.heap.size 76 2 v (gapsOf L a b).length (flatG (gapsOf L a b)) ∧ (v = .slice none 0 0 ↔ gapsOf L a b = []) ∧ Below w.heap.size w w' := by
  by_cases he : askE a b = 0
  · rw [he]
    exact gaps_0 h he
  · have h0 : gapsOf L a b = [] := by unfold gapsOf; rw [if_neg he]
    rw [h0]
    exact (gaps_e h he).mono fun e w' ⟨h1, h2⟩ => ⟨_, h1, World.ownsRow_nil _ _ _ _, by simp, h2⟩
end Go.Proofs.Ytlgnidjkilbdfaa
