/- Chapter 19: the reference's record: Between. -/
import Derived.Test.YtlgnidjkilbdfaaAwk
namespace Go.Proofs.Ytlgnidjkilbdfaa
open Go.RowKit
set_option linter.unusedVariables false
set_option maxRecDepth 100000
theorem btw_cons {S : Rc} {a b : Int} {k : Nat} {t : Int} {h : Nat} (hs : S.take (k + 1) = S.take k ++ [(t, h)]) : btw (S.take (k + 1)) a b = if a ≤ t ∧ t < b then btw (S.take k) a b ++ [(t, h)] else btw (S.take k) a b := by
  rw [hs]
  by_cases h1 : a ≤ t ∧ t < b
  · rw [if_pos h1]; exact btw_hit (by simp [inSp, h1.1, h1.2])
  · rw [if_neg h1]; exact btw_miss (by simp [inSp]; omega)
set_option maxHeartbeats 1600000 in
theorem rbetween_e {w : World} {qb : Nat} {v : Value} {L : Rc} {a b : Int} (h : RRec w qb v L) (he : askE a b ≠ 0) : Calls Try.prog 107 #[.pointer (some ⟨qb, 0, none⟩), .int .i64 a, .int .i64 b] w fun e w' =>
    e = .returned (.tuple #[.slice none 0 0, .int .i64 2]) ∧ w = w' := by
  have HN := hide_ (rnone_rec h)
  clear h
  have h0 : ¬ (0 ≤ a ∧ b ≤ 1048577 ∧ a ≤ b) := fun h => he (by unfold askE; rw [if_neg (by omega)])
  clear he
  by_cases h1 : a < 0
  · clear h0
    go_enter Try.func107, Try.ntmps107
    go_wp2_with (go_at_call 70; (with_reducible refine (HN.out).mono ?_); rintro e w1 ⟨rfl, rfl⟩)
    go_ret2
    exact ⟨rfl, rfl⟩
  · by_cases h2 : 1048577 < b
    · clear h0
      go_enter Try.func107, Try.ntmps107
      go_wp2_with (go_at_call 70; (with_reducible refine (HN.out).mono ?_); rintro e w1 ⟨rfl, rfl⟩)
      go_ret2
      exact ⟨rfl, rfl⟩
    · have h3 : b < a := by omega
      clear h0
      go_enter Try.func107, Try.ntmps107
      go_wp2_with (go_at_call 70; (with_reducible refine (HN.out).mono ?_); rintro e w1 ⟨rfl, rfl⟩)
      go_ret2
      exact ⟨rfl, rfl⟩
set_option maxHeartbeats 1600000 in
theorem rbetween_0 {w : World} {qb : Nat} {v : Value} {L : Rc} {a b : Int} (h : RRec w qb v L) (he : askE a b = 0) : Calls Try.prog 107 #[.pointer (some ⟨qb, 0, none⟩), .int .i64 a, .int .i64 b] w fun e w' =>
    ∃ v, e = .returned (.tuple #[v, .int .i64 0]) ∧ w'.ownsRow w.heap.size 26 2 v (btw (ones L) a b).length (flat (btw (ones L) a b)) ∧ (v = .slice none 0 0 ↔ btw (ones L) a b = []) ∧ Below w.heap.size w w' := by
  have HN := hide_ (rnone_rec h)
  have HS := hide_ (rsamples_rec h)
  have hol : (ones L).length ≤ 5000 := Nat.le_trans (List.length_filter_le _ _) (by have := h.ok.len; omega)
  generalize ones L = S at *
  clear h
  obtain ⟨r1, r2, r3⟩ := ask_zero he
  clear he
  have n1 : ¬ a < 0 := by omega
  have n2 : ¬ 1048577 < b := by omega
  have n3 : ¬ b < a := by omega
  obtain ⟨i0, hi, hz0, hz1, hz2⟩ := info_parts info26
  go_enter Try.func107, Try.ntmps107
  go_wp2_with (first
    | (go_at_call 70; (with_reducible refine (HN.out).mono ?_); rintro e w1 ⟨rfl, rfl⟩)
    | (go_at_call 22; (with_reducible refine (HS.out).mono ?_); rintro e w1 ⟨v, rfl, hrow, _, hb⟩; obtain ⟨p, c, rfl⟩ := row_slice hrow; have HR := hide_ (show SL w1 w.heap.size _ S from hrow); clear hrow))
  have hg0 := hide_ (Grew.of hb)
  clear hb
  go_loopw [8, 10] (fun o i wr => ∃ k : Nat, k ≤ S.length ∧ i = .int .i64 k ∧ wr.ownsRow w1.heap.size 26 2 o (btw (S.take k) a b).length (flat (btw (S.take k) a b)) ∧ Hid (o = .slice none 0 0 ↔ btw (S.take k) a b = []) ∧ Grew w1.heap.size w1 wr)
    (fun _ i _ => S.length - (intOf i).toNat)
  case atStart => exact ⟨0, by omega, rfl, World.ownsRow_nil _ _ _ _, hide_ (by simp [btw]), Grew.refl _⟩
  case round =>
    obtain ⟨k, hk, rfl, hown, hnil, hgr⟩ := hrel
    by_cases hlt : k < S.length
    · obtain ⟨g, rfl, hgl, hc0, hc1⟩ := (HR.out.below hgr.1).cells hlt
      have hsn := take_snoc S k hlt
      have hlo : (btw (S.take k) a b).length ≤ S.length := Nat.le_trans (btw_len _ _ _) (by simp; omega)
      generalize htt : (S.getD k (0, 0)).1 = t at *
      generalize hhh : (S.getD k (0, 0)).2 = h at *
      have hgd : S.getD k (0, 0) = (t, h) := by rw [← htt, ← hhh]
      rw [hgd] at hsn
      have hs2 := btw_cons (a := a) (b := b) hsn
      clear hsn hgd htt hhh
      by_cases hin : a ≤ t ∧ t < b
      · rw [if_pos hin] at hs2
        have H2 := hide_ hs2
        obtain ⟨hi1, hi2⟩ := hin
        clear hs2
        have hkb : ((btw (S.take k) a b).length + 1) * 16 ≤ 140737488355328 := by omega
        have hbase := hgr.2
        go_wp2_with (at_builtin; go_must (
          refine wpList_push rfl _ _ 23 rfl w1.heap.size 26 i0 (.agg #[.int .i64 0, .float .f64 0]) 2 16 Try.underlying23 hi hz0 hz1 hz2 rfl (by decide) (by decide) _ (btw (S.take k) a b).length _ rfl hown #[.int .i64 t, .float .f64 h] 26 1 1 rfl rfl (by kernel_rfl) hkb hbase ?_
          intro v' w3 ho3 hb3 hg3 hn3
          have hgr3 := hgr.more hb3
          clear hg3 hb3))
        go_roundw
        case rel =>
          refine ⟨k + 1, by omega, by go_num, ?_, hide_ ?_, hgr3⟩
          · rw [H2.out, List.length_append, flat_append]; exact ho3
          · rw [H2.out, hn3]; simp
        case measure => simp [intOf]; omega
      · rw [if_neg hin] at hs2
        have H2 := hide_ hs2
        clear hs2
        by_cases hi1 : a ≤ t
        · have hi2 : b ≤ t := by omega
          clear hin
          go_wp2
          go_roundw
          case rel => exact ⟨k + 1, by omega, by go_num, by rw [H2.out]; exact hown, hide_ (by rw [H2.out]; exact hnil.out), hgr⟩
          case measure => simp [intOf]; omega
        · have hi2 : t < a := by omega
          clear hin hi1
          go_wp2
          go_roundw
          case rel => exact ⟨k + 1, by omega, by go_num, by rw [H2.out]; exact hown, hide_ (by rw [H2.out]; exact hnil.out), hgr⟩
          case measure => simp [intOf]; omega
    · obtain rfl : k = S.length := by omega
      have hge : ¬ S.length < S.length := by omega
      rw [List.take_length] at hown hnil
      go_wp2
      go_ret2
      exact ⟨_, rfl, Go.Proofs.ownsRow_base_a hown hg0.out.2, hnil.out, (hg0.out.step hgr.1).below⟩
theorem rbetween_rec {w : World} {qb : Nat} {v : Value} {L : Rc} {a b : Int} (h : RRec w qb v L) : Calls Try.prog 107 #[.pointer (some ⟨qb, 0, none⟩), .int .i64 a, .int .i64 b] w fun e w' =>
    ∃ v, e = .returned (.tuple #[v, .int .i64 (askE a b)]) ∧ w'.ownsRow w.heap.size 26 2 v (bt L a b).length (flat (bt L a b)) ∧ (v = .slice none 0 0 ↔ bt L a b = []) ∧ Below w.heap.size w w' := by
  unfold bt
  by_cases he : askE a b = 0
  · rw [if_pos he, he]
    exact rbetween_0 h he
  · rw [if_neg he]
    have h2 : askE a b = 2 := by unfold askE at he ⊢; split at he <;> simp_all
    rw [h2]
    exact (rbetween_e h he).mono fun e w' ⟨h1, h2⟩ => ⟨_, h1, World.ownsRow_nil _ _ _ _, by simp, by rw [← h2]; exact Below.refl _ _⟩
end Go.Proofs.Ytlgnidjkilbdfaa
