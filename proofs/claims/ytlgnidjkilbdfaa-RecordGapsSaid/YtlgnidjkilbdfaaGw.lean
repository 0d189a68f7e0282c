/- Chapter 19: RecordGaps, the walk. -/
import Derived.Test.YtlgnidjkilbdfaaGpl
import Derived.IntWalk
namespace Go.Proofs.Ytlgnidjkilbdfaa
open Go.RowKit
set_option linter.unusedVariables false
set_option maxRecDepth 100000
theorem between_at {w : World} {rb mb : Nat} {L : Rc} {a b : Int} (E : Int) (B : Rc) (h : Rec w rb mb L) (hE : askE a b = E) (hB : bt L a b = B) : Calls Try.prog 36 #[.pointer (some ⟨rb, 0, none⟩), .int .i64 a, .int .i64 b] w fun e w' =>
    ∃ v, e = .returned (.tuple #[v, .int .i64 E]) ∧ w'.ownsRow w.heap.size 26 2 v B.length (flat B) ∧ (v = .slice none 0 0 ↔ B = []) ∧ Below w.heap.size w w' := by
  subst hE hB
  exact between_rec h
set_option maxHeartbeats 8000000 in
theorem gaps_walk_ (p : Option Addr) (c : Nat) (S : Rc) (a b : Int) (w : World) (hb : BL w p S) (h64 : In64 S) (hl5 : S.length ≤ 500) (ha : I64 a) (hbb : I64 b) :
    Calls Try.prog 7 #[.slice p S.length c, .int .i64 a, .int .i64 b] w fun e w' => e = .returned (.bool true) ∧ Below w.heap.size w w' := by
  have HA := hide_ awake_any
  have HB := hide_ hb
  have H64 := hide_ h64
  have H0 := hide_ new_at
  have HC := hide_ sample_nat
  clear hb h64
  go_enter Try.func7, Try.ntmps7
  go_wp2_with (first
    | (go_at_call 26; (with_reducible refine (HA.out _).mono ?_); rintro e w1 ⟨rfl, hb1⟩; have g1 := Grew.of hb1; clear hb1)
    | (go_at_call 27; go_must ((with_reducible refine (H0.out _).mono ?_); rintro e w2 ⟨rb, mb, rfl, r1, hrb, hmb, hb1⟩; have g2 := g1.step hb1; have hmbB := Nat.le_trans g1.2 hmb; clear hb1 g1)))
  go_loopw [9] (fun i wr => ∃ k : Nat, k ≤ S.length ∧ i = .int .i64 k ∧ Rec wr rb mb (recsTo S k) ∧ Grew w.heap.size w wr)
    (fun i _ => S.length - (intOf i).toNat)
  case atStart => exact ⟨0, by omega, rfl, r1, g2⟩
  case round =>
    clear r1 g2
    obtain ⟨k, hk, rfl, h2, hgr⟩ := hrel
    by_cases hlt : k < S.length
    · obtain ⟨g, o, rfl, hg, c0, c1⟩ := HB.out.at_ hgr.1 hlt
      have hmem := mem_getD hlt
      have HW := hide_ (And.intro (H64.out.i _ hmem) (H64.out.w _ hmem))
      have HSU := hide_ (recs_succ hlt)
      generalize (S.getD k (0, 0)).1 = t at *
      generalize (S.getD k (0, 0)).2 = u at *
      clear hmem
      go_wp2_with (first
        | (go_at_call 16; go_must ((with_reducible refine (HC.out t u _).mono ?_); rintro e w4 ⟨rfl, hb4⟩; have h4 := h2.below hb4; have hgr4 := hgr.step hb4; clear hb4))
        | (go_at_call 28; go_must ((with_reducible refine (add_rec h4 HW.out.1 HW.out.2).mono ?_); rintro e w5 ⟨rfl, r5, hg5⟩; have hgr5 := hgr4.add hg5 hmbB; clear hg5 h4 hgr4)))
      go_roundw
      case rel => exact ⟨k + 1, by omega, by go_num, by rw [HSU.out]; exact r5, hgr5⟩
      case measure => simp [intOf]; omega
    · obtain rfl : k = S.length := by omega
      have hge : ¬ S.length < S.length := by omega
      clear hlt HB H64 HC
      generalize recsTo S S.length = L at *
      by_cases he : askE a b = 0
      · obtain ⟨z0, z1, z2⟩ := ask_zero he
        have hs := span_bt h2.ok he
        have hG := gaps_of L he
        have hgl : (gst a (bt L a b ++ [(b, 0)]) ((bt L a b).length + 1)).1.length ≤ 4097 := Nat.le_trans (gst_len _ _ _) (by have := bt_len L a b; have := h2.ok.len; omega)
        have hbl : (bt L a b).length ≤ 4096 := by have := bt_len L a b; have := h2.ok.len; omega
        have hin : ∀ q ∈ bt L a b, q ∈ L ∧ oneB q.2 = true := fun q hq => ⟨(bt_mem hq).1, (bt_mem hq).2.2.2⟩
        obtain ⟨B, hB⟩ : ∃ B, bt L a b = B := ⟨_, rfl⟩
        rw [hB] at hs hG hgl hbl hin
        obtain ⟨G, hGG⟩ : ∃ G, (gst a (B ++ [(b, 0)]) (B.length + 1)).1 = G := ⟨_, rfl⟩
        rw [hGG] at hG hgl
        have HE := hide_ (And.intro he (And.intro hG hB))
        have HGG := hide_ hGG
        have HSP := hide_ hs
        have HIN := hide_ hin
        clear he hG hB hGG hs hin
        go_wp2_with (first
          | (go_at_call 35; go_must ((with_reducible refine (gaps_at (a := a) (b := b) 0 G h2 HE.out.1 HE.out.2.1).mono ?_); rintro e w5 ⟨v5, rfl, s5, _, hb5⟩; have h5 := h2.below hb5; have hg5 := hgr.step hb5; have s5' := hide_ s5; obtain ⟨p5, c5, rfl⟩ := row_slice s5; clear h2 hgr hb5 s5))
          | (go_at_call 36; go_must ((with_reducible refine (between_at (a := a) (b := b) 0 B h5 HE.out.1 HE.out.2.2).mono ?_); rintro e w6 ⟨v6, rfl, s6, _, hb6⟩; have h6 := h5.below hb6; have hg6 := hg5.step hb6; have hG6 := hide_ (own_below s5'.out hb6); have s6' := hide_ (show SL w6 w5.heap.size v6 B from s6); obtain ⟨p6, c6, rfl⟩ := row_slice s6; clear h5 hg5 hb6 s6 s5')))
        go_loopw [14, 15, 16] (fun x y z wx => ∃ (at_ : Int) (i k : Nat), x = .int .i64 at_ ∧ y = .int .i64 i ∧ z = .int .i64 k ∧ Hid (GInv a b B at_ i k) ∧ a ≤ at_ ∧ at_ ≤ b ∧ Rec wx rb mb L ∧ Below w6.heap.size w6 wx)
          (fun x _ _ _ => (b - intOf x).toNat)
        case atStart => exact ⟨a, 0, 0, rfl, rfl, rfl, hide_ (GInv.start HSP.out), Int.le_refl _, z2, h6, Below.refl _ _⟩
        case round =>
          clear h6
          obtain ⟨at_, i, k, rfl, rfl, rfl, hI, ha1, ha2, h2, hbx⟩ := hrel
          by_cases hcmp : at_ < b
          · have hi0 := hI.out.hi
            by_cases hsm : i < B.length ∧ (B.getD i (0, 0)).1 = at_
            · obtain ⟨hlt2, he2⟩ := hsm
              obtain ⟨g, rfl, hl, hc0, hc1⟩ := (s6'.out.below hbx).cells hlt2
              obtain ⟨q1, q2⟩ := HIN.out _ (mem_getD hlt2)
              have q3 := h2.ok.w64 _ q1
              have q4 := has_mem q1
              have q5 := at_mem h2.ok.asc q1
              have hnx := hide_ (hI.out.sample HSP.out hlt2 he2)
              rw [he2] at hc0 q4 q5
              generalize (B.getD i (0, 0)).2 = x at *
              have HAT := hide_ (at_at (t := at_) x true h2 (i64s (by omega) (by omega)) (by rw [q4, q5, q2]; rfl) (by rw [if_pos rfl, q5]))
              have HSB := hide_ (fun wx => by have h := same_any x x wx; rw [sameB_self] at h; exact h)
              have HNA := hide_ (fun wx => by have h := isnan_any x wx; rw [one_nan q2] at h; exact h)
              have HIF := hide_ (fun wx => isinf_one x q3 q2 wx)
              clear q1 q2 q3 q4 q5 he2 hI
              have htt : (at_ == at_) = true := by simp
              go_wp2_with (first
                | (go_at_call 37; go_must ((with_reducible refine (HAT.out).mono ?_); rintro e w7 ⟨rfl, hb7⟩; have d0 := (hb7.cell (p := ⟨g, i * 2, none⟩) hl).trans hc0; have d1 := (hb7.cell (p := ⟨g, i * 2 + 1, none⟩) hl).trans hc1; have h7 := h2.below hb7; have hb7' := hbx.trans (hb7.mono hbx.size); clear hc0 hc1 h2 hb7))
                | (go_at_call 38; go_must ((with_reducible refine (HSB.out _).mono ?_); rintro e w8 ⟨rfl, rfl⟩))
                | (go_at_call 39; go_must ((with_reducible refine (HNA.out _).mono ?_); rintro e w8 ⟨rfl, rfl⟩))
                | (go_at_call 40; go_must ((with_reducible refine (HIF.out _).mono ?_); rintro e w8 ⟨rfl, rfl⟩)))
              go_roundw
              case rel => exact ⟨at_ + 1, i + 1, k, by go_num, by go_num, rfl, hnx, by omega, by omega, h7, hb7'⟩
              case measure => simp [intOf]; omega
            · obtain ⟨u1, u2, u3, u4⟩ := hI.out.gap HSP.out hcmp hsm
              have u5 := span_le HSP.out hi0
              rw [HGG.out] at u1 u2
              obtain ⟨g5, rfl, _, hl5', hcG⟩ := row_cells (own_below hG6.out hbx) (by omega)
              obtain ⟨v1, v2⟩ := flatG_at G k u1
              have e0 := hcG _ _ v1
              have e1 := hcG _ _ v2
              rw [u2] at e0 e1
              simp only at e0 e1
              have HN := hide_ u4
              clear hI v1 v2 u2 u4 hcG
              by_cases hil : i < B.length
              · obtain ⟨g, rfl, hl, hc0, hc1⟩ := (s6'.out.below hbx).cells hil
                have hne : (B.getD i (0, 0)).1 ≠ at_ := fun e => hsm ⟨hil, e⟩
                have u6 := (span_at HSP.out hil).2
                rw [get_left hil] at e1 u3 u5 HN
                generalize (B.getD i (0, 0)).1 = t at *
                have hb1 : (t == at_) = false := by simpa using hne
                clear hsm hne hc1
                obtain ⟨d, hd⟩ : ∃ d, d = t - at_ := ⟨_, rfl⟩
                rw [← hd] at e1
                obtain rfl : t = at_ + d := by omega
                have hd1 : 1 ≤ d := by omega
                clear hd
                have f1 : decide (G.length ≤ k) = false := by simp; omega
                have f1' : decide ((G.length : Int) ≤ (k : Int)) = false := by simp; omega
                have f2 : (at_ != at_) = false := by simp
                have f3 : decide (d < 1) = false := by simp; omega
                have f5 : decide (at_ + d < at_ + d) = false := by simp
                have fw : IntKind.i64.wrap (at_ + d) = at_ + d := IntWalk.i64_in _ (by omega)
                have f4 : decide (i < B.length) = true := by simpa using hil
                have f4' : decide ((i : Int) < (B.length : Int)) = true := by simp; omega
                go_wp2
                go_quiet (fail)
                clear f1 f1' f2 f3 f4 f4' f5 fw
                go_wp2
                go_roundw
                case rel => exact ⟨at_ + d, i, k + 1, by go_num, rfl, by go_num, HN, by omega, by omega, h2.drewN _, below_drewN hbx _⟩
                case measure => simp [intOf]; omega
              · obtain rfl : i = B.length := by omega
                rw [get_last] at e1 u3 u5 HN
                simp only at e1 u3 u5 HN
                have hil' : ¬ B.length < B.length := by omega
                clear hsm hil
                obtain ⟨d, hd⟩ : ∃ d, d = b - at_ := ⟨_, rfl⟩
                rw [← hd] at e1
                obtain rfl : b = at_ + d := by omega
                have hd1 : 1 ≤ d := by omega
                clear hd
                have f1 : decide (G.length ≤ k) = false := by simp; omega
                have f1' : decide ((G.length : Int) ≤ (k : Int)) = false := by simp; omega
                have f2 : (at_ != at_) = false := by simp
                have f3 : decide (d < 1) = false := by simp; omega
                have f4 : decide (B.length < B.length) = false := by simp
                have f4' : decide ((B.length : Int) < (B.length : Int)) = false := by simp
                have f5 : decide (at_ + d < at_ + d) = false := by simp
                have fw : IntKind.i64.wrap (at_ + d) = at_ + d := IntWalk.i64_in _ (by omega)
                go_wp2
                go_quiet (fail)
                clear f1 f1' f2 f3 f4 f4' fw
                go_wp2
                go_roundw
                case rel => exact ⟨at_ + d, B.length, k + 1, by go_num, rfl, by go_num, HN, by omega, by omega, h2.drewN _, below_drewN hbx _⟩
                case measure => simp [intOf]; omega
          · obtain ⟨e1, e2, e3⟩ := hI.out.last HSP.out hcmp
            rw [HGG.out] at e3
            subst e1 e2 e3
            have hge : at_ ≤ at_ := by omega
            clear hI
            go_wp2
            go_ret
            exact ⟨rfl, (hg6.step hbx).below⟩
      · have he2 : askE a b = 2 := by unfold askE at he ⊢; split <;> simp_all
        have hG : gapsOf L a b = [] := by unfold gapsOf; rw [if_neg he]
        have hB : bt L a b = [] := by unfold bt; rw [if_neg he]
        have HE := hide_ (And.intro he2 (And.intro hG hB))
        have hcases : a < 0 ∨ (0 ≤ a ∧ 1048577 < b) ∨ (0 ≤ a ∧ b ≤ 1048577 ∧ b < a) := by
          unfold askE at he
          split at he
          · omega
          · exact absurd rfl he
        clear he he2 hG hB
        rcases hcases with h1 | ⟨h0, h1⟩ | ⟨h0, h1, h3⟩
        all_goals go_wp2_with (first
          | (go_at_call 35; go_must ((with_reducible refine (gaps_at (a := a) (b := b) 2 [] h2 HE.out.1 HE.out.2.1).mono ?_); rintro e w5 ⟨v5, rfl, s5, _, hb5⟩; have h5 := h2.below hb5; have hg5 := hgr.step hb5; obtain ⟨p5, c5, rfl⟩ := row_slice s5; clear h2 hgr hb5 s5))
          | (go_at_call 36; go_must ((with_reducible refine (between_at (a := a) (b := b) 2 [] h5 HE.out.1 HE.out.2.2).mono ?_); rintro e w6 ⟨v6, rfl, s6, _, hb6⟩; have hg6 := hg5.step hb6; obtain ⟨p6, c6, rfl⟩ := row_slice s6; clear h5 hg5 hb6 s6)))
        all_goals go_ret
        all_goals exact ⟨rfl, hg6.below⟩
theorem gaps_walk (p : Option Addr) (n c : Nat) (S : Rc) (a b : Int) (w : World) (hn : n = S.length) (hb : BL w p S) (h64 : In64 S) (ha : I64 a) (hbb : I64 b) :
    Calls Try.prog 7 #[.slice p n c, .int .i64 a, .int .i64 b] w fun e w' => e = .returned (.bool true) ∧ Below w.heap.size w w' := by
  subst hn
  by_cases hlen : 500 < S.length
  · have HA := hide_ awake_any
    clear hb h64 ha hbb
    go_enter Try.func7, Try.ntmps7
    go_wp2_with (go_at_call 26; (with_reducible refine (HA.out _).mono ?_); rintro e w1 ⟨rfl, hb1⟩)
    go_ret
    exact ⟨rfl, hb1⟩
  · exact gaps_walk_ p c S a b w hb h64 (by omega) ha hbb
end Go.Proofs.Ytlgnidjkilbdfaa
