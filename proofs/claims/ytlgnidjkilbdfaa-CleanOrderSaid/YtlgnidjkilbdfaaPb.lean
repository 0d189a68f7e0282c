/- Chapter 20: whatever the order; merged twice. No program. -/
import Derived.Test.YtlgnidjkilbdfaaPa
namespace Go.Proofs.Ytlgnidjkilbdfaa
open Go.RowKit Ieee
set_option linter.unusedVariables false
set_option maxRecDepth 100000
theorem hts_perm {P Q : Rc} (h : P.Perm Q) (t : Int) : (hts P t).Perm (hts Q t) := (h.filter _).map _
theorem srt_hts {P Q : Rc} (h : P.Perm Q) (h64 : ∀ x ∈ P, x.2 < 2 ^ 64) (t : Int) : srt (hts Q t) = srt (hts P t) := srt_congr (hts_w64 h64 t) (hts_perm h t).symm
theorem mOut_congr {P Q : Rc} (h : P.Perm Q) (h64 : ∀ x ∈ P, x.2 < 2 ^ 64) : mOut Q = mOut P := by
  unfold mOut
  rw [← KT_congr h]
  exact List.map_congr_left fun t _ => by rw [srt_hts h h64]
theorem mOver_congr {P Q : Rc} (h : P.Perm Q) (h64 : ∀ x ∈ P, x.2 < 2 ^ 64) : mOver Q = mOver P := by
  unfold mOver
  rw [← KT_congr h]
  have : (fun t => meanE (srt (hts Q t)) != 0) = (fun t => meanE (srt (hts P t)) != 0) := by
    funext t
    rw [srt_hts h h64]
  rw [this]
/-- What a fine list comes to. -/
def mRes1 (P : Rc) : Rc × Int × Int := if mOver P then ([], 9, -1) else if 4096 < (KT P).length then ([], 3, -1) else (mOut P, 0, 0)
theorem mRes1_congr {P Q : Rc} (h : P.Perm Q) (h64 : ∀ x ∈ P, x.2 < 2 ^ 64) : mRes1 Q = mRes1 P := by
  unfold mRes1
  rw [mOver_congr h h64, mOut_congr h h64, ← KT_congr h]
/-- Lists that are not refused. -/
def Fine (S : Ls) : Prop := S.length ≤ 16 ∧ ∀ L ∈ S, L.length ≤ 4096 ∧ ∀ x ∈ L, (0 ≤ x.1 ∧ x.1 ≤ 1048576) ∧ x.2 < 2 ^ 64
theorem Fine.bad {S : Ls} (h : Fine S) : ∀ L ∈ S, bad1 L = 0 := fun L hL => by
  obtain ⟨h1, h2⟩ := h.2 L hL
  unfold bad1
  rw [if_neg (by omega), if_neg]
  intro hb
  obtain ⟨x, hx, hbx⟩ := List.any_eq_true.1 hb
  have := (h2 x hx).1
  unfold badT at hbx
  simp at hbx
  omega
theorem Fine.res {S : Ls} (h : Fine S) : mRes S = mRes1 (allP S) := by
  unfold mRes
  rw [if_neg (by have := h.1; omega), bad_none (fun j hj => h.bad _ (getD_memL hj))]
  rfl
theorem Fine.inv {S : Ls} (h : Fine S) : PInv (allP S) := by
  refine ⟨fun x hx => ?_, fun x hx => ?_, fun x hx => (List.mem_filter.1 hx).2⟩
  · obtain ⟨L, hL, hxL⟩ := List.mem_flatten.1 (List.mem_filter.1 hx).1
    exact ((h.2 L hL).2 x hxL).1
  · obtain ⟨L, hL, hxL⟩ := List.mem_flatten.1 (List.mem_filter.1 hx).1
    exact ((h.2 L hL).2 x hxL).2
theorem Fine.lw {S : Ls} (h : Fine S) : LW64 S := fun L hL x hx => ((h.2 L hL).2 x hx).2
theorem nodup_sub : ∀ {L M : List Int}, L.Nodup → (∀ x ∈ L, x ∈ M) → L.length ≤ M.length
  | [], M, _, _ => Nat.zero_le _
  | a :: r, M, h, hs => by
    obtain ⟨h1, h2⟩ := List.nodup_cons.1 h
    have ha := hs a (by simp)
    have hr : ∀ x ∈ r, x ∈ M.erase a := fun x hx => (List.mem_erase_of_ne (fun e => h1 (by rw [← e]; exact hx))).2 (hs x (by simp [hx]))
    have := nodup_sub h2 hr
    rw [List.length_erase_of_mem ha] at this
    have := List.length_pos_of_mem ha
    rw [List.length_cons]
    omega
theorem KT_big {P : Rc} (h : P.length ≤ 960) (hr : ∀ x ∈ P, 0 ≤ x.1 ∧ x.1 ≤ 1048576) : (KT P).length ≤ 960 := by
  have := nodup_sub (M := P.map (·.1)) (asc_nodup (KT_asc P)) (fun t ht => by
    obtain ⟨x, hx, rfl⟩ := (KT_has hr).1 ht
    exact List.mem_map.2 ⟨x, hx, rfl⟩)
  rw [List.length_map] at this
  omega
theorem KT_eqm {P : Rc} {Ks : List Int} (hr : ∀ x ∈ P, 0 ≤ x.1 ∧ x.1 ≤ 1048576) (ha : Ks.Pairwise (· < ·)) (h1 : ∀ t ∈ Ks, t ∈ P.map (·.1)) (h2 : ∀ t ∈ P.map (·.1), t ∈ Ks) : KT P = Ks := by
  refine asc_unique (KT_asc P) ha fun t => ?_
  rw [KT_has hr]
  constructor
  · rintro ⟨x, hx, rfl⟩
    exact h2 _ (List.mem_map.2 ⟨x, hx, rfl⟩)
  · intro h
    obtain ⟨x, hx, e⟩ := List.mem_map.1 (h1 t h)
    exact ⟨x, hx, e⟩
/-! ### merged once more -/
theorem mOut_mem {P : Rc} {x : Int × Nat} : x ∈ mOut P ↔ x.1 ∈ KT P ∧ x.2 = meanV (srt (hts P x.1)) := by
  unfold mOut
  rw [List.mem_map]
  constructor
  · rintro ⟨t, ht, rfl⟩
    exact ⟨ht, rfl⟩
  · rintro ⟨h1, h2⟩
    exact ⟨x.1, h1, by rw [← h2]⟩
theorem mOut_asc (P : Rc) : Asc (mOut P) := by
  unfold mOut Asc
  exact List.pairwise_map.2 (KT_asc P)
theorem hts_one : ∀ {A : Rc}, Asc A → ∀ {x : Int × Nat}, x ∈ A → hts A x.1 = [x.2]
  | [], _, x, h => by cases h
  | y :: r, ha, x, h => by
    obtain ⟨h1, h2⟩ := List.pairwise_cons.1 ha
    unfold hts
    rcases List.mem_cons.1 h with rfl | h
    · have e : r.filter (fun z => z.1 == x.1) = [] := by
        rw [List.filter_eq_nil_iff]
        intro z hz
        have := h1 z hz
        simp only [beq_iff_eq]
        omega
      rw [List.filter_cons_of_pos (by simp), e]
      rfl
    · have := h1 x h
      rw [List.filter_cons_of_neg (by simp only [beq_iff_eq]; omega)]
      exact hts_one h2 h
theorem srt_one {x : Nat} (hx : x < 2 ^ 64) (h : oneB x = true) : srt [x] = [x] := (srt_eq (L := [x]) (fun y hy => by rw [List.mem_singleton] at hy; rw [hy]; exact hx) (by rw [List.filter_cons_of_pos h]; exact List.Perm.refl _) (List.pairwise_singleton _ _)).symm
theorem over_no {P : Rc} (h : mOver P = false) {t : Int} (ht : t ∈ KT P) : meanE (srt (hts P t)) = 0 := by
  unfold mOver at h
  rw [List.any_eq_false] at h
  simpa using h t ht
theorem out_fin {P : Rc} (hi : PInv P) (hl : P.length ≤ 1000000) (h : mOver P = false) {x : Int × Nat} (hx : x ∈ mOut P) : oneB x.2 = true ∧ x.2 < 2 ^ 64 := by
  obtain ⟨h1, h2⟩ := mOut_mem.1 hx
  rw [h2]
  exact mean_fin (srt_ok (hts_w64 hi.w64 x.1)) (by have := srt_le (hts P x.1); have := hts_len P x.1; omega) (over_no h h1)
/-- Merged by itself it is itself, but for the sign of zeros. -/
theorem twice {P : Rc} (hi : PInv P) (hl : P.length ≤ 1000000) (h : mOver P = false) (h4 : (KT P).length ≤ 4096) :
    ∃ B, mRes [mOut P] = (B, 0, 0) ∧ B.length = (mOut P).length ∧ ∀ k, k < B.length → (B.getD k (0, 0)).1 = ((mOut P).getD k (0, 0)).1 ∧ feqB (B.getD k (0, 0)).2 ((mOut P).getD k (0, 0)).2 = true := by
  have hfin := fun x hx => out_fin hi hl h (x := x) hx
  have hF : Fine [mOut P] := by
    refine ⟨by simp, fun L hL => ?_⟩
    rw [List.mem_singleton] at hL
    subst hL
    refine ⟨by unfold mOut; rw [List.length_map]; omega, fun x hx => ⟨KT_rng (mOut_mem.1 hx).1, (hfin x hx).2⟩⟩
  have hall : allP [mOut P] = mOut P := by
    unfold allP
    rw [List.flatten_cons, List.flatten_nil, List.append_nil, List.filter_eq_self]
    exact fun x hx => (hfin x hx).1
  have hK : KT (mOut P) = KT P := by
    refine KT_eqm ?_ (KT_asc P) ?_ ?_
    · exact fun x hx => KT_rng (mOut_mem.1 hx).1
    · intro t ht
      exact List.mem_map.2 ⟨(t, meanV (srt (hts P t))), mOut_mem.2 ⟨ht, rfl⟩, rfl⟩
    · intro t ht
      obtain ⟨x, hx, rfl⟩ := List.mem_map.1 ht
      exact (mOut_mem.1 hx).1
  have hone : ∀ t, t ∈ KT P → srt (hts (mOut P) t) = [meanV (srt (hts P t))] := fun t ht => by
    have hm : (t, meanV (srt (hts P t))) ∈ mOut P := mOut_mem.2 ⟨ht, rfl⟩
    rw [hts_one (mOut_asc P) hm]
    exact srt_one (hfin _ hm).2 (hfin _ hm).1
  have hov : mOver (mOut P) = false := by
    unfold mOver
    rw [hK, List.any_eq_false]
    intro t ht
    rw [hone t ht]
    have hm : (t, meanV (srt (hts P t))) ∈ mOut P := mOut_mem.2 ⟨ht, rfl⟩
    rw [(mean_one (hfin _ hm).2 (hfin _ hm).1).1]
    decide
  refine ⟨mOut (mOut P), ?_, ?_, ?_⟩
  · rw [hF.res, hall]
    unfold mRes1
    rw [hov, hK, if_neg (by decide), if_neg (by omega)]
  · unfold mOut
    rw [List.length_map, List.length_map]
    exact congrArg List.length hK
  · intro k hk
    have hk2 : k < (KT P).length := by
      unfold mOut at hk
      rw [List.length_map] at hk
      have := congrArg List.length hK
      unfold mOut at this
      omega
    have e1 : (mOut (mOut P)).getD k (0, 0) = ((KT P).getD k 0, meanV (srt (hts (mOut P) ((KT P).getD k 0)))) := by
      conv => lhs; unfold mOut
      rw [show KT (List.map (fun t => (t, meanV (srt (hts P t)))) (KT P)) = KT P from hK]
      rw [List.getD_eq_getElem?_getD, List.getElem?_map, List.getElem?_eq_getElem hk2, List.getD_eq_getElem?_getD, List.getElem?_eq_getElem hk2, Option.map_some, Option.getD_some, Option.getD_some]
      rfl
    have e2 : (mOut P).getD k (0, 0) = ((KT P).getD k 0, meanV (srt (hts P ((KT P).getD k 0)))) := by
      unfold mOut
      rw [List.getD_eq_getElem?_getD, List.getElem?_map, List.getElem?_eq_getElem hk2, List.getD_eq_getElem?_getD, List.getElem?_eq_getElem hk2, Option.map_some, Option.getD_some, Option.getD_some]
    have ht := KT_getD hk2
    have hm : ((KT P).getD k 0, meanV (srt (hts P ((KT P).getD k 0)))) ∈ mOut P := mOut_mem.2 ⟨ht, rfl⟩
    rw [e1, e2]
    refine ⟨rfl, ?_⟩
    show feqB (meanV (srt (hts (mOut P) ((KT P).getD k 0)))) (meanV (srt (hts P ((KT P).getD k 0)))) = true
    rw [hone _ ht]
    exact (mean_one (hfin _ hm).2 (hfin _ hm).1).2.1
/-! ### two lists that are the same but for the sign of zeros -/
def Alk (A B : Rc) : Prop := A.length = B.length ∧ ∀ k, k < A.length → (A.getD k (0, 0)).1 = (B.getD k (0, 0)).1 ∧ feqB (A.getD k (0, 0)).2 (B.getD k (0, 0)).2 = true
set_option maxHeartbeats 1600000 in
theorem same2_any (p q : Option Addr) (n m c d : Nat) (A B : Rc) (w : World) (hn : n = A.length) (hm : m = B.length) (hp : TL w p A) (hq : TL w q B) (h : Alk A B) (hs : n ≤ 1000000) :
    Calls Try.prog 48 #[.slice p n c, .slice q m d] w fun e w' => e = .returned (.bool true) ∧ ∃ k, w' = w.drewN k := by
  obtain rfl : m = n := by rw [hn, hm, h.1]
  subst hn
  have HB : Hid (A.length = B.length) := hide_ h.1
  have HP := hide_ (fun k hk => hp.some_ (k := k) hk)
  have HQ := hide_ (fun k hk => hq.some_ (k := k) hk)
  have HH := hide_ h.2
  clear hp hq h hm
  go_enter Try.func48, Try.ntmps48
  go_wp2
  go_loopw [5] (fun i wr => ∃ k : Nat, k ≤ A.length ∧ i = .int .i64 k ∧ ∃ q, wr = w.drewN q) (fun i _ => A.length - (intOf i).toNat)
  case atStart => exact ⟨0, by omega, rfl, 0, rfl⟩
  case round =>
    obtain ⟨k, hk, rfl, q', rfl⟩ := hrel
    by_cases hlt : k < A.length
    · obtain ⟨g, o, rfl, hg, hc⟩ := HP.out _ hlt
      obtain ⟨g', o', rfl, hg', hc'⟩ := HQ.out _ (by rw [← HB.out]; exact hlt)
      obtain ⟨c1, c2⟩ := hc k hlt
      obtain ⟨d1, d2⟩ := hc' k (by rw [← HB.out]; exact hlt)
      obtain ⟨e1, e2⟩ := HH.out k hlt
      rw [← e1] at d1
      clear hc hc'
      generalize (A.getD k (0, 0)).1 = a at *
      generalize (A.getD k (0, 0)).2 = b at *
      generalize (B.getD k (0, 0)).2 = b2 at *
      have H := hide_ (sf_any b b2)
      rw [show sfB b b2 = true by unfold sfB; rw [e2]; rfl] at H
      have i4 : (0 : Int) ≤ (k : Int) := by omega
      have i5 : (k : Int) < (A.length : Int) := by omega
      have hne : (a != a) = false := by simp
      clear e1 e2
      go_wp2
      go_quiet ((go_at_call 54; exact quiet_same_left (H.out _)))
      go_wp2
      go_roundw
      case rel => exact ⟨k + 1, by omega, by go_num, _, rfl⟩
      case measure => simp [intOf]; omega
    · have hge : ¬ k < A.length := hlt
      go_wp2
      go_ret
      exact ⟨rfl, _, rfl⟩
end Go.Proofs.Ytlgnidjkilbdfaa
