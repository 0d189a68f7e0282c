/- SecondLevel: the walk. -/
import Derived.Test.YtcibbnphkpaifaaTi
import Derived.Deep.DeepCutAuto
namespace Go.Proofs.Ytcibbnphkpaifaa
open Go.RowKit
set_option linter.unusedVariables false
set_option maxRecDepth 100000
theorem ResF.ok {f : FuncId} {args : Array Value} {W : World} {r : Rat × Int × Int} {x : Rat} (h : Calls Try.prog f args W (ResF W r)) (e : r = (x, 0, 0)) : Calls Try.prog f args W fun e w' => (∃ s p n c q m d, e = .returned (.tuple #[.agg #[.bool s, .slice p n c, .slice q m d], .agg #[.int .i64 0, .int .i64 0]]) ∧ RO w' W.heap.size (.agg #[.bool s, .slice p n c, .slice q m d]) x ∧ Fits x) ∧ Below W.heap.size W w' := by
  subst e
  refine h.mono fun e w' hr => ?_
  obtain ⟨⟨s, p, n, c, q, m, d, rfl, h1, _⟩, hb⟩ := hr
  obtain ⟨_, h2, h3⟩ := h1 rfl
  exact ⟨⟨s, p, n, c, q, m, d, rfl, h3, h2⟩, hb⟩
theorem ResF.err {f : FuncId} {args : Array Value} {W : World} {r : Rat × Int × Int} {x : Rat} (h : Calls Try.prog f args W (ResF W r)) (e : r = (x, 3, -1)) : Calls Try.prog f args W fun e w' => e = .returned (.tuple #[.agg #[.bool false, .slice none 0 0, .slice none 0 0], .agg #[.int .i64 3, .int .i64 (-1)]]) ∧ Below W.heap.size W w' := by
  subst e
  refine h.mono fun e w' hr => ?_
  obtain ⟨⟨s, p, n, c, q, m, d, rfl, _, h1⟩, hb⟩ := hr
  have h2 := h1 (show (3 : Int) ≠ 0 by decide)
  unfold zeroR at h2
  rw [h2]
  exact ⟨rfl, hb⟩
/-- What a tick's curve is, or that it is too long. -/
def CaseL (w' : World) (B : Nat) (x : Rat) (er at_ : Int) (v : Value) : Prop := (er = 0 ∧ at_ = 0 ∧ RO w' B v x ∧ Fits x) ∨ (er = 3 ∧ at_ = -1)
theorem ResF.any {f : FuncId} {args : Array Value} {W : World} {r : Rat × Int × Int} {x : Rat} (h : Calls Try.prog f args W (ResF W r)) (e : r = (x, 0, 0) ∨ ∃ y, r = (y, 3, -1)) : Calls Try.prog f args W fun e w' => (∃ s p n c q m d er at_, e = .returned (.tuple #[.agg #[.bool s, .slice p n c, .slice q m d], .agg #[.int .i64 er, .int .i64 at_]]) ∧ CaseL w' W.heap.size x er at_ (.agg #[.bool s, .slice p n c, .slice q m d])) ∧ Below W.heap.size W w' := by
  rcases e with e | ⟨y, e⟩
  · refine (ResF.ok h e).mono ?_
    rintro e w' ⟨⟨s, p, n, c, q, m, d, rfl, h1, h2⟩, hb⟩
    exact ⟨⟨s, p, n, c, q, m, d, 0, 0, rfl, .inl ⟨rfl, rfl, h1, h2⟩⟩, hb⟩
  · refine (ResF.err h e).mono ?_
    rintro e w' ⟨rfl, hb⟩
    exact ⟨⟨_, _, _, _, _, _, _, 3, -1, rfl, .inr ⟨rfl, rfl⟩⟩, hb⟩
theorem CaseL.below {w w' : World} {B : Nat} {x : Rat} {er at_ : Int} {v : Value} (h : CaseL w B x er at_ v) (hb : Below w.heap.size w w') : CaseL w' B x er at_ v := by
  rcases h with ⟨h1, h2, h3, h4⟩ | h
  · exact .inl ⟨h1, h2, h3.below hb, h4⟩
  · exact .inr h
theorem CaseL.set {w0 w : World} {B b : Nat} {x : Rat} {er at_ : Int} {v : Value} {cs : Array Value} (h : CaseL w B x er at_ v) (hb : b < B) : CaseL (w.setRow b cs) B x er at_ v := by
  rcases h with ⟨h1, h2, h3, h4⟩ | h
  · exact .inl ⟨h1, h2, h3.stored (W := w0) hb, h4⟩
  · exact .inr h
theorem CaseL.mono {w : World} {B B' : Nat} {x : Rat} {er at_ : Int} {v : Value} (h : CaseL w B x er at_ v) (hb : B' ≤ B) : CaseL w B' x er at_ v := by
  rcases h with ⟨h1, h2, h3, h4⟩ | h
  · exact .inl ⟨h1, h2, h3.mono hb, h4⟩
  · exact .inr h
theorem two_rows2 (w3 : World) (A B : Array Value) : ((((w3.alloc (.cells #[.bool false, .slice none 0 0, .slice none 0 0] 32)).alloc (.cells #[.int .i64 0, .int .i64 0] 27)).setRow w3.heap.size A).setRow (w3.heap.size + 1) B).heap[w3.heap.size]? = some (.cells A 32) ∧ ((((w3.alloc (.cells #[.bool false, .slice none 0 0, .slice none 0 0] 32)).alloc (.cells #[.int .i64 0, .int .i64 0] 27)).setRow w3.heap.size A).setRow (w3.heap.size + 1) B).heap[w3.heap.size + 1]? = some (.cells B 27) ∧ Below w3.heap.size w3 ((((w3.alloc (.cells #[.bool false, .slice none 0 0, .slice none 0 0] 32)).alloc (.cells #[.int .i64 0, .int .i64 0] 27)).setRow w3.heap.size A).setRow (w3.heap.size + 1) B) := by
  have hr11 := heap_past (o' := (.cells #[.int .i64 0, .int .i64 0] 27)) (heap_alloc_last w3 (.cells #[.bool false, .slice none 0 0, .slice none 0 0] 32))
  have hr12 := row_other (cs := A) (heap_at1 w3 (.cells #[.bool false, .slice none 0 0, .slice none 0 0] 32) (.cells #[.int .i64 0, .int .i64 0] 27)) (show w3.heap.size + 1 ≠ w3.heap.size by omega)
  exact ⟨row_other (setRow_heap _ _ _ _ _ _ hr11) (by omega), setRow_heap _ _ _ _ _ _ hr12, below_setRow (below_setRow ((below_alloc _ _).alloc (by simp) _) (Nat.le_refl _) _) (by omega) _⟩
set_option maxHeartbeats 51200000 in
theorem level_main (p : Option Addr) (c : Nat) (x y : Int) (L : List Wt) (w : World) (h1 : 2 ≤ L.length) (h2 : L.length ≤ 200) (hp : WSr w p L) (hlo : longW L = false) (hs : Snd L) (hx1 : -9223372036854775808 ≤ x) (hx2 : x < 9223372036854775808) (hy1 : -9223372036854775808 ≤ y) (hy2 : y < 9223372036854775808) :
    Calls Try.prog 3 #[.slice p L.length c, .int .i64 x, .int .i64 y] w fun e w' => e = .returned (.bool true) ∧ Below w.heap.size w w' := by
  obtain ⟨M, HM⟩ : ∃ M, Hid (L.length = M + 1) := ⟨L.length - 1, hide_ (by omega)⟩
  have hM1 : 0 < (M : Int) := by have := HM.out; omega
  have hM2 : (M : Int) < 9223372036854775808 := by have := HM.out; omega
  obtain ⟨hk1, hk2⟩ := pickN_range x M hM1
  obtain ⟨K, HKe⟩ : ∃ K : Nat, Hid (pickN x M = (K : Int)) := ⟨(pickN x M).toNat, hide_ (by omega)⟩
  have hKM : K < M := by have := HKe.out; omega
  obtain ⟨J, HJ⟩ : ∃ J, Hid (J = K + 1) := ⟨K + 1, hide_ rfl⟩
  have hK : K < L.length := by have := HM.out; omega
  have hJ : J < L.length := by have := HM.out; have := HJ.out; omega
  have HA := hide_ (fun W => awake_any W)
  have HL := hide_ (fun W (h : Below w.heap.size w W) => LongWaters_any p L.length c L W rfl (hp.below h) (by omega))
  rw [hlo] at HL
  have HWS := hide_ (fun W (h : Below w.heap.size w W) => (hp.below h).wsl (by omega) hlo)
  have HCK := hide_ (fun W (h : Below w.heap.size w W) => checkW_any p L.length c L W rfl (HWS.out W h) (by omega))
  rw [hs.zero] at HCK
  have HP1 := hide_ (fun W => (show Calls Try.prog 14 #[.int .i64 x, .int .i64 (M : Int)] W fun e w' => e = .returned (.int .i64 (K : Int)) ∧ w' = W from by have h := Pick_any x M W hM1 hM2 hx1 hx2; rw [HKe.out] at h; exact h))
  have z1 : decide ((200 : Int) < (L.length : Int)) = false := decide_eq_false (by omega)
  have z2 : decide ((L.length : Int) < (2 : Int)) = false := decide_eq_false (by omega)
  have hw1 : IntKind.i64.wrap ((L.length : Int) - 1) = (M : Int) := by have := HM.out; rw [IntWalk.i64_in _ (by omega)]; omega
  have hw2 : IntKind.i64.wrap ((K : Int) + 1) = (J : Int) := by have := HJ.out; rw [IntWalk.i64_in _ (by omega)]; omega
  have i1 : (0 : Int) ≤ (K : Int) := by omega
  have i2 : (K : Int) < (L.length : Int) := by omega
  have i3 : (0 : Int) ≤ (J : Int) := by omega
  have i4 : (J : Int) < (L.length : Int) := by omega
  have hoK := hs.one hK
  have hoJ := hs.one hJ
  have hlt : L[K].l < L[J].t := hs.lt (by have := HJ.out; omega) hJ
  have hcmp : L[K].h ≠ L[J].h := by
    have he : J = K + 1 := HJ.out
    subst he
    have h3 := (hs.two (i := K) hJ).2.2
    intro h4
    rw [h4, cmp_eq] at h3
    unfold wantW at h3
    split at h3 <;> omega
  have HPL := hide_ (fun t (h3 : L[K].l ≤ t) (h4 : t < L[J].t) => level_plain (v := L[K]) (u := L[J]) (t := t) hlt h3 h4 hcmp)
  have HAT := hide_ (fun t (h3 : L[K].l ≤ t) (h4 : t ≤ L[J].t) => level_at (t := t) hs HJ.out hJ hK h3 h4)
  obtain ⟨g, o, hpe⟩ : ∃ g o, p = some ⟨g, o, none⟩ := by
    rcases hp with h | ⟨g, o, e, _⟩
    · rw [h] at h1; simp at h1
    · exact ⟨g, o, e⟩
  subst hpe
  have hsl := HWS.out w (Below.refl _ _)
  obtain ⟨hg, pk, ck, qk, dk, ⟨k0, k1, k2, k3, k4, k5⟩, hrk⟩ := hsl.at hK
  obtain ⟨_, pj, cj, qj, dj, ⟨j0, j1, j2, j3, j4, j5⟩, hrj⟩ := hsl.at hJ
  have hvk := hrk.rv hoK.2.2.2
  have hvj := hrj.rv hoJ.2.2.2
  have eK : ratG L[K].neg L[K].A L[K].D = L[K].h := rfl
  have eJ : ratG L[J].neg L[J].A L[J].D = L[J].h := rfl
  rw [eK] at hvk
  rw [eJ] at hvj
  have HVK := hide_ (fun W (h : Below w.heap.size w W) => hvk.below h)
  have HVJ := hide_ (fun W (h : Below w.heap.size w W) => hvj.below h)
  have HBT := hide_ (fun t W (h : Below w.heap.size w W) => Between_any (some ⟨g, o, none⟩) L.length c t L W rfl (HWS.out W h) (by omega))
  have HCL := hide_ (fun W (h : Below w.heap.size w W) => (⟨⟨(h.cell hg).trans k0, (h.cell hg).trans k1, (h.cell hg).trans k2, (h.cell hg).trans k3, (h.cell hg).trans k4, (h.cell hg).trans k5⟩, (h.cell hg).trans j0, (h.cell hg).trans j1, (h.cell hg).trans j2, (h.cell hg).trans j3, (h.cell hg).trans j4, (h.cell hg).trans j5⟩ : (_ ∧ _ ∧ _ ∧ _ ∧ _ ∧ _) ∧ _ ∧ _ ∧ _ ∧ _ ∧ _ ∧ _))
  have HEK := hide_ (show btw L L[K].l = (L[K].h, 0, 0) from btw_snd hs (atQ_on hs hK hoK.2.1 (Int.le_refl _)))
  have HEJ := hide_ (show btw L L[J].t = (L[J].h, 0, 0) from btw_snd hs (atQ_on hs hJ (Int.le_refl _) hoJ.2.1))
  have HoK := hide_ hoK
  have HoJ := hide_ hoJ
  have HLT := hide_ hlt
  clear hp hlo hs hx1 hx2 h1 h2 hk1 hk2 hKM hoK hoJ hlt hcmp hsl hrk hrj hvk hvj eK eJ k0 k1 k2 k3 k4 k5 j0 j1 j2 j3 j4 j5 HWS hM1 hM2
  generalize cvQ L[K] L[J] = cv at *
  generalize L[K].h = hvK at *
  generalize L[J].h = hvJ at *
  generalize L[K].A.length = nk at *
  generalize L[K].D.length = mk at *
  generalize L[K].neg = sk at *
  generalize L[K].t = tk at *
  generalize L[K].l = lk at *
  generalize L[K].top = ok_ at *
  generalize L[J].A.length = nj at *
  generalize L[J].D.length = mj at *
  generalize L[J].neg = sj at *
  generalize L[J].t = tj at *
  generalize L[J].l = lj at *
  generalize L[J].top = oj at *
  go_enter Try.func3, Try.ntmps3
  go_upto_region 5 with (first
    | (go_at_call 11; go_must ((with_reducible refine (HA.out _).mono ?_); rintro e w1 ⟨rfl, hb1⟩))
    | (go_at_call 12; go_must ((with_reducible refine (HL.out _ hb1).mono ?_); rintro e w2 ⟨rfl, hb2⟩; have hb3 := hb1.trans (hb2.mono hb1.size)))
    | (go_at_call 13; go_must ((with_reducible refine (HCK.out _ hb3).mono ?_); rintro e w4 ⟨rfl, hb4⟩; have hb5 := hb3.trans (hb4.mono hb3.size)))
    | (go_at_call 14; go_must ((with_reducible refine (HP1.out _).mono ?_); rintro e w5 ⟨rfl, rfl⟩)))
  have HB5 := hide_ hb5
  clear hb1 hb2 hb3 hb4 hb5 HA HL HCK HP1
  have hdw : Below w.heap.size w w5.drew := HB5.out.drew
  obtain ⟨⟨k0, k1, k2, k3, k4, k5⟩, j0, j1, j2, j3, j4, j5⟩ := HCL.out _ hdw
  have HB6 := hide_ ((HB5.out.alloc HB5.out.size (.cells #[.int .i64 tk, .int .i64 lk, .bool ok_, .bool sk, .slice pk nk ck, .slice qk mk dk] 34)).alloc (by have := HB5.out.size; simp; omega) (.cells #[.int .i64 tj, .int .i64 lj, .bool oj, .bool sj, .slice pj nj cj, .slice qj mj dj] 34))
  have HA1 := hide_ (fun o => HB5.out.alloc HB5.out.size o)
  have HA2 := hide_ (fun o o' => (HA1.out o).alloc (HA1.out o).size o')
  have HA1d := hide_ (fun o => (HA1.out o).drew)
  have HA2d := hide_ (fun o o' => (HA2.out o o').drew)
  go_cut [9, 10] (fun s9 s10 wx => ∃ b9 b10, s9 = .pointer (some ⟨b9, 0, none⟩) ∧ s10 = .pointer (some ⟨b10, 0, none⟩) ∧ wx.heap[b9]? = some (.cells #[.int .i64 tk, .int .i64 lk, .bool ok_, .bool sk, .slice pk nk ck, .slice qk mk dk] 34) ∧ wx.heap[b10]? = some (.cells #[.int .i64 tj, .int .i64 lj, .bool oj, .bool sj, .slice pj nj cj, .slice qj mj dj] 34) ∧ Below w.heap.size w wx)
  case first =>
    go_region_held3 (fun w' => (w'.cell? ⟨g, o + K * 6, none⟩ = some (.int .i64 tk) ∧ w'.cell? ⟨g, o + K * 6 + 1, none⟩ = some (.int .i64 lk) ∧ w'.cell? ⟨g, o + K * 6 + 2, none⟩ = some (.bool ok_) ∧ w'.cell? ⟨g, o + K * 6 + 3, none⟩ = some (.bool sk) ∧ w'.cell? ⟨g, o + K * 6 + 4, none⟩ = some (.slice pk nk ck) ∧ w'.cell? ⟨g, o + K * 6 + 5, none⟩ = some (.slice qk mk dk)) ∧ w'.cell? ⟨g, o + J * 6, none⟩ = some (.int .i64 tj) ∧ w'.cell? ⟨g, o + J * 6 + 1, none⟩ = some (.int .i64 lj) ∧ w'.cell? ⟨g, o + J * 6 + 2, none⟩ = some (.bool oj) ∧ w'.cell? ⟨g, o + J * 6 + 3, none⟩ = some (.bool sj) ∧ w'.cell? ⟨g, o + J * 6 + 4, none⟩ = some (.slice pj nj cj) ∧ w'.cell? ⟨g, o + J * 6 + 5, none⟩ = some (.slice qj mj dj))
      (first | (exact HCL.out _ (by assumption)) | (exact HCL.out _ (HA1d.out _)) | (exact HCL.out _ (HA2d.out _ _)) | (exact HCL.out _ (HA1.out _)) | (exact HCL.out _ (HA2.out _ _)) | go_keep)
      (fail)
    all_goals (go_wp2_with fail; go_meet; first | exact ⟨_, _, rfl, rfl, heap_drew (heap_past (heap_alloc_last _ _)), heap_drew (heap_at1 _ _ _), HA2d.out _ _⟩ | exact ⟨_, _, rfl, rfl, heap_drew (heap_at1 _ _ _), heap_drew (heap_past (heap_alloc_last _ _)), HA2d.out _ _⟩)
  case rest =>
    obtain ⟨b9, b10, rfl, rfl, hr9, hr10, hbc⟩ := hcut
    have HB7 := hide_ hbc
    have HR9 := hide_ (fun W (h : Below wc.heap.size wc W) => (h.block _ (lt_of_heap hr9)).trans hr9)
    have HR10 := hide_ (fun W (h : Below wc.heap.size wc W) => (h.block _ (lt_of_heap hr10)).trans hr10)
    have hlt9 := lt_of_heap hr9
    have hlt10 := lt_of_heap hr10
    obtain ⟨a0, a1, a2, a3, a4, a5⟩ := cells_six hr9
    have HBK := hide_ (fun W (h : Below w.heap.size w W) => ResF.ok (HBT.out lk W h) HEK.out)
    have HBJ := hide_ (fun W (h : Below w.heap.size w W) => ResF.ok (HBT.out tj W h) HEJ.out)
    clear HA1 HA2 HA1d HA2d HB6 hdw k0 k1 k2 k3 k4 k5 j0 j1 j2 j3 j4 j5 hr9 hr10 hbc
    go_upto_region 7 with (first
      | (go_at_call 15; go_must (
          (with_reducible refine (HBK.out _ HB7.out).mono ?_)
          rintro e w7 ⟨⟨s1, p1, n1, c1, q1, m1, d1, rfl, ho1, hf1⟩, hb7⟩
          have hr11 := heap_past (o' := (.cells #[.int .i64 0, .int .i64 0] 27)) (heap_alloc_last w7 (.cells #[.bool false, .slice none 0 0, .slice none 0 0] 32))
          have hr12 := row_other (cs := #[.bool s1, .slice p1 n1 c1, .slice q1 m1 d1]) (heap_at1 w7 (.cells #[.bool false, .slice none 0 0, .slice none 0 0] 32) (.cells #[.int .i64 0, .int .i64 0] 27)) (show w7.heap.size + 1 ≠ w7.heap.size by omega)))
      | ((with_reducible apply wpList_store_new); (with_reducible rfl); (with_reducible rfl); rfl; rfl; kernel_rfl; rfl; kernel_rfl) | ((with_reducible apply wpList_store_blk); (with_reducible rfl); (with_reducible rfl); rfl; assumption; rfl; kernel_rfl; rfl; kernel_rfl))
    obtain ⟨ha1, ha2, hba⟩ := two_rows2 w7 #[.bool s1, .slice p1 n1 c1, .slice q1 m1 d1] #[.int .i64 0, .int .i64 0]
    have hA := hb7.trans (hba.mono hb7.size)
    have hAw := HB7.out.trans (hA.mono HB7.out.size)
    have hv1 := (ho1.below hba).rv hf1
    obtain ⟨a0, a1, a2, a3, a4, a5⟩ := cells_six (HR10.out _ hA)
    clear hr11 hr12 hb7 hba ho1
    generalize ((((w7.alloc (.cells #[.bool false, .slice none 0 0, .slice none 0 0] 32)).alloc (.cells #[.int .i64 0, .int .i64 0] 27)).setRow w7.heap.size #[.bool s1, .slice p1 n1 c1, .slice q1 m1 d1]).setRow (w7.heap.size + 1) #[.int .i64 0, .int .i64 0]) = wa at *
    generalize w7.heap.size = B1 at *
    go_upto_region 8 with (first
      | (go_at_call 15; go_must (
          (with_reducible refine (HBJ.out _ hAw).mono ?_)
          rintro e w8 ⟨⟨s2, p2, n2, c2, q2, m2, d2, rfl, ho2, hf2⟩, hb8⟩
          have hr11 := heap_past (o' := (.cells #[.int .i64 0, .int .i64 0] 27)) (heap_alloc_last w8 (.cells #[.bool false, .slice none 0 0, .slice none 0 0] 32))
          have hr12 := row_other (cs := #[.bool s2, .slice p2 n2 c2, .slice q2 m2 d2]) (heap_at1 w8 (.cells #[.bool false, .slice none 0 0, .slice none 0 0] 32) (.cells #[.int .i64 0, .int .i64 0] 27)) (show w8.heap.size + 1 ≠ w8.heap.size by omega)))
      | ((with_reducible apply wpList_store_new); (with_reducible rfl); (with_reducible rfl); rfl; rfl; kernel_rfl; rfl; kernel_rfl) | ((with_reducible apply wpList_store_blk); (with_reducible rfl); (with_reducible rfl); rfl; assumption; rfl; kernel_rfl; rfl; kernel_rfl))
    obtain ⟨hc1, hc2, hbc⟩ := two_rows2 w8 #[.bool s2, .slice p2 n2 c2, .slice q2 m2 d2] #[.int .i64 0, .int .i64 0]
    have hC := hb8.trans (hbc.mono hb8.size)
    have hCw := hAw.trans (hC.mono hAw.size)
    have hCc := hA.trans (hC.mono hA.size)
    have hv2 := (ho2.below hbc).rv hf2
    have hd1 := (hC.block _ (lt_of_heap ha1)).trans ha1
    have hd2 := (hC.block _ (lt_of_heap ha2)).trans ha2
    have hv1' := hv1.below hC
    clear hr11 hr12 hb8 hbc ho2 ha1 ha2 hv1 hA hAw hC a0 a1 a2 a3 a4 a5
    generalize ((((w8.alloc (.cells #[.bool false, .slice none 0 0, .slice none 0 0] 32)).alloc (.cells #[.int .i64 0, .int .i64 0] 27)).setRow w8.heap.size #[.bool s2, .slice p2 n2 c2, .slice q2 m2 d2]).setRow (w8.heap.size + 1) #[.int .i64 0, .int .i64 0]) = wd at *
    generalize w8.heap.size = B2 at *
    have HROWS := hide_ (fun W (h : Below wd.heap.size wd W) => (⟨cells_three ((h.block _ (lt_of_heap hd1)).trans hd1), cells_two ((h.block _ (lt_of_heap hd2)).trans hd2), cells_three ((h.block _ (lt_of_heap hc1)).trans hc1), cells_two ((h.block _ (lt_of_heap hc2)).trans hc2), cells_six (HR9.out W (hCc.trans (h.mono hCc.size))), cells_six (HR10.out W (hCc.trans (h.mono hCc.size)))⟩ : _ ∧ _ ∧ _ ∧ _ ∧ _ ∧ _))
    have HORD := hide_ (fun va vb x y W (h1 : RV W va x) (h2 : RV W vb y) => order_any va vb x y W h1 h2)
    have HV1 := hide_ (fun W (h : Below wd.heap.size wd W) => hv1'.below h)
    have HV2 := hide_ (fun W (h : Below wd.heap.size wd W) => hv2.below h)
    have HVK2 := hide_ (fun W (h : Below wd.heap.size wd W) => HVK.out W (hCw.trans (h.mono hCw.size)))
    have HVJ2 := hide_ (fun W (h : Below wd.heap.size wd W) => HVJ.out W (hCw.trans (h.mono hCw.size)))
    obtain ⟨⟨a0, a1, a2⟩, ⟨b0, b1⟩, ⟨e0, e1, e2⟩, ⟨f0, f1⟩, ⟨_, g1, _, g3, g4, g5⟩, h0, _, _, h3, h4, h5⟩ := HROWS.out _ (Below.refl _ _)
    have hrd := Below.refl wd.heap.size wd
    clear hd1 hd2 hc1 hc2 hv1' hv2
    have tokA : True := trivial
    have tokB : True := trivial
    go_upto_region 11 with (first
      | (go_at_call 16; have _t := tokA; go_must (
          (with_reducible refine (HORD.out _ _ hvK hvK _ (HV1.out _ hrd) (HVK2.out _ hrd)).mono ?_)
          rw [cmp_eq]
          rintro e w9 ⟨rfl, hb9⟩
          clear tokA a0 a1 a2 b0 b1 e0 e1 e2 f0 f1 g1 g3 g4 g5 h0 h3 h4 h5
          obtain ⟨⟨a0, a1, a2⟩, ⟨b0, b1⟩, ⟨e0, e1, e2⟩, ⟨f0, f1⟩, ⟨_, g1, _, g3, g4, g5⟩, h0, _, _, h3, h4, h5⟩ := HROWS.out _ hb9))
      | (go_at_call 16; have _t := tokB; go_must (
          (with_reducible refine (HORD.out _ _ hvJ hvJ _ (HV2.out _ hb9) (HVJ2.out _ hb9)).mono ?_)
          rw [cmp_eq]
          rintro e w10 ⟨rfl, hb10⟩
          have k10 := hb9.trans (hb10.mono hb9.size)
          clear tokB a0 a1 a2 b0 b1 e0 e1 e2 f0 f1 g1 g3 g4 g5 h0 h3 h4 h5
          obtain ⟨⟨a0, a1, a2⟩, ⟨b0, b1⟩, ⟨e0, e1, e2⟩, ⟨f0, f1⟩, ⟨_, g1, _, g3, g4, g5⟩, h0, _, _, h3, h4, h5⟩ := HROWS.out _ k10))
      | (go_at_call 16; go_must (
          (with_reducible refine (HORD.out _ _ hvK hvJ _ (HVK2.out _ k10) (HVJ2.out _ k10)).mono ?_)
          rintro e w11 ⟨rfl, hb11⟩
          have k11 := k10.trans (hb11.mono k10.size)
          clear a0 a1 a2 b0 b1 e0 e1 e2 f0 f1 g1 g3 g4 g5 h0 h3 h4 h5
          obtain ⟨⟨a0, a1, a2⟩, ⟨b0, b1⟩, ⟨e0, e1, e2⟩, ⟨f0, f1⟩, ⟨_, g1, _, g3, g4, g5⟩, h0, _, _, h3, h4, h5⟩ := HROWS.out _ k11)))
    have hkl := HLT.out
    have hokl := HoK.out
    have hojl := HoJ.out
    have hsp : 0 < tj - lk := by omega
    obtain ⟨hq1, hq2⟩ := pickN_range y (tj - lk) hsp
    have HP2 := hide_ (fun W => Pick_any y (tj - lk) W hsp (by omega) hy1 hy2)
    have hws : IntKind.i64.wrap (tj - lk) = tj - lk := IntWalk.i64_in _ (by omega)
    have hwt : IntKind.i64.wrap (lk + pickN y (tj - lk)) = lk + pickN y (tj - lk) := IntWalk.i64_in _ (by omega)
    have HT0 := hide_ (show lk ≤ lk + pickN y (tj - lk) ∧ lk + pickN y (tj - lk) ≤ tj from ⟨by omega, by omega⟩)
    clear hkl hokl hojl hsp hq1 hq2
    generalize pickN y (tj - lk) = pk2 at *
    have k11d : Below wd.heap.size wd w11.drew := k11.drew
    go_region_held3 (fun w' => w'.cell? ⟨b9, 1, none⟩ = some (.int .i64 lk) ∧ w'.cell? ⟨b10, 0, none⟩ = some (.int .i64 tj))
      (first | (with_reducible exact ⟨g1, h0⟩) | go_keep)
      ((first | (go_at_call 14; go_must ((with_reducible refine (HP2.out _).mono ?_); rintro e w12 ⟨rfl, rfl⟩))))
    clear a0 a1 a2 b0 b1 e0 e1 e2 f0 f1 g1 g3 g4 g5 h0 h3 h4 h5
    have HBX := hide_ (fun t (h1 : lk ≤ t) (h2 : t ≤ tj) W (h : Below w.heap.size w W) => ResF.any (HBT.out t W h) (HAT.out t h1 h2))
    have k11w : Below w.heap.size w w11.drew := hCw.trans (k11d.mono hCw.size)
    have HBX0 := hide_ (HBX.out _ HT0.out.1 HT0.out.2)
    go_upto_region 14 with (first
      | (go_at_call 15; go_must (
          (with_reducible refine (HBX0.out _ k11w).mono ?_)
          rintro e w13 ⟨⟨s3, p3, n3, c3, q3, m3, d3, er3, at3, rfl, hcl3⟩, hb13⟩
          have hr11 := heap_past (o' := (.cells #[.int .i64 0, .int .i64 0] 27)) (heap_alloc_last w13 (.cells #[.bool false, .slice none 0 0, .slice none 0 0] 32))
          have hr12 := row_other (cs := #[.bool s3, .slice p3 n3 c3, .slice q3 m3 d3]) (heap_at1 w13 (.cells #[.bool false, .slice none 0 0, .slice none 0 0] 32) (.cells #[.int .i64 0, .int .i64 0] 27)) (show w13.heap.size + 1 ≠ w13.heap.size by omega)))
      | ((with_reducible apply wpList_store_new); (with_reducible rfl); (with_reducible rfl); rfl; rfl; kernel_rfl; rfl; kernel_rfl) | ((with_reducible apply wpList_store_blk); (with_reducible rfl); (with_reducible rfl); rfl; assumption; rfl; kernel_rfl; rfl; kernel_rfl))
    obtain ⟨he1, he2, hbe⟩ := two_rows2 w13 #[.bool s3, .slice p3 n3 c3, .slice q3 m3 d3] #[.int .i64 er3, .int .i64 at3]
    have hcl := (hcl3.below hbe).mono (show w.heap.size ≤ w11.drew.heap.size from k11w.size)
    have HDw := hide_ (show Below w.heap.size w w13 from k11w.trans (hb13.mono k11w.size))
    have HDd := hide_ (show Below wd.heap.size wd w13 from k11d.trans (hb13.mono k11d.size))
    have HPLh := HPL
    have hcq := cmpQ_range hvK hvJ
    have hnw : IntKind.i64.wrap (-cmpQ hvK hvJ) = -cmpQ hvK hvJ := IntWalk.i64_in _ (by omega)
    clear hr11 hr12 hcl3 hb13 k11d k11w HBX0 HP2 hws hwt HBK HBJ HR9 HR10 HVK HVJ HV1 HV2
    generalize ((((w13.alloc (.cells #[.bool false, .slice none 0 0, .slice none 0 0] 32)).alloc (.cells #[.int .i64 0, .int .i64 0] 27)).setRow w13.heap.size #[.bool s3, .slice p3 n3 c3, .slice q3 m3 d3]).setRow (w13.heap.size + 1) #[.int .i64 er3, .int .i64 at3]) = we at *
    generalize cmpQ hvK hvJ = up at *
    have HBE := hide_ hbe
    have HCL0 := hide_ hcl
    clear hbe hcl
    go_loopw [16, 19] (fun tv iv wr => ∃ (T : Int) (i : Nat) (s : Bool) (p : Option Addr) (n c : Nat) (q : Option Addr) (m d : Nat) (er at_ : Int), tv = .int .i64 T ∧ iv = .int .i64 (i : Int) ∧ i ≤ 20 ∧ Hid (lk ≤ T ∧ T ≤ tj) ∧ wr.heap[w13.heap.size]? = some (.cells #[.bool s, .slice p n c, .slice q m d] 32) ∧ wr.heap[w13.heap.size + 1]? = some (.cells #[.int .i64 er, .int .i64 at_] 27) ∧ Hid (CaseL wr w.heap.size (cv T) er at_ (.agg #[.bool s, .slice p n c, .slice q m d])) ∧ Hid (Below w13.heap.size w13 wr)) (fun _ iv _ => 20 - (intOf iv).toNat)
    case atStart => exact ⟨_, 0, _, _, _, _, _, _, _, _, _, rfl, rfl, by omega, HT0, he1, he2, HCL0, HBE⟩
    case round =>
      obtain ⟨T, i, s4, p4, n4, c4, q4, m4, d4, er4, at4, rfl, rfl, hi, HT, hr17, hr18, HCS, HBW⟩ := hrel
      have HWw := hide_ (show Below w.heap.size w wr from HDw.out.trans (HBW.out.mono HDw.out.size))
      have HWd := hide_ (show Below wd.heap.size wd wr from HDd.out.trans (HBW.out.mono HDd.out.size))
      obtain ⟨_, _, _, _, ⟨_, g1, _, g3, g4, g5⟩, h0, _, _, h3, h4, h5⟩ := HROWS.out _ HWd.out
      by_cases hi20 : i = 20
      · subst hi20
        go_wp2
        go_ret
        exact ⟨by simp, HWw.out⟩
      · have y1 : ((i : Int) < 20) := by omega
        have y2 : decide ((i : Int) < 20) = true := decide_eq_true y1
        by_cases hTj : T < tj
        · have y3 : decide (T < tj) = true := decide_eq_true hTj
          have hTl := HT.out
          have htj := HoJ.out
          have hwT : IntKind.i64.wrap (T + 1) = T + 1 := IntWalk.i64_in _ (by have := HoK.out; omega)
          have HBX1 := hide_ (HBX.out (T + 1) (by omega) (by omega))
          have HT1 := hide_ (show lk ≤ T + 1 ∧ T + 1 ≤ tj from ⟨by omega, by omega⟩)
          have HPL1 := hide_ (HPL.out T hTl.1 hTj)
          have hwi : IntKind.i64.wrap ((i : Int) + 1) = ((i + 1 : Nat) : Int) := by rw [IntWalk.i64_in _ (by omega)]; omega
          clear hTl htj
          go_upto_region 18 with (first
            | (go_at_call 15; go_must (
                (with_reducible refine (HBX1.out _ HWw.out).mono ?_)
                rintro e w14 ⟨⟨s5, p5, n5, c5, q5, m5, d5, er5, at5, rfl, hcl5⟩, hb14⟩
                have hr11 := heap_past (o' := (.cells #[.int .i64 0, .int .i64 0] 27)) (heap_alloc_last w14 (.cells #[.bool false, .slice none 0 0, .slice none 0 0] 32))
                have hr12 := row_other (cs := #[.bool s5, .slice p5 n5 c5, .slice q5 m5 d5]) (heap_at1 w14 (.cells #[.bool false, .slice none 0 0, .slice none 0 0] 32) (.cells #[.int .i64 0, .int .i64 0] 27)) (show w14.heap.size + 1 ≠ w14.heap.size by omega)))
            | ((with_reducible apply wpList_store_new); (with_reducible rfl); (with_reducible rfl); rfl; rfl; kernel_rfl; rfl; kernel_rfl) | ((with_reducible apply wpList_store_blk); (with_reducible rfl); (with_reducible rfl); rfl; assumption; rfl; kernel_rfl; rfl; kernel_rfl))
          obtain ⟨hf1, hf2, hbf⟩ := two_rows2 w14 #[.bool s5, .slice p5 n5 c5, .slice q5 m5 d5] #[.int .i64 er5, .int .i64 at5]
          have hF := hb14.trans (hbf.mono hb14.size)
          have hcf := hcl5.below hbf
          have hq17 := (hF.block _ (lt_of_heap hr17)).trans hr17
          have hq18 := (hF.block _ (lt_of_heap hr18)).trans hr18
          have HFw := hide_ (show Below w.heap.size w _ from HWw.out.trans (hF.mono HWw.out.size))
          have HFd := hide_ (show Below wd.heap.size wd _ from HWd.out.trans (hF.mono HWd.out.size))
          have HF13 := hide_ (show Below w13.heap.size w13 _ from HBW.out.trans (hF.mono HBW.out.size))
          have HCS2 := hide_ (HCS.out.below hF)
          have hlr := lt_of_heap hr18
          have hl14 := hb14.size
          clear hr11 hr12 hcl5 hb14 hbf hF g1 g3 g4 g5 h0 h3 h4 h5
          generalize ((((w14.alloc (.cells #[.bool false, .slice none 0 0, .slice none 0 0] 32)).alloc (.cells #[.int .i64 0, .int .i64 0] 27)).setRow w14.heap.size #[.bool s5, .slice p5 n5 c5, .slice q5 m5 d5]).setRow (w14.heap.size + 1) #[.int .i64 er5, .int .i64 at5]) = wf at *
          obtain ⟨_, _, _, _, ⟨_, g1, _, g3, g4, g5⟩, h0, _, _, h3, h4, h5⟩ := HROWS.out _ HFd.out
          obtain ⟨u0, u1, u2⟩ := cells_three hf1
          obtain ⟨u3, u4⟩ := cells_two hf2
          obtain ⟨v0, v1, v2⟩ := cells_three hq17
          obtain ⟨v3, v4⟩ := cells_two hq18
          have HCF := hide_ hcf
          clear hcf
          rcases HCS2.out with ⟨rfl, rfl, ho4, hff4⟩ | ⟨rfl, rfl⟩
          · rcases HCF.out with ⟨rfl, rfl, ho5, hff5⟩ | ⟨rfl, rfl⟩
            · have HX := hide_ (fun W (h : Below wf.heap.size wf W) => (⟨cells_three ((h.block _ (lt_of_heap hf1)).trans hf1), cells_two ((h.block _ (lt_of_heap hf2)).trans hf2), cells_three ((h.block _ (lt_of_heap hq17)).trans hq17), cells_two ((h.block _ (lt_of_heap hq18)).trans hq18), HROWS.out W (HFd.out.trans (h.mono HFd.out.size))⟩ : _ ∧ _ ∧ _ ∧ _ ∧ _))
              have HVL := hide_ (fun W (h : Below wf.heap.size wf W) => (ho4.rv hff4).below h)
              have HVN := hide_ (fun W (h : Below wf.heap.size wf W) => (ho5.rv hff5).below h)
              have HVJ3 := hide_ (fun W (h : Below wf.heap.size wf W) => HVJ2.out W (HFd.out.trans (h.mono HFd.out.size)))
              have HVK3 := hide_ (fun W (h : Below wf.heap.size wf W) => HVK2.out W (HFd.out.trans (h.mono HFd.out.size)))
              have hp1 := HPL1.out.1
              have hp2 : (cmpQ (cv (T + 1)) hvJ == -up) = false := by simpa using HPL1.out.2.1
              have hp3 : (cmpQ hvK (cv T) == -up) = false := by simpa using HPL1.out.2.2
              have HO1 := hide_ (fun W (h : Below wf.heap.size wf W) => (show Calls Try.prog 16 _ W fun e w' => e = .returned (.int .i64 up) ∧ Below W.heap.size W w' from by have h9 := HORD.out _ _ (cv T) (cv (T + 1)) W (HVL.out W h) (HVN.out W h); rw [hp1] at h9; exact h9))
              have HO2 := hide_ (fun W (h : Below wf.heap.size wf W) => HORD.out _ _ (cv (T + 1)) hvJ W (HVN.out W h) (HVJ3.out W h))
              have HO3 := hide_ (fun W (h : Below wf.heap.size wf W) => HORD.out _ _ hvK (cv T) W (HVK3.out W h) (HVL.out W h))
              have HO5 := hide_ (⟨ho5, hff5⟩ : _ ∧ _)
              have hrf := Below.refl wf.heap.size wf
              have HF17 := hide_ (fun W (h : Below wf.heap.size wf W) => (⟨(h.block _ (lt_of_heap hq17)).trans hq17, (h.block _ (lt_of_heap hq18)).trans hq18⟩ : _ ∧ _))
              clear hp1 ho4 ho5 hff4 hff5 HPL1 HCF HCS2
              generalize cmpQ (cv (T + 1)) hvJ = R2 at *
              generalize cmpQ hvK (cv T) = R3 at *
              clear hf1 hf2 hq17 hq18
              have tokA : True := trivial
              have tokB : True := trivial
              go_upto_region 22 with (first
                | (go_at_call 16; have _t := tokA; go_must (
                    (with_reducible refine (HO1.out _ hrf).mono ?_)
                    rintro e w15 ⟨rfl, hb15⟩
                    clear tokA g1 g3 g4 g5 h0 h3 h4 h5 u0 u1 u2 u3 u4 v0 v1 v2 v3 v4
                    obtain ⟨⟨u0, u1, u2⟩, ⟨u3, u4⟩, ⟨v0, v1, v2⟩, ⟨v3, v4⟩, _, _, _, _, ⟨_, g1, _, g3, g4, g5⟩, h0, _, _, h3, h4, h5⟩ := HX.out _ hb15))
                | (go_at_call 16; have _t := tokB; go_must (
                    (with_reducible refine (HO2.out _ hb15).mono ?_)
                    rintro e w16 ⟨rfl, hb16⟩
                    have k16 := hb15.trans (hb16.mono hb15.size)
                    clear tokB g1 g3 g4 g5 h0 h3 h4 h5 u0 u1 u2 u3 u4 v0 v1 v2 v3 v4
                    obtain ⟨⟨u0, u1, u2⟩, ⟨u3, u4⟩, ⟨v0, v1, v2⟩, ⟨v3, v4⟩, _, _, _, _, ⟨_, g1, _, g3, g4, g5⟩, h0, _, _, h3, h4, h5⟩ := HX.out _ k16))
                | (go_at_call 16; go_must (
                    (with_reducible refine (HO3.out _ k16).mono ?_)
                    rintro e w17 ⟨rfl, hb17⟩
                    have k17 := k16.trans (hb17.mono k16.size)
                    clear g1 g3 g4 g5 h0 h3 h4 h5 u0 u1 u2 u3 u4 v0 v1 v2 v3 v4
                    obtain ⟨⟨u0, u1, u2⟩, ⟨u3, u4⟩, _, _, _⟩ := HX.out _ k17)))
              obtain ⟨r1, r2⟩ := HF17.out _ k17
              have hne1 : w14.heap.size ≠ w13.heap.size := by omega
              have hne2 : w14.heap.size ≠ w13.heap.size + 1 := by omega
              have hne4 : w14.heap.size + 1 ≠ w13.heap.size := by omega
              have hne5 : w14.heap.size + 1 ≠ w13.heap.size + 1 := by omega
              have hne3 : w13.heap.size + 1 ≠ w13.heap.size := by omega
              obtain ⟨l0, l1, l2⟩ := cells_three r1
              obtain ⟨l3, l4, l5⟩ := free_three r1
              obtain ⟨m0, m1⟩ := cells_two r2
              obtain ⟨m3, m4⟩ := free_two r2
              have n0 := (keep_set3 (x := .bool s5) (y := .slice p5 n5 c5) (z := .slice q5 m5 d5) (o := 0) hne3).trans m0
              have n1 := (keep_set3 (x := .bool s5) (y := .slice p5 n5 c5) (z := .slice q5 m5 d5) (o := 1) hne3).trans m1
              have r2' := row_other (cs := #[.bool s5, .slice p5 n5 c5, .slice q5 m5 d5]) r2 hne3
              rw [← set3_row r1] at r2'
              obtain ⟨n3, n4⟩ := free_two r2'
              go_region_held3 (fun w' => (w'.cell? ⟨w14.heap.size, 0, none⟩ = some (.bool s5) ∧ w'.cell? ⟨w14.heap.size, 1, none⟩ = some (.slice p5 n5 c5) ∧ w'.cell? ⟨w14.heap.size, 2, none⟩ = some (.slice q5 m5 d5)) ∧ w'.cell? ⟨w14.heap.size + 1, 0, none⟩ = some (.int .i64 0) ∧ w'.cell? ⟨w14.heap.size + 1, 1, none⟩ = some (.int .i64 0))
                (first | (with_reducible exact ⟨⟨(keep_set3d hne1).trans u0, (keep_set3d hne1).trans u1, (keep_set3d hne1).trans u2⟩, (keep_set3d hne4).trans u3, (keep_set3d hne4).trans u4⟩) | (with_reducible exact ⟨⟨(keep_set3 hne1).trans u0, (keep_set3 hne1).trans u1, (keep_set3 hne1).trans u2⟩, (keep_set3 hne4).trans u3, (keep_set3 hne4).trans u4⟩) | (with_reducible exact ⟨⟨(keep_set2d hne2).trans ((keep_set3 hne1).trans u0), (keep_set2d hne2).trans ((keep_set3 hne1).trans u1), (keep_set2d hne2).trans ((keep_set3 hne1).trans u2)⟩, (keep_set2d hne5).trans ((keep_set3 hne4).trans u3), (keep_set2d hne5).trans ((keep_set3 hne4).trans u4)⟩) | (with_reducible exact ⟨⟨(keep_set2 hne2).trans ((keep_set3 hne1).trans u0), (keep_set2 hne2).trans ((keep_set3 hne1).trans u1), (keep_set2 hne2).trans ((keep_set3 hne1).trans u2)⟩, (keep_set2 hne5).trans ((keep_set3 hne4).trans u3), (keep_set2 hne5).trans ((keep_set3 hne4).trans u4)⟩) | (with_reducible exact ⟨⟨u0, u1, u2⟩, u3, u4⟩) | go_keep)
                (fail)
              go_wp2
              have hw1 := setRow_heap _ _ _ #[.bool s5, .slice p5 n5 c5, .slice q5 m5 d5] _ _ r1
              have hw2 := row_other (cs := #[.bool s5, .slice p5 n5 c5, .slice q5 m5 d5]) r2 hne3
              have hset : ((w17.setCell ⟨w13.heap.size, 0, none⟩ (.bool s5)).setCell ⟨w13.heap.size, 1, none⟩ (.slice p5 n5 c5)).setCell ⟨w13.heap.size, 2, none⟩ (.slice q5 m5 d5) = w17.setRow w13.heap.size #[.bool s5, .slice p5 n5 c5, .slice q5 m5 d5] := set3_row r1
              have hset2 : ((w17.setRow w13.heap.size #[.bool s5, .slice p5 n5 c5, .slice q5 m5 d5]).setCell ⟨w13.heap.size + 1, 0, none⟩ (.int .i64 0)).setCell ⟨w13.heap.size + 1, 1, none⟩ (.int .i64 0) = (w17.setRow w13.heap.size #[.bool s5, .slice p5 n5 c5, .slice q5 m5 d5]).setRow (w13.heap.size + 1) #[.int .i64 0, .int .i64 0] := set2_row hw2
              rw [hset, hset2]
              have hro : RO ((w17.setRow w13.heap.size #[.bool s5, .slice p5 n5 c5, .slice q5 m5 d5]).setRow (w13.heap.size + 1) #[.int .i64 0, .int .i64 0]) wr.heap.size (.agg #[.bool s5, .slice p5 n5 c5, .slice q5 m5 d5]) (cv (T + 1)) := ((HO5.out.1.below k17).stored (W := w) (by omega)).stored (W := w) hlr
              have hbl : Below w13.heap.size w13 ((w17.setRow w13.heap.size #[.bool s5, .slice p5 n5 c5, .slice q5 m5 d5]).setRow (w13.heap.size + 1) #[.int .i64 0, .int .i64 0]) := below_setRow (below_setRow (HF13.out.trans (k17.mono HF13.out.size)) (Nat.le_refl _) _) (by omega) _
              have hrel1 : ((w17.setRow w13.heap.size #[.bool s5, .slice p5 n5 c5, .slice q5 m5 d5]).setRow (w13.heap.size + 1) #[.int .i64 0, .int .i64 0]).drew.heap[w13.heap.size]? = some (.cells #[.bool s5, .slice p5 n5 c5, .slice q5 m5 d5] 32) := row_other hw1 (by omega)
              have hrel2 : ((w17.setRow w13.heap.size #[.bool s5, .slice p5 n5 c5, .slice q5 m5 d5]).setRow (w13.heap.size + 1) #[.int .i64 0, .int .i64 0]).drew.heap[w13.heap.size + 1]? = some (.cells #[.int .i64 0, .int .i64 0] 27) := setRow_heap _ _ _ _ _ _ hw2
              have hrel3 := hide_ (show CaseL ((w17.setRow w13.heap.size #[.bool s5, .slice p5 n5 c5, .slice q5 m5 d5]).setRow (w13.heap.size + 1) #[.int .i64 0, .int .i64 0]).drew w.heap.size (cv (T + 1)) 0 0 (.agg #[.bool s5, .slice p5 n5 c5, .slice q5 m5 d5]) from .inl ⟨rfl, rfl, (hro.mono HWw.out.size).below (w' := ((w17.setRow w13.heap.size #[.bool s5, .slice p5 n5 c5, .slice q5 m5 d5]).setRow (w13.heap.size + 1) #[.int .i64 0, .int .i64 0]).drew) (Below.refl _ _).drew, HO5.out.2⟩)
              have hrel4 := hide_ (show Below w13.heap.size w13 ((w17.setRow w13.heap.size #[.bool s5, .slice p5 n5 c5, .slice q5 m5 d5]).setRow (w13.heap.size + 1) #[.int .i64 0, .int .i64 0]).drew from hbl.drew)
              go_roundw
              case rel => exact ⟨T + 1, i + 1, s5, p5, n5, c5, q5, m5, d5, 0, 0, rfl, by simp, by omega, HT1, hrel1, hrel2, hrel3, hrel4⟩
              case measure => simp [intOf]; omega
            · go_wp2
              go_ret
              exact ⟨by simp, HFw.out⟩
          · go_wp2
            go_ret
            exact ⟨by simp, HFw.out⟩
        · have y3 : decide (T < tj) = false := decide_eq_false hTj
          go_wp2
          go_ret
          exact ⟨by simp, HWw.out⟩
end Go.Proofs.Ytcibbnphkpaifaa
