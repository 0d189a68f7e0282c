/- Fractions: rational numbers as words. ratio.long, ratio.Check, ratio.checks. ratio.lowest. ratio.checks, times, Mul. ratio.Quo. ratio.plus. ratio.turned, Add. ratio.Sub, Compare. ratio.Compare. ratio.size, Small. ratio.words, Same. ratio.Same. -/
import Derived.Test.YtcibbnphkpaifaaNs
import Derived.Deep.RegionHeld3
namespace Go.Proofs.Ytcibbnphkpaifaa
open Go.RowKit
set_option linter.unusedVariables false
set_option maxRecDepth 100000
def sgnQ (neg : Bool) (n : Nat) : Int := if neg = true then -(n : Int) else n
theorem sgnQ_abs (neg : Bool) (n : Nat) : (sgnQ neg n).natAbs = n := by cases neg <;> simp [sgnQ]
def rn (x : Rat) : List Nat := wd x.num.natAbs
def rd (x : Rat) : List Nat := wd x.den
def rneg (x : Rat) : Bool := decide (x.num < 0)
def Fits (x : Rat) : Prop := (rn x).length ≤ 2048 ∧ (rd x).length ≤ 2048
theorem rd_pos (x : Rat) : 0 < (rd x).length := by
  rcases Nat.eq_zero_or_pos (rd x).length with h | h
  · exact absurd (wd_len_zero.1 h) x.den_nz
  · exact h
theorem sgn_rn (x : Rat) : sgnQ (rneg x) x.num.natAbs = x.num := by
  unfold sgnQ rneg
  by_cases h : x.num < 0
  · rw [if_pos (decide_eq_true h)]; omega
  · rw [if_neg (fun e => h (of_decide_eq_true e))]; omega
theorem mk_self (x : Rat) : mkRat (sgnQ (rneg x) x.num.natAbs) x.den = x := by rw [sgn_rn, Rat.mkRat_self]
/-- What is made of two natural numbers and a sign. -/
theorem mk_parts (neg : Bool) (a b : Nat) (hb : 0 < b) : (mkRat (sgnQ neg a) b).num.natAbs = a / Nat.gcd a b ∧ (mkRat (sgnQ neg a) b).den = b / Nat.gcd a b ∧ rneg (mkRat (sgnQ neg a) b) = (neg && decide (0 < (wd (a / Nat.gcd a b)).length)) := by
  have hg : 0 < Nat.gcd a b := Nat.gcd_pos_of_pos_right _ hb
  have h1 := Rat.num_mkRat (sgnQ neg a) b
  have h2 := Rat.den_mkRat (sgnQ neg a) b
  rw [if_neg (by omega), sgnQ_abs, Nat.gcd_comm] at h1 h2
  have hd : Nat.gcd a b ∣ a := Nat.gcd_dvd_left a b
  generalize Nat.gcd a b = g at *
  obtain ⟨k, rfl⟩ := hd
  rw [Nat.mul_div_cancel_left _ hg]
  have e1 : (mkRat (sgnQ neg (g * k)) b).num = sgnQ neg k := by
    rw [h1]
    unfold sgnQ
    cases neg
    · simp only [Bool.false_eq_true, if_false]
      rw [Int.natCast_mul, Int.mul_ediv_cancel_left _ (by omega)]
    · simp only [if_true]
      rw [Int.natCast_mul, ← Int.mul_neg, Int.mul_ediv_cancel_left _ (by omega)]
  refine ⟨by rw [e1, sgnQ_abs], h2, ?_⟩
  unfold rneg
  rw [e1]
  have e2 : (0 < (wd k).length) ↔ 0 < k := by
    constructor
    · intro h
      rcases Nat.eq_zero_or_pos k with h0 | h0
      · rw [h0, wd_zero] at h; cases h
      · exact h0
    · intro h
      rcases Nat.eq_zero_or_pos (wd k).length with h0 | h0
      · rw [wd_len_zero] at h0; omega
      · exact h0
  have e3 : decide (0 < (wd k).length) = decide (0 < k) := by rw [decide_eq_decide]; exact e2
  rw [e3]
  unfold sgnQ
  cases neg
  · simp
  · simp
/-! ### in memory -/
def zeroR : Value := .agg #[.bool false, .slice none 0 0, .slice none 0 0]
/-- Any words and a sign, as they stand in a fraction. -/
def RG (w : World) (v : Value) (neg : Bool) (A D : List Nat) : Prop := ∃ p c q d, v = .agg #[.bool neg, .slice p A.length c, .slice q D.length d] ∧ WL w p A ∧ WL w q D ∧ A.length ≤ c ∧ D.length ≤ d ∧ Dig A ∧ Dig D ∧ A.length ≤ 100000000 ∧ D.length ≤ 100000000
def RV (w : World) (v : Value) (x : Rat) : Prop := Fits x ∧ ∃ p c q d, v = .agg #[.bool (rneg x), .slice p (rn x).length c, .slice q (rd x).length d] ∧ WL w p (rn x) ∧ WL w q (rd x) ∧ (rn x).length ≤ c ∧ (rd x).length ≤ d
def RO (w : World) (base : Nat) (v : Value) (x : Rat) : Prop := ∃ p c q d, v = .agg #[.bool (rneg x), .slice p (rn x).length c, .slice q (rd x).length d] ∧ WO w base (.slice p (rn x).length c) (rn x) ∧ WO w base (.slice q (rd x).length d) (rd x) ∧ ∀ k, (Value.slice p (rn x).length c).ownBlock = some k → (Value.slice q (rd x).length d).ownBlock ≠ some k
theorem RG.below {w w' : World} {v : Value} {neg : Bool} {A D : List Nat} (h : RG w v neg A D) (hb : Below w.heap.size w w') : RG w' v neg A D := by
  obtain ⟨p, c, q, d, e, h1, h2, h3⟩ := h
  exact ⟨p, c, q, d, e, h1.below hb, h2.below hb, h3⟩
theorem RV.below {w w' : World} {v : Value} {x : Rat} (h : RV w v x) (hb : Below w.heap.size w w') : RV w' v x := by
  obtain ⟨hf, p, c, q, d, e, h1, h2, h3⟩ := h
  exact ⟨hf, p, c, q, d, e, h1.below hb, h2.below hb, h3⟩
theorem RO.below {w w' : World} {base : Nat} {v : Value} {x : Rat} (h : RO w base v x) (hb : Below w.heap.size w w') : RO w' base v x := by
  obtain ⟨p, c, q, d, e, h1, h2, h3⟩ := h
  exact ⟨p, c, q, d, e, h1.below hb, h2.below hb, h3⟩
theorem RO.mono {w : World} {base base' : Nat} {v : Value} {x : Rat} (h : RO w base v x) (hb : base' ≤ base) : RO w base' v x := by
  obtain ⟨p, c, q, d, e, h1, h2, h3⟩ := h
  exact ⟨p, c, q, d, e, h1.mono hb, h2.mono hb, h3⟩
theorem RO.rv {w : World} {base : Nat} {v : Value} {x : Rat} (h : RO w base v x) (hf : Fits x) : RV w v x := by
  obtain ⟨p, c, q, d, e, h1, h2, h3⟩ := h
  exact ⟨hf, p, c, q, d, e, h1.wl, h2.wl, h1.cap, h2.cap⟩
theorem RV.rg {w : World} {v : Value} {x : Rat} (h : RV w v x) : RG w v (rneg x) (rn x) (rd x) := by
  obtain ⟨hf, p, c, q, d, e, h1, h2, h3, h4⟩ := h
  exact ⟨p, c, q, d, e, h1, h2, h3, h4, wd_dig _, wd_dig _, by have := hf.1; omega, by have := hf.2; omega⟩
/-- What ratio.Check says. -/
def chkR (neg : Bool) (A D : List Nat) : Int :=
  if 2048 < A.length ∨ 2048 < D.length then 3 else if chk A ≠ 0 ∨ chk D ≠ 0 ∨ D.length = 0 then 11 else if A.length = 0 ∧ neg = true then 11 else if Nat.gcd (val A) (val D) ≠ 1 then 11 else 0
theorem chkR_ok {neg : Bool} {A D : List Nat} (dA : Dig A) (dD : Dig D) : chkR neg A D = 0 ↔ ∃ x : Rat, Fits x ∧ A = rn x ∧ D = rd x ∧ neg = rneg x := by
  unfold chkR
  by_cases h1 : 2048 < A.length ∨ 2048 < D.length
  · rw [if_pos h1]
    refine ⟨fun h => by omega, fun ⟨x, hf, e1, e2, _⟩ => ?_⟩
    subst e1 e2
    have := hf.1; have := hf.2
    omega
  · rw [if_neg h1]
    by_cases h2 : chk A ≠ 0 ∨ chk D ≠ 0 ∨ D.length = 0
    · rw [if_pos h2]
      refine ⟨fun h => by omega, fun ⟨x, hf, e1, e2, _⟩ => ?_⟩
      subst e1 e2
      have h3 := chk_wd (a := x.num.natAbs) (by have := hf.1; unfold rn at this; omega)
      have h4 := chk_wd (a := x.den) (by have := hf.2; unfold rd at this; omega)
      have h5 := rd_pos x
      unfold rn rd at *
      omega
    · rw [if_neg h2]
      have hA : chk A = 0 := by omega
      have hD : chk D = 0 := by omega
      have hDl : D.length ≠ 0 := by omega
      have eA := wd_val dA (chk_ok.1 hA).2
      have eD := wd_val dD (chk_ok.1 hD).2
      have hd0 : val D ≠ 0 := fun e => by rw [e, wd_zero] at eD; rw [← eD] at hDl; simp at hDl
      by_cases h3 : A.length = 0 ∧ neg = true
      · rw [if_pos h3]
        refine ⟨fun h => by omega, fun ⟨x, hf, e1, e2, e3⟩ => ?_⟩
        subst e1 e2 e3
        obtain ⟨h4, h5⟩ := h3
        have h6 := wd_len_zero.1 h4
        unfold rneg at h5
        have := of_decide_eq_true h5
        omega
      · rw [if_neg h3]
        by_cases h4 : Nat.gcd (val A) (val D) ≠ 1
        · rw [if_pos h4]
          refine ⟨fun h => by omega, fun ⟨x, hf, e1, e2, e3⟩ => ?_⟩
          subst e1 e2
          unfold rn rd at h4
          rw [val_wd, val_wd] at h4
          exact absurd x.reduced h4
        · rw [if_neg h4]
          refine ⟨fun _ => ?_, fun _ => rfl⟩
          have hg : Nat.gcd (val A) (val D) = 1 := by omega
          refine ⟨⟨sgnQ neg (val A), val D, hd0, by rw [sgnQ_abs]; exact hg⟩, ⟨?_, ?_⟩, ?_, ?_, ?_⟩
          · show (wd (sgnQ neg (val A)).natAbs).length ≤ 2048
            rw [sgnQ_abs, eA]; omega
          · show (wd (val D)).length ≤ 2048
            rw [eD]; omega
          · show A = wd (sgnQ neg (val A)).natAbs
            rw [sgnQ_abs, eA]
          · exact eD.symm
          · show neg = decide (sgnQ neg (val A) < 0)
            unfold sgnQ
            cases neg
            · simp
            · have : val A ≠ 0 := fun e => by
                rw [e, wd_zero] at eA
                exact h3 ⟨by rw [← eA]; rfl, rfl⟩
              simp
              omega
theorem chkR_rat {x : Rat} (hf : Fits x) : chkR (rneg x) (rn x) (rd x) = 0 := (chkR_ok (wd_dig _) (wd_dig _)).2 ⟨x, hf, rfl, rfl, rfl⟩
end Go.Proofs.Ytcibbnphkpaifaa

namespace Go.Proofs.Ytcibbnphkpaifaa
open Go.RowKit
set_option linter.unusedVariables false
set_option maxRecDepth 100000
theorem long_any (p : Option Addr) (n c : Nat) (w : World) : Calls Try.prog 75 #[.slice p n c] w fun e w' => e = .returned (.bool (decide (2048 < n))) ∧ w' = w := by
  by_cases h : 2048 < n
  · have d1 : decide ((2048 : Int) < (n : Int)) = true := decide_eq_true (by omega)
    have d1n : decide (2048 < n) = true := decide_eq_true h
    go_enter Try.func75, Try.ntmps75
    go_wp2
    go_ret
    exact ⟨by simp; omega, rfl⟩
  · have d1 : decide ((2048 : Int) < (n : Int)) = false := decide_eq_false (by omega)
    have d1n : decide (2048 < n) = false := decide_eq_false h
    go_enter Try.func75, Try.ntmps75
    go_wp2
    go_ret
    exact ⟨by simp; omega, rfl⟩
theorem cmp_one {g : Nat} (h : g ≠ 1) : cmpN g 1 ≠ 0 := by
  unfold cmpN
  split
  · omega
  · split
    · omega
    · omega
theorem one_wl (w : World) (x : Nat) : WL (w.alloc (.cells #[.int .u32 (x : Int)] 88)) (some ⟨w.heap.size, 0, none⟩) [x] := by
  refine .inr ⟨w.heap.size, 0, rfl, by simp, fun k hk => ?_⟩
  have : k = 0 := by simp at hk; omega
  subst this
  exact cells_one (heap_alloc_last w (.cells #[.int .u32 (x : Int)] 88))
theorem wd_one : wd 1 = [1] := by rw [wd_pos (by decide)]; simp [BB, wd_zero]
def cellsR (neg : Bool) (p q : Option Addr) (n c m d : Nat) : Obj := .cells #[.bool neg, .slice p n c, .slice q m d] 32
set_option maxHeartbeats 6400000 in
theorem checkR_any (v : Value) (neg : Bool) (A D : List Nat) (w : World) (hv : RG w v neg A D) :
    Calls Try.prog 45 #[v] w fun e w' => e = .returned (.int .i64 (chkR neg A D)) ∧ Below w.heap.size w w' := by
  obtain ⟨p, c, q, d, rfl, hp, hq, hc, hd, dA, dD, hlA, hlD⟩ := hv
  have HL := hide_ (fun (p : Option Addr) n c W => long_any p n c W)
  have HKA := hide_ (fun W (h : Below w.heap.size w W) => check_any p _ c A W rfl (hp.below h) (by omega))
  have HKD := hide_ (fun W (h : Below w.heap.size w W) => check_any q _ d D W rfl (hq.below h) (by omega))
  obtain ⟨c0, c1, c2⟩ := cells_three (heap_alloc_last w (.cells #[.bool neg, .slice p A.length c, .slice q D.length d] 32))
  have hb0 := below_alloc w (.cells #[.bool neg, .slice p A.length c, .slice q D.length d] 32)
  have tokA : True := trivial
  by_cases h1 : 2048 < A.length
  · have d1n : decide (2048 < A.length) = true := decide_eq_true h1
    have hk : chkR neg A D = 3 := by unfold chkR; rw [if_pos (.inl h1)]
    rw [hk]
    clear hk hp hq dA dD h1
    generalize A.length = la at *
    generalize D.length = ld at *
    go_enter Try.func45, Try.ntmps45
    go_wp2_with (go_at_call 75; go_must ((with_reducible refine (HL.out _ _ _ _).mono ?_); rintro e w1 ⟨rfl, rfl⟩))
    go_ret
    exact ⟨by simp, hb0⟩
  · have d1n : decide (2048 < A.length) = false := decide_eq_false h1
    by_cases h2 : 2048 < D.length
    · have d2n : decide (2048 < D.length) = true := decide_eq_true h2
      have hk : chkR neg A D = 3 := by unfold chkR; rw [if_pos (.inr h2)]
      rw [hk]
      clear hk hp hq dA dD h1 h2
      generalize A.length = la at *
      generalize D.length = ld at *
      go_enter Try.func45, Try.ntmps45
      go_wp2_with (go_at_call 75; go_must ((with_reducible refine (HL.out _ _ _ _).mono ?_); rintro e w1 ⟨rfl, rfl⟩))
      go_ret
      exact ⟨by simp, hb0⟩
    · have d2n : decide (2048 < D.length) = false := decide_eq_false h2
      have hn1 : ¬ (2048 < A.length ∨ 2048 < D.length) := by omega
      by_cases h3 : chk A ≠ 0
      · have b3 : (chk A != 0) = true := by simpa using h3
        have hk : chkR neg A D = 11 := by unfold chkR; rw [if_neg hn1, if_pos (.inl h3)]
        rw [hk]
        clear hk hp hq dA dD h1 h2 h3 hn1
        generalize A.length = la at *
        generalize D.length = ld at *
        generalize chk A = ka at *
        go_enter Try.func45, Try.ntmps45
        go_wp2_with (first
          | (go_at_call 75; go_must ((with_reducible refine (HL.out _ _ _ _).mono ?_); rintro e w1 ⟨rfl, rfl⟩))
          | (go_at_call 76; go_must ((with_reducible refine (HKA.out _ hb0).mono ?_); rintro e w1 ⟨rfl, rfl⟩)))
        go_ret
        exact ⟨by simp, hb0⟩
      · have hA0 : chk A = 0 := by omega
        rw [hA0] at HKA
        by_cases h4 : chk D ≠ 0
        · have b4 : (chk D != 0) = true := by simpa using h4
          have hk : chkR neg A D = 11 := by unfold chkR; rw [if_neg hn1, if_pos (.inr (.inl h4))]
          rw [hk]
          clear hk hp hq dA dD h1 h2 h3 h4 hn1 hA0
          generalize A.length = la at *
          generalize D.length = ld at *
          generalize chk D = kd at *
          go_enter Try.func45, Try.ntmps45
          go_wp2_with (first
            | (go_at_call 75; go_must ((with_reducible refine (HL.out _ _ _ _).mono ?_); rintro e w1 ⟨rfl, rfl⟩))
            | (go_at_call 76; have _t := tokA; go_must ((with_reducible refine (HKA.out _ hb0).mono ?_); rintro e w1 ⟨rfl, rfl⟩; clear tokA))
            | (go_at_call 76; go_must ((with_reducible refine (HKD.out _ hb0).mono ?_); rintro e w1 ⟨rfl, rfl⟩)))
          go_ret
          exact ⟨by simp, hb0⟩
        · have hD0 : chk D = 0 := by omega
          rw [hD0] at HKD
          by_cases h5 : D.length = 0
          · have hk : chkR neg A D = 11 := by unfold chkR; rw [if_neg hn1, if_pos (.inr (.inr h5))]
            rw [hk]
            have b5 : ((D.length : Int) == 0) = true := by rw [h5]; rfl
            have b5n : D.length = 0 := h5
            clear hk hp hq dA dD h1 h2 h3 h4 h5 hn1 hA0 hD0 b5n
            generalize A.length = la at *
            generalize D.length = ld at *
            go_enter Try.func45, Try.ntmps45
            go_wp2_with (first
              | (go_at_call 75; go_must ((with_reducible refine (HL.out _ _ _ _).mono ?_); rintro e w1 ⟨rfl, rfl⟩))
              | (go_at_call 76; have _t := tokA; go_must ((with_reducible refine (HKA.out _ hb0).mono ?_); rintro e w1 ⟨rfl, rfl⟩; clear tokA))
              | (go_at_call 76; go_must ((with_reducible refine (HKD.out _ hb0).mono ?_); rintro e w1 ⟨rfl, rfl⟩)))
            go_ret
            exact ⟨by simp, hb0⟩
          · have b5 : ((D.length : Int) == 0) = false := beq_eq_false_iff_ne.2 (by omega)
            have hn2 : ¬ (chk A ≠ 0 ∨ chk D ≠ 0 ∨ D.length = 0) := by omega
            obtain ⟨a, rfl⟩ : ∃ a, A = wd a := ⟨val A, (wd_val dA (chk_ok.1 hA0).2).symm⟩
            obtain ⟨b, rfl⟩ : ∃ b, D = wd b := ⟨val D, (wd_val dD (chk_ok.1 hD0).2).symm⟩
            have hla : (wd a).length ≤ 8192 := by omega
            have hlb : (wd b).length ≤ 8192 := by omega
            have HGC := hide_ (fun W (h : Below w.heap.size w W) => gcd_any p q _ _ c d a b W rfl rfl (hp.below h) (hq.below h) hla hlb)
            have hW0 : Below w.heap.size w (w.alloc (.cells #[.bool neg, .slice p (wd a).length c, .slice q (wd b).length d] 32)) := hb0
            have HCM := hide_ (fun W base p1 c1 (ho : WO W base (.slice p1 (wd (Nat.gcd a b)).length c1) (wd (Nat.gcd a b))) (hl : (wd (Nat.gcd a b)).length ≤ 8192) =>
              compare_any p1 (some ⟨W.heap.size, 0, none⟩) _ 1 c1 1 (wd (Nat.gcd a b)) [1] (W.alloc (.cells #[.int .u32 1] 88)) rfl rfl (ho.wl.below (below_alloc W _)) (one_wl W 1) ho.cap (Nat.le_refl _) (by omega) (by omega) (wd_dig _) (by rw [← wd_one]; exact wd_dig 1))
            have hv1 : val [1] = 1 := by rw [← wd_one, val_wd]
            rw [hv1, val_wd] at HCM
            have hlg : (wd (Nat.gcd a b)).length ≤ 8192 := by
              have hb0 : 0 < b := by
                rcases Nat.eq_zero_or_pos b with h | h
                · rw [h, wd_zero] at h5; simp at h5
                · exact h
              exact Nat.le_trans (wd_len_mono (Nat.le_of_dvd hb0 (Nat.gcd_dvd_right a b))) hlb
            by_cases h6 : (wd a).length = 0 ∧ neg = true
            · obtain ⟨h6, rfl⟩ := h6
              have hk : chkR true (wd a) (wd b) = 11 := by unfold chkR; rw [if_neg hn1, if_neg hn2, if_pos ⟨h6, rfl⟩]
              rw [hk]
              have b6 : (((wd a).length : Int) == 0) = true := by rw [h6]; rfl
              clear hk hp hq dA dD h1 h2 h3 h4 h5 hn1 hn2 hA0 hD0 HGC HCM hlg hla hlb hW0
              rw [h6] at c1 hb0 HKA d1n hlA ⊢
              clear h6
              generalize (wd b).length = ld at *
              go_enter Try.func45, Try.ntmps45
              go_wp2_with (first
                | (go_at_call 75; go_must ((with_reducible refine (HL.out _ _ _ _).mono ?_); rintro e w1 ⟨rfl, rfl⟩))
                | (go_at_call 76; have _t := tokA; go_must ((with_reducible refine (HKA.out _ hb0).mono ?_); rintro e w1 ⟨rfl, rfl⟩; clear tokA))
                | (go_at_call 76; go_must ((with_reducible refine (HKD.out _ hb0).mono ?_); rintro e w1 ⟨rfl, rfl⟩)))
              go_ret
              exact ⟨by simp, hb0⟩
            · have HGL := hide_ hlg
              have hneg : (wd a).length ≠ 0 ∨ ((wd a).length = 0 ∧ neg = false) := by
                by_cases h7 : (wd a).length = 0
                · refine .inr ⟨h7, ?_⟩
                  cases neg
                  · rfl
                  · exact absurd ⟨h7, rfl⟩ h6
                · exact .inl h7
              have hres : (Nat.gcd a b = 1 ∧ chkR neg (wd a) (wd b) = 0) ∨ (cmpN (Nat.gcd a b) 1 ≠ 0 ∧ chkR neg (wd a) (wd b) = 11) := by
                unfold chkR
                rw [if_neg hn1, if_neg hn2, if_neg h6, val_wd, val_wd]
                by_cases h7 : Nat.gcd a b = 1
                · rw [if_neg (by omega)]; exact .inl ⟨h7, rfl⟩
                · rw [if_pos h7]; exact .inr ⟨cmp_one h7, rfl⟩
              clear hp hq dA dD h1 h2 h3 h4 h5 hn1 hn2 hA0 hD0 hlg hla hlb h6
              rcases hres with ⟨hg1, hk⟩ | ⟨hg1, hk⟩
              · rw [hk]
                rw [hg1, cmpN_eq] at HCM
                rw [hg1] at HGC HGL
                clear hk hg1
                rcases hneg with h7 | ⟨h7, rfl⟩
                · have b7 : (((wd a).length : Int) == 0) = false := beq_eq_false_iff_ne.2 (by omega)
                  clear h7
                  generalize (wd a).length = la at *
                  generalize (wd b).length = ld at *
                  (go_enter Try.func45, Try.ntmps45; go_wp2_with (first | (go_at_call 75; go_must ((with_reducible refine (HL.out _ _ _ _).mono ?_); rintro e w1 ⟨rfl, rfl⟩)) | (go_at_call 76; have _t := tokA; go_must ((with_reducible refine (HKA.out _ hb0).mono ?_); rintro e w1 ⟨rfl, rfl⟩; clear tokA)) | (go_at_call 76; go_must ((with_reducible refine (HKD.out _ hb0).mono ?_); rintro e w1 ⟨rfl, rfl⟩)) | (go_at_call 77; go_must ((with_reducible refine (HGC.out _ hW0).mono ?_); rintro e w2 ⟨⟨v2, rfl, ho2⟩, hb2⟩; obtain ⟨p2, c2', rfl⟩ := WO.slice ho2; have HC2 := hide_ (HCM.out _ _ p2 c2' ho2 HGL.out); have hb3 := hW0.trans (hb2.mono hW0.size))) | (go_at_call 68; go_must ((with_reducible refine (HC2.out).mono ?_); rintro e w3 ⟨rfl, k, rfl⟩))); go_ret; exact ⟨by simp, below_drewN (hb3.alloc hb3.size _) _⟩)
                · have b7 : (((wd a).length : Int) == 0) = true := by rw [h7]; rfl
                  rw [h7] at c1 hb0 HKA d1n hlA hW0 HGC ⊢
                  clear h7
                  generalize (wd b).length = ld at *
                  (go_enter Try.func45, Try.ntmps45; go_wp2_with (first | (go_at_call 75; go_must ((with_reducible refine (HL.out _ _ _ _).mono ?_); rintro e w1 ⟨rfl, rfl⟩)) | (go_at_call 76; have _t := tokA; go_must ((with_reducible refine (HKA.out _ hb0).mono ?_); rintro e w1 ⟨rfl, rfl⟩; clear tokA)) | (go_at_call 76; go_must ((with_reducible refine (HKD.out _ hb0).mono ?_); rintro e w1 ⟨rfl, rfl⟩)) | (go_at_call 77; go_must ((with_reducible refine (HGC.out _ hW0).mono ?_); rintro e w2 ⟨⟨v2, rfl, ho2⟩, hb2⟩; obtain ⟨p2, c2', rfl⟩ := WO.slice ho2; have HC2 := hide_ (HCM.out _ _ p2 c2' ho2 HGL.out); have hb3 := hW0.trans (hb2.mono hW0.size))) | (go_at_call 68; go_must ((with_reducible refine (HC2.out).mono ?_); rintro e w3 ⟨rfl, k, rfl⟩))); go_ret; exact ⟨by simp, below_drewN (hb3.alloc hb3.size _) _⟩)
              · rw [hk]
                have b8 : (cmpN (Nat.gcd a b) 1 != 0) = true := by simpa using hg1
                clear hk hg1
                generalize cmpN (Nat.gcd a b) 1 = z at *
                rcases hneg with h7 | ⟨h7, rfl⟩
                · have b7 : (((wd a).length : Int) == 0) = false := beq_eq_false_iff_ne.2 (by omega)
                  clear h7
                  generalize (wd a).length = la at *
                  generalize (wd b).length = ld at *
                  (go_enter Try.func45, Try.ntmps45; go_wp2_with (first | (go_at_call 75; go_must ((with_reducible refine (HL.out _ _ _ _).mono ?_); rintro e w1 ⟨rfl, rfl⟩)) | (go_at_call 76; have _t := tokA; go_must ((with_reducible refine (HKA.out _ hb0).mono ?_); rintro e w1 ⟨rfl, rfl⟩; clear tokA)) | (go_at_call 76; go_must ((with_reducible refine (HKD.out _ hb0).mono ?_); rintro e w1 ⟨rfl, rfl⟩)) | (go_at_call 77; go_must ((with_reducible refine (HGC.out _ hW0).mono ?_); rintro e w2 ⟨⟨v2, rfl, ho2⟩, hb2⟩; obtain ⟨p2, c2', rfl⟩ := WO.slice ho2; have HC2 := hide_ (HCM.out _ _ p2 c2' ho2 HGL.out); have hb3 := hW0.trans (hb2.mono hW0.size))) | (go_at_call 68; go_must ((with_reducible refine (HC2.out).mono ?_); rintro e w3 ⟨rfl, k, rfl⟩))); go_ret; exact ⟨by simp, below_drewN (hb3.alloc hb3.size _) _⟩)
                · have b7 : (((wd a).length : Int) == 0) = true := by rw [h7]; rfl
                  rw [h7] at c1 hb0 HKA d1n hlA hW0 HGC ⊢
                  clear h7
                  generalize (wd b).length = ld at *
                  (go_enter Try.func45, Try.ntmps45; go_wp2_with (first | (go_at_call 75; go_must ((with_reducible refine (HL.out _ _ _ _).mono ?_); rintro e w1 ⟨rfl, rfl⟩)) | (go_at_call 76; have _t := tokA; go_must ((with_reducible refine (HKA.out _ hb0).mono ?_); rintro e w1 ⟨rfl, rfl⟩; clear tokA)) | (go_at_call 76; go_must ((with_reducible refine (HKD.out _ hb0).mono ?_); rintro e w1 ⟨rfl, rfl⟩)) | (go_at_call 77; go_must ((with_reducible refine (HGC.out _ hW0).mono ?_); rintro e w2 ⟨⟨v2, rfl, ho2⟩, hb2⟩; obtain ⟨p2, c2', rfl⟩ := WO.slice ho2; have HC2 := hide_ (HCM.out _ _ p2 c2' ho2 HGL.out); have hb3 := hW0.trans (hb2.mono hW0.size))) | (go_at_call 68; go_must ((with_reducible refine (HC2.out).mono ?_); rintro e w3 ⟨rfl, k, rfl⟩))); go_ret; exact ⟨by simp, below_drewN (hb3.alloc hb3.size _) _⟩)
end Go.Proofs.Ytcibbnphkpaifaa

namespace Go.Proofs.Ytcibbnphkpaifaa
open Go.RowKit
set_option linter.unusedVariables false
set_option maxRecDepth 100000
def ResR (w : World) (x : Rat) (e : Ending) (w' : World) : Prop := ((Fits x ∧ ∃ v, e = .returned (.tuple #[v, .int .i64 0]) ∧ RO w' w.heap.size v x) ∨ (¬ Fits x ∧ e = .returned (.tuple #[zeroR, .int .i64 3]))) ∧ Below w.heap.size w w'
theorem len_div (a g : Nat) (h : (wd a).length ≤ 8192) : (wd (a / g)).length ≤ 8192 := Nat.le_trans (wd_len_mono (Nat.div_le_self a g)) h
theorem len_gcd {a b : Nat} (hb : 0 < b) (h : (wd b).length ≤ 8192) : (wd (Nat.gcd a b)).length ≤ 8192 := Nat.le_trans (wd_len_mono (Nat.le_of_dvd hb (Nat.gcd_dvd_right a b))) h
theorem grown_setRow (w : World) (g : Nat) (cs : Array Value) : w.grownBy (w.setRow g cs) (some g) := ⟨rfl, rfl, rfl, by simp [World.setRow], fun k hk hne => Go.setRow_other w g k cs (fun e => hne (by rw [e]))⟩
theorem ne_block {w : World} {base : Nat} {v : Value} {S : List Nat} {g : Nat} (h : WO w base v S) (hg : g < base) : v.ownBlock = none ∨ v.ownBlock ≠ some g := by
  cases hv : v.ownBlock with
  | none => exact .inl rfl
  | some k =>
    refine .inr fun e => ?_
    cases e
    have := (World.ownsRow.lt h g hv).1
    omega
theorem apart_new {w1 w2 : World} {b1 b2 : Nat} {v1 v2 : Value} {S T : List Nat} (h1 : WO w1 b1 v1 S) (h2 : WO w2 b2 v2 T) (h : w1.heap.size ≤ b2) : ∀ k, v1.ownBlock = some k → v2.ownBlock ≠ some k := fun k e1 e2 => by
  have a := (World.ownsRow.lt h1 k e1).2
  have b := (World.ownsRow.lt h2 k e2).1
  omega
set_option maxHeartbeats 6400000 in
theorem lowest_any (p q : Option Addr) (n m c d : Nat) (neg : Bool) (a b : Nat) (w : World) (hn : n = (wd a).length) (hm : m = (wd b).length) (hp : WL w p (wd a)) (hq : WL w q (wd b)) (hc : n ≤ c) (hd : m ≤ d) (hs : n ≤ 8192) (ht : m ≤ 8192) (hb : 0 < b) :
    Calls Try.prog 87 #[.bool neg, .slice p n c, .slice q m d] w (ResR w (mkRat (sgnQ neg a) b)) := by
  subst hn hm
  obtain ⟨e1, e2, e3⟩ := mk_parts neg a b hb
  have hg : 0 < Nat.gcd a b := Nat.gcd_pos_of_pos_right _ hb
  have hlg := len_gcd (a := a) hb ht
  have hln := len_div a (Nat.gcd a b) hs
  have hld := len_div b (Nat.gcd a b) ht
  have HL := hide_ (fun (p : Option Addr) n c W => long_any p n c W)
  have HG := hide_ (fun W (h : Below w.heap.size w W) => gcd_any p q _ _ c d a b W rfl rfl (hp.below h) (hq.below h) hs ht)
  have HN := hide_ (fun W p1 c1 base (h : Below w.heap.size w W) (ho : WO W base (.slice p1 (wd (Nat.gcd a b)).length c1) (wd (Nat.gcd a b))) => divmod_any p p1 _ _ c c1 a (Nat.gcd a b) W rfl rfl (hp.below h) ho.wl hc ho.cap hs hlg hg)
  have HD := hide_ (fun W p1 c1 base (h : Below w.heap.size w W) (ho : WO W base (.slice p1 (wd (Nat.gcd a b)).length c1) (wd (Nat.gcd a b))) => divmod_any q p1 _ _ d c1 b (Nat.gcd a b) W rfl rfl (hq.below h) ho.wl hd ho.cap ht hlg hg)
  have hx1 : rn (mkRat (sgnQ neg a) b) = wd (a / Nat.gcd a b) := by unfold rn; rw [e1]
  have hx2 : rd (mkRat (sgnQ neg a) b) = wd (b / Nat.gcd a b) := by unfold rd; rw [e2]
  have HX1 := hide_ hx1
  have HX2 := hide_ hx2
  have HX3 := hide_ e3
  have hfit : Fits (mkRat (sgnQ neg a) b) ↔ (wd (a / Nat.gcd a b)).length ≤ 2048 ∧ (wd (b / Nat.gcd a b)).length ≤ 2048 := by unfold Fits; rw [hx1, hx2]
  have HF := hide_ hfit
  clear e1 e2 e3 hx1 hx2 hfit hp hq
  generalize mkRat (sgnQ neg a) b = x at *
  generalize Nat.gcd a b = g at *
  generalize a / g = an at *
  generalize b / g = bn at *
  obtain ⟨z0, z1, z2⟩ := cells_three (heap_alloc_last w (.cells #[.bool false, .slice none 0 0, .slice none 0 0] 32))
  have hz := heap_alloc_last w (.cells #[.bool false, .slice none 0 0, .slice none 0 0] 32)
  have hb0 := below_alloc w (.cells #[.bool false, .slice none 0 0, .slice none 0 0] 32)
  have tok : True := trivial
  have hsz : w.heap.size < (w.alloc (.cells #[.bool false, .slice none 0 0, .slice none 0 0] 32)).heap.size := by simp
  by_cases h1 : 2048 < (wd an).length
  · have d1n : decide (2048 < (wd an).length) = true := decide_eq_true h1
    have HNF : Hid (¬ Fits x) := hide_ (fun h => by have := (HF.out.1 h).1; omega)
    go_enter Try.func87, Try.ntmps87
    go_wp2_with (first
      | (go_at_call 77; go_must (
          (with_reducible refine (HG.out _ hb0).mono ?_)
          rintro e w2 ⟨⟨vg, rfl, hog⟩, hb2⟩
          obtain ⟨pg, cg, rfl⟩ := WO.slice hog
          have hbW2 := hb0.trans (hb2.mono hb0.size)
          have hr2 := (hb2.block _ (lt_of_heap hz)).trans hz
          clear hz))
      | (go_at_call 103; have _t := tok; go_must (
          (with_reducible refine (HN.out _ pg cg _ hbW2 hog).mono ?_)
          rintro e w3 ⟨⟨vn, vr, rfl, hon, _⟩, hb3⟩
          obtain ⟨pn, cn, rfl⟩ := WO.slice hon
          have hbW3 := hbW2.trans (hb3.mono hbW2.size)
          have hr3 := (hb3.block _ (lt_of_heap hr2)).trans hr2
          have hog3 := hog.below hb3
          clear tok hr2))
      | (go_at_call 103; go_must (
          (with_reducible refine (HD.out _ pg cg _ hbW3 hog3).mono ?_)
          rintro e w4 ⟨⟨vd, vs, rfl, hod, _⟩, hb4⟩
          obtain ⟨pd, cd, rfl⟩ := WO.slice hod
          have hbW4 := hbW3.trans (hb4.mono hbW3.size)
          have hr4 := (hb4.block _ (lt_of_heap hr3)).trans hr3
          clear hr3))
      | (go_at_call 75; go_must ((with_reducible refine (HL.out _ _ _ _).mono ?_); rintro e w9 ⟨rfl, rfl⟩))
      | ((with_reducible apply wpList_store_blk); (with_reducible rfl); (with_reducible rfl); rfl; assumption; rfl; kernel_rfl; rfl; kernel_rfl))
    refine ret_ct rfl _ 32 _ _ rfl (setRow_heap _ _ _ _ _ _ hr4) Try.underlying32 rfl (by kernel_rfl) rfl ?_
    exact ⟨.inr ⟨HNF.out, rfl⟩, below_setRow hbW4 (Nat.le_refl _) _⟩
  · have d1n : decide (2048 < (wd an).length) = false := decide_eq_false h1
    by_cases h2 : 2048 < (wd bn).length
    · have d2n : decide (2048 < (wd bn).length) = true := decide_eq_true h2
      have HNF : Hid (¬ Fits x) := hide_ (fun h => by have := (HF.out.1 h).2; omega)
      go_enter Try.func87, Try.ntmps87
      go_wp2_with (first
        | (go_at_call 77; go_must (
            (with_reducible refine (HG.out _ hb0).mono ?_)
            rintro e w2 ⟨⟨vg, rfl, hog⟩, hb2⟩
            obtain ⟨pg, cg, rfl⟩ := WO.slice hog
            have hbW2 := hb0.trans (hb2.mono hb0.size)
            have hr2 := (hb2.block _ (lt_of_heap hz)).trans hz
            clear hz))
        | (go_at_call 103; have _t := tok; go_must (
            (with_reducible refine (HN.out _ pg cg _ hbW2 hog).mono ?_)
            rintro e w3 ⟨⟨vn, vr, rfl, hon, _⟩, hb3⟩
            obtain ⟨pn, cn, rfl⟩ := WO.slice hon
            have hbW3 := hbW2.trans (hb3.mono hbW2.size)
            have hr3 := (hb3.block _ (lt_of_heap hr2)).trans hr2
            have hog3 := hog.below hb3
            clear tok hr2))
        | (go_at_call 103; go_must (
            (with_reducible refine (HD.out _ pg cg _ hbW3 hog3).mono ?_)
            rintro e w4 ⟨⟨vd, vs, rfl, hod, _⟩, hb4⟩
            obtain ⟨pd, cd, rfl⟩ := WO.slice hod
            have hbW4 := hbW3.trans (hb4.mono hbW3.size)
            have hr4 := (hb4.block _ (lt_of_heap hr3)).trans hr3
            clear hr3))
        | (go_at_call 75; go_must ((with_reducible refine (HL.out _ _ _ _).mono ?_); rintro e w9 ⟨rfl, rfl⟩))
        | ((with_reducible apply wpList_store_blk); (with_reducible rfl); (with_reducible rfl); rfl; assumption; rfl; kernel_rfl; rfl; kernel_rfl))
      refine ret_ct rfl _ 32 _ _ rfl (setRow_heap _ _ _ _ _ _ hr4) Try.underlying32 rfl (by kernel_rfl) rfl ?_
      exact ⟨.inr ⟨HNF.out, rfl⟩, below_setRow hbW4 (Nat.le_refl _) _⟩
    · have d2n : decide (2048 < (wd bn).length) = false := decide_eq_false h2
      have HFF : Hid (Fits x) := hide_ (HF.out.2 (by omega))
      cases neg
      all_goals
        go_enter Try.func87, Try.ntmps87
        go_wp2_with (first
          | (go_at_call 77; go_must (
              (with_reducible refine (HG.out _ hb0).mono ?_)
              rintro e w2 ⟨⟨vg, rfl, hog⟩, hb2⟩
              obtain ⟨pg, cg, rfl⟩ := WO.slice hog
              have hbW2 := hb0.trans (hb2.mono hb0.size)
              have hr2 := (hb2.block _ (lt_of_heap hz)).trans hz
              clear hz))
          | (go_at_call 103; have _t := tok; go_must (
              (with_reducible refine (HN.out _ pg cg _ hbW2 hog).mono ?_)
              rintro e w3 ⟨⟨vn, vr, rfl, hon, _⟩, hb3⟩
              obtain ⟨pn, cn, rfl⟩ := WO.slice hon
              have hbW3 := hbW2.trans (hb3.mono hbW2.size)
              have hr3 := (hb3.block _ (lt_of_heap hr2)).trans hr2
              have hog3 := hog.below hb3
              clear tok hr2))
          | (go_at_call 103; go_must (
              (with_reducible refine (HD.out _ pg cg _ hbW3 hog3).mono ?_)
              rintro e w4 ⟨⟨vd, vs, rfl, hod, _⟩, hb4⟩
              obtain ⟨pd, cd, rfl⟩ := WO.slice hod
              have hbW4 := hbW3.trans (hb4.mono hbW3.size)
              have hr4 := (hb4.block _ (lt_of_heap hr3)).trans hr3
              clear hr3))
          | (go_at_call 75; go_must ((with_reducible refine (HL.out _ _ _ _).mono ?_); rintro e w9 ⟨rfl, rfl⟩))
          | ((with_reducible apply wpList_store_blk); (with_reducible rfl); (with_reducible rfl); rfl; assumption; rfl; kernel_rfl; rfl; kernel_rfl))
        refine ret_ct rfl _ 32 _ _ rfl (setRow_heap _ _ _ _ _ _ hr4) Try.underlying32 rfl (by kernel_rfl) rfl ?_
        refine ⟨.inl ⟨HFF.out, _, rfl, ?_⟩, below_setRow hbW4 (Nat.le_refl _) _⟩
        have hs2 := hb2.size
        have hs3 := hb3.size
        have q1 := hon.below hb4
        unfold RO
        rw [HX1.out, HX2.out, HX3.out]
        refine ⟨pn, cn, pd, cd, by simp, ?_, ?_, apart_new hon hod (Nat.le_refl _)⟩
        · exact (q1.kept (grown_setRow _ w.heap.size _) (ne_block q1 (by omega))).mono (by omega)
        · exact (hod.kept (grown_setRow _ w.heap.size _) (ne_block hod (by omega))).mono (by omega)
end Go.Proofs.Ytcibbnphkpaifaa

namespace Go.Proofs.Ytcibbnphkpaifaa
open Go.RowKit
set_option linter.unusedVariables false
set_option maxRecDepth 100000
def boxR (neg : Bool) (p : Option Addr) (n c : Nat) (q : Option Addr) (m d : Nat) : Obj := .cells #[.bool neg, .slice p n c, .slice q m d] 32
theorem boxR_eq (neg : Bool) (p : Option Addr) (n c : Nat) (q : Option Addr) (m d : Nat) : boxR neg p n c q m d = .cells #[.bool neg, .slice p n c, .slice q m d] 32 := rfl
/-- The cells of two fractions that are handed over, and of the one that is told. -/
theorem boxes2 (w : World) (na : Bool) (pa : Option Addr) (la ca : Nat) (qa : Option Addr) (ma da : Nat) (nb : Bool) (pb : Option Addr) (lb cb : Nat) (qb : Option Addr) (mb db : Nat) :
    ∀ W, Below ((w.alloc (boxR na pa la ca qa ma da)).alloc (boxR nb pb lb cb qb mb db)).heap.size ((w.alloc (boxR na pa la ca qa ma da)).alloc (boxR nb pb lb cb qb mb db)) W →
      (W.cell? ⟨w.heap.size, 0, none⟩ = some (.bool na) ∧ W.cell? ⟨w.heap.size, 1, none⟩ = some (.slice pa la ca) ∧ W.cell? ⟨w.heap.size, 2, none⟩ = some (.slice qa ma da)) ∧
      (W.cell? ⟨w.heap.size + 1, 0, none⟩ = some (.bool nb) ∧ W.cell? ⟨w.heap.size + 1, 1, none⟩ = some (.slice pb lb cb) ∧ W.cell? ⟨w.heap.size + 1, 2, none⟩ = some (.slice qb mb db)) := by
  intro W h
  have h1 : ((w.alloc (boxR na pa la ca qa ma da)).alloc (boxR nb pb lb cb qb mb db)).heap[w.heap.size]? = some (boxR na pa la ca qa ma da) := heap_past (heap_alloc_last _ _)
  have h2 : ((w.alloc (boxR na pa la ca qa ma da)).alloc (boxR nb pb lb cb qb mb db)).heap[w.heap.size + 1]? = some (boxR nb pb lb cb qb mb db) := heap_at1 _ _ _
  exact ⟨cells_three ((h.block _ (lt_of_heap h1)).trans h1), cells_three ((h.block _ (lt_of_heap h2)).trans h2)⟩
theorem times_any (p q : Option Addr) (n m c d : Nat) (a b : Nat) (w : World) (hn : n = (wd a).length) (hm : m = (wd b).length) (hp : WL w p (wd a)) (hq : WL w q (wd b)) (hs : n ≤ 2048) (ht : m ≤ 2048) :
    Calls Try.prog 67 #[.slice p n c, .slice q m d] w fun e w' => (∃ v, e = .returned v ∧ WO w' w.heap.size v (wd (a * b))) ∧ Below w.heap.size w w' := by
  subst hn hm
  have HM := hide_ (mul_any p q _ _ c d a b w rfl rfl hp hq (by omega) (by omega) (by omega) (by have := wd_len_mul a b; omega))
  clear hp hq hs ht
  go_enter Try.func67, Try.ntmps67
  go_wp2_with (go_at_call 91; go_must ((with_reducible refine (HM.out).mono ?_); rintro e w2 ⟨⟨v, rfl, ho⟩, hb⟩))
  go_ret
  exact ⟨⟨_, rfl, ho⟩, hb⟩
theorem checks_ok (va vb : Value) (x y : Rat) (w : World) (hx : RV w va x) (hy : RV w vb y) :
    Calls Try.prog 66 #[va, vb] w fun e w' => e = .returned (.int .i64 0) ∧ Below w.heap.size w w' := by
  have HX := hide_ (fun W (h : Below w.heap.size w W) => checkR_any va _ _ _ W (hx.below h).rg)
  have HY := hide_ (fun W (h : Below w.heap.size w W) => checkR_any vb _ _ _ W (hy.below h).rg)
  rw [chkR_rat hx.1] at HX
  rw [chkR_rat hy.1] at HY
  obtain ⟨_, p, c, q, d, rfl, _⟩ := hx
  obtain ⟨_, p', c', q', d', rfl, _⟩ := hy
  have HB := hide_ (boxes2 w (rneg x) p (rn x).length c q (rd x).length d (rneg y) p' (rn y).length c' q' (rd y).length d')
  generalize rneg x = nx at *
  generalize rneg y = ny at *
  generalize (rn x).length = lx at *
  generalize (rd x).length = mx at *
  generalize (rn y).length = ly at *
  generalize (rd y).length = my at *
  unfold boxR at HB
  have hb0 : Below w.heap.size w ((w.alloc (.cells #[.bool nx, .slice p lx c, .slice q mx d] 32)).alloc (.cells #[.bool ny, .slice p' ly c', .slice q' my d'] 32)) := (below_alloc _ _).alloc (by simp) _
  obtain ⟨⟨a0, a1, a2⟩, b0, b1, b2⟩ := HB.out _ (Below.refl _ _)
  go_enter Try.func66, Try.ntmps66
  have tok : True := trivial
  go_wp2_with (first
    | (go_at_call 45; have _t := tok; go_must ((with_reducible refine (HX.out _ hb0).mono ?_); rintro e w1 ⟨rfl, hb1⟩; obtain ⟨⟨c0, c1, c2⟩, d0, d1, d2⟩ := HB.out _ hb1; have hb2 := hb0.trans (hb1.mono hb0.size); clear tok a0 a1 a2 b0 b1 b2))
    | (go_at_call 45; go_must ((with_reducible refine (HY.out _ hb2).mono ?_); rintro e w3 ⟨rfl, hb3⟩)))
  go_ret
  exact ⟨by simp, hb2.trans (hb3.mono hb2.size)⟩
theorem ResR.form {w w' : World} {x : Rat} {e : Ending} (h : ResR w x e w') : ∃ s p n c q m d er, e = .returned (.tuple #[.agg #[.bool s, .slice p n c, .slice q m d], .int .i64 er]) := by
  rcases h.1 with ⟨_, v, rfl, p, c, q, d, rfl, _⟩ | ⟨_, rfl⟩
  · exact ⟨_, _, _, _, _, _, _, _, rfl⟩
  · exact ⟨_, _, _, _, _, _, _, _, rfl⟩
theorem RO.stored {W w1 : World} {base g : Nat} {v : Value} {x : Rat} {cs : Array Value} (h : RO w1 base v x) (hg : g < base) : RO (w1.setRow g cs) base v x := by
  obtain ⟨p, c, q, d, e, h1, h2, h3⟩ := h
  exact ⟨p, c, q, d, e, h1.kept (grown_setRow _ g _) (ne_block h1 hg), h2.kept (grown_setRow _ g _) (ne_block h2 hg), h3⟩
theorem ResR.stored {w W w1 : World} {x : Rat} {e : Ending} {g : Nat} {cs : Array Value} (h : ResR W x e w1) (hw : Below w.heap.size w W) (hg : g < W.heap.size) (hwg : w.heap.size ≤ g) : ResR w x e (w1.setRow g cs) := by
  refine ⟨?_, below_setRow (hw.trans (h.2.mono hw.size)) hwg _⟩
  rcases h.1 with ⟨hf, v, e1, ho⟩ | h1
  · exact .inl ⟨hf, v, e1, (RO.stored (W := w) ho hg).mono hw.size⟩
  · exact .inr h1
theorem boxes3 (w : World) (A B : Obj) (na : Bool) (pa : Option Addr) (la ca : Nat) (qa : Option Addr) (ma da : Nat) (nb : Bool) (pb : Option Addr) (lb cb : Nat) (qb : Option Addr) (mb db : Nat) (hA : A = boxR na pa la ca qa ma da) (hB : B = boxR nb pb lb cb qb mb db) :
    ∀ W, Below (((w.alloc A).alloc B).alloc (boxR false none 0 0 none 0 0)).heap.size (((w.alloc A).alloc B).alloc (boxR false none 0 0 none 0 0)) W →
      (W.cell? ⟨w.heap.size, 0, none⟩ = some (.bool na) ∧ W.cell? ⟨w.heap.size, 1, none⟩ = some (.slice pa la ca) ∧ W.cell? ⟨w.heap.size, 2, none⟩ = some (.slice qa ma da)) ∧
      (W.cell? ⟨w.heap.size + 1, 0, none⟩ = some (.bool nb) ∧ W.cell? ⟨w.heap.size + 1, 1, none⟩ = some (.slice pb lb cb) ∧ W.cell? ⟨w.heap.size + 1, 2, none⟩ = some (.slice qb mb db)) ∧
      W.heap[w.heap.size + 1 + 1]? = some (boxR false none 0 0 none 0 0) := by
  subst hA hB
  intro W h
  have h1 : (((w.alloc (boxR na pa la ca qa ma da)).alloc (boxR nb pb lb cb qb mb db)).alloc (boxR false none 0 0 none 0 0)).heap[w.heap.size]? = some (boxR na pa la ca qa ma da) := heap_past (heap_past (heap_alloc_last _ _))
  have h2 : (((w.alloc (boxR na pa la ca qa ma da)).alloc (boxR nb pb lb cb qb mb db)).alloc (boxR false none 0 0 none 0 0)).heap[w.heap.size + 1]? = some (boxR nb pb lb cb qb mb db) := heap_past (heap_at1 _ _ _)
  have h3 : (((w.alloc (boxR na pa la ca qa ma da)).alloc (boxR nb pb lb cb qb mb db)).alloc (boxR false none 0 0 none 0 0)).heap[w.heap.size + 1 + 1]? = some (boxR false none 0 0 none 0 0) := heap_at2 _ _ _ _
  exact ⟨cells_three ((h.block _ (lt_of_heap h1)).trans h1), cells_three ((h.block _ (lt_of_heap h2)).trans h2), (h.block _ (lt_of_heap h3)).trans h3⟩
theorem set3_row {w : World} {B : Nat} {a b c x y z : Value} {S : TypeId} (h0 : w.heap[B]? = some (.cells #[a, b, c] S)) : ((w.setCell ⟨B, 0, none⟩ x).setCell ⟨B, 1, none⟩ y).setCell ⟨B, 2, none⟩ z = w.setRow B #[x, y, z] := by
  unfold World.setCell World.setRow
  simp only
  congr 1
  apply Array.ext_getElem?
  intro i
  by_cases hi : B = i
  · subst hi
    simp [Array.getElem?_modify, h0]
  · simp [Array.getElem?_modify, hi]
theorem keep_set3 {w : World} {B g o : Nat} {x y z : Value} (h : g ≠ B) : (((w.setCell ⟨B, 0, none⟩ x).setCell ⟨B, 1, none⟩ y).setCell ⟨B, 2, none⟩ z).cell? ⟨g, o, none⟩ = w.cell? ⟨g, o, none⟩ := by
  unfold World.cell?
  rw [set_other (fun e => h e.symm), set_other (fun e => h e.symm), set_other (fun e => h e.symm)]
theorem free_three {w : World} {g : Nat} {a b c : Value} {T : TypeId} (h : w.heap[g]? = some (.cells #[a, b, c] T)) : w.frozen? ⟨g, 0, none⟩ = false ∧ w.frozen? ⟨g, 1, none⟩ = false ∧ w.frozen? ⟨g, 2, none⟩ = false := ⟨blk_free h 0, blk_free h 1, blk_free h 2⟩
theorem mul_mk (x y : Rat) : mkRat (sgnQ (!(rneg x == rneg y)) (x.num.natAbs * y.num.natAbs)) (x.den * y.den) = x * y := by
  rw [Rat.mul_def']
  congr 1
  rw [← sgn_rn x, ← sgn_rn y, sgnQ_abs, sgnQ_abs]
  unfold sgnQ
  cases rneg x <;> cases rneg y <;> simp [Int.mul_neg, Int.neg_mul]
set_option maxHeartbeats 6400000 in
theorem rmul_any (va vb : Value) (x y : Rat) (w : World) (hx : RV w va x) (hy : RV w vb y) :
    Calls Try.prog 74 #[va, vb] w (ResR w (x * y)) := by
  have HK := hide_ (fun W (h : Below w.heap.size w W) => checks_ok va vb x y W (hx.below h) (hy.below h))
  have hdp : 0 < x.den * y.den := Nat.mul_pos x.den_pos y.den_pos
  obtain ⟨fx, p, c, q, d, rfl, hp, hq, hc, hd⟩ := hx
  obtain ⟨fy, p', c', q', d', rfl, hp', hq', hc', hd'⟩ := hy
  have hl1 := wd_len_mul x.num.natAbs y.num.natAbs
  have hl2 := wd_len_mul x.den y.den
  unfold Fits rn rd at fx fy
  unfold rn at hp hp' hc hc'
  unfold rd at hq hq' hd hd'
  unfold rn rd at HK ⊢
  have HT1 := hide_ (fun W (h : Below w.heap.size w W) => times_any p p' _ _ c c' x.num.natAbs y.num.natAbs W rfl rfl (hp.below h) (hp'.below h) fx.1 fy.1)
  have HT2 := hide_ (fun W (h : Below w.heap.size w W) => times_any q q' _ _ d d' x.den y.den W rfl rfl (hq.below h) (hq'.below h) fx.2 fy.2)
  have HLO := hide_ (fun W p1 c1 q1 d1 b1 b2 (h1 : WO W b1 (.slice p1 (wd (x.num.natAbs * y.num.natAbs)).length c1) (wd (x.num.natAbs * y.num.natAbs))) (h2 : WO W b2 (.slice q1 (wd (x.den * y.den)).length d1) (wd (x.den * y.den))) =>
    lowest_any p1 q1 _ _ c1 d1 (!(rneg x == rneg y)) (x.num.natAbs * y.num.natAbs) (x.den * y.den) W rfl rfl h1.wl h2.wl h1.cap h2.cap (by omega) (by omega) hdp)
  rw [mul_mk] at HLO
  have HB := hide_ (boxes3 w _ _ (rneg x) p (wd x.num.natAbs).length c q (wd x.den).length d (rneg y) p' (wd y.num.natAbs).length c' q' (wd y.den).length d' rfl rfl)
  unfold boxR at HB
  have hb0 : Below w.heap.size w (((w.alloc (.cells #[.bool (rneg x), .slice p (wd x.num.natAbs).length c, .slice q (wd x.den).length d] 32)).alloc (.cells #[.bool (rneg y), .slice p' (wd y.num.natAbs).length c', .slice q' (wd y.den).length d'] 32)).alloc (.cells #[.bool false, .slice none 0 0, .slice none 0 0] 32)) := ((below_alloc _ _).alloc (by simp) _).alloc (by simp; omega) _
  obtain ⟨⟨a0, a1, a2⟩, ⟨b0, b1, b2⟩, hr0⟩ := HB.out _ (Below.refl _ _)
  clear hp hq hp' hq' hc hd hc' hd' fx fy hl1 hl2 hdp
  have tok : True := trivial
  go_enter Try.func74, Try.ntmps74
  go_wp2_with (first
    | (go_at_call 66; go_must ((with_reducible refine (HK.out _ hb0).mono ?_); rintro e w1 ⟨rfl, hb1⟩; obtain ⟨⟨c0, c1, c2⟩, ⟨d0, d1, d2⟩, hr1⟩ := HB.out _ hb1; have HB1 := hide_ (fun W (h : Below w1.heap.size w1 W) => HB.out W (hb1.trans (h.mono hb1.size))); have hbW1 := hb0.trans (hb1.mono hb0.size); have hsz1 := lt_of_heap hr1; clear a0 a1 a2 b0 b1 b2 hr0 hb1 hb0 HB HK)))
  have hw1 : Below w1.heap.size w1 w1.drew := (Below.refl _ _).drew
  have hne0 : w.heap.size ≠ w.heap.size + 1 + 1 := by omega
  have hne1 : w.heap.size + 1 ≠ w.heap.size + 1 + 1 := by omega
  go_region_held3 (fun w' => w'.cell? ⟨w.heap.size, 0, none⟩ = some (.bool (rneg x)) ∧ w'.cell? ⟨w.heap.size, 1, none⟩ = some (.slice p (wd x.num.natAbs).length c) ∧ w'.cell? ⟨w.heap.size, 2, none⟩ = some (.slice q (wd x.den).length d) ∧ w'.cell? ⟨w.heap.size + 1, 0, none⟩ = some (.bool (rneg y)) ∧ w'.cell? ⟨w.heap.size + 1, 1, none⟩ = some (.slice p' (wd y.num.natAbs).length c') ∧ w'.cell? ⟨w.heap.size + 1, 2, none⟩ = some (.slice q' (wd y.den).length d'))
    (first | (obtain ⟨⟨k0, k1, k2⟩, ⟨k3, k4, k5⟩, _⟩ := HB1.out w4 hb4'; with_reducible exact ⟨(keep_set3 hne0).trans k0, (keep_set3 hne0).trans k1, (keep_set3 hne0).trans k2, (keep_set3 hne1).trans k3, (keep_set3 hne1).trans k4, (keep_set3 hne1).trans k5⟩) | (obtain ⟨⟨k0, k1, k2⟩, ⟨k3, k4, k5⟩, _⟩ := HB1.out _ (by assumption); with_reducible exact ⟨k0, k1, k2, k3, k4, k5⟩) | go_keep)
    ((first
      | (go_at_call 67; have _t := tok; go_must (
          (with_reducible refine (HT1.out _ (hbW1.trans (hw1.mono hbW1.size))).mono ?_)
          rintro e w2 ⟨⟨v2, rfl, ho2⟩, hb2⟩
          obtain ⟨p2, c2', rfl⟩ := WO.slice ho2
          have hb2' : Below w1.heap.size w1 w2 := hw1.trans (hb2.mono hw1.size)
          obtain ⟨⟨x0, x1, x2⟩, ⟨y0, y1, y2⟩, hr2⟩ := HB1.out _ hb2'
          clear tok))
      | (go_at_call 67; go_must (
          (with_reducible refine (HT2.out _ (hbW1.trans (hb2'.mono hbW1.size))).mono ?_)
          rintro e w3 ⟨⟨v3, rfl, ho3⟩, hb3⟩
          obtain ⟨p3, c3', rfl⟩ := WO.slice ho3
          have hb3' : Below w1.heap.size w1 w3 := hb2'.trans (hb3.mono hb2'.size)
          obtain ⟨⟨u0, u1, u2⟩, ⟨v0, v1, v2⟩, hr3⟩ := HB1.out _ hb3'))
      | (go_at_call 87; go_must (
          (with_reducible refine (HLO.out _ _ _ _ _ _ _ (ho2.below hb3) ho3).mono ?_)
          rintro e w4 h4
          obtain ⟨s4, p4, n4, c4, q4, m4, d4, er4, rfl⟩ := h4.form
          have H4 := hide_ h4
          have hr4 := (h4.2.block _ (lt_of_heap hr3)).trans hr3
          have hb4' : Below w1.heap.size w1 w4 := hb3'.trans (h4.2.mono hb3'.size)
          obtain ⟨t0, t1, t2⟩ := cells_three hr4
          obtain ⟨t3, t4, t5⟩ := free_three hr4))))
  go_wp2
  rw [set3_row hr4]
  refine ret_ct rfl _ 32 _ _ rfl (setRow_heap _ _ _ _ _ _ hr4) Try.underlying32 rfl (by kernel_rfl) rfl ?_
  exact H4.out.stored (hbW1.trans (hb3'.mono hbW1.size)) (lt_of_heap hr3) (by omega)
end Go.Proofs.Ytcibbnphkpaifaa

namespace Go.Proofs.Ytcibbnphkpaifaa
open Go.RowKit
set_option linter.unusedVariables false
set_option maxRecDepth 100000
theorem num_pos {y : Rat} (h : y ≠ 0) : 0 < y.num.natAbs := by
  rcases Nat.eq_zero_or_pos y.num.natAbs with h0 | h0
  · exact absurd (Rat.num_eq_zero.1 (Int.natAbs_eq_zero.1 h0)) h
  · exact h0
theorem quo_mk (x y : Rat) (h : y ≠ 0) : mkRat (sgnQ (!(rneg x == rneg y)) (x.num.natAbs * y.den)) (x.den * y.num.natAbs) = x / y := by
  have hn := num_pos h
  have hn0 : y.num ≠ 0 := fun e => by rw [e] at hn; simp at hn
  rw [Rat.div_def, Rat.mul_def', Rat.num_inv, Rat.den_inv, if_neg hn0]
  congr 1
  have hs : y.num.sign = if rneg y = true then -1 else 1 := by
    unfold rneg
    by_cases hy : y.num < 0
    · rw [if_pos (decide_eq_true hy), Int.sign_eq_neg_one_of_neg hy]
    · rw [if_neg (fun e => hy (of_decide_eq_true e)), Int.sign_eq_one_of_pos (by omega)]
  rw [hs, ← sgn_rn x, sgnQ_abs]
  unfold sgnQ
  cases rneg x <;> cases rneg y <;> simp [Int.mul_neg, Int.neg_mul]
set_option maxHeartbeats 6400000 in
theorem rquo_any (va vb : Value) (x y : Rat) (w : World) (hx : RV w va x) (hy : RV w vb y) (hy0 : y ≠ 0) :
    Calls Try.prog 90 #[va, vb] w (ResR w (x / y)) := by
  have HK := hide_ (fun W (h : Below w.heap.size w W) => checks_ok va vb x y W (hx.below h) (hy.below h))
  have hyn : 0 < y.num.natAbs := num_pos hy0
  have hdp : 0 < x.den * y.num.natAbs := Nat.mul_pos x.den_pos hyn
  obtain ⟨fx, p, c, q, d, rfl, hp, hq, hc, hd⟩ := hx
  obtain ⟨fy, p', c', q', d', rfl, hp', hq', hc', hd'⟩ := hy
  have hl1 := wd_len_mul x.num.natAbs y.den
  have hl2 := wd_len_mul x.den y.num.natAbs
  have hzn : (wd y.num.natAbs).length ≠ 0 := fun e => by
    rw [wd_len_zero] at e
    omega
  have hz : (((wd y.num.natAbs).length : Int) == 0) = false := beq_eq_false_iff_ne.2 (by omega)
  unfold Fits rn rd at fx fy
  unfold rn at hp hp' hc hc'
  unfold rd at hq hq' hd hd'
  unfold rn rd at HK ⊢
  have HT1 := hide_ (fun W (h : Below w.heap.size w W) => times_any p q' _ _ c d' x.num.natAbs y.den W rfl rfl (hp.below h) (hq'.below h) fx.1 fy.2)
  have HT2 := hide_ (fun W (h : Below w.heap.size w W) => times_any q p' _ _ d c' x.den y.num.natAbs W rfl rfl (hq.below h) (hp'.below h) fx.2 fy.1)
  have HLO := hide_ (fun W p1 c1 q1 d1 b1 b2 (h1 : WO W b1 (.slice p1 (wd (x.num.natAbs * y.den)).length c1) (wd (x.num.natAbs * y.den))) (h2 : WO W b2 (.slice q1 (wd (x.den * y.num.natAbs)).length d1) (wd (x.den * y.num.natAbs))) =>
    lowest_any p1 q1 _ _ c1 d1 (!(rneg x == rneg y)) (x.num.natAbs * y.den) (x.den * y.num.natAbs) W rfl rfl h1.wl h2.wl h1.cap h2.cap (by omega) (by omega) hdp)
  rw [quo_mk x y hy0] at HLO
  have HB := hide_ (boxes3 w _ _ (rneg x) p (wd x.num.natAbs).length c q (wd x.den).length d (rneg y) p' (wd y.num.natAbs).length c' q' (wd y.den).length d' rfl rfl)
  unfold boxR at HB
  have hb0 : Below w.heap.size w (((w.alloc (.cells #[.bool (rneg x), .slice p (wd x.num.natAbs).length c, .slice q (wd x.den).length d] 32)).alloc (.cells #[.bool (rneg y), .slice p' (wd y.num.natAbs).length c', .slice q' (wd y.den).length d'] 32)).alloc (.cells #[.bool false, .slice none 0 0, .slice none 0 0] 32)) := ((below_alloc _ _).alloc (by simp) _).alloc (by simp; omega) _
  obtain ⟨⟨a0, a1, a2⟩, ⟨b0, b1, b2⟩, hr0⟩ := HB.out _ (Below.refl _ _)
  clear hp hq hp' hq' hc hd hc' hd' fx fy hl1 hl2 hdp hyn
  have tok : True := trivial
  go_enter Try.func90, Try.ntmps90
  go_wp2_with (first
    | (go_at_call 66; go_must ((with_reducible refine (HK.out _ hb0).mono ?_); rintro e w1 ⟨rfl, hb1⟩; obtain ⟨⟨c0, c1, c2⟩, ⟨d0, d1, d2⟩, hr1⟩ := HB.out _ hb1; have HB1 := hide_ (fun W (h : Below w1.heap.size w1 W) => HB.out W (hb1.trans (h.mono hb1.size))); have hbW1 := hb0.trans (hb1.mono hb0.size); have hsz1 := lt_of_heap hr1; clear a0 a1 a2 b0 b1 b2 hr0 hb1 hb0 HB HK)))
  have hw1 : Below w1.heap.size w1 w1.drew := (Below.refl _ _).drew
  have hne0 : w.heap.size ≠ w.heap.size + 1 + 1 := by omega
  have hne1 : w.heap.size + 1 ≠ w.heap.size + 1 + 1 := by omega
  go_region_held3 (fun w' => w'.cell? ⟨w.heap.size, 0, none⟩ = some (.bool (rneg x)) ∧ w'.cell? ⟨w.heap.size, 1, none⟩ = some (.slice p (wd x.num.natAbs).length c) ∧ w'.cell? ⟨w.heap.size, 2, none⟩ = some (.slice q (wd x.den).length d) ∧ w'.cell? ⟨w.heap.size + 1, 0, none⟩ = some (.bool (rneg y)) ∧ w'.cell? ⟨w.heap.size + 1, 1, none⟩ = some (.slice p' (wd y.num.natAbs).length c') ∧ w'.cell? ⟨w.heap.size + 1, 2, none⟩ = some (.slice q' (wd y.den).length d'))
    (first | (obtain ⟨⟨k0, k1, k2⟩, ⟨k3, k4, k5⟩, _⟩ := HB1.out w4 hb4'; with_reducible exact ⟨(keep_set3 hne0).trans k0, (keep_set3 hne0).trans k1, (keep_set3 hne0).trans k2, (keep_set3 hne1).trans k3, (keep_set3 hne1).trans k4, (keep_set3 hne1).trans k5⟩) | (obtain ⟨⟨k0, k1, k2⟩, ⟨k3, k4, k5⟩, _⟩ := HB1.out _ (by assumption); with_reducible exact ⟨k0, k1, k2, k3, k4, k5⟩) | go_keep)
    ((first
      | (go_at_call 67; have _t := tok; go_must (
          (with_reducible refine (HT1.out _ (hbW1.trans (hw1.mono hbW1.size))).mono ?_)
          rintro e w2 ⟨⟨v2, rfl, ho2⟩, hb2⟩
          obtain ⟨p2, c2', rfl⟩ := WO.slice ho2
          have hb2' : Below w1.heap.size w1 w2 := hw1.trans (hb2.mono hw1.size)
          obtain ⟨⟨x0, x1, x2⟩, ⟨y0, y1, y2⟩, hr2⟩ := HB1.out _ hb2'
          clear tok))
      | (go_at_call 67; go_must (
          (with_reducible refine (HT2.out _ (hbW1.trans (hb2'.mono hbW1.size))).mono ?_)
          rintro e w3 ⟨⟨v3, rfl, ho3⟩, hb3⟩
          obtain ⟨p3, c3', rfl⟩ := WO.slice ho3
          have hb3' : Below w1.heap.size w1 w3 := hb2'.trans (hb3.mono hb2'.size)
          obtain ⟨⟨u0, u1, u2⟩, ⟨v0, v1, v2⟩, hr3⟩ := HB1.out _ hb3'))
      | (go_at_call 87; go_must (
          (with_reducible refine (HLO.out _ _ _ _ _ _ _ (ho2.below hb3) ho3).mono ?_)
          rintro e w4 h4
          obtain ⟨s4, p4, n4, c4, q4, m4, d4, er4, rfl⟩ := h4.form
          have H4 := hide_ h4
          have hr4 := (h4.2.block _ (lt_of_heap hr3)).trans hr3
          have hb4' : Below w1.heap.size w1 w4 := hb3'.trans (h4.2.mono hb3'.size)
          obtain ⟨t0, t1, t2⟩ := cells_three hr4
          obtain ⟨t3, t4, t5⟩ := free_three hr4))))
  go_wp2
  rw [set3_row hr4]
  refine ret_ct rfl _ 32 _ _ rfl (setRow_heap _ _ _ _ _ _ hr4) Try.underlying32 rfl (by kernel_rfl) rfl ?_
  exact H4.out.stored (hbW1.trans (hb3'.mono hbW1.size)) (lt_of_heap hr3) (by omega)
end Go.Proofs.Ytcibbnphkpaifaa

namespace Go.Proofs.Ytcibbnphkpaifaa
open Go.RowKit
set_option linter.unusedVariables false
set_option maxRecDepth 100000
theorem mk_same (x y : Rat) (h : rneg x = rneg y) : mkRat (sgnQ (rneg x) (x.num.natAbs * y.den + y.num.natAbs * x.den)) (x.den * y.den) = x + y := by
  rw [Rat.add_def']
  congr 1
  have e1 := sgn_rn x
  have e2 := sgn_rn y
  rw [← h] at e2
  conv => rhs; rw [← e1, ← e2]
  unfold sgnQ
  cases rneg x <;> simp [Int.neg_mul, Int.neg_add]
theorem mk_less (x y : Rat) (h : rneg x ≠ rneg y) (hl : x.num.natAbs * y.den ≤ y.num.natAbs * x.den) : mkRat (sgnQ (rneg y) (y.num.natAbs * x.den - x.num.natAbs * y.den)) (x.den * y.den) = x + y := by
  rw [Rat.add_def']
  congr 1
  have e1 := sgn_rn x
  have e2 := sgn_rn y
  conv => rhs; rw [← e1, ← e2]
  have hs : ((y.num.natAbs * x.den - x.num.natAbs * y.den : Nat) : Int) = (y.num.natAbs : Int) * x.den - (x.num.natAbs : Int) * y.den := by
    rw [Int.natCast_sub hl, Int.natCast_mul, Int.natCast_mul]
  unfold sgnQ
  generalize rneg x = a at *
  generalize rneg y = b at *
  cases a <;> cases b
  · exact absurd rfl h
  · simp only [if_true, Bool.false_eq_true, if_false, hs, Int.neg_mul]; omega
  · simp only [if_true, Bool.false_eq_true, if_false, hs, Int.neg_mul]; omega
  · exact absurd rfl h
theorem mk_more (x y : Rat) (h : rneg x ≠ rneg y) (hl : y.num.natAbs * x.den ≤ x.num.natAbs * y.den) : mkRat (sgnQ (rneg x) (x.num.natAbs * y.den - y.num.natAbs * x.den)) (x.den * y.den) = x + y := by
  rw [Rat.add_def']
  congr 1
  have e1 := sgn_rn x
  have e2 := sgn_rn y
  conv => rhs; rw [← e1, ← e2]
  have hs : ((x.num.natAbs * y.den - y.num.natAbs * x.den : Nat) : Int) = (x.num.natAbs : Int) * y.den - (y.num.natAbs : Int) * x.den := by
    rw [Int.natCast_sub hl, Int.natCast_mul, Int.natCast_mul]
  unfold sgnQ
  generalize rneg x = a at *
  generalize rneg y = b at *
  cases a <;> cases b
  · exact absurd rfl h
  · simp only [if_true, Bool.false_eq_true, if_false, hs, Int.neg_mul]; omega
  · simp only [if_true, Bool.false_eq_true, if_false, hs, Int.neg_mul]; omega
  · exact absurd rfl h
set_option maxHeartbeats 6400000 in
theorem plus_same (va vb : Value) (x y : Rat) (w : World) (hx : RV w va x) (hy : RV w vb y) (hcase : rneg x = rneg y) :
    Calls Try.prog 73 #[va, vb] w (ResR w (x + y)) := by
  have hdp : 0 < x.den * y.den := Nat.mul_pos x.den_pos y.den_pos
  obtain ⟨fx, p, c, q, d, rfl, hp, hq, hc, hd⟩ := hx
  obtain ⟨fy, p', c', q', d', rfl, hp', hq', hc', hd'⟩ := hy
  have hl1 := wd_len_mul x.num.natAbs y.den
  have hl2 := wd_len_mul y.num.natAbs x.den
  have hl3 := wd_len_mul x.den y.den
  unfold Fits rn rd at fx fy
  unfold rn at hp hp' hc hc'
  unfold rd at hq hq' hd hd'
  unfold rn rd
  have HT1 := hide_ (fun W (h : Below w.heap.size w W) => times_any p q' _ _ c d' x.num.natAbs y.den W rfl rfl (hp.below h) (hq'.below h) fx.1 fy.2)
  have HT2 := hide_ (fun W (h : Below w.heap.size w W) => times_any p' q _ _ c' d y.num.natAbs x.den W rfl rfl (hp'.below h) (hq.below h) fy.1 fx.2)
  have HT3 := hide_ (fun W (h : Below w.heap.size w W) => times_any q q' _ _ d d' x.den y.den W rfl rfl (hq.below h) (hq'.below h) fx.2 fy.2)
  have hl4 := wd_len_add (x.num.natAbs * y.den) (y.num.natAbs * x.den)
  have HAD := hide_ (fun W p1 c1 q1 d1 b1 b2 (h1 : WO W b1 (.slice p1 (wd (x.num.natAbs * y.den)).length c1) (wd (x.num.natAbs * y.den))) (h2 : WO W b2 (.slice q1 (wd (y.num.natAbs * x.den)).length d1) (wd (y.num.natAbs * x.den))) =>
    add_any p1 q1 _ _ c1 d1 (x.num.natAbs * y.den) (y.num.natAbs * x.den) W rfl rfl h1.wl h2.wl h1.cap h2.cap (by omega) (by omega) (by omega))
  have HLO := hide_ (fun W p1 c1 q1 d1 b1 b2 (h1 : WO W b1 (.slice p1 (wd (x.num.natAbs * y.den + y.num.natAbs * x.den)).length c1) (wd (x.num.natAbs * y.den + y.num.natAbs * x.den))) (h2 : WO W b2 (.slice q1 (wd (x.den * y.den)).length d1) (wd (x.den * y.den))) =>
    lowest_any p1 q1 _ _ c1 d1 (rneg x) (x.num.natAbs * y.den + y.num.natAbs * x.den) (x.den * y.den) W rfl rfl h1.wl h2.wl h1.cap h2.cap (by omega) (by omega) hdp)
  rw [mk_same x y hcase] at HLO
  rw [← hcase]
  have HB := hide_ (boxes3 w _ _ (rneg x) p (wd x.num.natAbs).length c q (wd x.den).length d (rneg x) p' (wd y.num.natAbs).length c' q' (wd y.den).length d' rfl rfl)
  unfold boxR at HB
  have hb0 : Below w.heap.size w (((w.alloc (.cells #[.bool (rneg x), .slice p (wd x.num.natAbs).length c, .slice q (wd x.den).length d] 32)).alloc (.cells #[.bool (rneg x), .slice p' (wd y.num.natAbs).length c', .slice q' (wd y.den).length d'] 32)).alloc (.cells #[.bool false, .slice none 0 0, .slice none 0 0] 32)) := ((below_alloc _ _).alloc (by simp) _).alloc (by simp; omega) _
  obtain ⟨⟨a0, a1, a2⟩, ⟨b0, b1, b2⟩, hr0⟩ := HB.out _ (Below.refl _ _)
  clear hp hq hp' hq' hc hd hc' hd' fx fy hl1 hl2 hl3 hl4 hdp hcase
  generalize wd x.num.natAbs = XN at *
  generalize wd x.den = XD at *
  generalize wd y.num.natAbs = YN at *
  generalize wd y.den = YD at *
  generalize x.num.natAbs * y.den = u at *
  generalize y.num.natAbs * x.den = v at *
  generalize x.den * y.den = t at *
  generalize rneg x = sx at *
  generalize x + y = z at *
  have tok1 : True := trivial
  have tok2 : True := trivial
  go_enter Try.func73, Try.ntmps73
  go_wp2
  have HB1 := hide_ (fun W h => HB.out W h)
  have hbD : Below (((w.alloc (.cells #[.bool sx, .slice p XN.length c, .slice q XD.length d] 32)).alloc (.cells #[.bool sx, .slice p' YN.length c', .slice q' YD.length d'] 32)).alloc (.cells #[.bool false, .slice none 0 0, .slice none 0 0] 32)).heap.size (((w.alloc (.cells #[.bool sx, .slice p XN.length c, .slice q XD.length d] 32)).alloc (.cells #[.bool sx, .slice p' YN.length c', .slice q' YD.length d'] 32)).alloc (.cells #[.bool false, .slice none 0 0, .slice none 0 0] 32)) (((w.alloc (.cells #[.bool sx, .slice p XN.length c, .slice q XD.length d] 32)).alloc (.cells #[.bool sx, .slice p' YN.length c', .slice q' YD.length d'] 32)).alloc (.cells #[.bool false, .slice none 0 0, .slice none 0 0] 32)).drew := (Below.refl _ _).drew
  have hsz := lt_of_heap hr0
  clear HB
  generalize hW0 : ((w.alloc (.cells #[.bool sx, .slice p XN.length c, .slice q XD.length d] 32)).alloc (.cells #[.bool sx, .slice p' YN.length c', .slice q' YD.length d'] 32)).alloc (.cells #[.bool false, .slice none 0 0, .slice none 0 0] 32) = W0 at *
  clear hW0
  go_region_held3 (fun w' => w'.cell? ⟨w.heap.size, 0, none⟩ = some (.bool sx) ∧ w'.cell? ⟨w.heap.size, 1, none⟩ = some (.slice p XN.length c) ∧ w'.cell? ⟨w.heap.size, 2, none⟩ = some (.slice q XD.length d) ∧ w'.cell? ⟨w.heap.size + 1, 0, none⟩ = some (.bool sx) ∧ w'.cell? ⟨w.heap.size + 1, 1, none⟩ = some (.slice p' YN.length c') ∧ w'.cell? ⟨w.heap.size + 1, 2, none⟩ = some (.slice q' YD.length d'))
    (first | (obtain ⟨⟨k0, k1, k2⟩, ⟨k3, k4, k5⟩, _⟩ := HB1.out _ (by assumption); with_reducible exact ⟨k0, k1, k2, k3, k4, k5⟩) | go_keep)
    ((first
      | (go_at_call 67; have _t := tok1; go_must (
          (with_reducible refine (HT1.out _ (hb0.trans (hbD.mono hb0.size))).mono ?_)
          rintro e w2 ⟨⟨v2, rfl, ho2⟩, hb2⟩
          obtain ⟨p2, c2', rfl⟩ := WO.slice ho2
          have hb2' : Below W0.heap.size W0 w2 := hbD.trans (hb2.mono hbD.size)
          clear tok1))
      | (go_at_call 67; have _t := tok2; go_must (
          (with_reducible refine (HT2.out _ (hb0.trans (hb2'.mono hb0.size))).mono ?_)
          rintro e w3 ⟨⟨v3, rfl, ho3⟩, hb3⟩
          obtain ⟨p3, c3', rfl⟩ := WO.slice ho3
          have hb3' : Below W0.heap.size W0 w3 := hb2'.trans (hb3.mono hb2'.size)
          have ho2' := ho2.below hb3
          clear tok2))
      | (go_at_call 67; go_must (
          (with_reducible refine (HT3.out _ (hb0.trans (hb3'.mono hb0.size))).mono ?_)
          rintro e w4 ⟨⟨v4, rfl, ho4⟩, hb4⟩
          obtain ⟨p4, c4', rfl⟩ := WO.slice ho4
          have hb4' : Below W0.heap.size W0 w4 := hb3'.trans (hb4.mono hb3'.size)
          have ho2'' := ho2'.below hb4
          have ho3'' := ho3.below hb4))))
  obtain ⟨⟨g0, g1, g2⟩, ⟨g3, g4, g5⟩, hr4⟩ := HB1.out w4 hb4'
  have hss : (sx == sx) = true := by simp
  go_wp2_with (first
    | (go_at_call 96; go_must (
        (with_reducible refine (HAD.out _ _ _ _ _ _ _ ho2'' ho3'').mono ?_)
        rintro e w5 ⟨⟨v5, rfl, ho5⟩, hb5⟩
        obtain ⟨p5, c5, rfl⟩ := WO.slice ho5
        have hb5' : Below W0.heap.size W0 w5 := hb4'.trans (hb5.mono hb4'.size)
        obtain ⟨⟨i0, i1, i2⟩, ⟨i3, i4, i5⟩, hr5⟩ := HB1.out w5 hb5'))
    | (go_at_call 87; go_must (
        (with_reducible refine (HLO.out _ _ _ _ _ _ _ ho5 (ho4.below hb5)).mono ?_)
        rintro e w6 h6
        obtain ⟨s6, p6, n6, c6, q6, m6, d6, er6, rfl⟩ := h6.form
        have H6 := hide_ h6
        have hr6 := (h6.2.block _ (lt_of_heap hr5)).trans hr5))
    | ((with_reducible apply wpList_store_blk); (with_reducible rfl); (with_reducible rfl); rfl; assumption; rfl; kernel_rfl; rfl; kernel_rfl))
  refine ret_ct rfl _ 32 _ _ rfl (setRow_heap _ _ _ _ _ _ hr6) Try.underlying32 rfl (by kernel_rfl) rfl ?_
  exact H6.out.stored (hb0.trans (hb5'.mono hb0.size)) (lt_of_heap hr5) (by omega)
set_option maxHeartbeats 6400000 in
theorem plus_less (va vb : Value) (x y : Rat) (w : World) (hx : RV w va x) (hy : RV w vb y) (hcase : rneg x ≠ rneg y ∧ x.num.natAbs * y.den < y.num.natAbs * x.den) :
    Calls Try.prog 73 #[va, vb] w (ResR w (x + y)) := by
  have hdp : 0 < x.den * y.den := Nat.mul_pos x.den_pos y.den_pos
  obtain ⟨fx, p, c, q, d, rfl, hp, hq, hc, hd⟩ := hx
  obtain ⟨fy, p', c', q', d', rfl, hp', hq', hc', hd'⟩ := hy
  have hl1 := wd_len_mul x.num.natAbs y.den
  have hl2 := wd_len_mul y.num.natAbs x.den
  have hl3 := wd_len_mul x.den y.den
  unfold Fits rn rd at fx fy
  unfold rn at hp hp' hc hc'
  unfold rd at hq hq' hd hd'
  unfold rn rd
  have HT1 := hide_ (fun W (h : Below w.heap.size w W) => times_any p q' _ _ c d' x.num.natAbs y.den W rfl rfl (hp.below h) (hq'.below h) fx.1 fy.2)
  have HT2 := hide_ (fun W (h : Below w.heap.size w W) => times_any p' q _ _ c' d y.num.natAbs x.den W rfl rfl (hp'.below h) (hq.below h) fy.1 fx.2)
  have HT3 := hide_ (fun W (h : Below w.heap.size w W) => times_any q q' _ _ d d' x.den y.den W rfl rfl (hq.below h) (hq'.below h) fx.2 fy.2)
  have HNE : Hid ((rneg x == rneg y) = false) := hide_ (beq_eq_false_iff_ne.2 hcase.1)
  have HCM := hide_ (fun W p1 c1 q1 d1 b1 b2 (h1 : WO W b1 (.slice p1 (wd (x.num.natAbs * y.den)).length c1) (wd (x.num.natAbs * y.den))) (h2 : WO W b2 (.slice q1 (wd (y.num.natAbs * x.den)).length d1) (wd (y.num.natAbs * x.den))) =>
    compare_any p1 q1 _ _ c1 d1 _ _ W rfl rfl h1.wl h2.wl h1.cap h2.cap (by omega) (by omega) (wd_dig _) (wd_dig _))
  rw [val_wd, val_wd] at HCM
  rw [cmpN_lt hcase.2] at HCM
  have HSU := hide_ (fun W p1 c1 q1 d1 b1 b2 (h1 : WO W b1 (.slice p1 (wd (y.num.natAbs * x.den)).length c1) (wd (y.num.natAbs * x.den))) (h2 : WO W b2 (.slice q1 (wd (x.num.natAbs * y.den)).length d1) (wd (x.num.natAbs * y.den))) =>
    sub_any p1 q1 _ _ c1 d1 (y.num.natAbs * x.den) (x.num.natAbs * y.den) W rfl rfl h1.wl h2.wl h1.cap h2.cap (by omega) (by omega) (by omega))
  have hl4 := wd_len_mono (Nat.sub_le (y.num.natAbs * x.den) (x.num.natAbs * y.den))
  have HLO := hide_ (fun W p1 c1 q1 d1 b1 b2 (h1 : WO W b1 (.slice p1 (wd (y.num.natAbs * x.den - x.num.natAbs * y.den)).length c1) (wd (y.num.natAbs * x.den - x.num.natAbs * y.den))) (h2 : WO W b2 (.slice q1 (wd (x.den * y.den)).length d1) (wd (x.den * y.den))) =>
    lowest_any p1 q1 _ _ c1 d1 (rneg y) (y.num.natAbs * x.den - x.num.natAbs * y.den) (x.den * y.den) W rfl rfl h1.wl h2.wl h1.cap h2.cap (by omega) (by omega) hdp)
  rw [mk_less x y hcase.1 (by omega)] at HLO
  have HB := hide_ (boxes3 w _ _ (rneg x) p (wd x.num.natAbs).length c q (wd x.den).length d (rneg y) p' (wd y.num.natAbs).length c' q' (wd y.den).length d' rfl rfl)
  unfold boxR at HB
  have hb0 : Below w.heap.size w (((w.alloc (.cells #[.bool (rneg x), .slice p (wd x.num.natAbs).length c, .slice q (wd x.den).length d] 32)).alloc (.cells #[.bool (rneg y), .slice p' (wd y.num.natAbs).length c', .slice q' (wd y.den).length d'] 32)).alloc (.cells #[.bool false, .slice none 0 0, .slice none 0 0] 32)) := ((below_alloc _ _).alloc (by simp) _).alloc (by simp; omega) _
  obtain ⟨⟨a0, a1, a2⟩, ⟨b0, b1, b2⟩, hr0⟩ := HB.out _ (Below.refl _ _)
  clear hp hq hp' hq' hc hd hc' hd' fx fy hl1 hl2 hl3 hl4 hdp hcase
  generalize wd x.num.natAbs = XN at *
  generalize wd x.den = XD at *
  generalize wd y.num.natAbs = YN at *
  generalize wd y.den = YD at *
  generalize x.num.natAbs * y.den = u at *
  generalize y.num.natAbs * x.den = v at *
  generalize x.den * y.den = t at *
  generalize rneg x = sx at *
  generalize rneg y = sy at *
  generalize x + y = z at *
  have tok1 : True := trivial
  have tok2 : True := trivial
  go_enter Try.func73, Try.ntmps73
  go_wp2
  have HB1 := hide_ (fun W h => HB.out W h)
  have hbD : Below (((w.alloc (.cells #[.bool sx, .slice p XN.length c, .slice q XD.length d] 32)).alloc (.cells #[.bool sy, .slice p' YN.length c', .slice q' YD.length d'] 32)).alloc (.cells #[.bool false, .slice none 0 0, .slice none 0 0] 32)).heap.size (((w.alloc (.cells #[.bool sx, .slice p XN.length c, .slice q XD.length d] 32)).alloc (.cells #[.bool sy, .slice p' YN.length c', .slice q' YD.length d'] 32)).alloc (.cells #[.bool false, .slice none 0 0, .slice none 0 0] 32)) (((w.alloc (.cells #[.bool sx, .slice p XN.length c, .slice q XD.length d] 32)).alloc (.cells #[.bool sy, .slice p' YN.length c', .slice q' YD.length d'] 32)).alloc (.cells #[.bool false, .slice none 0 0, .slice none 0 0] 32)).drew := (Below.refl _ _).drew
  have hsz := lt_of_heap hr0
  clear HB
  generalize hW0 : ((w.alloc (.cells #[.bool sx, .slice p XN.length c, .slice q XD.length d] 32)).alloc (.cells #[.bool sy, .slice p' YN.length c', .slice q' YD.length d'] 32)).alloc (.cells #[.bool false, .slice none 0 0, .slice none 0 0] 32) = W0 at *
  clear hW0
  go_region_held3 (fun w' => w'.cell? ⟨w.heap.size, 0, none⟩ = some (.bool sx) ∧ w'.cell? ⟨w.heap.size, 1, none⟩ = some (.slice p XN.length c) ∧ w'.cell? ⟨w.heap.size, 2, none⟩ = some (.slice q XD.length d) ∧ w'.cell? ⟨w.heap.size + 1, 0, none⟩ = some (.bool sy) ∧ w'.cell? ⟨w.heap.size + 1, 1, none⟩ = some (.slice p' YN.length c') ∧ w'.cell? ⟨w.heap.size + 1, 2, none⟩ = some (.slice q' YD.length d'))
    (first | (obtain ⟨⟨k0, k1, k2⟩, ⟨k3, k4, k5⟩, _⟩ := HB1.out _ (by assumption); with_reducible exact ⟨k0, k1, k2, k3, k4, k5⟩) | go_keep)
    ((first
      | (go_at_call 67; have _t := tok1; go_must (
          (with_reducible refine (HT1.out _ (hb0.trans (hbD.mono hb0.size))).mono ?_)
          rintro e w2 ⟨⟨v2, rfl, ho2⟩, hb2⟩
          obtain ⟨p2, c2', rfl⟩ := WO.slice ho2
          have hb2' : Below W0.heap.size W0 w2 := hbD.trans (hb2.mono hbD.size)
          clear tok1))
      | (go_at_call 67; have _t := tok2; go_must (
          (with_reducible refine (HT2.out _ (hb0.trans (hb2'.mono hb0.size))).mono ?_)
          rintro e w3 ⟨⟨v3, rfl, ho3⟩, hb3⟩
          obtain ⟨p3, c3', rfl⟩ := WO.slice ho3
          have hb3' : Below W0.heap.size W0 w3 := hb2'.trans (hb3.mono hb2'.size)
          have ho2' := ho2.below hb3
          clear tok2))
      | (go_at_call 67; go_must (
          (with_reducible refine (HT3.out _ (hb0.trans (hb3'.mono hb0.size))).mono ?_)
          rintro e w4 ⟨⟨v4, rfl, ho4⟩, hb4⟩
          obtain ⟨p4, c4', rfl⟩ := WO.slice ho4
          have hb4' : Below W0.heap.size W0 w4 := hb3'.trans (hb4.mono hb3'.size)
          have ho2'' := ho2'.below hb4
          have ho3'' := ho3.below hb4))))
  obtain ⟨⟨g0, g1, g2⟩, ⟨g3, g4, g5⟩, hr4⟩ := HB1.out w4 hb4'
  have hss : (sx == sy) = false := HNE.out
  go_wp2_with (first
    | (go_at_call 68; go_must ((with_reducible refine (HCM.out _ _ _ _ _ _ _ ho2'' ho3'').mono ?_); rintro e w7 ⟨rfl, k7, rfl⟩; have hd7 : Below w4.heap.size w4 (w4.drewN k7) := below_drewN (Below.refl _ _) _; have hb7' : Below W0.heap.size W0 (w4.drewN k7) := below_drewN hb4' _; obtain ⟨⟨j0, j1, j2⟩, ⟨j3, j4, j5⟩, hr7⟩ := HB1.out _ hb7'))
    | (go_at_call 97; go_must (
        (with_reducible refine (HSU.out _ _ _ _ _ _ _ (ho3''.below hd7) (ho2''.below hd7)).mono ?_)
        rintro e w5 ⟨⟨v5, rfl, ho5⟩, hb5⟩
        obtain ⟨p5, c5, rfl⟩ := WO.slice ho5
        have hb5' : Below W0.heap.size W0 w5 := hb7'.trans (hb5.mono hb7'.size)
        obtain ⟨⟨i0, i1, i2⟩, ⟨i3, i4, i5⟩, hr5⟩ := HB1.out w5 hb5'))
    | (go_at_call 87; go_must (
        (with_reducible refine (HLO.out _ _ _ _ _ _ _ ho5 ((ho4.below hd7).below hb5)).mono ?_)
        rintro e w6 h6
        obtain ⟨s6, p6, n6, c6, q6, m6, d6, er6, rfl⟩ := h6.form
        have H6 := hide_ h6
        have hr6 := (h6.2.block _ (lt_of_heap hr5)).trans hr5))
    | ((with_reducible apply wpList_store_blk); (with_reducible rfl); (with_reducible rfl); rfl; assumption; rfl; kernel_rfl; rfl; kernel_rfl))
  refine ret_ct rfl _ 32 _ _ rfl (setRow_heap _ _ _ _ _ _ hr6) Try.underlying32 rfl (by kernel_rfl) rfl ?_
  exact H6.out.stored (hb0.trans (hb5'.mono hb0.size)) (lt_of_heap hr5) (by omega)
set_option maxHeartbeats 6400000 in
theorem plus_more (va vb : Value) (x y : Rat) (w : World) (hx : RV w va x) (hy : RV w vb y) (hcase : rneg x ≠ rneg y ∧ y.num.natAbs * x.den < x.num.natAbs * y.den) :
    Calls Try.prog 73 #[va, vb] w (ResR w (x + y)) := by
  have hdp : 0 < x.den * y.den := Nat.mul_pos x.den_pos y.den_pos
  obtain ⟨fx, p, c, q, d, rfl, hp, hq, hc, hd⟩ := hx
  obtain ⟨fy, p', c', q', d', rfl, hp', hq', hc', hd'⟩ := hy
  have hl1 := wd_len_mul x.num.natAbs y.den
  have hl2 := wd_len_mul y.num.natAbs x.den
  have hl3 := wd_len_mul x.den y.den
  unfold Fits rn rd at fx fy
  unfold rn at hp hp' hc hc'
  unfold rd at hq hq' hd hd'
  unfold rn rd
  have HT1 := hide_ (fun W (h : Below w.heap.size w W) => times_any p q' _ _ c d' x.num.natAbs y.den W rfl rfl (hp.below h) (hq'.below h) fx.1 fy.2)
  have HT2 := hide_ (fun W (h : Below w.heap.size w W) => times_any p' q _ _ c' d y.num.natAbs x.den W rfl rfl (hp'.below h) (hq.below h) fy.1 fx.2)
  have HT3 := hide_ (fun W (h : Below w.heap.size w W) => times_any q q' _ _ d d' x.den y.den W rfl rfl (hq.below h) (hq'.below h) fx.2 fy.2)
  have HNE : Hid ((rneg x == rneg y) = false) := hide_ (beq_eq_false_iff_ne.2 hcase.1)
  have HCM := hide_ (fun W p1 c1 q1 d1 b1 b2 (h1 : WO W b1 (.slice p1 (wd (x.num.natAbs * y.den)).length c1) (wd (x.num.natAbs * y.den))) (h2 : WO W b2 (.slice q1 (wd (y.num.natAbs * x.den)).length d1) (wd (y.num.natAbs * x.den))) =>
    compare_any p1 q1 _ _ c1 d1 _ _ W rfl rfl h1.wl h2.wl h1.cap h2.cap (by omega) (by omega) (wd_dig _) (wd_dig _))
  rw [val_wd, val_wd] at HCM
  rw [cmpN_gt hcase.2] at HCM
  have HSU := hide_ (fun W p1 c1 q1 d1 b1 b2 (h1 : WO W b1 (.slice p1 (wd (x.num.natAbs * y.den)).length c1) (wd (x.num.natAbs * y.den))) (h2 : WO W b2 (.slice q1 (wd (y.num.natAbs * x.den)).length d1) (wd (y.num.natAbs * x.den))) =>
    sub_any p1 q1 _ _ c1 d1 (x.num.natAbs * y.den) (y.num.natAbs * x.den) W rfl rfl h1.wl h2.wl h1.cap h2.cap (by omega) (by omega) (by omega))
  have hl4 := wd_len_mono (Nat.sub_le (x.num.natAbs * y.den) (y.num.natAbs * x.den))
  have HLO := hide_ (fun W p1 c1 q1 d1 b1 b2 (h1 : WO W b1 (.slice p1 (wd (x.num.natAbs * y.den - y.num.natAbs * x.den)).length c1) (wd (x.num.natAbs * y.den - y.num.natAbs * x.den))) (h2 : WO W b2 (.slice q1 (wd (x.den * y.den)).length d1) (wd (x.den * y.den))) =>
    lowest_any p1 q1 _ _ c1 d1 (rneg x) (x.num.natAbs * y.den - y.num.natAbs * x.den) (x.den * y.den) W rfl rfl h1.wl h2.wl h1.cap h2.cap (by omega) (by omega) hdp)
  rw [mk_more x y hcase.1 (by omega)] at HLO
  have HB := hide_ (boxes3 w _ _ (rneg x) p (wd x.num.natAbs).length c q (wd x.den).length d (rneg y) p' (wd y.num.natAbs).length c' q' (wd y.den).length d' rfl rfl)
  unfold boxR at HB
  have hb0 : Below w.heap.size w (((w.alloc (.cells #[.bool (rneg x), .slice p (wd x.num.natAbs).length c, .slice q (wd x.den).length d] 32)).alloc (.cells #[.bool (rneg y), .slice p' (wd y.num.natAbs).length c', .slice q' (wd y.den).length d'] 32)).alloc (.cells #[.bool false, .slice none 0 0, .slice none 0 0] 32)) := ((below_alloc _ _).alloc (by simp) _).alloc (by simp; omega) _
  obtain ⟨⟨a0, a1, a2⟩, ⟨b0, b1, b2⟩, hr0⟩ := HB.out _ (Below.refl _ _)
  clear hp hq hp' hq' hc hd hc' hd' fx fy hl1 hl2 hl3 hl4 hdp hcase
  generalize wd x.num.natAbs = XN at *
  generalize wd x.den = XD at *
  generalize wd y.num.natAbs = YN at *
  generalize wd y.den = YD at *
  generalize x.num.natAbs * y.den = u at *
  generalize y.num.natAbs * x.den = v at *
  generalize x.den * y.den = t at *
  generalize rneg x = sx at *
  generalize rneg y = sy at *
  generalize x + y = z at *
  have tok1 : True := trivial
  have tok2 : True := trivial
  go_enter Try.func73, Try.ntmps73
  go_wp2
  have HB1 := hide_ (fun W h => HB.out W h)
  have hbD : Below (((w.alloc (.cells #[.bool sx, .slice p XN.length c, .slice q XD.length d] 32)).alloc (.cells #[.bool sy, .slice p' YN.length c', .slice q' YD.length d'] 32)).alloc (.cells #[.bool false, .slice none 0 0, .slice none 0 0] 32)).heap.size (((w.alloc (.cells #[.bool sx, .slice p XN.length c, .slice q XD.length d] 32)).alloc (.cells #[.bool sy, .slice p' YN.length c', .slice q' YD.length d'] 32)).alloc (.cells #[.bool false, .slice none 0 0, .slice none 0 0] 32)) (((w.alloc (.cells #[.bool sx, .slice p XN.length c, .slice q XD.length d] 32)).alloc (.cells #[.bool sy, .slice p' YN.length c', .slice q' YD.length d'] 32)).alloc (.cells #[.bool false, .slice none 0 0, .slice none 0 0] 32)).drew := (Below.refl _ _).drew
  have hsz := lt_of_heap hr0
  clear HB
  generalize hW0 : ((w.alloc (.cells #[.bool sx, .slice p XN.length c, .slice q XD.length d] 32)).alloc (.cells #[.bool sy, .slice p' YN.length c', .slice q' YD.length d'] 32)).alloc (.cells #[.bool false, .slice none 0 0, .slice none 0 0] 32) = W0 at *
  clear hW0
  go_region_held3 (fun w' => w'.cell? ⟨w.heap.size, 0, none⟩ = some (.bool sx) ∧ w'.cell? ⟨w.heap.size, 1, none⟩ = some (.slice p XN.length c) ∧ w'.cell? ⟨w.heap.size, 2, none⟩ = some (.slice q XD.length d) ∧ w'.cell? ⟨w.heap.size + 1, 0, none⟩ = some (.bool sy) ∧ w'.cell? ⟨w.heap.size + 1, 1, none⟩ = some (.slice p' YN.length c') ∧ w'.cell? ⟨w.heap.size + 1, 2, none⟩ = some (.slice q' YD.length d'))
    (first | (obtain ⟨⟨k0, k1, k2⟩, ⟨k3, k4, k5⟩, _⟩ := HB1.out _ (by assumption); with_reducible exact ⟨k0, k1, k2, k3, k4, k5⟩) | go_keep)
    ((first
      | (go_at_call 67; have _t := tok1; go_must (
          (with_reducible refine (HT1.out _ (hb0.trans (hbD.mono hb0.size))).mono ?_)
          rintro e w2 ⟨⟨v2, rfl, ho2⟩, hb2⟩
          obtain ⟨p2, c2', rfl⟩ := WO.slice ho2
          have hb2' : Below W0.heap.size W0 w2 := hbD.trans (hb2.mono hbD.size)
          clear tok1))
      | (go_at_call 67; have _t := tok2; go_must (
          (with_reducible refine (HT2.out _ (hb0.trans (hb2'.mono hb0.size))).mono ?_)
          rintro e w3 ⟨⟨v3, rfl, ho3⟩, hb3⟩
          obtain ⟨p3, c3', rfl⟩ := WO.slice ho3
          have hb3' : Below W0.heap.size W0 w3 := hb2'.trans (hb3.mono hb2'.size)
          have ho2' := ho2.below hb3
          clear tok2))
      | (go_at_call 67; go_must (
          (with_reducible refine (HT3.out _ (hb0.trans (hb3'.mono hb0.size))).mono ?_)
          rintro e w4 ⟨⟨v4, rfl, ho4⟩, hb4⟩
          obtain ⟨p4, c4', rfl⟩ := WO.slice ho4
          have hb4' : Below W0.heap.size W0 w4 := hb3'.trans (hb4.mono hb3'.size)
          have ho2'' := ho2'.below hb4
          have ho3'' := ho3.below hb4))))
  obtain ⟨⟨g0, g1, g2⟩, ⟨g3, g4, g5⟩, hr4⟩ := HB1.out w4 hb4'
  have hss : (sx == sy) = false := HNE.out
  go_wp2_with (first
    | (go_at_call 68; go_must ((with_reducible refine (HCM.out _ _ _ _ _ _ _ ho2'' ho3'').mono ?_); rintro e w7 ⟨rfl, k7, rfl⟩; have hd7 : Below w4.heap.size w4 (w4.drewN k7) := below_drewN (Below.refl _ _) _; have hb7' : Below W0.heap.size W0 (w4.drewN k7) := below_drewN hb4' _; obtain ⟨⟨j0, j1, j2⟩, ⟨j3, j4, j5⟩, hr7⟩ := HB1.out _ hb7'))
    | (go_at_call 97; go_must (
        (with_reducible refine (HSU.out _ _ _ _ _ _ _ (ho2''.below hd7) (ho3''.below hd7)).mono ?_)
        rintro e w5 ⟨⟨v5, rfl, ho5⟩, hb5⟩
        obtain ⟨p5, c5, rfl⟩ := WO.slice ho5
        have hb5' : Below W0.heap.size W0 w5 := hb7'.trans (hb5.mono hb7'.size)
        obtain ⟨⟨i0, i1, i2⟩, ⟨i3, i4, i5⟩, hr5⟩ := HB1.out w5 hb5'))
    | (go_at_call 87; go_must (
        (with_reducible refine (HLO.out _ _ _ _ _ _ _ ho5 ((ho4.below hd7).below hb5)).mono ?_)
        rintro e w6 h6
        obtain ⟨s6, p6, n6, c6, q6, m6, d6, er6, rfl⟩ := h6.form
        have H6 := hide_ h6
        have hr6 := (h6.2.block _ (lt_of_heap hr5)).trans hr5))
    | ((with_reducible apply wpList_store_blk); (with_reducible rfl); (with_reducible rfl); rfl; assumption; rfl; kernel_rfl; rfl; kernel_rfl))
  refine ret_ct rfl _ 32 _ _ rfl (setRow_heap _ _ _ _ _ _ hr6) Try.underlying32 rfl (by kernel_rfl) rfl ?_
  exact H6.out.stored (hb0.trans (hb5'.mono hb0.size)) (lt_of_heap hr5) (by omega)
set_option maxHeartbeats 6400000 in
theorem plus_even (va vb : Value) (x y : Rat) (w : World) (hx : RV w va x) (hy : RV w vb y) (hcase : rneg x ≠ rneg y ∧ x.num.natAbs * y.den = y.num.natAbs * x.den) :
    Calls Try.prog 73 #[va, vb] w (ResR w (x + y)) := by
  have hdp : 0 < x.den * y.den := Nat.mul_pos x.den_pos y.den_pos
  obtain ⟨fx, p, c, q, d, rfl, hp, hq, hc, hd⟩ := hx
  obtain ⟨fy, p', c', q', d', rfl, hp', hq', hc', hd'⟩ := hy
  have hl1 := wd_len_mul x.num.natAbs y.den
  have hl2 := wd_len_mul y.num.natAbs x.den
  have hl3 := wd_len_mul x.den y.den
  unfold Fits rn rd at fx fy
  unfold rn at hp hp' hc hc'
  unfold rd at hq hq' hd hd'
  unfold rn rd
  have HT1 := hide_ (fun W (h : Below w.heap.size w W) => times_any p q' _ _ c d' x.num.natAbs y.den W rfl rfl (hp.below h) (hq'.below h) fx.1 fy.2)
  have HT2 := hide_ (fun W (h : Below w.heap.size w W) => times_any p' q _ _ c' d y.num.natAbs x.den W rfl rfl (hp'.below h) (hq.below h) fy.1 fx.2)
  have HT3 := hide_ (fun W (h : Below w.heap.size w W) => times_any q q' _ _ d d' x.den y.den W rfl rfl (hq.below h) (hq'.below h) fx.2 fy.2)
  have HNE : Hid ((rneg x == rneg y) = false) := hide_ (beq_eq_false_iff_ne.2 hcase.1)
  have HCM := hide_ (fun W p1 c1 q1 d1 b1 b2 (h1 : WO W b1 (.slice p1 (wd (x.num.natAbs * y.den)).length c1) (wd (x.num.natAbs * y.den))) (h2 : WO W b2 (.slice q1 (wd (y.num.natAbs * x.den)).length d1) (wd (y.num.natAbs * x.den))) =>
    compare_any p1 q1 _ _ c1 d1 _ _ W rfl rfl h1.wl h2.wl h1.cap h2.cap (by omega) (by omega) (wd_dig _) (wd_dig _))
  rw [val_wd, val_wd] at HCM
  have hcm0 : cmpN (x.num.natAbs * y.den) (y.num.natAbs * x.den) = 0 := by rw [hcase.2]; exact cmpN_eq _
  rw [hcm0] at HCM
  have HSU := hide_ (fun W p1 c1 q1 d1 b1 b2 (h1 : WO W b1 (.slice p1 (wd (x.num.natAbs * y.den)).length c1) (wd (x.num.natAbs * y.den))) (h2 : WO W b2 (.slice q1 (wd (y.num.natAbs * x.den)).length d1) (wd (y.num.natAbs * x.den))) =>
    sub_any p1 q1 _ _ c1 d1 (x.num.natAbs * y.den) (y.num.natAbs * x.den) W rfl rfl h1.wl h2.wl h1.cap h2.cap (by omega) (by omega) (by omega))
  have hl4 := wd_len_mono (Nat.sub_le (x.num.natAbs * y.den) (y.num.natAbs * x.den))
  have HLO := hide_ (fun W p1 c1 q1 d1 b1 b2 (h1 : WO W b1 (.slice p1 (wd (x.num.natAbs * y.den - y.num.natAbs * x.den)).length c1) (wd (x.num.natAbs * y.den - y.num.natAbs * x.den))) (h2 : WO W b2 (.slice q1 (wd (x.den * y.den)).length d1) (wd (x.den * y.den))) =>
    lowest_any p1 q1 _ _ c1 d1 (rneg x) (x.num.natAbs * y.den - y.num.natAbs * x.den) (x.den * y.den) W rfl rfl h1.wl h2.wl h1.cap h2.cap (by omega) (by omega) hdp)
  rw [mk_more x y hcase.1 (by omega)] at HLO
  have HB := hide_ (boxes3 w _ _ (rneg x) p (wd x.num.natAbs).length c q (wd x.den).length d (rneg y) p' (wd y.num.natAbs).length c' q' (wd y.den).length d' rfl rfl)
  unfold boxR at HB
  have hb0 : Below w.heap.size w (((w.alloc (.cells #[.bool (rneg x), .slice p (wd x.num.natAbs).length c, .slice q (wd x.den).length d] 32)).alloc (.cells #[.bool (rneg y), .slice p' (wd y.num.natAbs).length c', .slice q' (wd y.den).length d'] 32)).alloc (.cells #[.bool false, .slice none 0 0, .slice none 0 0] 32)) := ((below_alloc _ _).alloc (by simp) _).alloc (by simp; omega) _
  obtain ⟨⟨a0, a1, a2⟩, ⟨b0, b1, b2⟩, hr0⟩ := HB.out _ (Below.refl _ _)
  clear hp hq hp' hq' hc hd hc' hd' fx fy hl1 hl2 hl3 hl4 hdp hcase hcm0
  generalize wd x.num.natAbs = XN at *
  generalize wd x.den = XD at *
  generalize wd y.num.natAbs = YN at *
  generalize wd y.den = YD at *
  generalize x.num.natAbs * y.den = u at *
  generalize y.num.natAbs * x.den = v at *
  generalize x.den * y.den = t at *
  generalize rneg x = sx at *
  generalize rneg y = sy at *
  generalize x + y = z at *
  have tok1 : True := trivial
  have tok2 : True := trivial
  go_enter Try.func73, Try.ntmps73
  go_wp2
  have HB1 := hide_ (fun W h => HB.out W h)
  have hbD : Below (((w.alloc (.cells #[.bool sx, .slice p XN.length c, .slice q XD.length d] 32)).alloc (.cells #[.bool sy, .slice p' YN.length c', .slice q' YD.length d'] 32)).alloc (.cells #[.bool false, .slice none 0 0, .slice none 0 0] 32)).heap.size (((w.alloc (.cells #[.bool sx, .slice p XN.length c, .slice q XD.length d] 32)).alloc (.cells #[.bool sy, .slice p' YN.length c', .slice q' YD.length d'] 32)).alloc (.cells #[.bool false, .slice none 0 0, .slice none 0 0] 32)) (((w.alloc (.cells #[.bool sx, .slice p XN.length c, .slice q XD.length d] 32)).alloc (.cells #[.bool sy, .slice p' YN.length c', .slice q' YD.length d'] 32)).alloc (.cells #[.bool false, .slice none 0 0, .slice none 0 0] 32)).drew := (Below.refl _ _).drew
  have hsz := lt_of_heap hr0
  clear HB
  generalize hW0 : ((w.alloc (.cells #[.bool sx, .slice p XN.length c, .slice q XD.length d] 32)).alloc (.cells #[.bool sy, .slice p' YN.length c', .slice q' YD.length d'] 32)).alloc (.cells #[.bool false, .slice none 0 0, .slice none 0 0] 32) = W0 at *
  clear hW0
  go_region_held3 (fun w' => w'.cell? ⟨w.heap.size, 0, none⟩ = some (.bool sx) ∧ w'.cell? ⟨w.heap.size, 1, none⟩ = some (.slice p XN.length c) ∧ w'.cell? ⟨w.heap.size, 2, none⟩ = some (.slice q XD.length d) ∧ w'.cell? ⟨w.heap.size + 1, 0, none⟩ = some (.bool sy) ∧ w'.cell? ⟨w.heap.size + 1, 1, none⟩ = some (.slice p' YN.length c') ∧ w'.cell? ⟨w.heap.size + 1, 2, none⟩ = some (.slice q' YD.length d'))
    (first | (obtain ⟨⟨k0, k1, k2⟩, ⟨k3, k4, k5⟩, _⟩ := HB1.out _ (by assumption); with_reducible exact ⟨k0, k1, k2, k3, k4, k5⟩) | go_keep)
    ((first
      | (go_at_call 67; have _t := tok1; go_must (
          (with_reducible refine (HT1.out _ (hb0.trans (hbD.mono hb0.size))).mono ?_)
          rintro e w2 ⟨⟨v2, rfl, ho2⟩, hb2⟩
          obtain ⟨p2, c2', rfl⟩ := WO.slice ho2
          have hb2' : Below W0.heap.size W0 w2 := hbD.trans (hb2.mono hbD.size)
          clear tok1))
      | (go_at_call 67; have _t := tok2; go_must (
          (with_reducible refine (HT2.out _ (hb0.trans (hb2'.mono hb0.size))).mono ?_)
          rintro e w3 ⟨⟨v3, rfl, ho3⟩, hb3⟩
          obtain ⟨p3, c3', rfl⟩ := WO.slice ho3
          have hb3' : Below W0.heap.size W0 w3 := hb2'.trans (hb3.mono hb2'.size)
          have ho2' := ho2.below hb3
          clear tok2))
      | (go_at_call 67; go_must (
          (with_reducible refine (HT3.out _ (hb0.trans (hb3'.mono hb0.size))).mono ?_)
          rintro e w4 ⟨⟨v4, rfl, ho4⟩, hb4⟩
          obtain ⟨p4, c4', rfl⟩ := WO.slice ho4
          have hb4' : Below W0.heap.size W0 w4 := hb3'.trans (hb4.mono hb3'.size)
          have ho2'' := ho2'.below hb4
          have ho3'' := ho3.below hb4))))
  obtain ⟨⟨g0, g1, g2⟩, ⟨g3, g4, g5⟩, hr4⟩ := HB1.out w4 hb4'
  have hss : (sx == sy) = false := HNE.out
  go_wp2_with (first
    | (go_at_call 68; go_must ((with_reducible refine (HCM.out _ _ _ _ _ _ _ ho2'' ho3'').mono ?_); rintro e w7 ⟨rfl, k7, rfl⟩; have hd7 : Below w4.heap.size w4 (w4.drewN k7) := below_drewN (Below.refl _ _) _; have hb7' : Below W0.heap.size W0 (w4.drewN k7) := below_drewN hb4' _; obtain ⟨⟨j0, j1, j2⟩, ⟨j3, j4, j5⟩, hr7⟩ := HB1.out _ hb7'))
    | (go_at_call 97; go_must (
        (with_reducible refine (HSU.out _ _ _ _ _ _ _ (ho2''.below hd7) (ho3''.below hd7)).mono ?_)
        rintro e w5 ⟨⟨v5, rfl, ho5⟩, hb5⟩
        obtain ⟨p5, c5, rfl⟩ := WO.slice ho5
        have hb5' : Below W0.heap.size W0 w5 := hb7'.trans (hb5.mono hb7'.size)
        obtain ⟨⟨i0, i1, i2⟩, ⟨i3, i4, i5⟩, hr5⟩ := HB1.out w5 hb5'))
    | (go_at_call 87; go_must (
        (with_reducible refine (HLO.out _ _ _ _ _ _ _ ho5 ((ho4.below hd7).below hb5)).mono ?_)
        rintro e w6 h6
        obtain ⟨s6, p6, n6, c6, q6, m6, d6, er6, rfl⟩ := h6.form
        have H6 := hide_ h6
        have hr6 := (h6.2.block _ (lt_of_heap hr5)).trans hr5))
    | ((with_reducible apply wpList_store_blk); (with_reducible rfl); (with_reducible rfl); rfl; assumption; rfl; kernel_rfl; rfl; kernel_rfl))
  refine ret_ct rfl _ 32 _ _ rfl (setRow_heap _ _ _ _ _ _ hr6) Try.underlying32 rfl (by kernel_rfl) rfl ?_
  exact H6.out.stored (hb0.trans (hb5'.mono hb0.size)) (lt_of_heap hr5) (by omega)
theorem plus_any (va vb : Value) (x y : Rat) (w : World) (hx : RV w va x) (hy : RV w vb y) : Calls Try.prog 73 #[va, vb] w (ResR w (x + y)) := by
  by_cases h : rneg x = rneg y
  · exact plus_same va vb x y w hx hy h
  · rcases Nat.lt_trichotomy (x.num.natAbs * y.den) (y.num.natAbs * x.den) with h1 | h1 | h1
    · exact plus_less va vb x y w hx hy ⟨h, h1⟩
    · exact plus_even va vb x y w hx hy ⟨h, h1⟩
    · exact plus_more va vb x y w hx hy ⟨h, h1⟩
end Go.Proofs.Ytcibbnphkpaifaa

namespace Go.Proofs.Ytcibbnphkpaifaa
open Go.RowKit
set_option linter.unusedVariables false
set_option maxRecDepth 100000
theorem rneg_neg (y : Rat) : rneg (-y) = (!rneg y && decide (0 < (wd y.num.natAbs).length)) := by
  have h0 : (0 < (wd y.num.natAbs).length) ↔ y.num ≠ 0 := by
    constructor
    · intro h e
      rw [e] at h
      simp [wd_zero] at h
    · intro h
      rcases Nat.eq_zero_or_pos (wd y.num.natAbs).length with h1 | h1
      · rw [wd_len_zero] at h1
        exact absurd (Int.natAbs_eq_zero.1 h1) h
      · exact h1
  have e : decide (0 < (wd y.num.natAbs).length) = decide (y.num ≠ 0) := by rw [decide_eq_decide]; exact h0
  rw [e]
  unfold rneg
  rw [Rat.neg_num]
  by_cases h1 : y.num < 0
  · rw [decide_eq_true h1, decide_eq_false (by omega)]; rfl
  · rw [decide_eq_false h1]
    by_cases h2 : y.num = 0
    · rw [h2]; rfl
    · rw [decide_eq_true (show y.num ≠ 0 from h2), decide_eq_true (by omega)]; rfl
theorem rn_neg (y : Rat) : rn (-y) = rn y := by unfold rn; rw [Rat.neg_num, Int.natAbs_neg]
theorem rd_neg (y : Rat) : rd (-y) = rd y := by unfold rd; rw [Rat.neg_den]
theorem Fits.neg {y : Rat} (h : Fits y) : Fits (-y) := by unfold Fits; rw [rn_neg, rd_neg]; exact h
theorem RV.neg {w : World} {p q : Option Addr} {c d : Nat} {y : Rat} (hf : Fits y) (hp : WL w p (rn y)) (hq : WL w q (rd y)) (hc : (rn y).length ≤ c) (hd : (rd y).length ≤ d) : RV w (.agg #[.bool (rneg (-y)), .slice p (rn y).length c, .slice q (rd y).length d]) (-y) := by
  refine ⟨hf.neg, p, c, q, d, ?_, ?_⟩
  · rw [rn_neg, rd_neg]
  · rw [rn_neg, rd_neg]; exact ⟨hp, hq, hc, hd⟩
theorem set_first {w : World} {B : Nat} {a b c x : Value} {S : TypeId} (h0 : w.heap[B]? = some (.cells #[a, b, c] S)) : (w.setCell ⟨B, 0, none⟩ x).heap[B]? = some (.cells #[x, b, c] S) := by
  simp [World.setCell, Array.getElem?_modify, h0]
set_option maxHeartbeats 3200000 in
theorem turned_any (va : Value) (y : Rat) (w : World) (hy : RV w va y) :
    Calls Try.prog 78 #[va] w fun e w' => (∃ s p n c q m d, e = .returned (.agg #[.bool s, .slice p n c, .slice q m d]) ∧ RV w' (.agg #[.bool s, .slice p n c, .slice q m d]) (-y)) ∧ Below w.heap.size w w' := by
  obtain ⟨fy, p, c, q, d, rfl, hp, hq, hc, hd⟩ := hy
  have HRV := hide_ (fun W (h : Below w.heap.size w W) => RV.neg fy (hp.below h) (hq.below h) hc hd)
  have HNG : Hid (rneg (-y) = (!rneg y && decide (0 < (rn y).length))) := hide_ (rneg_neg y)
  rw [HNG.out] at HRV
  clear hp hq hc hd fy HNG
  generalize (rd y).length = m at *
  have hA : ((w.alloc (.cells #[.bool (rneg y), .slice p (rn y).length c, .slice q m d] 32)).alloc (.cells #[.bool false, .slice none 0 0, .slice none 0 0] 32)).heap[w.heap.size]? = some (.cells #[.bool (rneg y), .slice p (rn y).length c, .slice q m d] 32) := heap_past (heap_alloc_last _ _)
  have hR : ((w.alloc (.cells #[.bool (rneg y), .slice p (rn y).length c, .slice q m d] 32)).alloc (.cells #[.bool false, .slice none 0 0, .slice none 0 0] 32)).heap[w.heap.size + 1]? = some (.cells #[.bool false, .slice none 0 0, .slice none 0 0] 32) := heap_at1 _ _ _
  obtain ⟨a0, a1, a2⟩ := cells_three hA
  have f0 := blk_free hA 0
  have hb0 : Below w.heap.size w ((w.alloc (.cells #[.bool (rneg y), .slice p (rn y).length c, .slice q m d] 32)).alloc (.cells #[.bool false, .slice none 0 0, .slice none 0 0] 32)) := (below_alloc _ _).alloc (by simp) _
  have hS := fun v => set_first (x := v) hA
  have hSR := fun v => (set_other (w := (w.alloc (.cells #[.bool (rneg y), .slice p (rn y).length c, .slice q m d] 32)).alloc (.cells #[.bool false, .slice none 0 0, .slice none 0 0] 32)) (B := w.heap.size + 1) (p := ⟨w.heap.size, 0, none⟩) (x := v) (by simp)).trans hR
  generalize rn y = L at *
  generalize hsy : rneg y = sy at *
  clear hsy
  have HS := hide_ hS
  have HSR := hide_ hSR
  clear hS hSR
  cases sy
  · by_cases hL : 0 < L.length
    · have d1n : decide (0 < L.length) = true := decide_eq_true hL
      have d1 : decide ((0 : Int) < (L.length : Int)) = true := decide_eq_true (by omega)
      have HR1 : Hid (∀ W, Below w.heap.size w W → RV W (.agg #[.bool true, .slice p L.length c, .slice q m d]) (-y)) := hide_ (fun W h => by have h1 := HRV.out W h; rw [d1n] at h1; exact h1)
      have hs1 := HS.out (.bool true)
      have hr1 := HSR.out (.bool true)
      obtain ⟨b0, b1, b2⟩ := cells_three hs1
      go_enter Try.func78, Try.ntmps78
      go_wp2_with ((with_reducible apply wpList_store_blk); (with_reducible rfl); (with_reducible rfl); rfl; assumption; rfl; kernel_rfl; rfl; kernel_rfl)
      have hbW : Below w.heap.size w ((w.alloc (.cells #[.bool true, .slice p L.length c, .slice q m d] 32)).alloc (.cells #[.bool true, .slice p L.length c, .slice q m d] 32)) := (below_alloc _ _).alloc (by simp) _
      refine ret_c rfl (w.heap.size + 1) 32 _ _ rfl (heap_at1 _ _ _) Try.underlying32 rfl (by kernel_rfl) rfl ?_
      exact ⟨⟨_, _, _, _, _, _, _, rfl, HR1.out _ hbW⟩, hbW⟩
    · have d1n : decide (0 < L.length) = false := decide_eq_false hL
      have d1 : decide ((0 : Int) < (L.length : Int)) = false := decide_eq_false (by omega)
      have HR1 : Hid (∀ W, Below w.heap.size w W → RV W (.agg #[.bool false, .slice p L.length c, .slice q m d]) (-y)) := hide_ (fun W h => by have h1 := HRV.out W h; rw [d1n] at h1; exact h1)
      have hs1 := HS.out (.bool false)
      have hr1 := HSR.out (.bool false)
      obtain ⟨b0, b1, b2⟩ := cells_three hs1
      go_enter Try.func78, Try.ntmps78
      go_wp2_with ((with_reducible apply wpList_store_blk); (with_reducible rfl); (with_reducible rfl); rfl; assumption; rfl; kernel_rfl; rfl; kernel_rfl)
      have hbW : Below w.heap.size w (((w.alloc (.cells #[.bool false, .slice p L.length c, .slice q m d] 32)).alloc (.cells #[.bool false, .slice none 0 0, .slice none 0 0] 32)).setRow (w.heap.size + 1) #[.bool false, .slice p L.length c, .slice q m d]) := below_setRow ((below_alloc _ _).alloc (by simp) _) (by omega) _
      refine ret_c rfl (w.heap.size + 1) 32 _ _ rfl (setRow_heap _ _ _ _ _ _ (heap_at1 _ _ _)) Try.underlying32 rfl (by kernel_rfl) rfl ?_
      exact ⟨⟨_, _, _, _, _, _, _, rfl, HR1.out _ hbW⟩, hbW⟩
  · have HR1 : Hid (∀ W, Below w.heap.size w W → RV W (.agg #[.bool false, .slice p L.length c, .slice q m d]) (-y)) := hide_ (fun W h => HRV.out W h)
    have hs1 := HS.out (.bool false)
    have hr1 := HSR.out (.bool false)
    obtain ⟨b0, b1, b2⟩ := cells_three hs1
    go_enter Try.func78, Try.ntmps78
    go_wp2_with ((with_reducible apply wpList_store_blk); (with_reducible rfl); (with_reducible rfl); rfl; assumption; rfl; kernel_rfl; rfl; kernel_rfl)
    have hbW : Below w.heap.size w ((w.alloc (.cells #[.bool false, .slice p L.length c, .slice q m d] 32)).alloc (.cells #[.bool false, .slice p L.length c, .slice q m d] 32)) := (below_alloc _ _).alloc (by simp) _
    refine ret_c rfl (w.heap.size + 1) 32 _ _ rfl (heap_at1 _ _ _) Try.underlying32 rfl (by kernel_rfl) rfl ?_
    exact ⟨⟨_, _, _, _, _, _, _, rfl, HR1.out _ hbW⟩, hbW⟩
set_option maxHeartbeats 6400000 in
theorem radd_any (va vb : Value) (x y : Rat) (w : World) (hx : RV w va x) (hy : RV w vb y) :
    Calls Try.prog 84 #[va, vb] w (ResR w (x + y)) := by
  have HK := hide_ (fun W (h : Below w.heap.size w W) => checks_ok va vb x y W (hx.below h) (hy.below h))
  have HPL := hide_ (fun W (h : Below w.heap.size w W) => plus_any va vb x y W (hx.below h) (hy.below h))
  obtain ⟨fx, p, c, q, d, rfl, hp, hq, hc, hd⟩ := hx
  obtain ⟨fy, p', c', q', d', rfl, hp', hq', hc', hd'⟩ := hy
  have HB := hide_ (boxes3 w _ _ (rneg x) p (rn x).length c q (rd x).length d (rneg y) p' (rn y).length c' q' (rd y).length d' rfl rfl)
  unfold boxR at HB
  have hb0 : Below w.heap.size w (((w.alloc (.cells #[.bool (rneg x), .slice p (rn x).length c, .slice q (rd x).length d] 32)).alloc (.cells #[.bool (rneg y), .slice p' (rn y).length c', .slice q' (rd y).length d'] 32)).alloc (.cells #[.bool false, .slice none 0 0, .slice none 0 0] 32)) := ((below_alloc _ _).alloc (by simp) _).alloc (by simp; omega) _
  obtain ⟨⟨a0, a1, a2⟩, ⟨b0, b1, b2⟩, hr0⟩ := HB.out _ (Below.refl _ _)
  clear hp hq hp' hq' hc hd hc' hd' fx fy
  generalize (rn x).length = l1 at *
  generalize (rd x).length = l2 at *
  generalize (rn y).length = l3 at *
  generalize (rd y).length = l4 at *
  generalize rneg x = sx at *
  generalize rneg y = sy at *
  go_enter Try.func84, Try.ntmps84
  go_wp2_with (first
    | (go_at_call 66; go_must ((with_reducible refine (HK.out _ hb0).mono ?_); rintro e w1 ⟨rfl, hb1⟩; obtain ⟨⟨c0, c1, c2⟩, ⟨d0, d1, d2⟩, hr1⟩ := HB.out _ hb1; have hbW1 := hb0.trans (hb1.mono hb0.size); clear a0 a1 a2 b0 b1 b2 hr0))
    | (go_at_call 73; go_must (
        (with_reducible refine (HPL.out _ hbW1).mono ?_)
        rintro e w6 h6
        obtain ⟨s6, p6, n6, c6, q6, m6, d6, er6, rfl⟩ := h6.form
        have H6 := hide_ h6
        have hr6 := (h6.2.block _ (lt_of_heap hr1)).trans hr1))
    | ((with_reducible apply wpList_store_blk); (with_reducible rfl); (with_reducible rfl); rfl; assumption; rfl; kernel_rfl; rfl; kernel_rfl))
  refine ret_ct rfl _ 32 _ _ rfl (setRow_heap _ _ _ _ _ _ hr6) Try.underlying32 rfl (by kernel_rfl) rfl ?_
  exact H6.out.stored hbW1 (lt_of_heap hr1) (by omega)
end Go.Proofs.Ytcibbnphkpaifaa

namespace Go.Proofs.Ytcibbnphkpaifaa
open Go.RowKit
set_option linter.unusedVariables false
set_option maxRecDepth 100000
set_option maxHeartbeats 6400000 in
theorem rsub_any (va vb : Value) (x y : Rat) (w : World) (hx : RV w va x) (hy : RV w vb y) :
    Calls Try.prog 47 #[va, vb] w (ResR w (x - y)) := by
  have HK := hide_ (fun W (h : Below w.heap.size w W) => checks_ok va vb x y W (hx.below h) (hy.below h))
  have HTU := hide_ (fun W (h : Below w.heap.size w W) => turned_any vb y W (hy.below h))
  have HPL := hide_ (fun W vc (h : Below w.heap.size w W) (hc : RV W vc (-y)) => plus_any va vc x (-y) W (hx.below h) hc)
  rw [← Rat.sub_eq_add_neg] at HPL
  obtain ⟨fx, p, c, q, d, rfl, hp, hq, hc, hd⟩ := hx
  obtain ⟨fy, p', c', q', d', rfl, hp', hq', hc', hd'⟩ := hy
  have HB := hide_ (boxes3 w _ _ (rneg x) p (rn x).length c q (rd x).length d (rneg y) p' (rn y).length c' q' (rd y).length d' rfl rfl)
  unfold boxR at HB
  have hb0 : Below w.heap.size w (((w.alloc (.cells #[.bool (rneg x), .slice p (rn x).length c, .slice q (rd x).length d] 32)).alloc (.cells #[.bool (rneg y), .slice p' (rn y).length c', .slice q' (rd y).length d'] 32)).alloc (.cells #[.bool false, .slice none 0 0, .slice none 0 0] 32)) := ((below_alloc _ _).alloc (by simp) _).alloc (by simp; omega) _
  obtain ⟨⟨a0, a1, a2⟩, ⟨b0, b1, b2⟩, hr0⟩ := HB.out _ (Below.refl _ _)
  clear hp hq hp' hq' hc hd hc' hd' fx fy
  generalize (rn x).length = l1 at *
  generalize (rd x).length = l2 at *
  generalize (rn y).length = l3 at *
  generalize (rd y).length = l4 at *
  generalize rneg x = sx at *
  generalize rneg y = sy at *
  have hne0 : w.heap.size ≠ w.heap.size + 1 + 1 := by omega
  have hne1 : w.heap.size + 1 ≠ w.heap.size + 1 + 1 := by omega
  go_enter Try.func47, Try.ntmps47
  go_wp2_with (go_at_call 66; go_must ((with_reducible refine (HK.out _ hb0).mono ?_); rintro e w1 ⟨rfl, hb1⟩; obtain ⟨⟨c0, c1, c2⟩, ⟨d0, d1, d2⟩, hr1⟩ := HB.out _ hb1; have HB1 := hide_ (fun W (h : Below w1.heap.size w1 W) => HB.out W (hb1.trans (h.mono hb1.size))); have hbW1 := hb0.trans (hb1.mono hb0.size); have hsz1 := lt_of_heap hr1; clear a0 a1 a2 b0 b1 b2 hr0 hb1 hb0 HB HK))
  have hw1 : Below w1.heap.size w1 w1.drew := (Below.refl _ _).drew
  go_region_held3 (fun w' => w'.cell? ⟨w.heap.size, 0, none⟩ = some (.bool sx) ∧ w'.cell? ⟨w.heap.size, 1, none⟩ = some (.slice p l1 c) ∧ w'.cell? ⟨w.heap.size, 2, none⟩ = some (.slice q l2 d) ∧ w'.cell? ⟨w.heap.size + 1, 0, none⟩ = some (.bool sy) ∧ w'.cell? ⟨w.heap.size + 1, 1, none⟩ = some (.slice p' l3 c') ∧ w'.cell? ⟨w.heap.size + 1, 2, none⟩ = some (.slice q' l4 d'))
    (first | (obtain ⟨⟨k0, k1, k2⟩, ⟨k3, k4, k5⟩, _⟩ := HB1.out w4 hb4'; with_reducible exact ⟨(keep_set3 hne0).trans k0, (keep_set3 hne0).trans k1, (keep_set3 hne0).trans k2, (keep_set3 hne1).trans k3, (keep_set3 hne1).trans k4, (keep_set3 hne1).trans k5⟩) | (obtain ⟨⟨k0, k1, k2⟩, ⟨k3, k4, k5⟩, _⟩ := HB1.out _ (by assumption); with_reducible exact ⟨k0, k1, k2, k3, k4, k5⟩) | go_keep)
    ((first
      | (go_at_call 78; go_must (
          (with_reducible refine (HTU.out _ (hbW1.trans (hw1.mono hbW1.size))).mono ?_)
          rintro e w2 ⟨⟨s2, p2, n2, c2', q2, m2, d2', rfl, hv2⟩, hb2⟩
          have hb2' : Below w1.heap.size w1 w2 := hw1.trans (hb2.mono hw1.size)
          obtain ⟨_, _, hr2⟩ := HB1.out _ hb2'))
      | (go_at_call 73; go_must (
          (with_reducible refine (HPL.out _ _ (hbW1.trans (hb2'.mono hbW1.size)) hv2).mono ?_)
          rintro e w4 h4
          obtain ⟨s4, p4, n4, c4, q4, m4, d4, er4, rfl⟩ := h4.form
          have H4 := hide_ h4
          have hr4 := (h4.2.block _ (lt_of_heap hr2)).trans hr2
          have hb4' : Below w1.heap.size w1 w4 := hb2'.trans (h4.2.mono hb2'.size)
          obtain ⟨t0, t1, t2⟩ := cells_three hr4
          obtain ⟨t3, t4, t5⟩ := free_three hr4))))
  go_wp2
  rw [set3_row hr4]
  refine ret_ct rfl _ 32 _ _ rfl (setRow_heap _ _ _ _ _ _ hr4) Try.underlying32 rfl (by kernel_rfl) rfl ?_
  exact H4.out.stored (hbW1.trans (hb2'.mono hbW1.size)) (lt_of_heap hr2) (by omega)
/-! ### Compare -/
def cmpQ (x y : Rat) : Int := if x < y then -1 else if y < x then 1 else 0
theorem cmp_pp (x y : Rat) (hx : rneg x = false) (hy : rneg y = false) : cmpN (x.num.natAbs * y.den) (y.num.natAbs * x.den) = cmpQ x y := by
  have e1 := sgn_rn x
  have e2 := sgn_rn y
  rw [hx] at e1
  rw [hy] at e2
  simp only [sgnQ, Bool.false_eq_true, if_false] at e1 e2
  unfold cmpN cmpQ
  have h1 : (x < y) ↔ x.num.natAbs * y.den < y.num.natAbs * x.den := by
    rw [Rat.lt_iff, ← e1, ← e2, ← Int.natCast_mul, ← Int.natCast_mul, Int.ofNat_lt, e1, e2]
  have h2 : (y < x) ↔ y.num.natAbs * x.den < x.num.natAbs * y.den := by
    rw [Rat.lt_iff, ← e1, ← e2, ← Int.natCast_mul, ← Int.natCast_mul, Int.ofNat_lt, e1, e2]
  simp only [h1, h2]
end Go.Proofs.Ytcibbnphkpaifaa

namespace Go.Proofs.Ytcibbnphkpaifaa
open Go.RowKit
set_option linter.unusedVariables false
set_option maxRecDepth 100000
theorem cmp_nn (x y : Rat) (hx : rneg x = true) (hy : rneg y = true) : cmpN (y.num.natAbs * x.den) (x.num.natAbs * y.den) = cmpQ x y := by
  have e1 := sgn_rn x
  have e2 := sgn_rn y
  rw [hx] at e1
  rw [hy] at e2
  simp only [sgnQ, if_true] at e1 e2
  unfold cmpN cmpQ
  have h1 : (x < y) ↔ y.num.natAbs * x.den < x.num.natAbs * y.den := by
    rw [Rat.lt_iff, ← e1, ← e2, Int.neg_mul, Int.neg_mul, ← Int.natCast_mul, ← Int.natCast_mul, Int.neg_lt_neg_iff, Int.ofNat_lt, e1, e2]
  have h2 : (y < x) ↔ x.num.natAbs * y.den < y.num.natAbs * x.den := by
    rw [Rat.lt_iff, ← e1, ← e2, Int.neg_mul, Int.neg_mul, ← Int.natCast_mul, ← Int.natCast_mul, Int.neg_lt_neg_iff, Int.ofNat_lt, e1, e2]
  simp only [h1, h2]
theorem cmp_np (x y : Rat) (hx : rneg x = true) (hy : rneg y = false) : cmpQ x y = -1 := by
  have h1 : x.num < 0 := of_decide_eq_true hx
  have h2 : ¬ y.num < 0 := of_decide_eq_false hy
  have h : x < y := by
    have a : ¬ 0 ≤ x := fun h => by have := Rat.num_nonneg.2 h; omega
    have b : 0 ≤ y := Rat.num_nonneg.1 (by omega)
    grind
  unfold cmpQ
  rw [if_pos h]
theorem cmp_pn (x y : Rat) (hx : rneg x = false) (hy : rneg y = true) : cmpQ x y = 1 := by
  have h1 : y.num < 0 := of_decide_eq_true hy
  have h2 : ¬ x.num < 0 := of_decide_eq_false hx
  have a : ¬ 0 ≤ y := fun h => by have := Rat.num_nonneg.2 h; omega
  have b : 0 ≤ x := Rat.num_nonneg.1 (by omega)
  unfold cmpQ
  rw [if_neg (by grind), if_pos (by grind)]
theorem ncmp_any (X Y : Nat) (W : World) (p q : Option Addr) (c d b1 b2 : Nat) (hX : (wd X).length ≤ 4096) (hY : (wd Y).length ≤ 4096) (h1 : WO W b1 (.slice p (wd X).length c) (wd X)) (h2 : WO W b2 (.slice q (wd Y).length d) (wd Y)) :
    Calls Try.prog 68 #[.slice p (wd X).length c, .slice q (wd Y).length d] W fun e w' => e = .returned (.int .i64 (cmpN X Y)) ∧ ∃ k, w' = W.drewN k := by
  have h := compare_any p q _ _ c d (wd X) (wd Y) W rfl rfl h1.wl h2.wl h1.cap h2.cap (by omega) (by omega) (wd_dig X) (wd_dig Y)
  rw [val_wd, val_wd] at h
  exact h
set_option maxHeartbeats 6400000 in
theorem rcompare_any (va vb : Value) (x y : Rat) (w : World) (hx : RV w va x) (hy : RV w vb y) :
    Calls Try.prog 34 #[va, vb] w fun e w' => e = .returned (.tuple #[.int .i64 (cmpQ x y), .int .i64 0]) ∧ Below w.heap.size w w' := by
  have HK := hide_ (fun W (h : Below w.heap.size w W) => checks_ok va vb x y W (hx.below h) (hy.below h))
  obtain ⟨fx, p, c, q, d, rfl, hp, hq, hc, hd⟩ := hx
  obtain ⟨fy, p', c', q', d', rfl, hp', hq', hc', hd'⟩ := hy
  have hl1 := wd_len_mul x.num.natAbs y.den
  have hl2 := wd_len_mul y.num.natAbs x.den
  unfold Fits rn rd at fx fy
  unfold rn at hp hp' hc hc'
  unfold rd at hq hq' hd hd'
  unfold rn rd at HK ⊢
  have HT1 := hide_ (fun W (h : Below w.heap.size w W) => times_any p q' _ _ c d' x.num.natAbs y.den W rfl rfl (hp.below h) (hq'.below h) fx.1 fy.2)
  have HT2 := hide_ (fun W (h : Below w.heap.size w W) => times_any p' q _ _ c' d y.num.natAbs x.den W rfl rfl (hp'.below h) (hq.below h) fy.1 fx.2)
  have HC1 := hide_ (fun W p1 p2 c1 c2 b1 b2 => ncmp_any (x.num.natAbs * y.den) (y.num.natAbs * x.den) W p1 p2 c1 c2 b1 b2 (by omega) (by omega))
  have HC2 := hide_ (fun W p1 p2 c1 c2 b1 b2 => ncmp_any (y.num.natAbs * x.den) (x.num.natAbs * y.den) W p1 p2 c1 c2 b1 b2 (by omega) (by omega))
  have HB := hide_ (boxes2 w (rneg x) p (wd x.num.natAbs).length c q (wd x.den).length d (rneg y) p' (wd y.num.natAbs).length c' q' (wd y.den).length d')
  unfold boxR at HB
  have hb0 : Below w.heap.size w ((w.alloc (.cells #[.bool (rneg x), .slice p (wd x.num.natAbs).length c, .slice q (wd x.den).length d] 32)).alloc (.cells #[.bool (rneg y), .slice p' (wd y.num.natAbs).length c', .slice q' (wd y.den).length d'] 32)) := (below_alloc _ _).alloc (by simp) _
  obtain ⟨⟨a0, a1, a2⟩, ⟨b0, b1, b2⟩⟩ := HB.out _ (Below.refl _ _)
  clear hp hq hp' hq' hc hd hc' hd' fx fy hl1 hl2
  have tok : True := trivial
  have HPP := hide_ (cmp_pp x y)
  have HNN := hide_ (cmp_nn x y)
  have HPN := hide_ (cmp_pn x y)
  have HNP := hide_ (cmp_np x y)
  generalize cmpQ x y = R at *
  generalize x.num.natAbs * y.den = X at *
  generalize y.num.natAbs * x.den = Y at *
  generalize rneg x = sx at *
  generalize rneg y = sy at *
  go_enter Try.func34, Try.ntmps34
  go_wp2_with (first
    | (go_at_call 66; go_must ((with_reducible refine (HK.out _ hb0).mono ?_); rintro e w1 ⟨rfl, hb1⟩; obtain ⟨⟨c0, c1, c2⟩, ⟨d0, d1, d2⟩⟩ := HB.out _ hb1; have HB1 := hide_ (fun W (h : Below w1.heap.size w1 W) => HB.out W (hb1.trans (h.mono hb1.size))); have hbW1 := hb0.trans (hb1.mono hb0.size); clear a0 a1 a2 b0 b1 b2 hb1 hb0 HB HK)))
  have hw1 : Below w1.heap.size w1 w1.drew := (Below.refl _ _).drew
  go_region_held3 (fun w' => w'.cell? ⟨w.heap.size, 0, none⟩ = some (.bool sx) ∧ w'.cell? ⟨w.heap.size, 1, none⟩ = some (.slice p (wd x.num.natAbs).length c) ∧ w'.cell? ⟨w.heap.size, 2, none⟩ = some (.slice q (wd x.den).length d) ∧ w'.cell? ⟨w.heap.size + 1, 0, none⟩ = some (.bool sy) ∧ w'.cell? ⟨w.heap.size + 1, 1, none⟩ = some (.slice p' (wd y.num.natAbs).length c') ∧ w'.cell? ⟨w.heap.size + 1, 2, none⟩ = some (.slice q' (wd y.den).length d'))
      (first | (obtain ⟨⟨k0, k1, k2⟩, ⟨k3, k4, k5⟩⟩ := HB1.out _ (by assumption); with_reducible exact ⟨k0, k1, k2, k3, k4, k5⟩) | go_keep)
      ((first
        | (go_at_call 67; have _t := tok; go_must (
            (with_reducible refine (HT1.out _ (hbW1.trans (hw1.mono hbW1.size))).mono ?_)
            rintro e w2 ⟨⟨v1, rfl, ho1⟩, hb2⟩
            obtain ⟨p1, c1', rfl⟩ := WO.slice ho1
            have hb2' : Below w1.heap.size w1 w2 := hw1.trans (hb2.mono hw1.size)
            clear tok
            obtain ⟨⟨f0, f1, f2⟩, ⟨f3, f4, f5⟩⟩ := HB1.out _ hb2'))
        | (go_at_call 67; go_must (
            (with_reducible refine (HT2.out _ (hbW1.trans (hb2'.mono hbW1.size))).mono ?_)
            rintro e w3 ⟨⟨v2, rfl, ho2⟩, hb3⟩
            obtain ⟨p2, c2', rfl⟩ := WO.slice ho2
            have hb3' : Below w1.heap.size w1 w3 := hb2'.trans (hb3.mono hb2'.size)
            have ho1' := ho1.below hb3
            obtain ⟨⟨g0, g1, g2⟩, ⟨g3, g4, g5⟩⟩ := HB1.out _ hb3'))))
  all_goals (try clear HK)
  cases sx <;> cases sy
  · have hR := HPP.out rfl rfl
    go_wp2_with (go_at_call 68; go_must ((with_reducible refine (HC1.out _ _ _ _ _ _ _ ho1' ho2).mono ?_); rintro e w4 ⟨rfl, k, rfl⟩))
    go_ret2
    exact ⟨by simp, below_drewN (hbW1.trans (hb3'.mono hbW1.size)) _⟩
  · have hR := HPN.out rfl rfl
    subst hR
    go_wp2
    go_ret2
    exact ⟨by simp, hbW1.trans (hb3'.mono hbW1.size)⟩
  · have hR := HNP.out rfl rfl
    subst hR
    go_wp2
    go_ret2
    exact ⟨by simp, hbW1.trans (hb3'.mono hbW1.size)⟩
  · have hR := HNN.out rfl rfl
    go_wp2_with (go_at_call 68; go_must ((with_reducible refine (HC2.out _ _ _ _ _ _ _ ho2 ho1').mono ?_); rintro e w4 ⟨rfl, k, rfl⟩))
    go_ret2
    exact ⟨by simp, below_drewN (hbW1.trans (hb3'.mono hbW1.size)) _⟩
end Go.Proofs.Ytcibbnphkpaifaa

namespace Go.Proofs.Ytcibbnphkpaifaa
open Go.RowKit
set_option linter.unusedVariables false
set_option maxRecDepth 100000
set_option maxHeartbeats 3200000 in
theorem size_any (n : Int) (w : World) (h1 : -9223372036854775808 ≤ n) (h2 : n < 9223372036854775808) :
    Calls Try.prog 88 #[.int .i64 n] w fun e w' => (∃ v, e = .returned v ∧ WO w' w.heap.size v (wd n.natAbs)) ∧ Below w.heap.size w w' := by
  have HO := hide_ (of_any n.natAbs w (by omega))
  by_cases hn : n < 0
  · have d1 : decide (n < 0) = true := decide_eq_true hn
    have e1 : IntKind.u64.wrap n = ((18446744073709551616 - n.natAbs : Nat) : Int) := by rw [w64]; omega
    have e2 : IntKind.u64.wrap (-((18446744073709551616 - n.natAbs : Nat) : Int)) = (n.natAbs : Int) := by rw [w64]; omega
    have e3 : IntKind.u64.wrap (0 - ((18446744073709551616 - n.natAbs : Nat) : Int)) = (n.natAbs : Int) := by rw [w64]; omega
    generalize 18446744073709551616 - n.natAbs = u at *
    generalize n.natAbs = N at *
    go_enter Try.func88, Try.ntmps88
    go_wp2_with (go_at_call 102; go_must ((with_reducible refine (HO.out).mono ?_); rintro e w2 ⟨⟨v, rfl, ho⟩, hb⟩))
    go_ret
    exact ⟨⟨_, rfl, ho⟩, hb⟩
  · have d1 : decide (n < 0) = false := decide_eq_false hn
    have e1 : IntKind.u64.wrap n = (n.natAbs : Int) := by rw [w64]; omega
    generalize n.natAbs = N at *
    go_enter Try.func88, Try.ntmps88
    go_wp2_with (go_at_call 102; go_must ((with_reducible refine (HO.out).mono ?_); rintro e w2 ⟨⟨v, rfl, ho⟩, hb⟩))
    go_ret
    exact ⟨⟨_, rfl, ho⟩, hb⟩
theorem small_mk (n d : Int) (hd : d ≠ 0) : mkRat (sgnQ (!(decide (n < 0) == decide (d < 0))) n.natAbs) d.natAbs = (n : Rat) / (d : Rat) := by
  rw [← Rat.divInt_eq_div]
  rcases Int.lt_or_le d 0 with h | h
  · have e : d = -(d.natAbs : Int) := by omega
    conv => rhs; rw [e, Rat.divInt_neg', Rat.divInt_ofNat]
    congr 1
    rw [decide_eq_true h]
    unfold sgnQ
    by_cases hn : n < 0
    · rw [decide_eq_true hn]; simp; omega
    · rw [decide_eq_false hn]; simp; omega
  · have e : d = (d.natAbs : Int) := by omega
    have h0 : ¬ d < 0 := by omega
    rw [decide_eq_false h0]
    conv => rhs; rw [e, Rat.divInt_ofNat]
    congr 1
    unfold sgnQ
    by_cases hn : n < 0
    · rw [decide_eq_true hn]; simp; omega
    · rw [decide_eq_false hn]; simp; omega
theorem len_i64 (n : Int) (h1 : -9223372036854775808 ≤ n) (h2 : n < 9223372036854775808) : (wd n.natAbs).length ≤ 2 := by
  have h : n.natAbs < 18446744073709551616 := by omega
  rw [wd_len_le]
  have e : BB ^ 2 = 18446744073709551616 := by rw [BB_eq]
  omega
set_option maxHeartbeats 6400000 in
theorem rsmall_any (n d : Int) (w : World) (h1 : -9223372036854775808 ≤ n) (h2 : n < 9223372036854775808) (g1 : -9223372036854775808 ≤ d) (g2 : d < 9223372036854775808) (hd : d ≠ 0) :
    Calls Try.prog 57 #[.int .i64 n, .int .i64 d] w (ResR w ((n : Rat) / (d : Rat))) := by
  have l1 := len_i64 n h1 h2
  have l2 := len_i64 d g1 g2
  have hdp : 0 < d.natAbs := by omega
  have HT1 := hide_ (fun W => size_any n W h1 h2)
  have HT2 := hide_ (fun W => size_any d W g1 g2)
  have HLO := hide_ (fun W p1 c1 q1 d1 b1 b2 (h1 : WO W b1 (.slice p1 (wd n.natAbs).length c1) (wd n.natAbs)) (h2 : WO W b2 (.slice q1 (wd d.natAbs).length d1) (wd d.natAbs)) =>
    lowest_any p1 q1 _ _ c1 d1 (!(decide (n < 0) == decide (d < 0))) n.natAbs d.natAbs W rfl rfl h1.wl h2.wl h1.cap h2.cap (by omega) (by omega) hdp)
  rw [small_mk n d hd] at HLO
  have dz : decide (d = 0) = false := decide_eq_false hd
  have bz : (d == 0) = false := beq_eq_false_iff_ne.2 hd
  generalize (n : Rat) / (d : Rat) = x at *
  generalize n.natAbs = N at *
  generalize d.natAbs = D at *
  have hb0 : Below w.heap.size w (w.alloc (.cells #[.bool false, .slice none 0 0, .slice none 0 0] 32)) := below_alloc _ _
  have hr0 : (w.alloc (.cells #[.bool false, .slice none 0 0, .slice none 0 0] 32)).heap[w.heap.size]? = some (.cells #[.bool false, .slice none 0 0, .slice none 0 0] 32) := heap_alloc_last _ _
  have tok : True := trivial
  go_enter Try.func57, Try.ntmps57
  go_wp2_with (first
    | (go_at_call 88; have _t := tok; go_must (
        (with_reducible refine (HT1.out _).mono ?_)
        rintro e w2 ⟨⟨v2, rfl, ho2⟩, hb2⟩
        obtain ⟨p2, c2', rfl⟩ := WO.slice ho2
        have hb2' := hb0.trans (hb2.mono hb0.size)
        have hr2 := (hb2.block _ (lt_of_heap hr0)).trans hr0
        clear tok hr0))
    | (go_at_call 88; go_must (
        (with_reducible refine (HT2.out _).mono ?_)
        rintro e w3 ⟨⟨v3, rfl, ho3⟩, hb3⟩
        obtain ⟨p3, c3', rfl⟩ := WO.slice ho3
        have hb3' := hb2'.trans (hb3.mono hb2'.size)
        have hr3 := (hb3.block _ (lt_of_heap hr2)).trans hr2))
    | (go_at_call 87; go_must (
        (with_reducible refine (HLO.out _ _ _ _ _ _ _ (ho2.below hb3) ho3).mono ?_)
        rintro e w4 h4
        obtain ⟨s4, p4, n4, c4, q4, m4, d4, er4, rfl⟩ := h4.form
        have H4 := hide_ h4
        have hr4 := (h4.2.block _ (lt_of_heap hr3)).trans hr3
        have hs3 := lt_of_heap hr3
        clear hr2 hr3))
    | ((with_reducible apply wpList_store_blk); (with_reducible rfl); (with_reducible rfl); rfl; assumption; rfl; kernel_rfl; rfl; kernel_rfl))
  refine ret_ct rfl _ 32 _ _ rfl (setRow_heap _ _ _ _ _ _ hr4) Try.underlying32 rfl (by kernel_rfl) rfl ?_
  exact H4.out.stored hb3' hs3 (by omega)
end Go.Proofs.Ytcibbnphkpaifaa

namespace Go.Proofs.Ytcibbnphkpaifaa
open Go.RowKit
set_option linter.unusedVariables false
set_option maxRecDepth 100000
set_option maxHeartbeats 3200000 in
theorem words_any (p q : Option Addr) (n m c d : Nat) (A B : List Nat) (w : World) (hn : n = A.length) (hm : m = B.length) (hp : WL w p A) (hq : WL w q B) (hs : n ≤ 140737488355328) (ht : m ≤ 140737488355328) :
    Calls Try.prog 63 #[.slice p n c, .slice q m d] w fun e w' => e = .returned (.bool (decide (A = B))) ∧ ∃ k, w' = w.drewN k := by
  subst hn hm
  by_cases hl : A.length = B.length
  · have hne : ((A.length : Int) != (B.length : Int)) = false := by rw [hl]; simp
    have HP := hide_ (fun h => hp.some_ h)
    have HQ := hide_ (fun h => hq.some_ h)
    have HL := hide_ hl
    clear hp hq hl
    go_enter Try.func63, Try.ntmps63
    go_wp2
    go_loopw [13] (fun i wr => ∃ k : Nat, k ≤ A.length ∧ i = .int .i64 (k : Int) ∧ Hid (A.take k = B.take k) ∧ ∃ q, wr = w.drewN q) (fun i _ => (A.length : Int).toNat - (intOf i).toNat)
    case atStart => exact ⟨0, Nat.zero_le _, rfl, hide_ rfl, 0, rfl⟩
    case round =>
      obtain ⟨k, hk, rfl, HV, q', rfl⟩ := hrel
      by_cases h0 : k = A.length
      · subst h0
        have HE : Hid (decide (A = B) = true) := hide_ (decide_eq_true (by
          have h := HV.out
          rw [List.take_length, HL.out, List.take_length] at h
          exact h))
        have d1 : decide ((A.length : Int) < (A.length : Int)) = false := decide_eq_false (by omega)
        have hlt : ¬ (A.length : Int) < (A.length : Int) := by omega
        go_wp2
        go_ret
        exact ⟨by rw [HE.out]; simp, by first | exact ⟨0, rfl⟩ | exact ⟨_, rfl⟩ | exact ⟨_, World.drewN_drewN _ _ _⟩ | (simp only [World.drewN_drewN]; exact ⟨_, rfl⟩)⟩
      · have hk1 : k < A.length := by omega
        have hk2 : k < B.length := by have := HL.out; omega
        obtain ⟨g, o, rfl, hg, hce⟩ := HP.out (by omega)
        obtain ⟨g2, o2, rfl, hg2, hce2⟩ := HQ.out (by omega)
        have e0 := hce k hk1
        have e1 := hce2 k hk2
        have i4 : (0 : Int) ≤ (k : Int) := by omega
        have i5 : (k : Int) < (A.length : Int) := by omega
        have i6 : (k : Int) < (B.length : Int) := by omega
        have d1 : decide ((k : Int) < (A.length : Int)) = true := decide_eq_true i5
        have hw : IntKind.i64.wrap ((k : Int) + 1) = ((k + 1 : Nat) : Int) := by rw [IntWalk.i64_in _ (by omega)]; omega
        have HEQ := hide_ (fun (h : A.getD k 0 = B.getD k 0) => show A.take (k + 1) = B.take (k + 1) from by
          rw [take_succ_getD hk1, take_succ_getD hk2, h, HV.out])
        have HNE := hide_ (fun (h : A.getD k 0 ≠ B.getD k 0) => show decide (A = B) = false from decide_eq_false (fun e => h (by rw [e])))
        clear hce hce2
        generalize A.getD k 0 = x at *
        generalize B.getD k 0 = y at *
        by_cases h : x = y
        · subst h
          have b1 : ((x : Int) != (x : Int)) = false := by simp
          have HV2 := hide_ (HEQ.out rfl)
          clear HEQ HNE
          go_wp2
          go_quiet (fail)
          go_wp2
          exact ⟨⟨k + 1, by omega, rfl, HV2, by first | exact ⟨0, rfl⟩ | exact ⟨_, rfl⟩ | exact ⟨_, World.drewN_drewN _ _ _⟩ | (simp only [World.drewN_drewN]; exact ⟨_, rfl⟩)⟩, by simp [intOf] <;> omega⟩
        · have b1 : ((x : Int) != (y : Int)) = true := by simp; omega
          have HE := hide_ (HNE.out h)
          clear HEQ HNE
          go_wp2
          go_quiet (fail)
          go_wp2
          go_ret
          exact ⟨by rw [HE.out]; simp, by first | exact ⟨0, rfl⟩ | exact ⟨_, rfl⟩ | exact ⟨_, World.drewN_drewN _ _ _⟩ | (simp only [World.drewN_drewN]; exact ⟨_, rfl⟩)⟩
  · have hne : ((A.length : Int) != (B.length : Int)) = true := by simp; omega
    have HE := hide_ (show decide (A = B) = false from decide_eq_false (fun e => hl (by rw [e])))
    clear hp hq hl
    go_enter Try.func63, Try.ntmps63
    go_wp2
    go_ret
    exact ⟨by rw [HE.out]; simp, 0, rfl⟩
end Go.Proofs.Ytcibbnphkpaifaa

namespace Go.Proofs.Ytcibbnphkpaifaa
open Go.RowKit
set_option linter.unusedVariables false
set_option maxRecDepth 100000
def sameG (n1 : Bool) (A1 D1 : List Nat) (n2 : Bool) (A2 D2 : List Nat) : Bool := (n1 == n2) && (decide (A1 = A2) && decide (D1 = D2))
set_option maxHeartbeats 3200000 in
theorem rsame_any (va vb : Value) (n1 n2 : Bool) (A1 D1 A2 D2 : List Nat) (w : World) (hx : RG w va n1 A1 D1) (hy : RG w vb n2 A2 D2) :
    Calls Try.prog 28 #[va, vb] w fun e w' => e = .returned (.bool (sameG n1 A1 D1 n2 A2 D2)) ∧ Below w.heap.size w w' := by
  obtain ⟨p, c, q, d, rfl, hp, hq, hc, hd, _, _, lA, lD⟩ := hx
  obtain ⟨p', c', q', d', rfl, hp', hq', hc', hd', _, _, lA', lD'⟩ := hy
  have HW1 := hide_ (fun W (h : Below w.heap.size w W) => words_any p p' _ _ c c' A1 A2 W rfl rfl (hp.below h) (hp'.below h) (by omega) (by omega))
  have HW2 := hide_ (fun W (h : Below w.heap.size w W) => words_any q q' _ _ d d' D1 D2 W rfl rfl (hq.below h) (hq'.below h) (by omega) (by omega))
  have HB := hide_ (boxes2 w n1 p A1.length c q D1.length d n2 p' A2.length c' q' D2.length d')
  unfold boxR at HB
  have hb0 : Below w.heap.size w ((w.alloc (.cells #[.bool n1, .slice p A1.length c, .slice q D1.length d] 32)).alloc (.cells #[.bool n2, .slice p' A2.length c', .slice q' D2.length d'] 32)) := (below_alloc _ _).alloc (by simp) _
  obtain ⟨⟨a0, a1, a2⟩, ⟨b0, b1, b2⟩⟩ := HB.out _ (Below.refl _ _)
  clear hp hq hp' hq' hc hd hc' hd' lA lD lA' lD'
  unfold sameG
  generalize A1.length = k1 at *
  generalize A2.length = k2 at *
  generalize D1.length = k3 at *
  generalize D2.length = k4 at *
  generalize decide (A1 = A2) = bA at *
  generalize decide (D1 = D2) = bD at *
  have tok : True := trivial
  cases hn : (n1 == n2)
  · go_enter Try.func28, Try.ntmps28
    go_wp2
    go_ret
    exact ⟨by simp, hb0⟩
  · cases bA
    · go_enter Try.func28, Try.ntmps28
      go_wp2_with (first
        | (go_at_call 63; go_must ((with_reducible refine (HW1.out _ hb0).mono ?_); rintro e w1 ⟨rfl, k, rfl⟩)))
      go_ret
      exact ⟨by simp, below_drewN hb0 _⟩
    · go_enter Try.func28, Try.ntmps28
      go_wp2_with (first
        | (go_at_call 63; have _t := tok; go_must ((with_reducible refine (HW1.out _ hb0).mono ?_); rintro e w1 ⟨rfl, k, rfl⟩; have hb1 := below_drewN hb0 k; obtain ⟨⟨c0, c1, c2⟩, ⟨d0, d1, d2⟩⟩ := HB.out _ (below_drewN (Below.refl _ _) k); clear tok))
        | (go_at_call 63; go_must ((with_reducible refine (HW2.out _ hb1).mono ?_); rintro e w2 ⟨rfl, k2, rfl⟩)))
      go_ret
      exact ⟨by simp, below_drewN hb0 _⟩
theorem rat_ext {x y : Rat} (h1 : rneg x = rneg y) (h2 : rn x = rn y) (h3 : rd x = rd y) : x = y := by
  have e1 : x.num.natAbs = y.num.natAbs := by rw [← val_wd x.num.natAbs, ← val_wd y.num.natAbs]; exact congrArg val h2
  have e2 : x.den = y.den := by rw [← val_wd x.den, ← val_wd y.den]; exact congrArg val h3
  have e3 : x.num = y.num := by rw [← sgn_rn x, ← sgn_rn y, h1, e1]
  exact Rat.ext e3 e2
theorem same_rat (x y : Rat) : sameG (rneg x) (rn x) (rd x) (rneg y) (rn y) (rd y) = decide (x = y) := by
  unfold sameG
  by_cases h : x = y
  · subst h; simp
  · rw [decide_eq_false h]
    rcases hb : (rneg x == rneg y) && (decide (rn x = rn y) && decide (rd x = rd y)) with _ | _
    · rfl
    · simp only [Bool.and_eq_true, beq_iff_eq, decide_eq_true_eq] at hb
      exact absurd (rat_ext hb.1 hb.2.1 hb.2.2) h
theorem rsame_rat (va vb : Value) (x y : Rat) (w : World) (hx : RV w va x) (hy : RV w vb y) :
    Calls Try.prog 28 #[va, vb] w fun e w' => e = .returned (.bool (decide (x = y))) ∧ Below w.heap.size w w' := by
  rw [← same_rat]
  exact rsame_any va vb _ _ _ _ _ _ w hx.rg hy.rg
end Go.Proofs.Ytcibbnphkpaifaa

