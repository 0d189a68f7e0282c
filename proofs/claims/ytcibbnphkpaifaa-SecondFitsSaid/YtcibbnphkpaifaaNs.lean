/- nat.back. nat.guess: a quotient's word out of the first words, or one more. bits.Len32, bits.LeadingZeros32. Long division: what one round comes to. No program. nat.divide: where the first number is less, or the second has one word. nat.divide: long division. nat.DivMod, nat.Gcd. -/
import Derived.Test.YtcibbnphkpaifaaNk
namespace Go.Proofs.Ytcibbnphkpaifaa
open Go.RowKit
set_option linter.unusedVariables false
set_option maxRecDepth 100000
structure BackAt (U V X : List Nat) (i k c : Nat) : Prop where
  len : X.length = U.length
  dig : Dig X
  rest : ∀ j, j < i ∨ i + k ≤ j → X.getD j 0 = U.getD j 0
  car : c ≤ 1
  eq : val (seg X i k) + c * BB ^ k = val (seg U i k) + val (V.take k)
theorem BackAt.step {U V X : List Nat} {i k c u v z c' : Nat} (h : BackAt U V X i k c) (hk : i + k < U.length) (hu : U.getD (i + k) 0 = u) (hV : val (V.take (k + 1)) = val (V.take k) + BB ^ k * v) (hz : z < 4294967296) (hc' : c' ≤ 1) (he : z + c' * 4294967296 = c + u + v) : BackAt U V (X.set (i + k) z) i (k + 1) c' := by
  refine ⟨by rw [List.length_set]; exact h.len, h.dig.set _ _ hz, fun j hj => by rw [getD_set, if_neg (by omega)]; exact h.rest j (by omega), hc', ?_⟩
  rw [val_seg_set (by rw [h.len]; exact hk), val_seg_succ hk, hV, hu]
  have e1 := h.eq
  have e2 : BB ^ k * (z + c' * 4294967296) = BB ^ k * (c + u + v) := by rw [he]
  rw [Nat.mul_add, Nat.mul_add, Nat.mul_add, pow_carry, Nat.mul_comm (BB ^ k) c] at e2
  omega
set_option maxHeartbeats 3200000 in
theorem back_any (g i L cc c m d base N : Nat) (q0 : Option Addr) (U V : List Nat) (w : World) (hN : N = U.length) (hm : m = V.length) (hp : WO w base (.slice (some ⟨g, 0, none⟩) N cc) U) (hV : WL w q0 V) (ho : OffW q0 V (some g)) (hi : i + L ≤ N) (hs : N ≤ 100000) (dU : Dig U) (dV : Dig V) :
    Calls Try.prog 115 #[.slice (some ⟨g, i, none⟩) L c, .slice q0 m d] w fun e w' => ∃ X b, e = .returned (.tuple #[]) ∧ BackAt U V X i L b ∧ WO w' base (.slice (some ⟨g, 0, none⟩) N cc) X ∧ w.grownBy w' (some g) := by
  subst hN hm
  have HV := hide_ (fun W (h : w.grownBy W (some g)) => hV.keptW h ho)
  have HDU := hide_ dU
  have HDV := hide_ dV
  have H0 := hide_ hp
  clear hp hV ho dU dV
  go_enter Try.func115, Try.ntmps115
  go_wp2
  go_loopw [4, 8] (fun x j wr => ∃ k cr : Nat, k ≤ L ∧ j = .int .i64 k ∧ x = .int .u64 cr ∧ Hid (∃ X, BackAt U V X i k cr ∧ WO wr base (.slice (some ⟨g, 0, none⟩) U.length cc) X) ∧ Hid (w.grownBy wr (some g))) (fun _ j _ => L - (intOf j).toNat)
  case atStart => exact ⟨0, 0, by omega, rfl, rfl, hide_ ⟨U, ⟨rfl, HDU.out, fun _ _ => rfl, by omega, by simp [seg_zero, val_nil]⟩, H0.out⟩, hide_ (World.grownBy.refl _ _)⟩
  case round =>
    obtain ⟨k, cr, hk, rfl, rfl, HX, HG⟩ := hrel
    obtain ⟨X, hX, hO⟩ := HX.out
    have hXl := hX.len
    by_cases hlt : k < L
    · rw [← hXl] at hO
      obtain ⟨_, eg, hg1, hg2, hce, hfr⟩ := hO.blk (by omega)
      cases eg
      have e0 := hce (i + k) (by omega)
      have f0 := hfr (i + k)
      have hu := HDU.out.getD (i + k)
      rw [BB_eq] at hu
      rw [hX.rest (i + k) (by omega)] at e0
      have i4 : (0 : Int) ≤ (k : Int) := by omega
      have i5 : (k : Int) < (L : Int) := by omega
      have HS := hide_ (fun z => hO.set (i + k) z)
      have HLT := hide_ hlt
      have HXL := hide_ hXl
      have hcr := hX.car
      have HLX := hide_ hX
      have HIK : Hid (i + k < U.length) := hide_ (by omega)
      clear hce hfr hO hX
      by_cases hkV : k < V.length
      · obtain ⟨g2, o2, rfl, _, hce2⟩ := (HV.out _ HG.out).some_ (by omega)
        have e1 := hce2 k hkV
        have hv := HDV.out.getD k
        rw [BB_eq] at hv
        have j5 : (k : Int) < (V.length : Int) := by omega
        have HSTEP := hide_ (fun z c' h1 h2 h3 => HLX.out.step (u := U.getD (i + k) 0) (v := V.getD k 0) (z := z) (c' := c') HIK.out rfl (val_take_succ hkV) h1 h2 h3)
        clear hce2 hXl
        generalize U.getD (i + k) 0 = u at *
        generalize V.getD k 0 = v at *
        obtain ⟨s1, s2, z, c', q1, q2, q3, q4, q5, q6, q7, q8, q9⟩ := add_step cr u v hu hv hcr
        have HST := hide_ (HSTEP.out z c' q1 q2 q3)
        clear HSTEP q1 q2 q3
        go_wp2
        exact ⟨⟨k + 1, c', HLT.out, by simp, rfl, hide_ ⟨_, HST.out, by have h := (HS.out z).1; rwa [HXL.out] at h⟩, hide_ (grown_trans HG.out (HS.out z).2)⟩, by have := HLT.out; simp [intOf]; omega⟩
      · have j5 : ¬ (k : Int) < (V.length : Int) := by omega
        have hV0 : val (V.take (k + 1)) = val (V.take k) + BB ^ k * 0 := by rw [Nat.mul_zero, Nat.add_zero]; exact val_take_past (by omega)
        have HSTEP := hide_ (fun z c' h1 h2 h3 => HLX.out.step (u := U.getD (i + k) 0) (v := 0) (z := z) (c' := c') HIK.out rfl hV0 h1 h2 h3)
        clear hV0 hXl
        generalize U.getD (i + k) 0 = u at *
        obtain ⟨s1, z, c', q1, q2, q3, q4, q5, q6, q7⟩ := add_step0 cr u hu hcr
        have HST := hide_ (HSTEP.out z c' q1 q2 (by omega))
        clear HSTEP q1 q2 q3
        go_wp2
        exact ⟨⟨k + 1, c', HLT.out, by simp, rfl, hide_ ⟨_, HST.out, by have h := (HS.out z).1; rwa [HXL.out] at h⟩, hide_ (grown_trans HG.out (HS.out z).2)⟩, by have := HLT.out; simp [intOf]; omega⟩
    · have hkk : k = L := by omega
      subst hkk
      have hge : ¬ k < k := hlt
      have HXX := hide_ hX
      have HOO := hide_ hO
      clear hX hO hXl
      go_wp2
      refine bodyPost_end (results_none rfl _ _ _) rfl ?_
      exact ⟨X, cr, rfl, HXX.out, HOO.out, HG.out⟩
end Go.Proofs.Ytcibbnphkpaifaa

namespace Go.Proofs.Ytcibbnphkpaifaa
open Go.RowKit
set_option linter.unusedVariables false
set_option maxRecDepth 100000
theorem val_all {L : List Nat} {n : Nat} (h : L.length = n) : val (L.take n) = val L := by rw [List.take_of_length_le (by omega)]
theorem split2 {L : List Nat} {k : Nat} (h : L.length = k + 2) : val L = (L.getD (k + 1) 0 * BB + L.getD k 0) * BB ^ k + val (L.take k) := by
  rw [← val_all h, val_take_succ (by omega), val_take_succ (by omega), Nat.pow_succ, Nat.add_mul]
  have : BB ^ k * BB * L.getD (k + 1) 0 = L.getD (k + 1) 0 * BB * BB ^ k := by ac_rfl
  rw [this, Nat.mul_comm (BB ^ k) (L.getD k 0)]
  omega
theorem split3 {L : List Nat} {k : Nat} (h : L.length = k + 3) : val L = ((L.getD (k + 1) 0 + L.getD (k + 2) 0 * 4294967296) * BB + L.getD k 0) * BB ^ k + val (L.take k) := by
  rw [← val_all h, val_take_succ (by omega), val_take_succ (by omega), val_take_succ (by omega), Nat.pow_succ, Nat.pow_succ, Nat.pow_succ, Nat.add_mul, Nat.add_mul, Nat.add_mul, BB_eq]
  have e1 : 4294967296 ^ k * 4294967296 * 4294967296 * L.getD (k + 2) 0 = L.getD (k + 2) 0 * 4294967296 * 4294967296 * 4294967296 ^ k := by ac_rfl
  have e2 : 4294967296 ^ k * 4294967296 * L.getD (k + 1) 0 = L.getD (k + 1) 0 * 4294967296 * 4294967296 ^ k := by ac_rfl
  rw [e1, e2, Nat.mul_comm (4294967296 ^ k) (L.getD k 0)]
  omega
/-- What the loop keeps: top = q v1 + r, and q is not too small. -/
structure GuessAt (s v top v1 q r : Nat) : Prop where
  q64 : q < 18446744073709551616
  r32 : r < 4294967296
  eq : top = q * v1 + r
  ge : s < (q + 1) * v
theorem guess_start {s v top v1 v2 u2 b sl vl : Nat} (hs : s = (top * BB + u2) * b + sl) (hv : v = (v1 * BB + v2) * b + vl) (hsl : sl < b) (hu2 : u2 < BB) (h1 : 0 < v1) (h2 : v1 < 4294967296) (ht : top < 18446744073709551616) : GuessAt s v top v1 (top / v1) (top % v1) := by
  have hm := Nat.mod_lt top h1
  refine ⟨Nat.lt_of_le_of_lt (Nat.div_le_self _ _) ht, by omega, by rw [Nat.mul_comm]; exact (Nat.div_add_mod _ _).symm, ?_⟩
  rcases Nat.lt_or_ge s ((top / v1 + 1) * v) with h | h
  · exact h
  · have h3 := knuth_ge (q := top / v1 + 1) hs hv hsl hu2 h
    have h4 := Nat.div_add_mod top v1
    rw [Nat.add_mul, Nat.one_mul, Nat.mul_comm] at h3
    omega
theorem guess_cap {s v top v1 v2 u2 b sl vl : Nat} (hs : s = (top * BB + u2) * b + sl) (hv : v = (v1 * BB + v2) * b + vl) (hvl : vl < b) (hv2 : v2 < BB) (hsv : s < v * BB) : top < (v1 + 1) * BB := by
  rcases Nat.lt_or_ge top ((v1 + 1) * BB) with h | h
  · exact h
  · exfalso
    have h1 : (v1 + 1) * BB * (BB * b) ≤ top * (BB * b) := Nat.mul_le_mul_right _ h
    have h2 : top * (BB * b) ≤ s := by rw [hs, Nat.add_mul, ← Nat.mul_assoc]; omega
    have h3 : v < (v1 + 1) * (BB * b) := by
      rw [hv, Nat.add_mul, Nat.add_mul, Nat.one_mul, ← Nat.mul_assoc]
      have : (v2 + 1) * b ≤ BB * b := Nat.mul_le_mul_right _ hv2
      rw [Nat.add_mul, Nat.one_mul] at this
      omega
    have h4 : v * BB < (v1 + 1) * (BB * b) * BB := Nat.mul_lt_mul_of_pos_right h3 BB_pos
    rw [show (v1 + 1) * (BB * b) * BB = (v1 + 1) * BB * (BB * b) by ac_rfl] at h4
    omega
/-- What is told of the guessed word. -/
def Guessed (s v x : Nat) : Prop := x < 4294967296 ∧ s < (x + 1) * v ∧ x * v < s + v
theorem guess_end {s v top v1 v2 u2 b sl vl q r : Nat} (hs : s = (top * BB + u2) * b + sl) (hv : v = (v1 * BB + v2) * b + vl) (hvl : vl < b) (h1 : 0 < v1) (h : GuessAt s v top v1 q r) (hq : q < 4294967296) (ht : q * v2 ≤ r * 4294967296 + u2) : Guessed s v q :=
  ⟨hq, h.ge, knuth_near hs hv hvl h1 h.eq (by rw [BB_eq]; exact ht) (by rw [BB_eq]; exact hq)⟩
theorem guess_less {s v top v1 v2 u2 b sl vl q r : Nat} (hs : s = (top * BB + u2) * b + sl) (hv : v = (v1 * BB + v2) * b + vl) (hsl : sl < b) (hsv : s < v * BB) (h : GuessAt s v top v1 q r) (ht : 4294967296 ≤ q ∨ r * 4294967296 + u2 < q * v2) : s < q * v := by
  rcases ht with ht | ht
  · have : 4294967296 * v ≤ q * v := Nat.mul_le_mul_right _ ht
    rw [BB_eq, Nat.mul_comm] at hsv
    omega
  · exact knuth_big hs hv hsl h.eq (by rw [BB_eq]; exact ht)
theorem guess_next {s v top v1 q q' r : Nat} (h : GuessAt s v top v1 q r) (hq : q = q' + 1) (hl : s < q * v) : top = q' * v1 + (r + v1) ∧ s < (q' + 1) * v ∧ q' < 18446744073709551616 := by
  have h1 := h.eq
  have h2 := h.q64
  subst hq
  rw [Nat.add_mul, Nat.one_mul] at h1
  exact ⟨by omega, hl, by omega⟩
/-- The loop broken off: the rest is a word or more. -/
theorem guess_break {s v top v1 v2 u2 b sl vl q' r' : Nat} (hs : s = (top * BB + u2) * b + sl) (hv : v = (v1 * BB + v2) * b + vl) (hvl : vl < b) (h1 : 0 < v1) (hv2 : v2 < BB) (hsv : s < v * BB) (he : top = q' * v1 + r') (hge : s < (q' + 1) * v) (hr : 4294967296 ≤ r') : Guessed s v q' := by
  have hq : q' < 4294967296 := by
    rcases Nat.lt_or_ge q' 4294967296 with h | h
    · exact h
    · have h2 := guess_cap hs hv hvl hv2 hsv
      have h3 : 4294967296 * v1 ≤ q' * v1 := Nat.mul_le_mul_right _ h
      rw [Nat.add_mul, Nat.one_mul, BB_eq, Nat.mul_comm] at h2
      omega
  refine ⟨hq, hge, knuth_near hs hv hvl h1 he ?_ (by rw [BB_eq]; exact hq)⟩
  have h2 : q' * v2 ≤ 4294967296 * 4294967296 := Nat.mul_le_mul (by omega) (by rw [BB_eq] at hv2; omega)
  have h3 : 4294967296 * BB ≤ r' * BB := Nat.mul_le_mul_right _ hr
  rw [BB_eq] at h3 ⊢
  omega
theorem top_facts (a b : Nat) (ha : a < 4294967296) (hb : b < 4294967296) : ∃ t : Nat, t = b + a * 4294967296 ∧ t < 18446744073709551616 ∧ IntKind.u64.wrap (a : Int) = (a : Int) ∧ IntKind.u64.wrap (b : Int) = (b : Int) ∧ IntKind.u64.wrap ((a : Int) * 4294967296) = (a : Int) * 4294967296 ∧ bits BinOp.or IntKind.u64 ((a : Int) * 4294967296) (b : Int) = (t : Int) :=
  ⟨_, rfl, by omega, w64_id (by omega), w64_id (by omega), by simp only [w64]; omega, or_lo b a hb ha⟩
theorem quo_facts (t d : Nat) (hd : 0 < d) (hd2 : d < 4294967296) (ht : t < 18446744073709551616) : ∃ q r : Nat, q = t / d ∧ r = t % d ∧ IntKind.u64.wrap (d : Int) = (d : Int) ∧ ((d : Int) == 0) = false ∧ (t : Int).tdiv (d : Int) = (q : Int) ∧ (t : Int).tmod (d : Int) = (r : Int) ∧ IntKind.u64.wrap (q : Int) = (q : Int) ∧ IntKind.u64.wrap (r : Int) = (r : Int) := by
  have h1 : t / d < 18446744073709551616 := Nat.lt_of_le_of_lt (Nat.div_le_self _ _) ht
  have h2 := Nat.mod_lt t hd
  exact ⟨_, _, rfl, rfl, w64_id (by omega), beq_eq_false_iff_ne.2 (by omega), (Int.ofNat_tdiv _ _).symm, (Int.ofNat_tmod _ _).symm, w64_id h1, w64_id (by omega)⟩
theorem test_facts (q v2 r u2 : Nat) (hq : q < 4294967296) (hv : v2 < 4294967296) (hr : r < 4294967296) (hu : u2 < 4294967296) : ∃ m t : Nat, m = q * v2 ∧ t = u2 + r * 4294967296 ∧ IntKind.u64.wrap (v2 : Int) = (v2 : Int) ∧ IntKind.u64.wrap (u2 : Int) = (u2 : Int) ∧ IntKind.u64.wrap ((q : Int) * (v2 : Int)) = (m : Int) ∧ IntKind.u64.wrap ((r : Int) * 4294967296) = (r : Int) * 4294967296 ∧ bits BinOp.or IntKind.u64 ((r : Int) * 4294967296) (u2 : Int) = (t : Int) := by
  have h1 : q * v2 ≤ 4294967295 * 4294967295 := Nat.mul_le_mul (by omega) (by omega)
  have h2 : ((q : Int) * (v2 : Int)) = ((q * v2 : Nat) : Int) := by simp
  rw [h2]
  exact ⟨_, _, rfl, rfl, w64_id (by omega), w64_id (by omega), w64_id (by omega), by simp only [w64]; omega, or_lo u2 r hu hr⟩
set_option maxHeartbeats 12800000 in
theorem guess_any (p q0 : Option Addr) (n m c d : Nat) (S V : List Nat) (w : World) (hn : n = S.length) (hm : m = V.length) (hp : WL w p S) (hq : WL w q0 V) (hl : S.length = V.length + 1) (h2 : 2 ≤ V.length) (hs : m ≤ 100000) (dS : Dig S) (dV : Dig V) (htop : 0 < V.getD (V.length - 1) 0) (hsv : val S < val V * BB) :
    Calls Try.prog 113 #[.slice p n c, .slice q0 m d] w fun e w' => ∃ x : Nat, e = .returned (.int .u64 x) ∧ Guessed (val S) (val V) x ∧ ∃ k, w' = w.drewN k := by
  subst hn hm
  obtain ⟨k, hk⟩ : ∃ k, V.length = k + 2 := ⟨V.length - 2, by omega⟩
  obtain ⟨k1, hk1⟩ : ∃ k1, k1 = k + 1 := ⟨_, rfl⟩
  obtain ⟨g, o, rfl, hg, hcS⟩ := hp.some_ (by omega)
  obtain ⟨g', o', rfl, hg', hcV⟩ := hq.some_ (by omega)
  have hS := split3 (L := S) (k := k) (by omega)
  have hV := split2 (L := V) (k := k) hk
  have hsl := val_lt (dS.take k)
  rw [List.length_take, Nat.min_eq_left (by omega)] at hsl
  have hvl := val_lt (dV.take k)
  rw [List.length_take, Nat.min_eq_left (by omega)] at hvl
  obtain ⟨nn, hnn⟩ : ∃ nn, nn = V.length := ⟨_, rfl⟩
  have e0 := hcS nn (by omega)
  have e1 := hcS k1 (by omega)
  have e2 := hcS k (by omega)
  have e3 := hcV k1 (by omega)
  have e4 := hcV k (by omega)
  have b0 := dS.getD nn
  have b1 := dS.getD k1
  have b2 := dS.getD k
  have b3 := dV.getD k1
  have b4 := dV.getD k
  rw [show V.length - 1 = k1 by omega] at htop
  rw [show k + 2 = nn by omega, show k + 1 = k1 by omega] at hS
  rw [show k + 1 = k1 by omega] at hV
  have hw1 : IntKind.i64.wrap ((nn : Int) - 1) = (k1 : Int) := by rw [IntWalk.i64_in _ (by omega)]; omega
  have hw2 : IntKind.i64.wrap ((nn : Int) - 2) = (k : Int) := by rw [IntWalk.i64_in _ (by omega)]; omega
  have i1 : (0 : Int) ≤ (nn : Int) := by omega
  have i2 : (nn : Int) < (S.length : Int) := by omega
  have i3 : (0 : Int) ≤ (k1 : Int) := by omega
  have i4 : (k1 : Int) < (S.length : Int) := by omega
  have i5 : (k1 : Int) < (nn : Int) := by omega
  have i6 : (0 : Int) ≤ (k : Int) := by omega
  have i7 : (k : Int) < (S.length : Int) := by omega
  have i8 : (k : Int) < (nn : Int) := by omega
  rw [← hnn]
  have HB4 := hide_ b4
  have HB2 := hide_ b2
  rw [BB_eq] at b0 b1 b2 b3 b4
  clear hp hq hcS hcV hk hk1 dS dV h2 hl hs hnn
  generalize S.getD nn 0 = u0 at *
  generalize S.getD k1 0 = u1 at *
  generalize S.getD k 0 = u2 at *
  generalize V.getD k1 0 = v1 at *
  generalize V.getD k 0 = v2 at *
  generalize val (S.take k) = sl at *
  generalize val (V.take k) = vl at *
  generalize BB ^ k = bk at *
  generalize val S = s at *
  generalize val V = v at *
  generalize S.length = sn at *
  obtain ⟨top, ht, ht64, f1, f2, f3, f4⟩ := top_facts u0 u1 b0 b1
  rw [← ht] at hS
  obtain ⟨q, r, hq, hr, f5, f6, f7, f8, f9, f10⟩ := quo_facts top v1 htop b3 ht64
  have HS := hide_ hS
  have HV := hide_ hV
  have HSL := hide_ hsl
  have HVL := hide_ hvl
  have HSV := hide_ hsv
  have HT1 := hide_ htop
  have HG0 := hide_ (guess_start hS hV hsl HB2.out htop b3 ht64)
  rw [← hq, ← hr] at HG0
  have hv0 : ¬ v1 = 0 := by omega
  have HB0 := hide_ b2
  have HB1 := hide_ b3
  have HB3 := hide_ b4
  clear hS hV hsl hvl hsv ht ht64 hq hr b0 b1 htop b2 b3 b4 hg hg'
  go_enter Try.func113, Try.ntmps113
  go_wp2
  go_quiet (fail)
  go_wp2
  go_quiet (fail)
  go_wp2
  go_loopw [7, 8] (fun x y wr => ∃ q r : Nat, x = .int .u64 q ∧ y = .int .u64 r ∧ Hid (GuessAt s v top v1 q r) ∧ ∃ k, wr = w.drewN k) (fun x _ _ => (intOf x).toNat)
  case atStart => exact ⟨q, r, rfl, rfl, HG0, by first | exact ⟨0, rfl⟩ | exact ⟨_, rfl⟩ | exact ⟨_, World.drewN_drewN _ _ _⟩ | (simp only [World.drewN_drewN]; exact ⟨_, rfl⟩)⟩
  case round =>
    obtain ⟨q, r, rfl, rfl, HG, kk, rfl⟩ := hrel
    have hq64 := HG.out.q64
    have hr32 := HG.out.r32
    have g1 := w64_id (n := q) hq64
    have hb2 := HB0.out
    have hb3 := HB1.out
    have hb4 := HB3.out
    have g5 := w64_id (n := v1) (by omega)
    by_cases hbig : 4294967296 ≤ q
    · obtain ⟨qd, g2, hqd⟩ : ∃ qd : Nat, (q : Int) / 4294967296 = (qd : Int) ∧ 1 ≤ qd := ⟨q / 4294967296, by omega, by omega⟩
      have g3 : ((qd : Int) != 0) = true := by simp; omega
      have g4 : ¬ qd = 0 := by omega
      have HL := hide_ (guess_less HS.out HV.out HSL.out HSV.out HG.out (.inl hbig))
      obtain ⟨q', hq'⟩ : ∃ q', q = q' + 1 := ⟨q - 1, by omega⟩
      have HN := hide_ (guess_next HG.out hq' HL.out)
      have g6 : IntKind.u64.wrap ((q : Int) - 1) = (q' : Int) := by rw [hq', IntWalk.u64_in _ (by omega)]; omega
      obtain ⟨r', hr'⟩ : ∃ r', r' = r + v1 := ⟨_, rfl⟩
      have g7 : IntKind.u64.wrap ((r : Int) + (v1 : Int)) = (r' : Int) := by rw [hr', IntWalk.u64_in _ (by omega)]; omega
      have HQ' := hide_ hq'
      rw [← hr'] at HN
      by_cases hbr : 4294967296 ≤ r'
      · obtain ⟨rd, g8, hrd⟩ : ∃ rd : Nat, (r' : Int) / 4294967296 = (rd : Int) ∧ 1 ≤ rd := ⟨r' / 4294967296, by omega, by omega⟩
        have g9 : ((rd : Int) != 0) = true := by simp; omega
        have g10 : ¬ rd = 0 := by omega
        have HR := hide_ (guess_break HS.out HV.out HVL.out HT1.out HB4.out HSV.out HN.out.1 HN.out.2.1 hbr)
        clear hq' hr' hqd hbig hbr hrd hq64 hr32 hb2 hb3 hb4
        go_wp2
        go_quiet (fail)
        go_wp2
        go_ret
        exact ⟨q', by simp, HR.out, by first | exact ⟨0, rfl⟩ | exact ⟨_, rfl⟩ | exact ⟨_, World.drewN_drewN _ _ _⟩ | (simp only [World.drewN_drewN]; exact ⟨_, rfl⟩)⟩
      · have g8 : (r' : Int) / 4294967296 = 0 := by omega
        have HR : Hid (GuessAt s v top v1 q' r') := hide_ ⟨HN.out.2.2, by omega, HN.out.1, HN.out.2.1⟩
        clear hq' hr' hqd hbig hbr hq64 hr32 hb2 hb3 hb4
        go_wp2
        go_quiet (fail)
        go_wp2
        exact ⟨⟨q', r', rfl, rfl, HR, by first | exact ⟨0, rfl⟩ | exact ⟨_, rfl⟩ | exact ⟨_, World.drewN_drewN _ _ _⟩ | (simp only [World.drewN_drewN]; exact ⟨_, rfl⟩)⟩, by have := HQ'.out; simp [intOf]; omega⟩
    · have g2 : (q : Int) / 4294967296 = 0 := by omega
      obtain ⟨mm, tt, hmm, htt, t1, t2, t3, t4, t5⟩ := test_facts q v2 r u2 (by omega) hb4 hr32 hb2
      by_cases hcmp : tt < mm
      · have d1 : decide ((tt : Int) < (mm : Int)) = true := decide_eq_true (by omega)
        have d1n : decide (tt < mm) = true := decide_eq_true hcmp
        have hq1 : 1 ≤ q := by
          rcases Nat.eq_zero_or_pos q with h | h
          · rw [h, Nat.zero_mul] at hmm
            omega
          · exact h
        have HL := hide_ (guess_less HS.out HV.out HSL.out HSV.out HG.out (.inr (by rw [Nat.add_comm, ← htt, ← hmm]; exact hcmp)))
        obtain ⟨q', hq'⟩ : ∃ q', q = q' + 1 := ⟨q - 1, by omega⟩
        have HN := hide_ (guess_next HG.out hq' HL.out)
        have g6 : IntKind.u64.wrap ((q : Int) - 1) = (q' : Int) := by rw [hq', IntWalk.u64_in _ (by omega)]; omega
        obtain ⟨r', hr'⟩ : ∃ r', r' = r + v1 := ⟨_, rfl⟩
        have g7 : IntKind.u64.wrap ((r : Int) + (v1 : Int)) = (r' : Int) := by rw [hr', IntWalk.u64_in _ (by omega)]; omega
        have HQ' := hide_ hq'
        rw [← hr'] at HN
        by_cases hbr : 4294967296 ≤ r'
        · obtain ⟨rd, g8, hrd⟩ : ∃ rd : Nat, (r' : Int) / 4294967296 = (rd : Int) ∧ 1 ≤ rd := ⟨r' / 4294967296, by omega, by omega⟩
          have g9 : ((rd : Int) != 0) = true := by simp; omega
          have g10 : ¬ rd = 0 := by omega
          have HR := hide_ (guess_break HS.out HV.out HVL.out HT1.out HB4.out HSV.out HN.out.1 HN.out.2.1 hbr)
          clear hq1 hq' hr' hbig hmm htt hcmp hbr hrd hq64 hr32 hb2 hb3 hb4
          go_wp2
          go_quiet (fail)
          go_wp2
          go_ret
          exact ⟨q', by simp, HR.out, by first | exact ⟨0, rfl⟩ | exact ⟨_, rfl⟩ | exact ⟨_, World.drewN_drewN _ _ _⟩ | (simp only [World.drewN_drewN]; exact ⟨_, rfl⟩)⟩
        · have g8 : (r' : Int) / 4294967296 = 0 := by omega
          have HR : Hid (GuessAt s v top v1 q' r') := hide_ ⟨HN.out.2.2, by omega, HN.out.1, HN.out.2.1⟩
          clear hq1 hq' hr' hbig hmm htt hcmp hbr hq64 hr32 hb2 hb3 hb4
          go_wp2
          go_quiet (fail)
          go_wp2
          exact ⟨⟨q', r', rfl, rfl, HR, by first | exact ⟨0, rfl⟩ | exact ⟨_, rfl⟩ | exact ⟨_, World.drewN_drewN _ _ _⟩ | (simp only [World.drewN_drewN]; exact ⟨_, rfl⟩)⟩, by have := HQ'.out; simp [intOf]; omega⟩
      · have d1 : decide ((tt : Int) < (mm : Int)) = false := decide_eq_false (by omega)
        have d1n : decide (tt < mm) = false := decide_eq_false hcmp
        have HR := hide_ (guess_end HS.out HV.out HVL.out HT1.out HG.out (by omega) (by rw [Nat.add_comm, ← htt, ← hmm]; omega))
        clear hbig hmm htt hcmp hq64 hr32 hb2 hb3 hb4
        go_wp2
        go_quiet (fail)
        go_wp2
        go_ret
        exact ⟨q, by simp, HR.out, by first | exact ⟨0, rfl⟩ | exact ⟨_, rfl⟩ | exact ⟨_, World.drewN_drewN _ _ _⟩ | (simp only [World.drewN_drewN]; exact ⟨_, rfl⟩)⟩
end Go.Proofs.Ytcibbnphkpaifaa

namespace Go.Proofs.Ytcibbnphkpaifaa
open Go.RowKit
set_option linter.unusedVariables false
set_option maxRecDepth 100000
def tab : ByteArray := { data := #[0, 1, 2, 2, 3, 3, 3, 3, 4, 4, 4, 4, 4, 4, 4, 4, 5, 5, 5, 5, 5, 5, 5, 5, 5, 5, 5, 5, 5, 5, 5, 5, 6, 6, 6, 6, 6, 6, 6, 6, 6, 6, 6, 6, 6, 6, 6, 6, 6, 6, 6, 6, 6, 6, 6, 6, 6, 6, 6, 6, 6, 6, 6, 6, 7, 7, 7, 7, 7, 7, 7, 7, 7, 7, 7, 7, 7, 7, 7, 7, 7, 7, 7, 7, 7, 7, 7, 7, 7, 7, 7, 7, 7, 7, 7, 7, 7, 7, 7, 7, 7, 7, 7, 7, 7, 7, 7, 7, 7, 7, 7, 7, 7, 7, 7, 7, 7, 7, 7, 7, 7, 7, 7, 7, 7, 7, 7, 7, 8, 8, 8, 8, 8, 8, 8, 8, 8, 8, 8, 8, 8, 8, 8, 8, 8, 8, 8, 8, 8, 8, 8, 8, 8, 8, 8, 8, 8, 8, 8, 8, 8, 8, 8, 8, 8, 8, 8, 8, 8, 8, 8, 8, 8, 8, 8, 8, 8, 8, 8, 8, 8, 8, 8, 8, 8, 8, 8, 8, 8, 8, 8, 8, 8, 8, 8, 8, 8, 8, 8, 8, 8, 8, 8, 8, 8, 8, 8, 8, 8, 8, 8, 8, 8, 8, 8, 8, 8, 8, 8, 8, 8, 8, 8, 8, 8, 8, 8, 8, 8, 8, 8, 8, 8, 8, 8, 8, 8, 8, 8, 8, 8, 8, 8, 8, 8, 8, 8, 8, 8, 8, 8, 8, 8, 8, 8, 8] }
theorem tab_size : tab.size = 256 := by decide +kernel
theorem tab_fin : ∀ i : Fin 256, (tab.get! i.val).toNat ≤ 8 ∧ i.val < 2 ^ (tab.get! i.val).toNat ∧ (0 < i.val → 1 ≤ (tab.get! i.val).toNat) := by decide +kernel
theorem tab_at (x : Nat) (h : x < tab.size) : (tab[x]'h).toNat ≤ 8 ∧ x < 2 ^ (tab[x]'h).toNat ∧ (0 < x → 1 ≤ (tab[x]'h).toNat) := by
  have hx : x < 256 := by rw [tab_size] at h; exact h
  have e : tab[x]'h = tab.get! x := by
    show tab.data[x] = tab.data[x]!
    rw [getElem!_pos tab.data x (by simpa using h)]
    rfl
  rw [e]
  exact tab_fin ⟨x, hx⟩
theorem w64i (n : Int) (h1 : 0 ≤ n) (h2 : n < 1000) : wrap64 n = n := by unfold wrap64; omega
theorem tab_ret (b : Nat) (hb : b ≤ 8) : wrap64 (wrap64 (b : Int)) = (b : Int) := by rw [w64i (b : Int) (by omega) (by omega), w64i (b : Int) (by omega) (by omega)]
theorem tab_ret2 (m b : Nat) (hb : b ≤ 8) (hm : m ≤ 24) : wrap64 ((m : Int) + wrap64 (b : Int)) = ((m + b : Nat) : Int) := by rw [w64i (b : Int) (by omega) (by omega), w64i _ (by omega) (by omega)]; omega
theorem pow_mul_lt {x y b k : Nat} (hy : y < 2 ^ b) (h : x / 2 ^ k = y) : x < 2 ^ (k + b) := by
  have h1 := Nat.div_add_mod x (2 ^ k)
  have h2 := Nat.mod_lt x (Nat.pow_pos (n := k) (show 0 < 2 by decide))
  rw [h] at h1
  have h3 : 2 ^ k * (y + 1) ≤ 2 ^ k * 2 ^ b := Nat.mul_le_mul_left _ hy
  rw [← Nat.pow_add, Nat.mul_add, Nat.mul_one] at h3
  omega
set_option maxHeartbeats 3200000 in
theorem len32_any (x : Nat) (w : World) (hx : x < 4294967296) : Calls Try.prog 120 #[.int .u32 x] w fun e w' => ∃ l : Nat, e = .returned (.int .i64 l) ∧ l ≤ 32 ∧ x < 2 ^ l ∧ (0 < x → 1 ≤ l) ∧ w' = w := by
  by_cases h1 : 65536 ≤ x
  · have d1 : decide ((65536 : Int) ≤ (x : Int)) = true := decide_eq_true (by omega)
    have d1n : decide (65536 ≤ x) = true := decide_eq_true (by omega)
    obtain ⟨x1, hx1⟩ : ∃ x1, x1 = x / 65536 := ⟨_, rfl⟩
    have f1 : (x : Int) / 65536 = (x1 : Int) := by omega
    by_cases h2 : 256 ≤ x1
    · have d2 : decide ((256 : Int) ≤ (x1 : Int)) = true := decide_eq_true (by omega)
      have d2n : decide (256 ≤ x1) = true := decide_eq_true (by omega)
      obtain ⟨y, hy⟩ : ∃ y, y = x1 / 256 := ⟨_, rfl⟩
      have f2 : (x1 : Int) / 256 = (y : Int) := by omega
      have hyb : y < 256 := by omega
      have hxy : x / 2 ^ 24 = y := by rw [hy, hx1, Nat.div_div_eq_div_mul]
      have h3 : IntKind.u8.wrap (y : Int) = (y : Int) := by show (y : Int) % 256 = y; omega
      have HX := hide_ hxy
      clear hy hx1 hxy
      go_enter Try.func120, Try.ntmps120
      go_wp2
      go_ret
      obtain ⟨t1, t2, t3⟩ := tab_at y (by rw [tab_size]; exact hyb)
      refine ⟨24 + (tab[y]'(by rw [tab_size]; exact hyb)).toNat, ?_, by omega, pow_mul_lt t2 HX.out, fun _ => by omega, rfl⟩
      exact congrArg (fun z => Ending.returned (Value.int .i64 z)) (tab_ret2 24 _ t1 (by omega))
    · have d2 : decide ((256 : Int) ≤ (x1 : Int)) = false := decide_eq_false (by omega)
      have d2n : decide (256 ≤ x1) = false := decide_eq_false (by omega)
      have hyb : x1 < 256 := by omega
      have h3 : IntKind.u8.wrap (x1 : Int) = (x1 : Int) := by show (x1 : Int) % 256 = x1; omega
      have HX : Hid (x / 2 ^ 16 = x1) := hide_ hx1.symm
      clear hx1
      go_enter Try.func120, Try.ntmps120
      go_wp2
      go_ret
      obtain ⟨t1, t2, t3⟩ := tab_at x1 (by rw [tab_size]; exact hyb)
      refine ⟨16 + (tab[x1]'(by rw [tab_size]; exact hyb)).toNat, ?_, by omega, pow_mul_lt t2 HX.out, fun _ => by omega, rfl⟩
      exact congrArg (fun z => Ending.returned (Value.int .i64 z)) (tab_ret2 16 _ t1 (by omega))
  · have d1 : decide ((65536 : Int) ≤ (x : Int)) = false := decide_eq_false (by omega)
    have d1n : decide (65536 ≤ x) = false := decide_eq_false (by omega)
    by_cases h2 : 256 ≤ x
    · have d2 : decide ((256 : Int) ≤ (x : Int)) = true := decide_eq_true (by omega)
      have d2n : decide (256 ≤ x) = true := decide_eq_true (by omega)
      obtain ⟨y, hy⟩ : ∃ y, y = x / 256 := ⟨_, rfl⟩
      have f2 : (x : Int) / 256 = (y : Int) := by omega
      have hyb : y < 256 := by omega
      have h3 : IntKind.u8.wrap (y : Int) = (y : Int) := by show (y : Int) % 256 = y; omega
      have HX : Hid (x / 2 ^ 8 = y) := hide_ hy.symm
      clear hy
      go_enter Try.func120, Try.ntmps120
      go_wp2
      go_ret
      obtain ⟨t1, t2, t3⟩ := tab_at y (by rw [tab_size]; exact hyb)
      refine ⟨8 + (tab[y]'(by rw [tab_size]; exact hyb)).toNat, ?_, by omega, pow_mul_lt t2 HX.out, fun _ => by omega, rfl⟩
      exact congrArg (fun z => Ending.returned (Value.int .i64 z)) (tab_ret2 8 _ t1 (by omega))
    · have d2 : decide ((256 : Int) ≤ (x : Int)) = false := decide_eq_false (by omega)
      have d2n : decide (256 ≤ x) = false := decide_eq_false (by omega)
      have hyb : x < 256 := by omega
      have h3 : IntKind.u8.wrap (x : Int) = (x : Int) := by show (x : Int) % 256 = x; omega
      go_enter Try.func120, Try.ntmps120
      go_wp2
      go_ret
      obtain ⟨t1, t2, t3⟩ := tab_at x (by rw [tab_size]; exact hyb)
      refine ⟨(tab[x]'(by rw [tab_size]; exact hyb)).toNat, ?_, by omega, t2, t3, rfl⟩
      exact congrArg (fun z => Ending.returned (Value.int .i64 z)) (tab_ret _ t1)
theorem lead_any (v : Nat) (w : World) (hv : v < 4294967296) (h0 : 0 < v) : Calls Try.prog 111 #[.int .u32 v] w fun e w' => ∃ s : Nat, e = .returned (.int .i64 s) ∧ s < 32 ∧ v * 2 ^ s < 4294967296 ∧ w' = w := by
  have HL := hide_ (len32_any v w hv)
  go_enter Try.func111, Try.ntmps111
  go_wp2_with (go_at_call 120; go_must ((with_reducible refine (HL.out).mono ?_); rintro e w1 ⟨l, rfl, h1, h2, h3, rfl⟩; have h4 := h3 h0; obtain ⟨s, hs⟩ : ∃ s, l + s = 32 := ⟨32 - l, by omega⟩; have hw : IntKind.i64.wrap (32 - (l : Int)) = (s : Int) := by (rw [IntWalk.i64_in _ (by omega)]; omega)))
  go_ret
  refine ⟨s, by simp, by omega, ?_, rfl⟩
  have h5 : v * 2 ^ s < 2 ^ l * 2 ^ s := Nat.mul_lt_mul_of_pos_right h2 (Nat.pow_pos (by decide))
  rw [← Nat.pow_add, hs] at h5
  exact h5
end Go.Proofs.Ytcibbnphkpaifaa

namespace Go.Proofs.Ytcibbnphkpaifaa
open Go.RowKit
set_option linter.unusedVariables false
set_option maxRecDepth 100000
theorem list_ext_getD {L M : List Nat} (hl : L.length = M.length) (h : ∀ j, j < L.length → L.getD j 0 = M.getD j 0) : L = M := by
  refine List.ext_getElem hl fun j h1 h2 => ?_
  have := h j h1
  rw [List.getD_eq_getElem?_getD, List.getD_eq_getElem?_getD, List.getElem?_eq_getElem h1, List.getElem?_eq_getElem h2] at this
  exact this
theorem getD_take {L : List Nat} {i j : Nat} (h : j < i) : (L.take i).getD j 0 = L.getD j 0 := by
  rw [List.getD_eq_getElem?_getD, List.getElem?_take_of_lt h, ← List.getD_eq_getElem?_getD]
theorem getD_drop {L : List Nat} {i j : Nat} : (L.drop i).getD j 0 = L.getD (i + j) 0 := by
  rw [List.getD_eq_getElem?_getD, List.getElem?_drop, ← List.getD_eq_getElem?_getD]
theorem val_parts {U : List Nat} {i L : Nat} (h : i + L ≤ U.length) : val U = val (U.take i) + BB ^ i * val (seg U i L) + BB ^ (i + L) * val (U.drop (i + L)) := by
  rw [val_split U i (by omega)]
  have h1 := val_split (U.drop i) L (by rw [List.length_drop]; omega)
  rw [List.drop_drop] at h1
  rw [h1, Nat.mul_add, Nat.pow_add]
  unfold seg
  rw [← Nat.mul_assoc]
  omega
theorem val_high {U : List Nat} {i L : Nat} (h : i + L ≤ U.length) (hl : val U < BB ^ (i + L)) : val (U.drop (i + L)) = 0 ∧ val U = val (U.take i) + BB ^ i * val (seg U i L) := by
  have e := val_parts h
  have h0 : val (U.drop (i + L)) = 0 := by
    rcases Nat.eq_zero_or_pos (val (U.drop (i + L))) with h1 | h1
    · exact h1
    · have : BB ^ (i + L) * 1 ≤ BB ^ (i + L) * val (U.drop (i + L)) := Nat.mul_le_mul_left _ h1
      omega
  refine ⟨h0, ?_⟩
  rw [h0, Nat.mul_zero, Nat.add_zero] at e
  exact e
/-- Another stretch in the same place. -/
theorem val_swap {U X : List Nat} {i L : Nat} (hl : X.length = U.length) (h : i + L ≤ U.length) (hr : ∀ j, j < i ∨ i + L ≤ j → X.getD j 0 = U.getD j 0) (h0 : val (U.drop (i + L)) = 0) : val X = val (U.take i) + BB ^ i * val (seg X i L) := by
  have e := val_parts (U := X) (i := i) (L := L) (by omega)
  have e1 : X.take i = U.take i := list_ext_getD (by rw [List.length_take, List.length_take, hl]) fun j hj => by
    rw [List.length_take] at hj
    rw [getD_take (by omega), getD_take (by omega)]
    exact hr j (by omega)
  have e2 : X.drop (i + L) = U.drop (i + L) := list_ext_getD (by rw [List.length_drop, List.length_drop, hl]) fun j hj => by
    rw [getD_drop, getD_drop]
    exact hr _ (by omega)
  rw [e1, e2, h0, Nat.mul_zero, Nat.add_zero] at e
  exact e
structure DivAt (u0 v : Nat) (n m : Nat) (U Q : List Nat) (k : Nat) : Prop where
  lenU : U.length = m + n
  digU : Dig U
  lenQ : Q.length = m
  digQ : Dig Q
  eq : u0 = val U + BB ^ k * (val (Q.drop k) * v)
  lt : val U < v * BB ^ k
/-- The stretch of a round. -/
theorem DivAt.part {u0 v n m i : Nat} {U Q : List Nat} (h : DivAt u0 v n m U Q (i + 1)) (hi : i < m) (hv : v < BB ^ n) : val (U.drop (i + (n + 1))) = 0 ∧ val U = val (U.take i) + BB ^ i * val (seg U i (n + 1)) ∧ val (seg U i (n + 1)) < v * BB := by
  have h1 : val U < BB ^ (i + (n + 1)) := by
    refine Nat.lt_of_lt_of_le h.lt ?_
    rw [show i + (n + 1) = n + (i + 1) by omega, Nat.pow_add (m := n)]
    exact Nat.mul_le_mul_right _ (Nat.le_of_lt hv)
  obtain ⟨h2, h3⟩ := val_high (by rw [h.lenU]; omega) h1
  refine ⟨h2, h3, ?_⟩
  have h4 := h.lt
  rw [h3, Nat.pow_succ, show v * (BB ^ i * BB) = BB ^ i * (v * BB) by ac_rfl] at h4
  rcases Nat.lt_or_ge (val (seg U i (n + 1))) (v * BB) with h5 | h5
  · exact h5
  · have : BB ^ i * (v * BB) ≤ BB ^ i * val (seg U i (n + 1)) := Nat.mul_le_mul_left _ h5
    omega
theorem DivAt.step {u0 v n m i x : Nat} {U Q X : List Nat} (h : DivAt u0 v n m U Q (i + 1)) (hi : i < m) (hv : v < BB ^ n) (hx : x < 4294967296) (hl : X.length = U.length) (hd : Dig X) (hr : ∀ j, j < i ∨ i + (n + 1) ≤ j → X.getD j 0 = U.getD j 0)
    (he : val (seg X i (n + 1)) + x * v = val (seg U i (n + 1))) (hlt : val (seg X i (n + 1)) < v) : DivAt u0 v n m X (Q.set i x) i := by
  obtain ⟨h1, h2, h3⟩ := h.part hi hv
  have h4 := val_swap hl (by rw [h.lenU]; omega) hr h1
  refine ⟨by rw [hl, h.lenU], hd, by rw [List.length_set, h.lenQ], h.digQ.set _ _ hx, ?_, ?_⟩
  · rw [h.eq, h2, h4, val_drop_set (by rw [h.lenQ]; exact hi), ← he]
    rw [Nat.pow_succ, Nat.add_mul x, Nat.mul_add, Nat.mul_add]
    have : BB ^ i * BB * (val (Q.drop (i + 1)) * v) = BB ^ i * (BB * val (Q.drop (i + 1)) * v) := by ac_rfl
    rw [this]
    omega
  · rw [h4]
    have h5 := val_lt (h.digU.take i)
    rw [List.length_take, h.lenU, Nat.min_eq_left (by omega)] at h5
    have h6 : BB ^ i * (val (seg X i (n + 1)) + 1) ≤ BB ^ i * v := Nat.mul_le_mul_left _ hlt
    rw [Nat.mul_add, Nat.mul_one] at h6
    rw [Nat.mul_comm v]
    omega
theorem off_zero {U V X : List Nat} {x i n : Nat} (hn : V.length = n) (h : OffAt U V X x i (n + 1) 0 0) (hg : Guessed (val (seg U i (n + 1))) (val V) x) : val (seg X i (n + 1)) + x * val V = val (seg U i (n + 1)) ∧ val (seg X i (n + 1)) < val V := by
  have e := h.eq
  rw [List.take_of_length_le (by omega), Nat.zero_add, Nat.zero_mul, Nat.add_zero] at e
  refine ⟨e, ?_⟩
  have h2 := hg.2.1
  rw [Nat.add_mul, Nat.one_mul] at h2
  omega
theorem off_one {U V X Y : List Nat} {x' i n c : Nat} (hn : V.length = n) (hi : i + (n + 1) ≤ U.length) (h : OffAt U V X (x' + 1) i (n + 1) 0 1) (hb : BackAt X V Y i (n + 1) c) (hg : Guessed (val (seg U i (n + 1))) (val V) (x' + 1)) : val (seg Y i (n + 1)) + x' * val V = val (seg U i (n + 1)) ∧ val (seg Y i (n + 1)) < val V := by
  have e := h.eq
  have e2 := hb.eq
  rw [List.take_of_length_le (by omega), Nat.zero_add, Nat.one_mul] at e
  rw [List.take_of_length_le (by omega)] at e2
  have h2 := hg.2.2
  rw [Nat.add_mul, Nat.one_mul] at h2 e
  have lX := val_lt (h.dig.seg i (n + 1))
  rw [seg_len (by rw [h.len]; exact hi)] at lX
  have lY := val_lt (hb.dig.seg i (n + 1))
  rw [seg_len (by rw [hb.len, h.len]; exact hi)] at lY
  have hc : c = 0 ∨ c = 1 := by have := hb.car; omega
  rcases hc with rfl | rfl
  · rw [Nat.zero_mul] at e2
    omega
  · rw [Nat.one_mul] at e2
    omega
theorem off_pos {U V X : List Nat} {x i n : Nat} (hn : V.length = n) (hi : i + (n + 1) ≤ U.length) (h : OffAt U V X x i (n + 1) 0 1) : 1 ≤ x := by
  rcases Nat.eq_zero_or_pos x with rfl | h1
  · have e := h.eq
    rw [Nat.zero_mul, Nat.zero_add, Nat.one_mul] at e
    have lX := val_lt (h.dig.seg i (n + 1))
    rw [seg_len (by rw [h.len]; exact hi)] at lX
    omega
  · exact h1
theorem back_rest {U V X Y : List Nat} {x i L c b c2 : Nat} (h : OffAt U V X x i L c b) (hb : BackAt X V Y i L c2) : Y.length = U.length ∧ ∀ j, j < i ∨ i + L ≤ j → Y.getD j 0 = U.getD j 0 :=
  ⟨by rw [hb.len, h.len], fun j hj => by rw [hb.rest j hj, h.rest j hj]⟩
theorem DivAt.start {u0 v n m : Nat} {U : List Nat} (hl : U.length = m + n) (hd : Dig U) (hu : val U = u0) (hlt : u0 < v * BB ^ m) : DivAt u0 v n m U (List.replicate m 0) m :=
  ⟨hl, hd, List.length_replicate, Dig.zeros _, by rw [List.drop_of_length_le (by simp), val_nil, Nat.zero_mul, Nat.mul_zero, Nat.add_zero, hu], by rw [hu]; exact hlt⟩
/-- The whole division. -/
theorem DivAt.done {a b s n m : Nat} {U Q : List Nat} (h : DivAt (a * 2 ^ s) (b * 2 ^ s) n m U Q 0) : val Q = a / b ∧ val U = (a % b) * 2 ^ s ∧ val U < b * 2 ^ s := by
  have e := h.eq
  have l := h.lt
  rw [Nat.pow_zero, Nat.one_mul, List.drop_zero] at e
  rw [Nat.pow_zero, Nat.mul_one] at l
  have hP : 0 < 2 ^ s := Nat.pow_pos (by decide)
  have hb : 0 < b := by
    rcases Nat.eq_zero_or_pos b with rfl | h0
    · rw [Nat.zero_mul] at l; omega
    · exact h0
  have h1 : a * 2 ^ s / (b * 2 ^ s) = a / b := Nat.mul_div_mul_right _ _ hP
  have h2 : a * 2 ^ s % (b * 2 ^ s) = (a % b) * 2 ^ s := Nat.mul_mod_mul_right _ _ _
  have e' : a * 2 ^ s = b * 2 ^ s * val Q + val U := by rw [e, Nat.mul_comm (b * 2 ^ s)]; omega
  have h3 : a * 2 ^ s / (b * 2 ^ s) = val Q := by rw [e', Nat.mul_add_div (Nat.mul_pos hb hP), Nat.div_eq_of_lt l, Nat.add_zero]
  have h4 : a * 2 ^ s % (b * 2 ^ s) = val U := by rw [e', Nat.mul_add_mod, Nat.mod_eq_of_lt l]
  exact ⟨by rw [← h3, h1], by rw [← h4, h2], l⟩
/-- A number made great has as many words. -/
theorem great_len {b s : Nat} (hs : s < 32) (hb : 0 < b) (ht : (wd b).getD ((wd b).length - 1) 0 * 2 ^ s < 4294967296) : (wd (b * 2 ^ s)).length = (wd b).length := by
  have hP : 0 < 2 ^ s := Nat.pow_pos (by decide)
  have hp := pow_split hs
  have hne : (wd b).length ≠ 0 := fun e => by
    rw [wd_len_zero] at e
    omega
  obtain ⟨k, hk⟩ : ∃ k, (wd b).length = k + 1 := ⟨(wd b).length - 1, by omega⟩
  rw [hk, Nat.add_sub_cancel] at ht
  refine Nat.le_antisymm ?_ (wd_len_mono (Nat.le_mul_of_pos_right _ hP))
  rw [wd_len_le, hk]
  have h1 : b = val ((wd b).take k) + BB ^ k * (wd b).getD k 0 := by
    have h := val_take_succ (L := wd b) (k := k) (by omega)
    rw [val_all hk, val_wd] at h
    exact h
  have h2 := val_lt ((wd_dig b).take k)
  rw [List.length_take, Nat.min_eq_left (by omega)] at h2
  generalize (wd b).getD k 0 = t at *
  generalize val ((wd b).take k) = lo at *
  have h3 : (t + 1) * 2 ^ s ≤ 4294967296 := by
    rw [← hp]
    rw [← hp] at ht
    have h4 : t < 2 ^ (32 - s) := Nat.lt_of_mul_lt_mul_left (a := 2 ^ s) (by rw [Nat.mul_comm]; exact ht)
    rw [Nat.mul_comm]
    exact Nat.mul_le_mul_left _ h4
  have h5 : b * 2 ^ s < BB ^ k * ((t + 1) * 2 ^ s) := by
    have : b < BB ^ k * (t + 1) := by rw [Nat.mul_add, Nat.mul_one]; omega
    rw [← Nat.mul_assoc]
    exact Nat.mul_lt_mul_of_pos_right this hP
  have h6 : BB ^ k * ((t + 1) * 2 ^ s) ≤ BB ^ k * 4294967296 := Nat.mul_le_mul_left _ h3
  rw [Nat.pow_succ]
  rw [← BB_eq] at h6
  omega
theorem div_room {a b s : Nat} (hb : 0 < b) (hab : b ≤ a) : a * 2 ^ s < b * 2 ^ s * BB ^ ((wd a).length + 1 - (wd b).length) := by
  have hP : 0 < 2 ^ s := Nat.pow_pos (by decide)
  have hl := wd_len_mono hab
  have h1 : a < BB ^ (wd a).length := wd_len_le.1 (Nat.le_refl _)
  have h2 : (wd b).length ≠ 0 := fun e => by rw [wd_len_zero] at e; omega
  have h3 := trm_ge (wd_trm b) (fun e => h2 (by rw [e]; rfl))
  rw [val_wd] at h3
  have h4 : BB ^ (wd a).length = BB ^ ((wd b).length - 1) * BB ^ ((wd a).length + 1 - (wd b).length) := by rw [← Nat.pow_add]; congr 1; omega
  have h5 : BB ^ ((wd b).length - 1) * BB ^ ((wd a).length + 1 - (wd b).length) ≤ b * BB ^ ((wd a).length + 1 - (wd b).length) := Nat.mul_le_mul_right _ h3
  rw [Nat.mul_right_comm]
  exact Nat.mul_lt_mul_of_pos_right (by omega) hP
end Go.Proofs.Ytcibbnphkpaifaa

namespace Go.Proofs.Ytcibbnphkpaifaa
open Go.RowKit
set_option linter.unusedVariables false
set_option maxRecDepth 100000
def DivPost (w : World) (a b : Nat) (e : Ending) (w' : World) : Prop := (∃ vq vr, e = .returned (.tuple #[vq, vr]) ∧ WO w' w.heap.size vq (wd (a / b)) ∧ WO w' w.heap.size vr (wd (a % b))) ∧ Below w.heap.size w w'
theorem divide_lt (p q : Option Addr) (n m c d : Nat) (a b : Nat) (w : World) (hn : n = (wd a).length) (hm : m = (wd b).length) (hp : WL w p (wd a)) (hq : WL w q (wd b)) (hc : n ≤ c) (hd : m ≤ d) (hs : n ≤ 8192) (ht : m ≤ 8192) (hab : a < b) :
    Calls Try.prog 100 #[.slice p n c, .slice q m d] w (DivPost w a b) := by
  subst hn hm
  have HM := hide_ (compare_any p q _ _ c d _ _ w rfl rfl hp hq hc hd (by omega) (by omega) (wd_dig a) (wd_dig b))
  rw [val_wd, val_wd, cmpN_lt hab] at HM
  have HC := hide_ (fun k => clone_any p _ c (wd a) (w.drewN k) rfl (hp.drewN k) (by omega))
  have hq0 : a / b = 0 := Nat.div_eq_of_lt hab
  have hr0 : a % b = a := Nat.mod_eq_of_lt hab
  unfold DivPost
  rw [hq0, hr0, wd_zero]
  clear hp hq hq0 hr0
  go_enter Try.func100, Try.ntmps100
  go_wp2_with (first
    | (go_at_call 68; go_must ((with_reducible refine (HM.out).mono ?_); rintro e w1 ⟨rfl, k, rfl⟩))
    | (go_at_call 99; go_must ((with_reducible refine (HC.out k).mono ?_); rintro e w2 ⟨⟨v, rfl, ho⟩, hb⟩)))
  go_ret2
  exact ⟨⟨_, _, rfl, WO.nil _ _, ho⟩, (below_drewN (Below.refl _ _) k).trans hb⟩
set_option maxHeartbeats 3200000 in
theorem divide_one (p q : Option Addr) (n c d : Nat) (a b : Nat) (w : World) (hn : n = (wd a).length) (hm : 1 = (wd b).length) (hp : WL w p (wd a)) (hq : WL w q (wd b)) (hc : n ≤ c) (hd : 1 ≤ d) (hs : n ≤ 8192) (hab : b ≤ a) :
    Calls Try.prog 100 #[.slice p n c, .slice q 1 d] w (DivPost w a b) := by
  subst hn
  have hb0 : b ≠ 0 := fun e => by rw [e, wd_zero] at hm; simp at hm
  have hbB : b < BB := by have := (wd_len_le (n := b) (k := 1)).1 (by omega); rwa [Nat.pow_one] at this
  have hwb : wd b = [b] := by
    rw [wd_pos hb0, Nat.mod_eq_of_lt hbB, Nat.div_eq_of_lt hbB, wd_zero]
  have HM := hide_ (compare_any p q _ _ c d _ _ w rfl hm hp hq hc hd (by omega) (by omega) (wd_dig a) (wd_dig b))
  rw [val_wd, val_wd] at HM
  have hlt : cmpN a b = 0 ∨ cmpN a b = 1 := by
    unfold cmpN
    rw [if_neg (by omega)]
    split
    · exact .inr rfl
    · exact .inl rfl
  have HC := hide_ (fun W (h : Below w.heap.size w W) => clone_any p _ c (wd a) W rfl (hp.below h) (by omega))
  obtain ⟨g, o, rfl, hg, hce⟩ := hq.some_ (by omega)
  have HE := hide_ (fun W (h : Below w.heap.size w W) => (h.cell (p := ⟨g, o + 0, none⟩) hg).trans (hce 0 (by omega)))
  rw [hwb] at HE
  rw [BB_eq] at hbB
  have HS := hide_ (fun p1 c1 base w1 (ho : WO w1 base (.slice p1 (wd a).length c1) (wd a)) => small_any p1 _ c1 base b (wd a) w1 rfl ho (by omega) (wd_dig a) hbB (by omega))
  rw [val_wd] at HS
  have hrb : a % b < b := Nat.mod_lt _ (by omega)
  obtain ⟨r, hr⟩ : ∃ r, r = a % b := ⟨_, rfl⟩
  obtain ⟨qq, hqq⟩ : ∃ qq, qq = a / b := ⟨_, rfl⟩
  unfold DivPost
  rw [← hr] at HS hrb
  rw [← hqq] at HS
  rw [← hr, ← hqq]
  have HF := hide_ (fun W => of_any r W (by omega))
  have e0 : w.cell? ⟨g, o, none⟩ = some (.int .u32 (b : Int)) := HE.out w (Below.refl _ _)
  have hw1 := w64_id (n := r) (by omega)
  clear hp hq hm hwb hce hr hqq hrb hb0 hbB
  rcases hlt with h | h
  all_goals
    rw [h] at HM
    clear h
    go_enter Try.func100, Try.ntmps100
    go_wp2_with (first
      | (go_at_call 68; go_must ((with_reducible refine (HM.out).mono ?_); rintro e w1 ⟨rfl, k, rfl⟩)))
    have hbW : Below w.heap.size w (w.drewN (k + 1)) := below_drewN (Below.refl _ _) _
    go_region_law (first
      | (refine step_in rfl ?_; go_simp; go_at_call 99; go_must (
          (with_reducible refine (HC.out _ hbW).mono ?_)
          rintro e w2 ⟨⟨v, rfl, ho⟩, hb⟩
          obtain ⟨p1, c1, rfl⟩ := WO.slice ho
          have hb2 : Below w.heap.size w w2 := hbW.trans hb
          have e1 : w2.cell? ⟨g, o, none⟩ = some (.int .u32 (b : Int)) := HE.out w2 hb2))
      | (refine step_in rfl ?_; go_simp; go_at_call 110; go_must (
          (with_reducible refine (HS.out p1 c1 _ w2 ho).mono ?_)
          rintro e w3 ⟨rfl, ho3, hg3⟩
          have hb3 := below_own hb2 ho (Nat.le_refl _) hg3)))
    all_goals
      go_wp2_with (go_at_call 102; go_must (
        (with_reducible refine (HF.out _).mono ?_)
        rintro e w4 ⟨⟨v4, rfl, ho4⟩, hb4⟩))
    all_goals
      go_ret2
      exact ⟨⟨_, _, rfl, WO.below ho3 hb4, ho4.mono hb3.size⟩, hb3.trans (hb4.mono hb3.size)⟩
end Go.Proofs.Ytcibbnphkpaifaa

namespace Go.Proofs.Ytcibbnphkpaifaa
open Go.RowKit
set_option linter.unusedVariables false
set_option maxRecDepth 100000
theorem WO.seg {w : World} {base c g i L : Nat} {U : List Nat} (h : WO w base (.slice (some ⟨g, 0, none⟩) U.length c) U) (hi : i + L ≤ U.length) : WL w (some ⟨g, i, none⟩) (seg U i L) := by
  rcases Nat.eq_zero_or_pos L with h0 | h0
  · subst h0; exact .inl rfl
  · obtain ⟨_, eg, _, hg, hc, _⟩ := h.blk (by omega)
    cases eg
    refine .inr ⟨g, i, rfl, hg, fun k hk => ?_⟩
    rw [seg_len hi] at hk
    rw [seg_getD hk]
    exact hc (i + k) (by omega)
theorem offB {g g' o : Nat} {V : List Nat} (h : g ≠ g') : OffW (some ⟨g, o, none⟩) V (some g') := .inr fun a e e2 => by
  cases e
  exact h (Option.some.inj e2)
theorem WO.other {w w' : World} {base g g' n c : Nat} {S : List Nat} (h : WO w base (.slice (some ⟨g, 0, none⟩) n c) S) (hg : w.grownBy w' (some g')) (hne : g ≠ g') : WO w' base (.slice (some ⟨g, 0, none⟩) n c) S := h.kept hg (.inr fun e => hne (Option.some.inj e))
theorem grew_grown {B g : Nat} {w w1 w2 : World} (h : Grew B w w1) (hg : w1.grownBy w2 (some g)) (hB : B ≤ g) : Grew B w w2 := ⟨h.1.grown hg h.2 (fun k hk => by cases hk; exact hB), Nat.le_trans h.2 hg.size⟩
set_option maxHeartbeats 12800000 in
theorem divide_long (p q : Option Addr) (n m c d : Nat) (a b : Nat) (w : World) (hn : n = (wd a).length) (hm : m = (wd b).length) (hp : WL w p (wd a)) (hq : WL w q (wd b)) (hc : n ≤ c) (hd : m ≤ d) (hs : n ≤ 8192) (hm2 : 2 ≤ m) (hab : b ≤ a) :
    Calls Try.prog 100 #[.slice p n c, .slice q m d] w (DivPost w a b) := by
  subst hn hm
  have hml : (wd b).length ≤ (wd a).length := wd_len_mono hab
  have hb0 : 0 < b := by
    rcases Nat.eq_zero_or_pos b with h | h
    · rw [h, wd_zero] at hm2; simp at hm2
    · exact h
  have HM := hide_ (compare_any p q _ _ c d _ _ w rfl rfl hp hq hc hd (by omega) (by omega) (wd_dig a) (wd_dig b))
  rw [val_wd, val_wd] at HM
  have hlt : cmpN a b = 0 ∨ cmpN a b = 1 := by
    unfold cmpN
    rw [if_neg (by omega)]
    split
    · exact .inr rfl
    · exact .inl rfl
  obtain ⟨lb1, hlb1⟩ : ∃ lb1, lb1 + 1 = (wd b).length := ⟨(wd b).length - 1, by omega⟩
  obtain ⟨g, o, rfl, hg, hce⟩ := hq.some_ (by omega)
  have e0 := hce lb1 (by omega)
  have hw1 : IntKind.i64.wrap (((wd b).length : Int) - 1) = (lb1 : Int) := by rw [← hlb1, IntWalk.i64_in _ (by omega)]; omega
  have i1 : (0 : Int) ≤ (lb1 : Int) := by omega
  have i2 : (lb1 : Int) < ((wd b).length : Int) := by omega
  have htd := (wd_dig b).getD lb1
  have ht0 : 0 < (wd b).getD lb1 0 := by
    rcases wd_trm b with h | h
    · rw [h] at hlb1; simp at hlb1
    · rw [show (wd b).length - 1 = lb1 by omega] at h; omega
  rw [BB_eq] at htd
  have HLZ := hide_ (fun W => lead_any ((wd b).getD lb1 0) W htd ht0)
  have HGL := hide_ (fun s (h1 : s < 32) (h2 : (wd b).getD lb1 0 * 2 ^ s < 4294967296) => great_len (b := b) h1 hb0 (by rw [show (wd b).length - 1 = lb1 by omega]; exact h2))
  have HU1 := hide_ (fun s W (h1 : s < 32) (h : Below w.heap.size w W) => up_any (some ⟨g, o, none⟩) _ d s (wd b) W rfl (hq.below h) (by omega) (wd_dig b) h1)
  have HU2 := hide_ (fun s W (h1 : s < 32) (h : Below w.heap.size w W) => up_any p _ c s (wd a) W rfl (hp.below h) (by omega) (wd_dig a) h1)
  rw [val_wd] at HU1 HU2
  have HDR := hide_ (fun s => div_room (s := s) hb0 hab)
  have HB0 := hide_ hb0
  have hd1 : ((((wd b).length : Nat) : Int) == 1) = false := beq_eq_false_iff_ne.2 (by omega)
  have hd1n : ¬ (wd b).length = 1 := by omega
  obtain ⟨na, hna⟩ : ∃ na, na = (wd a).length := ⟨_, rfl⟩
  obtain ⟨nb, hnb⟩ : ∃ nb, nb = (wd b).length := ⟨_, rfl⟩
  obtain ⟨mq, hmq⟩ : ∃ mq, mq + nb = na + 1 := ⟨na + 1 - nb, by omega⟩
  have hwm : IntKind.i64.wrap ((na : Int) + 1 - (nb : Int)) = (mq : Int) := by rw [IntWalk.i64_in _ (by omega)]; omega
  have hwq : IntKind.i64.wrap ((mq : Int) - 1) = (mq : Int) - 1 := IntWalk.i64_in _ (by omega)
  have hmk := fun wx => run_mk32 (n := mq) (by omega) wx
  have HZ := hide_ (fun W => zs_row W (n := mq) (by omega))
  have HMQ := hide_ hmq
  rw [show (wd a).length + 1 - (wd b).length = mq by omega] at HDR
  rw [← hna] at HM HU2 hc hs hml
  rw [← hnb] at HM HU1 HGL hw1 i2 hd1 hd1n hm2 hml hd
  rw [← hna, ← hnb]
  generalize (wd b).getD lb1 0 = tv at *
  clear hp hq hce hlb1 hna hnb htd ht0 hb0 hab hmq
  unfold DivPost
  rcases hlt with h | h
  all_goals
    rw [h] at HM
    clear h
    go_enter Try.func100, Try.ntmps100
    have tok1 : True := trivial
    go_wp2_with (first
      | (go_at_call 68; go_must ((with_reducible refine (HM.out).mono ?_); rintro e w1 ⟨rfl, k, rfl⟩; have hbW : Below w.heap.size w (w.drewN k) := below_drewN (Below.refl _ _) _))
      | (go_at_call 111; go_must (
          (with_reducible refine (HLZ.out _).mono ?_)
          rintro e w2 ⟨s, rfl, hs32, hsv, rfl⟩
          have hws := w64_id (n := s) (by omega)
          have HS32 := hide_ hs32
          have HGL2 := hide_ (HGL.out s hs32 hsv)))
      | (go_at_call 112; have _t := tok1; go_must (
          (with_reducible refine (HU1.out s _ HS32.out hbW).mono ?_)
          rintro e w3 ⟨⟨X, rfl, hXl, hXd, hXv, hXo⟩, hb3⟩
          have hbW3 := hbW.trans hb3
          have hXc : cutL X = wd (b * 2 ^ s) := by rw [cutL_wd hXd, hXv]
          have hXo2 : WO w3 w.heap.size (.slice (some ⟨w.heap.size, 0, none⟩) X.length (nb + 1)) X := by rw [hXl]; exact hXo
          have hV := hXo2.cutL
          have HC3 := hide_ (cut_any (some ⟨w.heap.size, 0, none⟩) (nb + 1) (nb + 1) X w3 hXl.symm hXo2.wl (Nat.le_refl _) (by omega))
          rw [hXc, HGL2.out] at HC3 hV
          have HV3 := hide_ hV
          have hlt3 : w.heap.size < w3.heap.size := by
            obtain ⟨_, eg, _, h, _⟩ := hXo2.blk (by omega)
            cases eg
            exact h
          clear tok1 hXo hXo2 hV hXc hXd hXv hXl))
      | (go_at_call 92; go_must ((with_reducible refine (HC3.out).mono ?_); rintro e w2 ⟨rfl, rfl⟩))
      | (go_at_call 112; go_must (
          (with_reducible refine (HU2.out s _ HS32.out hbW3).mono ?_)
          rintro e w4 ⟨⟨U0, rfl, hUl, hUd, hUv, hUo⟩, hb4⟩
          have hbW4 := hbW3.trans (hb4.mono (Nat.le_of_lt hlt3))
          have hV4 := HV3.out.below hb4
          have HUO := hide_ hUo
          have hlt4 : w2.heap.size < w4.heap.size := by
            have h := hUo
            rw [← hUl] at h
            obtain ⟨_, eg, _, h, _⟩ := WO.blk (c := U0.length) h (by omega)
            cases eg
            exact h)))
    have HG5 : Hid (Grew w.heap.size w (w4.alloc (.cells (zs mq) 88))) := hide_ ⟨hbW4.alloc (by omega) _, by simp; omega⟩
    have HV5 := hide_ (hV4.alloc (.cells (zs mq) 88))
    have HU5 := hide_ (WO.alloc HUO.out (.cells (zs mq) 88))
    have HQ5 := hide_ (HZ.out w4)
    have HD0 := hide_ (DivAt.start (v := b * 2 ^ s) (m := mq) (n := nb) (by rw [hUl, HMQ.out]) hUd hUv (HDR.out s))
    have HLT := hide_ (And.intro hlt3 hlt4)
    revert HG5 HV5 HU5 HQ5 HD0 HLT
    clear HC3 HV3 HUO HZ HU1 HU2 HGL HLZ HM hUo hV4 hUl hUd hUv hb3 hb4 hmk hwm hw1 e0 hsv
    generalize w4.alloc (.cells (zs mq) 88) = w5
    generalize w4.heap.size = gq
    generalize w2.heap.size = gu
    intro HG5 HV5 HU5 HQ5 HD0 HLT
    have HVL := HGL2
    have HVD := hide_ (wd_dig (b * 2 ^ s))
    have HVV := hide_ (val_wd (b * 2 ^ s))
    have HVT := hide_ (wd_trm (b * 2 ^ s))
    clear HGL2 HDR hbW hbW3 hlt3 hbW4 hlt4
    generalize wd (b * 2 ^ s) = V at *
    go_loopw [11] (fun i wr => ∃ k : Nat, ∃ z : Int, k ≤ mq ∧ i = .int .i64 z ∧ Hid (z = (k : Int) - 1) ∧ Hid (∃ U Q, DivAt (a * 2 ^ s) (b * 2 ^ s) nb mq U Q k ∧ WO wr gu (.slice (some ⟨gu, 0, none⟩) (na + 1) (na + 1)) U ∧ WO wr gq (.slice (some ⟨gq, 0, none⟩) mq mq) Q) ∧ Hid (WO wr w.heap.size (.slice (some ⟨w.heap.size, 0, none⟩) nb (nb + 1)) V) ∧ Hid (Grew w.heap.size w wr)) (fun i _ => (intOf i + 1).toNat)
    case atStart => exact ⟨mq, _, by omega, rfl, hide_ (by first | rfl | exact hwq), hide_ ⟨U0, _, HD0.out, HU5.out, HQ5.out⟩, HV5, HG5⟩
    case round =>
      obtain ⟨k, z, hk, rfl, HZ, HX, HV, HG⟩ := hrel
      obtain ⟨U, Q, hD, hU, hQ⟩ := HX.out
      by_cases h0 : k = 0
      · subst h0
        have hz := HZ.out
        have d1 : decide ((0 : Int) ≤ z) = false := decide_eq_false (by omega)
        have hlt0 : ¬ (0 : Int) ≤ z := by omega
        obtain ⟨hq1, hu1, hu2⟩ := hD.done
        have hmq1 := HMQ.out
        have hlt := HLT.out
        have hvlt : b * 2 ^ s < BB ^ nb := by have := val_lt HVD.out; rwa [HVL.out, HVV.out] at this
        have hlQ := hD.lenQ
        have hlU := hD.lenU
        have hQ' : WO wr gq (.slice (some ⟨gq, 0, none⟩) Q.length mq) Q := by rw [hlQ]; exact hQ
        have hU' : WO wr gu (.slice (some ⟨gu, 0, none⟩) U.length (na + 1)) U := by rw [hlU, hmq1]; exact hU
        have hqc : cutL Q = wd (a / b) := by rw [cutL_wd hD.digQ, hq1]
        have hut : val (U.take nb) = val U := by
          have h := val_split U nb (by omega)
          rcases Nat.eq_zero_or_pos (val (U.drop nb)) with h0 | h0
          · rw [h0] at h; omega
          · have h1 : BB ^ nb * 1 ≤ BB ^ nb * val (U.drop nb) := Nat.mul_le_mul_left _ h0
            omega
        have huc : cutL (U.take nb) = wd ((a % b) * 2 ^ s) := by rw [cutL_wd (hD.digU.take nb), hut, hu1]
        have htl : (U.take nb).length = nb := by rw [List.length_take]; omega
        have hU2 : WO wr gu (.slice (some ⟨gu, 0, none⟩) (U.take nb).length (na + 1)) (U.take nb) := by rw [htl]; exact hU'.cut (by omega)
        have HCQ := hide_ (fun W (h : Below wr.heap.size wr W) => cut_any (some ⟨gq, 0, none⟩) mq mq Q W hlQ.symm (hQ'.wl.below h) (Nat.le_refl _) (by omega))
        have HCU := hide_ (fun W (h : Below wr.heap.size wr W) => cut_any (some ⟨gu, 0, none⟩) nb (na + 1) (U.take nb) W htl.symm (hU2.wl.below h) (by omega) (by omega))
        rw [hqc] at HCQ
        rw [huc] at HCU
        have hU3 := hU2.cutL
        rw [huc] at hU3
        have hlr : (wd ((a % b) * 2 ^ s)).length ≤ nb := by rw [wd_len_le]; rw [← hu1]; omega
        have HDN := hide_ (fun W (h : Below wr.heap.size wr W) => down_any (some ⟨gu, 0, none⟩) _ (na + 1) gu s (wd ((a % b) * 2 ^ s)) W rfl (hU3.below h) (by omega) (wd_dig _) HS32.out)
        rw [val_wd, Nat.mul_div_cancel _ (Nat.pow_pos (by decide))] at HDN
        have hQ3 := hQ'.cutL
        rw [hqc] at hQ3
        have HQ3 := hide_ hQ3
        have i5 : (nb : Int) ≤ (na : Int) + 1 := by omega
        have i6 : (0 : Int) ≤ (nb : Int) := by omega
        clear hD hU hQ hQ' hU' hU2 hU3 hQ3 hqc huc hut htl hlQ hlU hq1 hu1 hu2 hvlt hmq1 hz hlr HX
        have tokq : True := trivial
        go_wp2
        go_region_law (first
          | (refine step_in rfl ?_; go_simp; go_at_call 92; have _t := tokq; go_must (
              (with_reducible refine (HCQ.out _ (by first | exact (Below.refl _ _).drew | exact below_drewN (Below.refl _ _) _)).mono ?_)
              rintro e w6 ⟨rfl, rfl⟩
              clear tokq))
          | (refine step_in rfl ?_; go_simp; go_at_call 92; go_must (
              (with_reducible refine (HCU.out _ (by first | exact (Below.refl _ _).drew | exact below_drewN (Below.refl _ _) _)).mono ?_)
              rintro e w6 ⟨rfl, rfl⟩))
          | (refine step_in rfl ?_; go_simp; go_at_call 116; go_must (
              (with_reducible refine (HDN.out _ (by first | exact (Below.refl _ _).drew | exact below_drewN (Below.refl _ _) _)).mono ?_)
              rintro e w7 ⟨rfl, ho7, hg7⟩)))
        all_goals go_wp2
        all_goals go_ret2
        all_goals
          have hgr : wr.drew.grownBy w7 (some gu) := hg7
          have hqd : WO wr.drew gq (.slice (some ⟨gq, 0, none⟩) (wd (a / b)).length mq) (wd (a / b)) := HQ3.out.below (Below.refl _ _).drew
          exact ⟨⟨_, _, rfl, (hqd.other hgr (by omega)).mono (by omega), ho7.mono (by omega)⟩, (grew_grown HG.out.drew hgr (by omega)).below⟩
      · obtain ⟨i, hi⟩ : ∃ i, k = i + 1 := ⟨k - 1, by omega⟩
        have hz : z = (i : Int) := by have := HZ.out; omega
        subst hz
        have hmq1 := HMQ.out
        obtain ⟨L, hL⟩ : ∃ L, L = nb + 1 := ⟨_, rfl⟩
        obtain ⟨j1, hj1⟩ : ∃ j1, j1 = i + nb := ⟨_, rfl⟩
        obtain ⟨j2, hj2⟩ : ∃ j2, j2 = j1 + 1 := ⟨_, rfl⟩
        have hwa : IntKind.i64.wrap ((i : Int) + (nb : Int)) = (j1 : Int) := by rw [hj1, IntWalk.i64_in _ (by omega)]; omega
        have hwb : IntKind.i64.wrap ((j1 : Int) + 1) = (j2 : Int) := by rw [hj2, IntWalk.i64_in _ (by omega)]; omega
        have i3 : (0 : Int) ≤ (i : Int) := by omega
        have i4 : (i : Int) ≤ (j2 : Int) := by omega
        have i5 : (j2 : Int) ≤ (na : Int) + 1 := by omega
        have i6 : (0 : Int) ≤ (j2 : Int) := by omega
        have i7 : (i : Int) < (mq : Int) := by omega
        have hne : ¬ na + 1 = i := by omega
        have hsub : j2 - i = L := by omega
        have hwi : IntKind.i64.wrap ((i : Int) - 1) = (i : Int) - 1 := IntWalk.i64_in _ (by omega)
        have him : i < mq := by omega
        have hlU := hD.lenU
        have hU' : WO wr gu (.slice (some ⟨gu, 0, none⟩) U.length (na + 1)) U := by rw [hlU, hmq1]; exact hU
        have hVl := HVL.out
        have hV' := HV.out
        have hV2 : WO wr w.heap.size (.slice (some ⟨w.heap.size, 0, none⟩) V.length (nb + 1)) V := by rw [hVl]; exact hV'
        have hvlt : b * 2 ^ s < BB ^ nb := by have := val_lt HVD.out; rwa [hVl, HVV.out] at this
        obtain ⟨_, _, hpl⟩ := (hi ▸ hD).part him hvlt
        have HDi : Hid (DivAt (a * 2 ^ s) (b * 2 ^ s) nb mq U Q (i + 1)) := hide_ (hi ▸ hD)
        have HGS := hide_ (guess_any (some ⟨gu, i, none⟩) (some ⟨w.heap.size, 0, none⟩) L nb (na + 1 - i) (nb + 1) (seg U i L) V wr (by rw [seg_len (by rw [hlU]; omega)]) hVl.symm (hU'.seg (by rw [hlU]; omega)) hV2.wl (by rw [seg_len (by rw [hlU]; omega), hVl, hL]) (by omega) (by omega) (hD.digU.seg i L) HVD.out
          (by rcases HVT.out with h | h
              · rw [h] at hVl; simp at hVl; omega
              · omega) (by rw [HVV.out, hL]; exact hpl))
        have hlt := HLT.out
        have HOF := hide_ (fun kk x (hx : x < 4294967296) => off_any gu i L (na + 1) (na + 1 - i) nb (nb + 1) gu (na + 1) (some ⟨w.heap.size, 0, none⟩) U V x (wr.drewN kk) (by rw [hlU]; omega) hVl.symm (by omega) (hU.drewN kk) ((WO.wl (c := nb + 1) hV2).drewN kk) (offB (by omega)) (by omega) (by omega) hD.digU HVD.out hx)
        have HBK := hide_ (fun X W (hX : WO W gu (.slice (some ⟨gu, 0, none⟩) (na + 1) (na + 1)) X) (hl : X.length = na + 1) (hdX : Dig X) (hVW : WO W w.heap.size (.slice (some ⟨w.heap.size, 0, none⟩) nb (nb + 1)) V) => back_any gu i L (na + 1) (na + 1 - i) nb (nb + 1) gu (na + 1) (some ⟨w.heap.size, 0, none⟩) X V W hl.symm hVl.symm hX (WO.wl (c := nb + 1) (by rw [hVl]; exact hVW)) (offB (by omega)) (by omega) (by omega) hdX HVD.out)
        have HQ := hide_ hQ
        have HQL := hide_ hD.lenQ
        have HVLT := hide_ hvlt
        have HI := hide_ hi
        have HIM := hide_ him
        have HLL := hide_ hL
        have HULN : Hid (U.length = na + 1) := hide_ (by rw [hlU]; omega)
        clear hD hU hQ hi hj1 hj2 hU' hV' hV2 hvlt hpl hVl hlU hmq1 him hL HX
        go_wp2_with (first
          | (go_at_call 113; go_must (
              (with_reducible refine (HGS.out).mono ?_)
              rintro e w6 ⟨x, rfl, hgx, kk, rfl⟩
              have HGX := hide_ hgx
              have hxB := hgx.1
              clear hgx))
          | (go_at_call 114; go_must (
              (with_reducible refine (HOF.out kk x hxB).mono ?_)
              rintro e w7 ⟨X, b', rfl, hOA, hXo, hg7⟩
              have HOA := hide_ hOA
              have HG7 := hide_ (grew_grown (HG.out.drewN kk) hg7 (by omega))
              have HV7 := hide_ ((HV.out.drewN kk).other hg7 (by omega))
              have HQ7 := hide_ ((HQ.out.drewN kk).other hg7 (by omega))
              have HX7 := hide_ hXo
              have hbo := hOA.bor
              have hq7 := HQ7.out
              rw [← HQL.out] at hq7
              obtain ⟨_, eg, _, _, hce7, hfr7⟩ := WO.blk (c := Q.length) hq7 (by rw [HQL.out]; have := HIM.out; omega)
              cases eg
              have e7 := hce7 i (by rw [HQL.out]; exact HIM.out)
              have f7 := hfr7 i
              generalize Q.getD i 0 = qi at e7
              have hwx := w32_id hxB
              have HQS7 := hide_ (WO.set (c := Q.length) hq7 i x)
              have HST0 : Hid (b' = 0 → DivAt (a * 2 ^ s) (b * 2 ^ s) nb mq X (Q.set i x) i) := hide_ (fun h => by
                subst h
                have hoa := hOA
                rw [HLL.out] at hoa
                have hgx := HGX.out
                rw [HLL.out] at hgx
                obtain ⟨o1, o2⟩ := off_zero HVL.out hoa hgx
                rw [HVV.out] at o1 o2
                exact HDi.out.step HIM.out HVLT.out hxB hoa.len hoa.dig hoa.rest o1 o2)
              clear hOA hXo hg7 hce7 hfr7 hq7))
          | (go_at_call 115; go_must (
              have hb1 : b' = 1 := by assumption
              subst hb1
              have hXl : X.length = na + 1 := by rw [HOA.out.len, HULN.out]
              (with_reducible refine (HBK.out X _ HX7.out hXl HOA.out.dig HV7.out).mono ?_)
              rintro e w8 ⟨Y, c2, rfl, hBA, hYo, hg8⟩
              have HG8 := hide_ (grew_grown HG7.out hg8 (by omega))
              have HV8 := hide_ (HV7.out.other hg8 (by omega))
              have HQ8 := hide_ (HQ7.out.other hg8 (by omega))
              have HY8 := hide_ hYo
              have hq8 := HQ8.out
              rw [← HQL.out] at hq8
              obtain ⟨_, eg, _, _, hce8, hfr8⟩ := WO.blk (c := Q.length) hq8 (by rw [HQL.out]; have := HIM.out; omega)
              cases eg
              have e8 := hce8 i (by rw [HQL.out]; exact HIM.out)
              have f8 := hfr8 i
              generalize Q.getD i 0 = qi8 at e8
              have hiU : i + (nb + 1) ≤ U.length := by rw [HULN.out]; have := HIM.out; have := HMQ.out; omega
              have hx1 : 1 ≤ x := off_pos (n := nb) HVL.out hiU (HLL.out ▸ HOA.out)
              obtain ⟨x', hx'⟩ : ∃ x', x = x' + 1 := ⟨x - 1, by omega⟩
              have hwx1 : IntKind.u64.wrap ((x : Int) - 1) = (x' : Int) := by rw [hx', IntWalk.u64_in _ (by omega)]; omega
              have hwx2 := w32_id (n := x') (by omega)
              have HQS8 := hide_ (WO.set (c := Q.length) hq8 i x')
              have HST1 : Hid (DivAt (a * 2 ^ s) (b * 2 ^ s) nb mq Y (Q.set i x') i) := hide_ (by
                have hoa := HOA.out
                rw [HLL.out, hx'] at hoa
                have hgx := HGX.out
                rw [HLL.out, hx'] at hgx
                have hba := hBA
                rw [HLL.out] at hba
                obtain ⟨o1, o2⟩ := off_one HVL.out hiU hoa hba hgx
                obtain ⟨o3, o4⟩ := back_rest hoa hba
                rw [HVV.out] at o1 o2
                exact HDi.out.step HIM.out HVLT.out (by omega) o3 hba.dig o4 o1 o2)
              clear hBA hYo hg8 hce8 hfr8 hq8 hx1 hx' hiU)))
        · exact ⟨⟨i, (i : Int) - 1, by have := HIM.out; omega, by simp, hide_ rfl, hide_ ⟨_, _, HST1.out, HY8.out.other HQS8.out.2 (by omega), by have h := HQS8.out.1; rwa [HQL.out] at h⟩, hide_ (HV8.out.other HQS8.out.2 (by omega)), hide_ (grew_grown HG8.out HQS8.out.2 (by omega))⟩, by simp [intOf] <;> omega⟩
        · have HSTF := hide_ (HST0.out (by omega))
          exact ⟨⟨i, (i : Int) - 1, by have := HIM.out; omega, by simp, hide_ rfl, hide_ ⟨_, _, HSTF.out, HX7.out.other HQS7.out.2 (by omega), by have h := HQS7.out.1; rwa [HQL.out] at h⟩, hide_ (HV7.out.other HQS7.out.2 (by omega)), hide_ (grew_grown HG7.out HQS7.out.2 (by omega))⟩, by simp [intOf] <;> omega⟩
theorem divide_any (p q : Option Addr) (n m c d : Nat) (a b : Nat) (w : World) (hn : n = (wd a).length) (hm : m = (wd b).length) (hp : WL w p (wd a)) (hq : WL w q (wd b)) (hc : n ≤ c) (hd : m ≤ d) (hs : n ≤ 8192) (ht : m ≤ 8192) (hb : 0 < b) :
    Calls Try.prog 100 #[.slice p n c, .slice q m d] w (DivPost w a b) := by
  by_cases hab : a < b
  · exact divide_lt p q n m c d a b w hn hm hp hq hc hd hs ht hab
  · have hm0 : m ≠ 0 := fun e => by rw [hm, wd_len_zero] at e; omega
    by_cases h1 : m = 1
    · subst h1
      exact divide_one p q n c d a b w hn hm hp hq hc hd hs (by omega)
    · exact divide_long p q n m c d a b w hn hm hp hq hc hd hs (by omega) (by omega)
end Go.Proofs.Ytcibbnphkpaifaa

namespace Go.Proofs.Ytcibbnphkpaifaa
open Go.RowKit
set_option linter.unusedVariables false
set_option maxRecDepth 100000
theorem divmod_any (p q : Option Addr) (n m c d : Nat) (a b : Nat) (w : World) (hn : n = (wd a).length) (hm : m = (wd b).length) (hp : WL w p (wd a)) (hq : WL w q (wd b)) (hc : n ≤ c) (hd : m ≤ d) (hs : n ≤ 8192) (ht : m ≤ 8192) (hb : 0 < b) :
    Calls Try.prog 103 #[.slice p n c, .slice q m d] w fun e w' => (∃ vq vr, e = .returned (.tuple #[vq, vr, .int .i64 0]) ∧ WO w' w.heap.size vq (wd (a / b)) ∧ WO w' w.heap.size vr (wd (a % b))) ∧ Below w.heap.size w w' := by
  have hm0 : m ≠ 0 := fun e => by rw [hm, wd_len_zero] at e; omega
  subst hn hm
  have HK := hide_ (checked_any p q _ _ c d _ _ w rfl rfl hp hq (by omega) (by omega))
  rw [chk2_wd (by omega) (by omega)] at HK
  have HD := hide_ (divide_any p q _ _ c d a b w rfl rfl hp hq hc hd hs ht hb)
  unfold DivPost at HD
  have hz : (((wd b).length : Int) == 0) = false := beq_eq_false_iff_ne.2 (by omega)
  clear hp hq hc hd hs ht
  generalize (wd a).length = la at *
  generalize (wd b).length = lb at *
  go_enter Try.func103, Try.ntmps103
  go_wp2_with (first
    | (go_at_call 98; go_must ((with_reducible refine (HK.out).mono ?_); rintro e w1 ⟨rfl, rfl⟩))
    | (go_at_call 100; go_must ((with_reducible refine (HD.out).mono ?_); rintro e w2 ⟨⟨vq, vr, rfl, h1, h2⟩, hb2⟩)))
  exact bodyPost_ret (results_tmp3 rfl _ _ _) rfl ⟨⟨_, _, rfl, h1, h2⟩, hb2⟩
theorem vw_inj {S T : List Nat} (h : vw S = vw T) : S = T := by
  have hl : S.length = T.length := by rw [← vw_len S, h, vw_len]
  refine list_ext_getD hl fun j hj => ?_
  have h1 := vw_get hj
  rw [h, vw_get (by omega)] at h1
  simp only [Option.some.injEq, Value.int.injEq, true_and, Int.natCast_inj] at h1
  exact h1.symm
theorem WO.same {w : World} {b1 b2 : Nat} {v : Value} {S T : List Nat} (h : WO w b1 v S) (k : WO w b2 v T) : S = T := by
  obtain ⟨p, c, e1⟩ := h.slice
  obtain ⟨p', c', e2⟩ := k.slice
  rw [e1] at e2
  have hl : S.length = T.length := by
    simp only [Value.slice.injEq] at e2
    exact e2.2.1
  rcases h.2 with ⟨e, hz⟩ | ⟨g, cap, cur, e, _, hg, _, _, _, h4⟩
  · have eS : S = [] := List.eq_nil_of_length_eq_zero hz
    have eT : T = [] := List.eq_nil_of_length_eq_zero (by omega)
    rw [eS, eT]
  · rcases k.2 with ⟨e', hz⟩ | ⟨g', cap', cur', e', _, hg', _, _, _, k4⟩
    · have eT : T = [] := List.eq_nil_of_length_eq_zero hz
      have eS : S = [] := List.eq_nil_of_length_eq_zero (by omega)
      rw [eS, eT]
    · rw [e] at e'
      simp only [Value.slice.injEq, Option.some.injEq, Addr.mk.injEq, and_true] at e'
      obtain ⟨rfl, _, _⟩ := e'
      rw [hg] at hg'
      cases hg'
      exact vw_inj (by rw [← h4, ← k4, hl])
theorem num_of (base : Nat) : ∃ f : Value → World → Nat, ∀ v W Y, WO W base v (wd Y) → f v W = Y := by
  have : ∀ x : Value × World, ∃ Y, ∀ Z, WO x.2 base x.1 (wd Z) → Y = Z := fun x => by
    by_cases h : ∃ Y, WO x.2 base x.1 (wd Y)
    · obtain ⟨Y, hY⟩ := h
      exact ⟨Y, fun Z hZ => wd_inj (hY.same hZ)⟩
    · exact ⟨0, fun Z hZ => absurd ⟨Z, hZ⟩ h⟩
  obtain ⟨f, hf⟩ := Classical.axiomOfChoice this
  exact ⟨fun v W => f (v, W), fun v W Y h => hf (v, W) Y h⟩
theorem lt64_of_len {Y : Nat} (h : (wd Y).length ≤ 2) : Y < 18446744073709551616 := by
  have := wd_len_le.1 h
  rw [BB_eq] at this
  omega
set_option maxHeartbeats 6400000 in
theorem gcd_any (p q : Option Addr) (n m c d : Nat) (a b : Nat) (w : World) (hn : n = (wd a).length) (hm : m = (wd b).length) (hp : WL w p (wd a)) (hq : WL w q (wd b)) (hs : n ≤ 8192) (ht : m ≤ 8192) :
    Calls Try.prog 77 #[.slice p n c, .slice q m d] w fun e w' => (∃ v, e = .returned (.tuple #[v, .int .i64 0]) ∧ WO w' w.heap.size v (wd (Nat.gcd a b))) ∧ Below w.heap.size w w' := by
  subst hn hm
  have HK := hide_ (checked_any p q _ _ c d _ _ w rfl rfl hp hq (by omega) (by omega))
  rw [chk2_wd (by omega) (by omega)] at HK
  have HC1 := hide_ (clone_any p _ c (wd a) w rfl hp (by omega))
  have HC2 := hide_ (fun W (h : Below w.heap.size w W) => clone_any q _ d (wd b) W rfl (hq.below h) (by omega))
  have HLA := hide_ hs
  have HLB := hide_ ht
  obtain ⟨f, hf⟩ := num_of w.heap.size
  have HF := hide_ hf
  have HDV := hide_ (fun W px py cx cy X Y (hx : WO W w.heap.size (.slice px (wd X).length cx) (wd X)) (hy : WO W w.heap.size (.slice py (wd Y).length cy) (wd Y)) (h1 : (wd X).length ≤ 8192) (h2 : (wd Y).length ≤ 8192) (h3 : 0 < Y) =>
    divide_any px py _ _ cx cy X Y W rfl rfl hx.wl hy.wl hx.cap hy.cap h1 h2 h3)
  have HU := hide_ (fun W py cy Y (hy : WO W w.heap.size (.slice py (wd Y).length cy) (wd Y)) (h2 : (wd Y).length ≤ 2) => uint64_any py _ cy (wd Y) W rfl hy.wl hy.cap h2 (wd_dig Y) (wd_trm Y))
  unfold DivPost at HDV
  clear hp hq hf hs ht
  go_enter Try.func77, Try.ntmps77
  have tok : True := trivial
  go_wp2_with (first
    | (go_at_call 98; go_must ((with_reducible refine (HK.out).mono ?_); rintro e w1 ⟨rfl, rfl⟩))
    | (go_at_call 99; have _t := tok; go_must (
        (with_reducible refine (HC1.out).mono ?_)
        rintro e w2 ⟨⟨vx, rfl, hox⟩, hb2⟩
        have HOX := hide_ hox
        clear tok hox))
    | (go_at_call 99; go_must (
        (with_reducible refine (HC2.out _ hb2).mono ?_)
        rintro e w3 ⟨⟨vy, rfl, hoy⟩, hb3⟩
        have HG3 := hide_ (Grew.step (Grew.of hb2) hb3)
        have HOX3 := hide_ (HOX.out.below hb3)
        have HOY3 := hide_ (hoy.mono hb2.size)
        clear hoy)))
  go_loopw [7, 8] (fun x y wr => ∃ X Y : Nat, Hid (Nat.gcd X Y = Nat.gcd a b) ∧ Hid ((wd X).length ≤ 8192 ∧ (wd Y).length ≤ 8192) ∧ Hid (WO wr w1.heap.size x (wd X)) ∧ Hid (WO wr w1.heap.size y (wd Y)) ∧ Hid (Grew w1.heap.size w1 wr)) (fun _ y wr => f y wr)
  case atStart => exact ⟨a, b, hide_ rfl, hide_ ⟨HLA.out, HLB.out⟩, HOX3, HOY3, HG3⟩
  case round =>
    obtain ⟨X, Y, HGC, HL, HX, HY, HG⟩ := hrel
    obtain ⟨px, cx, rfl⟩ := HX.out.slice
    obtain ⟨py, cy, rfl⟩ := HY.out.slice
    obtain ⟨hlx, hly⟩ := HL.out
    have HDX := hide_ (fun h => HDV.out wr px py cx cy X Y HX.out HY.out hlx hly h)
    have HM1 := hide_ (HF.out _ _ _ HY.out)
    by_cases h2 : 2 < (wd Y).length
    · have d1 : decide ((2 : Int) < ((wd Y).length : Int)) = true := decide_eq_true (by omega)
      have d1n : decide (2 < (wd Y).length) = true := decide_eq_true h2
      have hY0 : 0 < Y := by
        rcases Nat.eq_zero_or_pos Y with h | h
        · rw [h, wd_zero] at h2; simp at h2
        · exact h
      have HR := hide_ (Nat.mod_lt X hY0)
      have HLR := hide_ (Nat.le_trans (wd_len_mono (Nat.le_of_lt (Nat.mod_lt X hY0))) hly)
      have HDX2 := hide_ (HDX.out hY0)
      have HGR : Hid (Nat.gcd Y (X % Y) = Nat.gcd a b) := hide_ (by rw [← HGC.out, Nat.gcd_comm X Y, Nat.gcd_rec Y X, Nat.gcd_comm])
      have HLY := hide_ hly
      generalize hly1 : (wd Y).length = ly at *
      generalize hlx1 : (wd X).length = lx at *
      have HLY1 := hide_ hly1
      clear hly1 hlx1
      go_wp2_with (go_at_call 100; go_must (
        (with_reducible refine (HDX2.out).mono ?_)
        rintro e w4 ⟨⟨vq, vr, rfl, ho1, ho2⟩, hb4⟩))
      have hov := ho2.mono HG.out.2
      exact ⟨⟨Y, X % Y, HGR, hide_ ⟨by rw [HLY1.out]; exact hly, HLR.out⟩, hide_ (HY.out.below hb4), hide_ hov, hide_ (HG.out.step hb4)⟩, by rw [HF.out _ _ _ hov, HM1.out]; exact HR.out⟩
    · have d1 : decide ((2 : Int) < ((wd Y).length : Int)) = false := decide_eq_false (by omega)
      have d1n : decide (2 < (wd Y).length) = false := decide_eq_false h2
      by_cases hy0 : Y = 0
      · subst hy0
        have hz : (wd 0).length = 0 := by rw [wd_zero]; rfl
        have HGX : Hid (X = Nat.gcd a b) := hide_ (by rw [← HGC.out, Nat.gcd_zero_right])
        rw [hz] at d1 d1n HY HDX HM1 ⊢
        clear hz h2 hly
        generalize (wd X).length = lx at *
        go_wp2
        go_ret2
        exact ⟨⟨_, rfl, by rw [← HGX.out]; exact HX.out⟩, HG.out.below⟩
      · have hY0 : 0 < Y := by omega
        have hly0 : (wd Y).length ≠ 0 := fun e => by rw [wd_len_zero] at e; omega
        have hz : (((wd Y).length : Int) == 0) = false := beq_eq_false_iff_ne.2 (by omega)
        have hmod := Nat.mod_lt X hY0
        have hlr : (wd (X % Y)).length ≤ 2 := Nat.le_trans (wd_len_mono (Nat.le_of_lt hmod)) (by omega)
        have hY64 := lt64_of_len (Y := Y) (by omega)
        have HDX2 := hide_ (HDX.out hY0)
        have HGR : Hid (Nat.gcd Y (X % Y) = Nat.gcd a b) := hide_ (by rw [← HGC.out, Nat.gcd_comm X Y, Nat.gcd_rec Y X, Nat.gcd_comm])
        have HUY := hide_ (fun W (h : Below wr.heap.size wr W) => HU.out W py cy Y (HY.out.below h) (by omega))
        have HUR := hide_ (fun W pr cr (h : WO W w1.heap.size (.slice pr (wd (X % Y)).length cr) (wd (X % Y))) => HU.out W pr cr (X % Y) h hlr)
        rw [val_wd] at HUY HUR
        have HR64 : Hid (X % Y < 18446744073709551616) := hide_ (by omega)
        have HY64 := hide_ hY64
        clear hlr hmod hY64 h2 hly hlx hy0 hY0 hly0
        generalize hr : X % Y = R at *
        clear hr
        generalize (wd Y).length = ly at *
        generalize (wd X).length = lx at *
        have tok2 : True := trivial
        go_wp2_with (first
          | (go_at_call 100; go_must (
              (with_reducible refine (HDX2.out).mono ?_)
              rintro e w4 ⟨⟨vq, vr, rfl, ho1, ho2⟩, hb4⟩
              obtain ⟨pr, cr, rfl⟩ := WO.slice ho2
              have hov := ho2.mono HG.out.2
              have HG4 := hide_ (HG.out.step hb4)))
          | (go_at_call 101; have _t := tok2; go_must (
              (with_reducible refine (HUY.out _ hb4).mono ?_)
              rintro e w5 ⟨rfl, rfl⟩
              clear tok2))
          | (go_at_call 101; go_must (
              (with_reducible refine (HUR.out _ pr cr hov).mono ?_)
              rintro e w5 ⟨rfl, rfl⟩)))
        go_loopw [13, 15] (fun x y wr2 => ∃ m r : Nat, x = .int .u64 m ∧ y = .int .u64 r ∧ Hid (Nat.gcd m r = Nat.gcd a b) ∧ Hid (m < 18446744073709551616 ∧ r < 18446744073709551616) ∧ Hid (Grew w1.heap.size w1 wr2)) (fun _ y _ => (intOf y).toNat)
        case atStart => exact ⟨Y, R, rfl, rfl, HGR, hide_ ⟨HY64.out, HR64.out⟩, HG4⟩
        case round =>
          obtain ⟨m, r, rfl, rfl, HGM, HB, HGg⟩ := hrel
          by_cases hr0 : r = 0
          · subst hr0
            have HOF := hide_ (fun W => of_any m W HB.out.1)
            have HGX : Hid (m = Nat.gcd a b) := hide_ (by rw [← HGM.out, Nat.gcd_zero_right])
            go_wp2_with (go_at_call 102; go_must (
              (with_reducible refine (HOF.out _).mono ?_)
              rintro e w6 ⟨⟨v6, rfl, ho6⟩, hb6⟩))
            go_ret2
            exact ⟨⟨_, rfl, by rw [← HGX.out]; exact ho6.mono HGg.out.2⟩, (HGg.out.step hb6).below⟩
          · have hb1 : ((r : Int) != 0) = true := by simp; omega
            have hb2 : ((r : Int) == 0) = false := beq_eq_false_iff_ne.2 (by omega)
            obtain ⟨t, ht⟩ : ∃ t, t = m % r := ⟨_, rfl⟩
            have hmod : t < r := by rw [ht]; exact Nat.mod_lt _ (by omega)
            have g1 : (m : Int).tmod (r : Int) = (t : Int) := by rw [ht]; exact (Int.ofNat_tmod _ _).symm
            obtain ⟨hb64a, hb64b⟩ := HB.out
            have g2 := w64_id (n := t) (by omega)
            have HGR2 : Hid (Nat.gcd r t = Nat.gcd a b) := hide_ (by rw [← HGM.out, ht, Nat.gcd_comm m r, Nat.gcd_rec r m, Nat.gcd_comm])
            have HMD := hide_ hmod
            have HB2 := hide_ (And.intro hb64b (Nat.lt_trans hmod hb64b))
            clear ht hmod hb64a hb64b
            go_wp2
            go_quiet (fail)
            go_wp2
            exact ⟨⟨r, t, rfl, rfl, HGR2, HB2, hide_ (by first | exact HGg.out.drewN _ | exact HGg.out)⟩, by have := HMD.out; simp [intOf]; omega⟩
end Go.Proofs.Ytcibbnphkpaifaa

