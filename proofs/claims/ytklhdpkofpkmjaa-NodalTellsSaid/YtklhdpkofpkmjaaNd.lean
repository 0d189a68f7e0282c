/- Chapter 12: the table's rows, by a name; clock.Span; the same float: contracts in the program and in the reference. -/
import Derived.Test.YtklhdpkofpkmjaaRo4
namespace Go.Proofs.Ytklhdpkofpkmjaa
open Go.RowKit Ieee
set_option linter.unusedVariables false
set_option maxRecDepth 100000
/-- The value's size is at most n. -/
def AbsN (n b : Nat) : Prop := ∃ v, Fin64 b v ∧ v.natAbs ≤ n * P74 ∧ b < 2 ^ 64
theorem Abs.toN {R n b : Nat} (h : Abs R b) (hR : valR R ≤ n * P74) : AbsN n b := let ⟨v, a, c, d⟩ := h; ⟨v, a, Nat.le_trans c hR, d⟩
theorem AbsN.up {n m b : Nat} (h : AbsN n b) (hm : n ≤ m) : AbsN m b := let ⟨v, a, c, d⟩ := h; ⟨v, a, Nat.le_trans c (Nat.mul_le_mul_right _ hm), d⟩
theorem abs_one {b : Nat} (h : Abs ONE b) : AbsN 1 b := h.toN (by rw [valR_one, Nat.one_mul]; exact Nat.le_refl _)
theorem int_rungP (n : Nat) (hn : n < 2 ^ 53) : ∃ R, R < 2047 * 2 ^ 52 ∧ valR R = n * P74 := by
  obtain ⟨R, h1, h2⟩ := int_rung n hn
  rw [← p74_eq'] at h2
  exact ⟨R, h1, h2⟩
theorem AbsN.add {n m x y : Nat} (hx : AbsN n x) (hy : AbsN m y) (h : n + m < 2 ^ 53) : double.add x y = some (fa x y) ∧ AbsN (n + m) (fa x y) := by
  obtain ⟨R, hR, hv⟩ := int_rungP (n + m) h
  obtain ⟨a, f1, ha, _⟩ := hx
  obtain ⟨b, f2, hb, _⟩ := hy
  obtain ⟨r, c, h1, h2, h3, h4, h5, h6⟩ := f1.add f2 (A := 0) (B := R) hR (by rw [valR_low (by decide)]; exact Nat.zero_le _) (by rw [hv, Nat.add_mul]; omega)
  have hw := add_ok (a := 0) ⟨r, c, h1, h2⟩
  obtain rfl : fa x y = r := by rw [h1] at hw; exact (Option.some.inj hw.1).symm
  rw [hv] at h4
  exact ⟨hw.1, c, h2, Int.ofNat_le.1 h4, hw.2⟩
theorem AbsN.mul {n m x y : Nat} (hx : AbsN n x) (hy : AbsN m y) (h : n * m < 2 ^ 53) : double.mul x y = some (fm x y) ∧ AbsN (n * m) (fm x y) := by
  obtain ⟨R, hR, hv⟩ := int_rungP (n * m) h
  obtain ⟨a, f1, ha, _⟩ := hx
  obtain ⟨b, f2, hb, _⟩ := hy
  obtain ⟨r, c, h1, h2, h4, h5, h6⟩ := f1.mulP f2 (B := R) hR (by
    rw [hv]
    calc a.natAbs * b.natAbs ≤ (n * P74) * (m * P74) := Nat.mul_le_mul ha hb
      _ = n * m * P74 * P74 := by ac_rfl)
  have hw := mul_ok (a := 0) ⟨r, c, h1, h2⟩
  obtain rfl : fm x y = r := by rw [h1] at hw; exact (Option.some.inj hw.1).symm
  rw [hv] at h4
  exact ⟨hw.1, c, h2, Int.ofNat_le.1 h4, hw.2⟩
theorem abs_const {S n : Nat} (neg : Bool) (h : S < 2047 * 2 ^ 52) (hR : valR S ≤ n * P74) : AbsN n (double.word neg S) := by
  refine ⟨_, fin_word h, ?_, ?_⟩
  · cases neg <;> simpa using hR
  · cases neg
    · rw [word_false]; omega
    · rw [word_true (by omega)]; omega
/-- A row of the table: its numbers' sizes. -/
def RowB (a b c : Nat) : Prop := AbsN 2 a ∧ AbsN 1 b ∧ AbsN 262144 c
theorem two_p74 (K : Nat) : 2 ^ (1074 + K) = 2 ^ K * P74 := by
  rw [Nat.add_comm, Nat.pow_add, p74_eq']
theorem const_bd {S : Nat} (K : Nat) (hK : K ≤ 1000) (h : S ≤ (1022 + K + 1) * 2 ^ 52) : valR S ≤ 2 ^ K * P74 := by
  rw [← two_p74, ← valR_two K hK]
  exact valR_mono h
theorem abs_constK {S : Nat} (neg : Bool) (K n : Nat) (hn : 2 ^ K = n) (h : S < 2047 * 2 ^ 52) (hK : K ≤ 1000) (hS : S ≤ (1022 + K + 1) * 2 ^ 52) : AbsN n (double.word neg S) := by
  have h1 := const_bd K hK hS
  rw [hn] at h1
  exact abs_const neg h h1
theorem row_b0 : RowB 4607182418800017408 13808865119849376907 13894873686856433664 := ⟨(abs_constK (S := 4607182418800017408) false 1 2 (by decide) (by decide) (by decide) (by decide) : AbsN 2 4607182418800017408), (abs_constK (S := 4585493082994601099) true 0 1 (by decide) (by decide) (by decide) (by decide) : AbsN 1 13808865119849376907), (abs_constK (S := 4671501650001657856) true 18 262144 (by decide) (by decide) (by decide) (by decide) : AbsN 262144 13894873686856433664)⟩
theorem row_b1 : RowB 4607182418800017408 0 0 := ⟨(abs_constK (S := 4607182418800017408) false 1 2 (by decide) (by decide) (by decide) (by decide) : AbsN 2 4607182418800017408), (abs_constK (S := 0) false 0 1 (by decide) (by decide) (by decide) (by decide) : AbsN 1 0), (abs_constK (S := 0) false 18 262144 (by decide) (by decide) (by decide) (by decide) : AbsN 262144 0)⟩
theorem row_b2 : RowB 4607290505191074300 4598823737891617767 13908693723383857152 := ⟨(abs_constK (S := 4607290505191074300) false 1 2 (by decide) (by decide) (by decide) (by decide) : AbsN 2 4607290505191074300), (abs_constK (S := 4598823737891617767) false 0 1 (by decide) (by decide) (by decide) (by decide) : AbsN 1 4598823737891617767), (abs_constK (S := 4685321686529081344) true 18 262144 (by decide) (by decide) (by decide) (by decide) : AbsN 262144 13908693723383857152)⟩
theorem row_b3 : RowB 4607209440397781631 4592951043977526641 13904224483494854656 := ⟨(abs_constK (S := 4607209440397781631) false 1 2 (by decide) (by decide) (by decide) (by decide) : AbsN 2 4607209440397781631), (abs_constK (S := 4592951043977526641) false 0 1 (by decide) (by decide) (by decide) (by decide) : AbsN 1 4592951043977526641), (abs_constK (S := 4680852446640078848) true 18 262144 (by decide) (by decide) (by decide) (by decide) : AbsN 262144 13904224483494854656)⟩
theorem row_b4 : RowB 4607222951196663742 4595905405333081686 4682158116698062848 := ⟨(abs_constK (S := 4607222951196663742) false 1 2 (by decide) (by decide) (by decide) (by decide) : AbsN 2 4607222951196663742), (abs_constK (S := 4595905405333081686) false 0 1 (by decide) (by decide) (by decide) (by decide) : AbsN 1 4595905405333081686), (abs_constK (S := 4682158116698062848) false 18 262144 (by decide) (by decide) (by decide) (by decide) : AbsN 262144 4682158116698062848)⟩
theorem row_b5 : RowB 4607376073583994339 4601129580900831461 13910755307685937152 := ⟨(abs_constK (S := 4607376073583994339) false 1 2 (by decide) (by decide) (by decide) (by decide) : AbsN 2 4607376073583994339), (abs_constK (S := 4601129580900831461) false 0 1 (by decide) (by decide) (by decide) (by decide) : AbsN 1 4601129580900831461), (abs_constK (S := 4687383270831161344) true 18 262144 (by decide) (by decide) (by decide) (by decide) : AbsN 262144 13910755307685937152)⟩
theorem row_b6 : RowB 4607182418800017408 13817223800757776548 0 := ⟨(abs_constK (S := 4607182418800017408) false 1 2 (by decide) (by decide) (by decide) (by decide) : AbsN 2 4607182418800017408), (abs_constK (S := 4593851763903000740) true 0 1 (by decide) (by decide) (by decide) (by decide) : AbsN 1 13817223800757776548), (abs_constK (S := 0) false 18 262144 (by decide) (by decide) (by decide) (by decide) : AbsN 262144 0)⟩
theorem row_bz : RowB 0 0 0 := ⟨(abs_constK (S := 0) false 1 2 (by decide) (by decide) (by decide) (by decide) : AbsN 2 0), (abs_constK (S := 0) false 0 1 (by decide) (by decide) (by decide) (by decide) : AbsN 1 0), (abs_constK (S := 0) false 18 262144 (by decide) (by decide) (by decide) (by decide) : AbsN 262144 0)⟩
theorem bl2 (a b : UInt8) : (⟨#[a, b]⟩ : ByteArray).toList = [a, b] := by
  first
    | (simp; done)
    | (simp [ByteArray.toList, ByteArray.toList.loop, ByteArray.size]; done)
    | rfl
theorem find_M2 :
    (∀ wx : World, Calls Try.prog 90 #[.string ⟨#[77, 50]⟩] wx fun e w' => e = .returned (.tuple #[.agg #[.float .f64 4607182418800017408, .float .f64 13808865119849376907, .float .f64 13894873686856433664], .bool true]) ∧ Below wx.heap.size wx w') ∧
    (∀ wx : World, Calls Try.prog 92 #[.string ⟨#[77, 50]⟩] wx fun e w' => e = .returned (.tuple #[.float .f64 4607182418800017408, .float .f64 13808865119849376907, .float .f64 13894873686856433664, .bool true]) ∧ Below wx.heap.size wx w') := by
  refine ⟨fun w => ?_, fun w => ?_⟩
  · go_enter Try.func90, Try.ntmps90
    go_wp2_with ((with_reducible apply wpList_store_new); (with_reducible rfl); (with_reducible rfl); rfl; rfl; kernel_rfl; rfl; kernel_rfl)
    refine ret_ct rfl _ 111 _ _ rfl (heap_alloc_last _ _) Try.underlying111 rfl (by kernel_rfl) rfl ⟨rfl, ?_⟩
    exact Grew.below (by repeat (first | exact Grew.refl _ | assumption | refine Grew.alloc ?_ _ | refine Grew.drewN ?_ _ | refine Grew.drew ?_ | refine Grew.setRow ?_ (by first | assumption | (simp; done) | (simp; omega) | omega) _ | refine Grew.setCell ?_ (by first | assumption | (simp; done) | (simp; omega) | omega) _ | refine Grew.step ?_ (by assumption)))
  · go_enter Try.func92, Try.ntmps92
    go_wp2
    refine bodyPost_ret (v := .tuple #[.float .f64 4607182418800017408, .float .f64 13808865119849376907, .float .f64 13894873686856433664, .bool true]) (by simp [results, Try.results92, go_sem]) rfl ⟨rfl, Below.refl _ _⟩
theorem find_N2 :
    (∀ wx : World, Calls Try.prog 90 #[.string ⟨#[78, 50]⟩] wx fun e w' => e = .returned (.tuple #[.agg #[.float .f64 4607182418800017408, .float .f64 13808865119849376907, .float .f64 13894873686856433664], .bool true]) ∧ Below wx.heap.size wx w') ∧
    (∀ wx : World, Calls Try.prog 92 #[.string ⟨#[78, 50]⟩] wx fun e w' => e = .returned (.tuple #[.float .f64 4607182418800017408, .float .f64 13808865119849376907, .float .f64 13894873686856433664, .bool true]) ∧ Below wx.heap.size wx w') := by
  refine ⟨fun w => ?_, fun w => ?_⟩
  · go_enter Try.func90, Try.ntmps90
    go_wp2_with ((with_reducible apply wpList_store_new); (with_reducible rfl); (with_reducible rfl); rfl; rfl; kernel_rfl; rfl; kernel_rfl)
    refine ret_ct rfl _ 111 _ _ rfl (heap_alloc_last _ _) Try.underlying111 rfl (by kernel_rfl) rfl ⟨rfl, ?_⟩
    exact Grew.below (by repeat (first | exact Grew.refl _ | assumption | refine Grew.alloc ?_ _ | refine Grew.drewN ?_ _ | refine Grew.drew ?_ | refine Grew.setRow ?_ (by first | assumption | (simp; done) | (simp; omega) | omega) _ | refine Grew.setCell ?_ (by first | assumption | (simp; done) | (simp; omega) | omega) _ | refine Grew.step ?_ (by assumption)))
  · go_enter Try.func92, Try.ntmps92
    go_wp2
    refine bodyPost_ret (v := .tuple #[.float .f64 4607182418800017408, .float .f64 13808865119849376907, .float .f64 13894873686856433664, .bool true]) (by simp [results, Try.results92, go_sem]) rfl ⟨rfl, Below.refl _ _⟩
theorem find_S2 :
    (∀ wx : World, Calls Try.prog 90 #[.string ⟨#[83, 50]⟩] wx fun e w' => e = .returned (.tuple #[.agg #[.float .f64 4607182418800017408, .float .f64 0, .float .f64 0], .bool true]) ∧ Below wx.heap.size wx w') ∧
    (∀ wx : World, Calls Try.prog 92 #[.string ⟨#[83, 50]⟩] wx fun e w' => e = .returned (.tuple #[.float .f64 4607182418800017408, .float .f64 0, .float .f64 0, .bool true]) ∧ Below wx.heap.size wx w') := by
  refine ⟨fun w => ?_, fun w => ?_⟩
  · go_enter Try.func90, Try.ntmps90
    go_wp2_with ((with_reducible apply wpList_store_new); (with_reducible rfl); (with_reducible rfl); rfl; rfl; kernel_rfl; rfl; kernel_rfl)
    refine ret_ct rfl _ 111 _ _ rfl (heap_alloc_last _ _) Try.underlying111 rfl (by kernel_rfl) rfl ⟨rfl, ?_⟩
    exact Grew.below (by repeat (first | exact Grew.refl _ | assumption | refine Grew.alloc ?_ _ | refine Grew.drewN ?_ _ | refine Grew.drew ?_ | refine Grew.setRow ?_ (by first | assumption | (simp; done) | (simp; omega) | omega) _ | refine Grew.setCell ?_ (by first | assumption | (simp; done) | (simp; omega) | omega) _ | refine Grew.step ?_ (by assumption)))
  · go_enter Try.func92, Try.ntmps92
    go_wp2
    refine bodyPost_ret (v := .tuple #[.float .f64 4607182418800017408, .float .f64 0, .float .f64 0, .bool true]) (by simp [results, Try.results92, go_sem]) rfl ⟨rfl, Below.refl _ _⟩
theorem find_P1 :
    (∀ wx : World, Calls Try.prog 90 #[.string ⟨#[80, 49]⟩] wx fun e w' => e = .returned (.tuple #[.agg #[.float .f64 4607182418800017408, .float .f64 0, .float .f64 0], .bool true]) ∧ Below wx.heap.size wx w') ∧
    (∀ wx : World, Calls Try.prog 92 #[.string ⟨#[80, 49]⟩] wx fun e w' => e = .returned (.tuple #[.float .f64 4607182418800017408, .float .f64 0, .float .f64 0, .bool true]) ∧ Below wx.heap.size wx w') := by
  refine ⟨fun w => ?_, fun w => ?_⟩
  · go_enter Try.func90, Try.ntmps90
    go_wp2_with ((with_reducible apply wpList_store_new); (with_reducible rfl); (with_reducible rfl); rfl; rfl; kernel_rfl; rfl; kernel_rfl)
    refine ret_ct rfl _ 111 _ _ rfl (heap_alloc_last _ _) Try.underlying111 rfl (by kernel_rfl) rfl ⟨rfl, ?_⟩
    exact Grew.below (by repeat (first | exact Grew.refl _ | assumption | refine Grew.alloc ?_ _ | refine Grew.drewN ?_ _ | refine Grew.drew ?_ | refine Grew.setRow ?_ (by first | assumption | (simp; done) | (simp; omega) | omega) _ | refine Grew.setCell ?_ (by first | assumption | (simp; done) | (simp; omega) | omega) _ | refine Grew.step ?_ (by assumption)))
  · go_enter Try.func92, Try.ntmps92
    go_wp2
    refine bodyPost_ret (v := .tuple #[.float .f64 4607182418800017408, .float .f64 0, .float .f64 0, .bool true]) (by simp [results, Try.results92, go_sem]) rfl ⟨rfl, Below.refl _ _⟩
theorem find_K2 :
    (∀ wx : World, Calls Try.prog 90 #[.string ⟨#[75, 50]⟩] wx fun e w' => e = .returned (.tuple #[.agg #[.float .f64 4607290505191074300, .float .f64 4598823737891617767, .float .f64 13908693723383857152], .bool true]) ∧ Below wx.heap.size wx w') ∧
    (∀ wx : World, Calls Try.prog 92 #[.string ⟨#[75, 50]⟩] wx fun e w' => e = .returned (.tuple #[.float .f64 4607290505191074300, .float .f64 4598823737891617767, .float .f64 13908693723383857152, .bool true]) ∧ Below wx.heap.size wx w') := by
  refine ⟨fun w => ?_, fun w => ?_⟩
  · go_enter Try.func90, Try.ntmps90
    go_wp2_with ((with_reducible apply wpList_store_new); (with_reducible rfl); (with_reducible rfl); rfl; rfl; kernel_rfl; rfl; kernel_rfl)
    refine ret_ct rfl _ 111 _ _ rfl (heap_alloc_last _ _) Try.underlying111 rfl (by kernel_rfl) rfl ⟨rfl, ?_⟩
    exact Grew.below (by repeat (first | exact Grew.refl _ | assumption | refine Grew.alloc ?_ _ | refine Grew.drewN ?_ _ | refine Grew.drew ?_ | refine Grew.setRow ?_ (by first | assumption | (simp; done) | (simp; omega) | omega) _ | refine Grew.setCell ?_ (by first | assumption | (simp; done) | (simp; omega) | omega) _ | refine Grew.step ?_ (by assumption)))
  · go_enter Try.func92, Try.ntmps92
    go_wp2
    refine bodyPost_ret (v := .tuple #[.float .f64 4607290505191074300, .float .f64 4598823737891617767, .float .f64 13908693723383857152, .bool true]) (by simp [results, Try.results92, go_sem]) rfl ⟨rfl, Below.refl _ _⟩
theorem find_K1 :
    (∀ wx : World, Calls Try.prog 90 #[.string ⟨#[75, 49]⟩] wx fun e w' => e = .returned (.tuple #[.agg #[.float .f64 4607209440397781631, .float .f64 4592951043977526641, .float .f64 13904224483494854656], .bool true]) ∧ Below wx.heap.size wx w') ∧
    (∀ wx : World, Calls Try.prog 92 #[.string ⟨#[75, 49]⟩] wx fun e w' => e = .returned (.tuple #[.float .f64 4607209440397781631, .float .f64 4592951043977526641, .float .f64 13904224483494854656, .bool true]) ∧ Below wx.heap.size wx w') := by
  refine ⟨fun w => ?_, fun w => ?_⟩
  · go_enter Try.func90, Try.ntmps90
    go_wp2_with ((with_reducible apply wpList_store_new); (with_reducible rfl); (with_reducible rfl); rfl; rfl; kernel_rfl; rfl; kernel_rfl)
    refine ret_ct rfl _ 111 _ _ rfl (heap_alloc_last _ _) Try.underlying111 rfl (by kernel_rfl) rfl ⟨rfl, ?_⟩
    exact Grew.below (by repeat (first | exact Grew.refl _ | assumption | refine Grew.alloc ?_ _ | refine Grew.drewN ?_ _ | refine Grew.drew ?_ | refine Grew.setRow ?_ (by first | assumption | (simp; done) | (simp; omega) | omega) _ | refine Grew.setCell ?_ (by first | assumption | (simp; done) | (simp; omega) | omega) _ | refine Grew.step ?_ (by assumption)))
  · go_enter Try.func92, Try.ntmps92
    go_wp2
    refine bodyPost_ret (v := .tuple #[.float .f64 4607209440397781631, .float .f64 4592951043977526641, .float .f64 13904224483494854656, .bool true]) (by simp [results, Try.results92, go_sem]) rfl ⟨rfl, Below.refl _ _⟩
theorem find_O1 :
    (∀ wx : World, Calls Try.prog 90 #[.string ⟨#[79, 49]⟩] wx fun e w' => e = .returned (.tuple #[.agg #[.float .f64 4607222951196663742, .float .f64 4595905405333081686, .float .f64 4682158116698062848], .bool true]) ∧ Below wx.heap.size wx w') ∧
    (∀ wx : World, Calls Try.prog 92 #[.string ⟨#[79, 49]⟩] wx fun e w' => e = .returned (.tuple #[.float .f64 4607222951196663742, .float .f64 4595905405333081686, .float .f64 4682158116698062848, .bool true]) ∧ Below wx.heap.size wx w') := by
  refine ⟨fun w => ?_, fun w => ?_⟩
  · go_enter Try.func90, Try.ntmps90
    go_wp2_with ((with_reducible apply wpList_store_new); (with_reducible rfl); (with_reducible rfl); rfl; rfl; kernel_rfl; rfl; kernel_rfl)
    refine ret_ct rfl _ 111 _ _ rfl (heap_alloc_last _ _) Try.underlying111 rfl (by kernel_rfl) rfl ⟨rfl, ?_⟩
    exact Grew.below (by repeat (first | exact Grew.refl _ | assumption | refine Grew.alloc ?_ _ | refine Grew.drewN ?_ _ | refine Grew.drew ?_ | refine Grew.setRow ?_ (by first | assumption | (simp; done) | (simp; omega) | omega) _ | refine Grew.setCell ?_ (by first | assumption | (simp; done) | (simp; omega) | omega) _ | refine Grew.step ?_ (by assumption)))
  · go_enter Try.func92, Try.ntmps92
    go_wp2
    refine bodyPost_ret (v := .tuple #[.float .f64 4607222951196663742, .float .f64 4595905405333081686, .float .f64 4682158116698062848, .bool true]) (by simp [results, Try.results92, go_sem]) rfl ⟨rfl, Below.refl _ _⟩
theorem find_Q1 :
    (∀ wx : World, Calls Try.prog 90 #[.string ⟨#[81, 49]⟩] wx fun e w' => e = .returned (.tuple #[.agg #[.float .f64 4607222951196663742, .float .f64 4595905405333081686, .float .f64 4682158116698062848], .bool true]) ∧ Below wx.heap.size wx w') ∧
    (∀ wx : World, Calls Try.prog 92 #[.string ⟨#[81, 49]⟩] wx fun e w' => e = .returned (.tuple #[.float .f64 4607222951196663742, .float .f64 4595905405333081686, .float .f64 4682158116698062848, .bool true]) ∧ Below wx.heap.size wx w') := by
  refine ⟨fun w => ?_, fun w => ?_⟩
  · go_enter Try.func90, Try.ntmps90
    go_wp2_with ((with_reducible apply wpList_store_new); (with_reducible rfl); (with_reducible rfl); rfl; rfl; kernel_rfl; rfl; kernel_rfl)
    refine ret_ct rfl _ 111 _ _ rfl (heap_alloc_last _ _) Try.underlying111 rfl (by kernel_rfl) rfl ⟨rfl, ?_⟩
    exact Grew.below (by repeat (first | exact Grew.refl _ | assumption | refine Grew.alloc ?_ _ | refine Grew.drewN ?_ _ | refine Grew.drew ?_ | refine Grew.setRow ?_ (by first | assumption | (simp; done) | (simp; omega) | omega) _ | refine Grew.setCell ?_ (by first | assumption | (simp; done) | (simp; omega) | omega) _ | refine Grew.step ?_ (by assumption)))
  · go_enter Try.func92, Try.ntmps92
    go_wp2
    refine bodyPost_ret (v := .tuple #[.float .f64 4607222951196663742, .float .f64 4595905405333081686, .float .f64 4682158116698062848, .bool true]) (by simp [results, Try.results92, go_sem]) rfl ⟨rfl, Below.refl _ _⟩
theorem find_Mf :
    (∀ wx : World, Calls Try.prog 90 #[.string ⟨#[77, 102]⟩] wx fun e w' => e = .returned (.tuple #[.agg #[.float .f64 4607376073583994339, .float .f64 4601129580900831461, .float .f64 13910755307685937152], .bool true]) ∧ Below wx.heap.size wx w') ∧
    (∀ wx : World, Calls Try.prog 92 #[.string ⟨#[77, 102]⟩] wx fun e w' => e = .returned (.tuple #[.float .f64 4607376073583994339, .float .f64 4601129580900831461, .float .f64 13910755307685937152, .bool true]) ∧ Below wx.heap.size wx w') := by
  refine ⟨fun w => ?_, fun w => ?_⟩
  · go_enter Try.func90, Try.ntmps90
    go_wp2_with ((with_reducible apply wpList_store_new); (with_reducible rfl); (with_reducible rfl); rfl; rfl; kernel_rfl; rfl; kernel_rfl)
    refine ret_ct rfl _ 111 _ _ rfl (heap_alloc_last _ _) Try.underlying111 rfl (by kernel_rfl) rfl ⟨rfl, ?_⟩
    exact Grew.below (by repeat (first | exact Grew.refl _ | assumption | refine Grew.alloc ?_ _ | refine Grew.drewN ?_ _ | refine Grew.drew ?_ | refine Grew.setRow ?_ (by first | assumption | (simp; done) | (simp; omega) | omega) _ | refine Grew.setCell ?_ (by first | assumption | (simp; done) | (simp; omega) | omega) _ | refine Grew.step ?_ (by assumption)))
  · go_enter Try.func92, Try.ntmps92
    go_wp2
    refine bodyPost_ret (v := .tuple #[.float .f64 4607376073583994339, .float .f64 4601129580900831461, .float .f64 13910755307685937152, .bool true]) (by simp [results, Try.results92, go_sem]) rfl ⟨rfl, Below.refl _ _⟩
theorem find_Mm :
    (∀ wx : World, Calls Try.prog 90 #[.string ⟨#[77, 109]⟩] wx fun e w' => e = .returned (.tuple #[.agg #[.float .f64 4607182418800017408, .float .f64 13817223800757776548, .float .f64 0], .bool true]) ∧ Below wx.heap.size wx w') ∧
    (∀ wx : World, Calls Try.prog 92 #[.string ⟨#[77, 109]⟩] wx fun e w' => e = .returned (.tuple #[.float .f64 4607182418800017408, .float .f64 13817223800757776548, .float .f64 0, .bool true]) ∧ Below wx.heap.size wx w') := by
  refine ⟨fun w => ?_, fun w => ?_⟩
  · go_enter Try.func90, Try.ntmps90
    go_wp2_with ((with_reducible apply wpList_store_new); (with_reducible rfl); (with_reducible rfl); rfl; rfl; kernel_rfl; rfl; kernel_rfl)
    refine ret_ct rfl _ 111 _ _ rfl (heap_alloc_last _ _) Try.underlying111 rfl (by kernel_rfl) rfl ⟨rfl, ?_⟩
    exact Grew.below (by repeat (first | exact Grew.refl _ | assumption | refine Grew.alloc ?_ _ | refine Grew.drewN ?_ _ | refine Grew.drew ?_ | refine Grew.setRow ?_ (by first | assumption | (simp; done) | (simp; omega) | omega) _ | refine Grew.setCell ?_ (by first | assumption | (simp; done) | (simp; omega) | omega) _ | refine Grew.step ?_ (by assumption)))
  · go_enter Try.func92, Try.ntmps92
    go_wp2
    refine bodyPost_ret (v := .tuple #[.float .f64 4607182418800017408, .float .f64 13817223800757776548, .float .f64 0, .bool true]) (by simp [results, Try.results92, go_sem]) rfl ⟨rfl, Below.refl _ _⟩
set_option maxHeartbeats 1600000 in
theorem find_none (s : ByteArray) (h0 : (s.toList == [77, 50]) = false) (h1 : (s.toList == [78, 50]) = false) (h2 : (s.toList == [83, 50]) = false) (h3 : (s.toList == [80, 49]) = false) (h4 : (s.toList == [75, 50]) = false) (h5 : (s.toList == [75, 49]) = false) (h6 : (s.toList == [79, 49]) = false) (h7 : (s.toList == [81, 49]) = false) (h8 : (s.toList == [77, 102]) = false) (h9 : (s.toList == [77, 109]) = false) :
    (∀ wx : World, Calls Try.prog 90 #[.string s] wx fun e w' => e = .returned (.tuple #[.agg #[.float .f64 0, .float .f64 0, .float .f64 0], .bool false]) ∧ Below wx.heap.size wx w') ∧
    (∀ wx : World, Calls Try.prog 92 #[.string s] wx fun e w' => e = .returned (.tuple #[.float .f64 0, .float .f64 0, .float .f64 0, .bool false]) ∧ Below wx.heap.size wx w') := by
  refine ⟨fun w => ?_, fun w => ?_⟩
  · go_enter Try.func90, Try.ntmps90
    go_wp2_with ((with_reducible apply wpList_store_new); (with_reducible rfl); (with_reducible rfl); rfl; rfl; kernel_rfl; rfl; kernel_rfl)
    refine ret_ct rfl _ 111 _ _ rfl (heap_alloc_last _ _) Try.underlying111 rfl (by kernel_rfl) rfl ⟨rfl, ?_⟩
    exact Grew.below (by repeat (first | exact Grew.refl _ | assumption | refine Grew.alloc ?_ _ | refine Grew.drewN ?_ _ | refine Grew.drew ?_ | refine Grew.setRow ?_ (by first | assumption | (simp; done) | (simp; omega) | omega) _ | refine Grew.setCell ?_ (by first | assumption | (simp; done) | (simp; omega) | omega) _ | refine Grew.step ?_ (by assumption)))
  · go_enter Try.func92, Try.ntmps92
    go_wp2
    refine bodyPost_ret (v := .tuple #[.float .f64 0, .float .f64 0, .float .f64 0, .bool false]) (by simp [results, Try.results92, go_sem]) rfl ⟨rfl, Below.refl _ _⟩
/-- The program's find and the reference's row answer alike. -/
theorem find_alike12 (s : ByteArray) : ∃ (c0 c1 c2 : Nat) (b : Bool), RowB c0 c1 c2 ∧
    (∀ wx : World, Calls Try.prog 90 #[.string s] wx fun e w' => e = .returned (.tuple #[.agg #[.float .f64 c0, .float .f64 c1, .float .f64 c2], .bool b]) ∧ Below wx.heap.size wx w') ∧
    (∀ wx : World, Calls Try.prog 92 #[.string s] wx fun e w' => e = .returned (.tuple #[.float .f64 c0, .float .f64 c1, .float .f64 c2, .bool b]) ∧ Below wx.heap.size wx w') := by
  by_cases h0 : s = ⟨#[77, 50]⟩
  · subst h0; exact ⟨4607182418800017408, 13808865119849376907, 13894873686856433664, true, row_b0, find_M2⟩
  have n0 := bytes_ne h0
  rw [bl2] at n0
  by_cases h1 : s = ⟨#[78, 50]⟩
  · subst h1; exact ⟨4607182418800017408, 13808865119849376907, 13894873686856433664, true, row_b0, find_N2⟩
  have n1 := bytes_ne h1
  rw [bl2] at n1
  by_cases h2 : s = ⟨#[83, 50]⟩
  · subst h2; exact ⟨4607182418800017408, 0, 0, true, row_b1, find_S2⟩
  have n2 := bytes_ne h2
  rw [bl2] at n2
  by_cases h3 : s = ⟨#[80, 49]⟩
  · subst h3; exact ⟨4607182418800017408, 0, 0, true, row_b1, find_P1⟩
  have n3 := bytes_ne h3
  rw [bl2] at n3
  by_cases h4 : s = ⟨#[75, 50]⟩
  · subst h4; exact ⟨4607290505191074300, 4598823737891617767, 13908693723383857152, true, row_b2, find_K2⟩
  have n4 := bytes_ne h4
  rw [bl2] at n4
  by_cases h5 : s = ⟨#[75, 49]⟩
  · subst h5; exact ⟨4607209440397781631, 4592951043977526641, 13904224483494854656, true, row_b3, find_K1⟩
  have n5 := bytes_ne h5
  rw [bl2] at n5
  by_cases h6 : s = ⟨#[79, 49]⟩
  · subst h6; exact ⟨4607222951196663742, 4595905405333081686, 4682158116698062848, true, row_b4, find_O1⟩
  have n6 := bytes_ne h6
  rw [bl2] at n6
  by_cases h7 : s = ⟨#[81, 49]⟩
  · subst h7; exact ⟨4607222951196663742, 4595905405333081686, 4682158116698062848, true, row_b4, find_Q1⟩
  have n7 := bytes_ne h7
  rw [bl2] at n7
  by_cases h8 : s = ⟨#[77, 102]⟩
  · subst h8; exact ⟨4607376073583994339, 4601129580900831461, 13910755307685937152, true, row_b5, find_Mf⟩
  have n8 := bytes_ne h8
  rw [bl2] at n8
  by_cases h9 : s = ⟨#[77, 109]⟩
  · subst h9; exact ⟨4607182418800017408, 13817223800757776548, 0, true, row_b6, find_Mm⟩
  have n9 := bytes_ne h9
  rw [bl2] at n9
  exact ⟨0, 0, 0, false, row_bz, find_none s n0 n1 n2 n3 n4 n5 n6 n7 n8 n9⟩
end Go.Proofs.Ytklhdpkofpkmjaa
