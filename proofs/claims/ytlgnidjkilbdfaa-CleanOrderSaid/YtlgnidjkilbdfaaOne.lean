/- Chapter 19: floats by their bits: is a height a number, are two the same bits. -/
import Derived.Test.YtlgnidjkilbdfaaLib
import Derived.Laws.FloatArith
import Derived.Laws.FloatBits
import Derived.Laws.Externs
namespace Go.Proofs.Ytlgnidjkilbdfaa
open Go.RowKit Ieee
set_option linter.unusedVariables false
set_option maxRecDepth 100000
/-- Is a word of 64 bits a number: no infinity, no NaN. -/
def oneB (h : Nat) : Bool := match double.read h with | .number _ _ _ => true | _ => false
def nanB (h : Nat) : Bool := match double.read h with | .nan _ _ => true | _ => false
theorem run_frombits (n : Int) (w : World) : (callFunc 66 #[.int .u64 n]).run Try.prog w = .ok (.value (.float .f64 n.toNat)) w := by
  rw [run_callFunc_extern Try.func66 (by kernel_rfl) (by kernel_rfl) (by kernel_rfl) (e := Go.Extern.MathFloatBits.float64frombits) (by kernel_rfl)]
  rfl
theorem run_bits (b : Nat) (w : World) : (callFunc 81 #[.float .f64 b]).run Try.prog w = .ok (.value (.int .u64 b)) w := by
  rw [run_callFunc_extern Try.func81 (by kernel_rfl) (by kernel_rfl) (by kernel_rfl) (e := Go.Extern.MathFloatBits.float64bits) (by kernel_rfl)]
  rfl
theorem sub_one {h : Nat} (ho : oneB h = true) : double.sub h h = some 0 := by
  unfold oneB at ho
  unfold Format.sub
  cases hr : double.read h with
  | number s m i =>
    have hs : signed s m (i - min i i).toNat + signed (!s) m (i - min i i).toNat = 0 := by
      cases s <;> simp [signed] <;> omega
    simp only [Datum.opposite, Datum.sum]
    rw [hs]
    cases s <;> rfl
  | infinity s => rw [hr] at ho; cases ho
  | nan s f => rw [hr] at ho; cases ho
theorem sub_not {h : Nat} (ho : oneB h = false) : double.sub h h = none := by
  unfold oneB at ho
  unfold Format.sub
  cases hr : double.read h with
  | number s m i => rw [hr] at ho; cases ho
  | infinity s => cases s <;> rfl
  | nan s f => rfl
theorem order_self (x : Nat) : double.order x x = if nanB x then none else some .eq := by
  unfold nanB Format.order
  cases hr : double.read x with
  | number s m i => simp [Datum.order, compare, compareOfLessAndEq]
  | infinity s => cases s <;> rfl
  | nan s f => rfl
theorem nan_of (W R : Nat) (h : W % 2 ^ 63 = R) (hR : 2047 * 2 ^ 52 < R) : nanB W = true := by
  have hb : double.binade = 2 ^ 52 := rfl
  have hi : double.infRung = 2047 * 2 ^ 52 := by decide
  have hs : double.signWeight = 2 ^ 63 := by decide
  have hr : double.read W = .nan (W / 2 ^ 63 % 2 == 1) (R - 2047 * 2 ^ 52) := by
    unfold Format.read
    simp only [hs, hb, hi, h]
    rw [if_neg (by omega), if_neg (by omega), if_neg (by omega)]
  unfold nanB
  rw [hr]
theorem read_nan (s f : Nat) (hs : s < 2) (hf : f < 2 ^ 52 - 1) : nanB (s * 2 ^ 63 + 0x7ff0000000000000 + 1 + f) = true :=
  nan_of _ (0x7ff0000000000000 + 1 + f) (by omega) (by omega)
theorem read_drawn (x y t : Nat) : nanB (Question.cut (.nanBits .f64 x y) t) = true :=
  read_nan (t % 2) ((t / 2) % (2 ^ 52 - 1)) (Nat.mod_lt _ (by decide)) (Nat.mod_lt _ (by decide))
theorem nan_order {r : Nat} (h : nanB r = true) (y : Nat) : double.order r y = none := by
  unfold nanB at h
  unfold Format.order
  cases hr : double.read r with
  | number s m i => rw [hr] at h; cases h
  | infinity s => rw [hr] at h; cases h
  | nan s f => rfl
theorem run_nan {P : Program} (w : World) (op : BinOp) (t : TypeId) (x y : Nat) (ho : op = .add ∨ op = .sub ∨ op = .mul ∨ op = .quo) (h : floatBits op .f64 x y = none) :
    ∃ r, nanB r = true ∧ (binOp op t (.float .f64 x) (.float .f64 y)).run P w = .ok (.float .f64 r) w.drew := by
  refine ⟨_, read_drawn x y (w.tape w.drawn (.nanBits .f64 x y)), ?_⟩
  unfold floatBits at h
  rcases ho with rfl | rfl | rfl | rfl <;> simp only at h <;> simp [binOp, Op.floatArith, h, Question.forced] <;> rfl
theorem one_any (h : Nat) (w : World) : Calls Try.prog 69 #[.float .f64 h] w fun e w' => e = .returned (.bool (oneB h)) ∧ ∃ n, w' = w.drewN n := by
  cases ho : oneB h
  · obtain ⟨r, hr, hrun⟩ := run_nan (P := Try.prog) w .sub 24 h h (.inr (.inl rfl)) (sub_not ho)
    have hc : FloatKind.f64.format.order r 0 = none := nan_order hr 0
    clear hr ho
    go_enter Try.func69, Try.ntmps69
    go_wp2
    go_ret
    exact ⟨rfl, 1, rfl⟩
  · have hrun := fun wx => run_float_arith (P := Try.prog) wx .sub 24 .f64 h h 0 (sub_one ho)
    have hc : FloatKind.f64.format.order 0 0 = some .eq := by decide +kernel
    clear ho
    go_enter Try.func69, Try.ntmps69
    go_wp2
    go_ret
    exact ⟨rfl, 0, rfl⟩
theorem rone_any (t : Int) (h : Nat) (w : World) : Calls Try.prog 71 #[.agg #[.int .i64 t, .float .f64 h]] w fun e w' => e = .returned (.bool (oneB h)) ∧ Below w.heap.size w w' := by
  cases ho : oneB h
  · obtain ⟨r, hr, hrun⟩ := run_nan (P := Try.prog) (w.alloc (.cells #[.int .i64 t, .float .f64 h] 26)) .sub 24 h h (.inr (.inl rfl)) (sub_not ho)
    have hc : FloatKind.f64.format.order r 0 = none := nan_order hr 0
    clear hr ho
    go_enter Try.func71, Try.ntmps71
    go_wp2
    go_ret
    exact ⟨rfl, ((Below.refl _ _).alloc (Nat.le_refl _) _).drew⟩
  · have hrun := fun wx => run_float_arith (P := Try.prog) wx .sub 24 .f64 h h 0 (sub_one ho)
    have hc : FloatKind.f64.format.order 0 0 = some .eq := by decide +kernel
    clear ho
    go_enter Try.func71, Try.ntmps71
    go_wp2
    go_ret
    exact ⟨rfl, (Below.refl _ _).alloc (Nat.le_refl _) _⟩
/-- SameBits: the same bits, or both NaN. -/
def sameB (a b : Nat) : Bool := a == b || (nanB a && nanB b)
theorem ne_self (x : Nat) : (FloatKind.f64.format.order x x != some .eq) = nanB x := by
  rw [show FloatKind.f64.format.order x x = _ from order_self x]
  cases nanB x <;> rfl
theorem same_any (a b : Nat) (w : World) : Calls Try.prog 38 #[.float .f64 a, .float .f64 b] w fun e w' => e = .returned (.bool (sameB a b)) ∧ w = w' := by
  have g1 := run_bits
  have g2 := ne_self a
  have g3 := ne_self b
  have hd : (((a : Nat) : Int) == ((b : Nat) : Int)) = (a == b) := by
    rw [Bool.eq_iff_iff]; simp only [beq_iff_eq]; omega
  unfold sameB
  cases h1 : (a == b) <;> rw [h1] at hd <;> cases h2 : nanB a <;> rw [h2] at g2 <;> cases h3 : nanB b <;> rw [h3] at g3
  all_goals clear h1 h2 h3
  all_goals go_enter Try.func38, Try.ntmps38
  all_goals go_wp2
  all_goals go_ret
  all_goals exact ⟨rfl, rfl⟩
theorem sample_any (t : Int) (n : Int) (w : World) : Calls Try.prog 16 #[.agg #[.int .i64 t, .int .u64 n]] w fun e w' => e = .returned (.agg #[.int .i64 t, .float .f64 n.toNat]) ∧ Below w.heap.size w w' := by
  have g1 := run_frombits
  go_enter Try.func16, Try.ntmps16
  go_wp2
  have c0 := heap_past (o' := .cells #[.int .i64 0, .float .f64 0] 26) (heap_alloc_last w (.cells #[.int .i64 t, .int .u64 n] 29))
  have c1 := heap_at1 w (.cells #[.int .i64 t, .int .u64 n] 29) (.cells #[.int .i64 0, .float .f64 0] 26)
  have hb := ((Grew.refl w).alloc (.cells #[.int .i64 t, .int .u64 n] 29)).alloc (.cells #[.int .i64 0, .float .f64 0] 26)
  generalize (w.alloc (.cells #[.int .i64 t, .int .u64 n] 29)).alloc (.cells #[.int .i64 0, .float .f64 0] 26) = wq at *
  obtain ⟨p0, p1⟩ := cells_two c0
  obtain ⟨p2, p3⟩ := cells_two c1
  obtain ⟨q2, q3⟩ := free_two c1
  have hr := two_set (x := .int .i64 t) (y := .float .f64 n.toNat) c1
  clear c0 c1
  go_region_with fail
  all_goals go_wp2
  all_goals refine ret_c rfl _ 26 _ _ rfl hr Try.underlying26 rfl (by kernel_rfl) rfl ⟨rfl, ?_⟩
  all_goals exact (((hb.setCell (by simp) _).setCell (by simp) _).drew).below
end Go.Proofs.Ytlgnidjkilbdfaa
