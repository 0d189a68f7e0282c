/- Small words for the walks of this seat: memory below a block, a whole row stored into the block made last, bounds of quotients and remainders. Natural numbers as words of 32 bits, the lowest first. No program. Rows of a call's own: what they are made of, appending to them, cells of their blocks. Words in memory: slices that are read, rows of a call's own. nat: cut, Check, Compare. nat: checked, told, Compare. slices.Clone of words; nat.Of, nat.Uint64. nat.less: one number taken off another one, in place. nat.Sub, nat.Add. nat.Add. nat.Mul. nat.small: by one word, in place. nat.up: times a power of two. nat.down: over a power of two, in place. nat.off, nat.back: a stretch of a row, less so many times a number, and that number added again. -/
import Derived.Test.YtcibbnphkpaifaaProg
import Derived.WalkKit
import Derived.WalkLawsBesides
import Derived.WalkSpells
import Derived.Deep.WholeRow
import Derived.Deep.Draws
import Derived.Deep.QuietTactic
import Derived.BigQuiet
import Derived.Laws.CopyOwn
import Derived.Deep.AppendLies
import Derived.Deep.DeepMust
import Derived.Outline
import Derived.WideLaws
import Derived.Lib.Strings
import Derived.Deep.RegionLaw
import Derived.Deep.Slices
import Derived.Laws.OwnMore
import Derived.Maps.AppendAt
import Derived.Maps.RangeWalk
import Derived.Lib.LazyBuf
import Derived.Laws.BitsAllLaws
namespace Go.Proofs.Ytcibbnphkpaifaa
open Go.RowKit
theorem hide_ {p : Prop} (h : p) : Hid p := h
theorem below_drewN {B : Nat} {a w : World} (h : Below B a w) (n : Nat) : Below B a (w.drewN n) := ⟨h.os, h.tape, h.output, h.size, h.block⟩
theorem div_bd (q x : Nat) : (0 : Int) ≤ (q : Int) / (x : Int) ∧ (q : Int) / (x : Int) ≤ (q : Int) :=
  ⟨Int.ediv_nonneg (by omega) (by omega), Int.ediv_le_self _ (by omega)⟩
theorem wpList_store_new {P : Program} {ops : Array Oper} {rest : List Oper} {o : Oper} {a : Act} {w : World} {Q : Exit → Act → World → Prop} (hgd : o.guard = none) (ty : TypeId) (x y : Operand) (ho : o.op = .store ty x y)
    (t : TypeId) (old cells : Array Value) (hx : a.eval x = .pointer (some ⟨w.heap.size, 0, none⟩)) (hy : a.eval y = .agg cells) (hi : (P.info? ty).map (·.size) = some cells.size)
    (hold : old.size = cells.size) (h1 : cells.all (·.oneCell') = true)
    (h : wpList P ops Q rest (a.put o.dst undef) (w.alloc (.cells cells t))) : wpList P ops Q (o :: rest) a (w.alloc (.cells old t)) := by
  refine wpList_store_row hgd ty x y ho _ cells hx hy t old (heap_alloc_last w _) hi hold h1 ?_
  rw [World.setRow_alloc_new]
  exact h
theorem bytes_ne {a b : ByteArray} (h : ¬ a = b) : (a.toList == b.toList) = false := by
  rw [beq_eq_false_iff_ne]
  exact fun e => h (ByteArray.ext (Array.ext' (by rw [← Lib.toList_data, ← Lib.toList_data, e])))
theorem bytes_eq {a b : ByteArray} (h : a = b) : (a.toList == b.toList) = true := by rw [h]; simp
theorem bcell {W w1 : World} (hb : Below W.heap.size W w1) : (∀ b o, b < W.heap.size → w1.cell? ⟨b, o, none⟩ = W.cell? ⟨b, o, none⟩) ∧ (∀ b o, b < W.heap.size → w1.frozen? ⟨b, o, none⟩ = W.frozen? ⟨b, o, none⟩) :=
  ⟨fun b o h => hb.cell (p := ⟨b, o, none⟩) h, fun b o h => hb.frozen (p := ⟨b, o, none⟩) h⟩
/-- Below B the world is as it was, and B lies within it. -/
def Grew (B : Nat) (w w' : World) : Prop := Below B w w' ∧ B ≤ w'.heap.size
theorem Grew.below {B : Nat} {w w' : World} (h : Grew B w w') : Below B w w' := h.1
theorem Grew.refl (w : World) : Grew w.heap.size w w := ⟨Below.refl _ _, Nat.le_refl _⟩
theorem Grew.of {w w' : World} (h : Below w.heap.size w w') : Grew w.heap.size w w' := ⟨h, h.size⟩
theorem Grew.step {B : Nat} {w w1 w2 : World} (h : Grew B w w1) (hb : Below w1.heap.size w1 w2) : Grew B w w2 := ⟨h.1.trans (hb.mono h.2), Nat.le_trans h.2 hb.size⟩
theorem Grew.more {B : Nat} {w w1 w2 : World} (h : Grew B w w1) (hb : Below B w1 w2) : Grew B w w2 := ⟨h.1.trans hb, Nat.le_trans h.2 hb.size⟩
theorem Grew.alloc {B : Nat} {w w1 : World} (h : Grew B w w1) (o : Obj) : Grew B w (w1.alloc o) := ⟨h.1.alloc h.2 o, by have := h.2; simp; omega⟩
theorem Grew.drewN {B : Nat} {w w1 : World} (h : Grew B w w1) (n : Nat) : Grew B w (w1.drewN n) := ⟨below_drewN h.1 n, h.2⟩
theorem Grew.drew {B : Nat} {w w1 : World} (h : Grew B w w1) : Grew B w w1.drew := ⟨h.1.drew, h.2⟩
theorem Grew.setRow {B g : Nat} {w w1 : World} (h : Grew B w w1) (hg : B ≤ g) (cs : Array Value) : Grew B w (w1.setRow g cs) := ⟨below_setRow h.1 hg cs, by simpa using h.2⟩
theorem Grew.setCell {B : Nat} {w w1 : World} (h : Grew B w w1) {p : Addr} (hg : B ≤ p.block) (u : Value) : Grew B w (w1.setCell p u) := ⟨h.1.setCell hg u, by have := h.2; simp [World.setCell]; omega⟩
theorem blk_below {w0 w1 : World} {o : Obj} (hb : Below (w0.alloc o).heap.size (w0.alloc o) w1) : w1.heap[w0.heap.size]? = some o := by
  rw [hb.block _ (by simp)]
  exact heap_alloc_last w0 o
theorem blk2 {w0 w1 : World} {a b : Value} {T : TypeId} (hb : Below (w0.alloc (.cells #[a, b] T)).heap.size (w0.alloc (.cells #[a, b] T)) w1) :
    w1.cell? ⟨w0.heap.size, 0, none⟩ = some a ∧ w1.cell? ⟨w0.heap.size, 1, none⟩ = some b ∧ w0.heap.size < w1.heap.size := by
  have h := blk_below hb
  refine ⟨by rw [cell_of_row _ _ _ _ _ _ h]; rfl, by rw [cell_of_row _ _ _ _ _ _ h]; rfl, ?_⟩
  have := hb.size
  simp at this
  omega
theorem wpList_store_blk {P : Program} {ops : Array Oper} {rest : List Oper} {o : Oper} {a : Act} {w : World} {Q : Exit → Act → World → Prop} (hgd : o.guard = none) (ty : TypeId) (x y : Operand) (ho : o.op = .store ty x y)
    (g : Nat) (t : TypeId) (old cells : Array Value) (hx : a.eval x = .pointer (some ⟨g, 0, none⟩)) (hg : w.heap[g]? = some (.cells old t (0, 0))) (hy : a.eval y = .agg cells) (hi : (P.info? ty).map (·.size) = some cells.size)
    (hold : old.size = cells.size) (h1 : cells.all (·.oneCell') = true)
    (h : wpList P ops Q rest (a.put o.dst undef) (w.setRow g cells)) : wpList P ops Q (o :: rest) a w :=
  wpList_store_row hgd ty x y ho g cells hx hy t old hg hi hold h1 h
theorem step_store_blk {P : Program} {ops : Array Oper} {o : Oper} {a : Act} {w : World} {K : Act → World → Prop} {Q : Exit → Act → World → Prop} {E : Prop} (hgd : o.guard = none) (ty : TypeId) (x y : Operand) (ho : o.op = .store ty x y)
    (g : Nat) (t : TypeId) (old cells : Array Value) (hx : a.eval x = .pointer (some ⟨g, 0, none⟩)) (hg : w.heap[g]? = some (.cells old t (0, 0))) (hy : a.eval y = .agg cells) (hi : (P.info? ty).map (·.size) = some cells.size)
    (hold : old.size = cells.size) (h1 : cells.all (·.oneCell') = true)
    (h : K (a.put o.dst undef) (w.setRow g cells)) : if Region.wanted o (yielded ops a.tmps) = true then Oper.wp P o a w K Q else E := by
  have hw : Region.wanted o (yielded ops a.tmps) = true := by simp [Region.wanted, hgd]
  rw [if_pos hw]
  exact wp_store_row ty x y ho g cells hx hy t old hg hi hold h1 h
/-- The end of a function whose first result lies in a block, the second in a slot. -/
theorem ret_ct {P : Program} {fn : Func} {R : Ending → World → Prop} {a : Act} {w : World} {p t : Tmp} {ty : TypeId} (h : fn.results = #[.cell p ty, .tmp t]) (g : Nat) (T : TypeId) (cs : Array Value) (d : TypeDesc)
    (hp : a.tmps.getD p undef = .pointer (some ⟨g, 0, none⟩)) (hg : w.heap[g]? = some (.cells cs T (0, 0))) (hu : P.underlying ty = some d) (hd : (match d with | .struct _ | .array _ _ => true | _ => false) = true)
    (hi : (P.info? ty).map (·.size) = some cs.size) (hdf : a.defers = []) (hR : R (.returned (.tuple #[.agg cs, a.tmps.getD t undef])) w) : bodyPost P fn R .ret a w := by
  refine bodyPost_ret (v := .tuple #[.agg cs, a.tmps.getD t undef]) ?_ hdf hR
  have hp' : a.tmps[p]?.getD undef = .pointer (some ⟨g, 0, none⟩) := by simpa using hp
  simp [results, h, hp', asAddr, run_loadVar_row w g T ty cs (0, 0) d hg hu hd hi]
/-- The end of a function whose one result lies in a block. -/
theorem ret_c {P : Program} {fn : Func} {R : Ending → World → Prop} {a : Act} {w : World} {p : Tmp} {ty : TypeId} (h : fn.results = #[.cell p ty]) (g : Nat) (T : TypeId) (cs : Array Value) (d : TypeDesc)
    (hp : a.tmps.getD p undef = .pointer (some ⟨g, 0, none⟩)) (hg : w.heap[g]? = some (.cells cs T (0, 0))) (hu : P.underlying ty = some d) (hd : (match d with | .struct _ | .array _ _ => true | _ => false) = true)
    (hi : (P.info? ty).map (·.size) = some cs.size) (hdf : a.defers = []) (hR : R (.returned (.agg cs)) w) : bodyPost P fn R .ret a w :=
  bodyPost_ret (results_cell_row h _ w g T cs (0, 0) d hp hg hu hd hi) hdf hR
theorem grown_of_below {a w : World} (h : Below a.heap.size a w) (row : Option Nat) : a.grownBy w row := ⟨h.os, h.tape, h.output, h.size, fun i hi _ => h.block i hi⟩
theorem own_below {w w' : World} {base : Nat} {e : TypeId} {size n : Nat} {v : Value} {xs : List Value} (h : w.ownsRow base e size v n xs) (hb : Below w.heap.size w w') : w'.ownsRow base e size v n xs :=
  h.kept (grown_of_below hb none) (by cases hv : v.ownBlock <;> simp)
/-- append of what stands in the block made last, onto a row of the call's own. -/
theorem wpList_push {P : Program} {ops : Array Oper} {rest : List Oper} {o : Oper} {a : Act} {w : World} {Q : Exit → Act → World → Prop} (hgd : o.guard = none) (s x : Operand) (t : TypeId)
    (ho : o.op = .call { callee := .builtin .append, args := #[s, x], argTypes := #[t, t] })
    (base : Nat) (e : TypeId) (i : TypeInfo) (z : Value) (size bytes : Nat) (ht : P.underlying t = some (.slice e)) (hi : P.info? e = some i) (hz : i.zero = some z)
    (hsize : i.size = size) (hby : i.bytes = bytes) (hzs : z.cells.size = size) (hsz : 0 < size) (hbp : 0 < bytes)
    (v : Value) (n : Nat) (xs : List Value) (hs : a.eval s = v) (hown : w.ownsRow base e size v n xs)
    (cs : Array Value) (T : TypeId) (m c : Nat) (hx : a.eval x = .slice (some ⟨w.heap.size, 0, none⟩) m c) (hl : cs.size = m * size) (h1 : cs.all (·.oneCell') = true)
    (hbytes : (n + m) * bytes ≤ 140737488355328) (hbase : base ≤ w.heap.size)
    (h : ∀ v' w', w'.ownsRow base e size v' (n + m) (xs ++ cs.toList) → Below base w w' → (w.alloc (.cells cs T)).grownBy w' v.ownBlock → (v' = .slice none 0 0 ↔ v = .slice none 0 0 ∧ m = 0) → wpList P ops Q rest (a.put o.dst v') w') :
    wpList P ops Q (o :: rest) a (w.alloc (.cells cs T)) := by
  have hnm : n + m ≤ (n + m) * bytes := Nat.le_mul_of_pos_right _ hbp
  refine wpList_append_own (w.alloc (.cells cs T)) hgd s x t ho base e i z size bytes ht hi hz hsize hby hzs hsz v n xs hs (hown.alloc _) ⟨w.heap.size, 0, none⟩ m c cs.toList hx (by simpa using hl) ?_ ?_ (by unfold maxLen; omega) hbytes (by simp; omega) ?_
  · intro j u hu
    have : (⟨w.heap.size, 0, none⟩ : Addr).add j = ⟨w.heap.size, j, none⟩ := by unfold Addr.add; split <;> simp_all
    rw [this, World.cell?_alloc_at _ _ _ _ rfl]
    simpa using hu
  · intro u hu
    exact (Array.all_eq_true_iff_forall_mem.1 h1) u (by simpa using hu)
  · intro v' w' ho' hg' hn'
    refine h v' w' ho' ?_ hg' hn'
    exact ((Below.refl base w).alloc hbase _).grown hg' (by simp; omega) (fun k hk => (hown.lt k hk).1)
theorem heap_at1 (w : World) (o1 o2 : Obj) : ((w.alloc o1).alloc o2).heap[w.heap.size + 1]? = some o2 := by
  have e : (w.alloc o1).heap.size = w.heap.size + 1 := by simp
  rw [← e]
  exact heap_alloc_last _ _
theorem heap_at2 (w : World) (o1 o2 o3 : Obj) : (((w.alloc o1).alloc o2).alloc o3).heap[w.heap.size + 1 + 1]? = some o3 := by
  have e : ((w.alloc o1).alloc o2).heap.size = w.heap.size + 1 + 1 := by simp
  rw [← e]
  exact heap_alloc_last _ _
theorem lt_of_heap {w : World} {g : Nat} {o : Obj} (h : w.heap[g]? = some o) : g < w.heap.size := by
  rcases Nat.lt_or_ge g w.heap.size with hlt | hge
  · exact hlt
  · rw [Array.getElem?_eq_none hge] at h; cases h
theorem heap_past {w : World} {g : Nat} {o o' : Obj} (h : w.heap[g]? = some o) : (w.alloc o').heap[g]? = some o := (Below.heap_alloc _ _ _ (lt_of_heap h)).trans h
theorem free_one {w : World} {g : Nat} {a : Value} {T : TypeId} (h : w.heap[g]? = some (.cells #[a] T)) : w.frozen? ⟨g, 0, none⟩ = false := by
  simp [World.frozen?, h]
theorem cells_one {w : World} {g : Nat} {a : Value} {T : TypeId} (h : w.heap[g]? = some (.cells #[a] T)) : w.cell? ⟨g, 0, none⟩ = some a := by rw [cell_of_row _ _ _ _ _ _ h]; rfl
theorem free_two {w : World} {g : Nat} {a b : Value} {T : TypeId} (h : w.heap[g]? = some (.cells #[a, b] T)) : w.frozen? ⟨g, 0, none⟩ = false ∧ w.frozen? ⟨g, 1, none⟩ = false := by
  simp [World.frozen?, h]
theorem cells_two {w : World} {g : Nat} {a b : Value} {T : TypeId} (h : w.heap[g]? = some (.cells #[a, b] T)) : w.cell? ⟨g, 0, none⟩ = some a ∧ w.cell? ⟨g, 1, none⟩ = some b :=
  ⟨by rw [cell_of_row _ _ _ _ _ _ h]; rfl, by rw [cell_of_row _ _ _ _ _ _ h]; rfl⟩
theorem cells_three {w : World} {g : Nat} {a b c : Value} {T : TypeId} (h : w.heap[g]? = some (.cells #[a, b, c] T)) : w.cell? ⟨g, 0, none⟩ = some a ∧ w.cell? ⟨g, 1, none⟩ = some b ∧ w.cell? ⟨g, 2, none⟩ = some c :=
  ⟨cell_of_row _ _ _ _ _ _ h, cell_of_row _ _ _ _ _ _ h, cell_of_row _ _ _ _ _ _ h⟩
theorem two_set {w : World} {B : Nat} {a b x y : Value} {S : TypeId} (h0 : w.heap[B]? = some (.cells #[a, b] S)) : ((w.setCell ⟨B, 0, none⟩ x).setCell ⟨B, 1, none⟩ y).heap[B]? = some (.cells #[x, y] S) := by
  simp [World.setCell, Array.getElem?_modify, h0]
theorem set_other {w : World} {B : Nat} {p : Addr} {x : Value} (h : p.block ≠ B) : (w.setCell p x).heap[B]? = w.heap[B]? := by
  simp [World.setCell, Array.getElem?_modify, h]
/-- A world behind W, in which what stood in W stands. -/
structure After (W : World) where
  w : World
  h : Below W.heap.size W w
instance (W : World) : Nonempty (After W) := ⟨⟨W, Below.refl _ _⟩⟩
theorem wp_region_after {P : Program} {id : Nat} {Q : Exit → Act → World → Prop} {a : Act} {w : World} {l : List Oper} (hm : P.follows .mixedOrders = true) (hB : Region.lexB .any l.toArray = true)
    (h : wpQuiet P l.toArray (fun w' => ∃ x : After w, w' = x.w) (fun a' => ∀ w', (∃ x : After w, w' = x.w) → Q .normal a' w') l a) : (Code.region id l.toArray true).wp P Q a w :=
  wp_region_quiet (C := fun w' => ∃ x : After w, w' = x.w) hm hB ⟨⟨{ w with drawn := w.drawn + 1 }, ⟨rfl, rfl, rfl, Nat.le_refl _, fun _ _ => rfl⟩⟩, rfl⟩ (by simpa using h)
theorem q_below {f : FuncId} {args : Array Value} {W : World} {v : Value} (H : ∀ wx : World, Calls Try.prog f args wx fun e w' => e = .returned v ∧ Below wx.heap.size wx w') (x : After W) :
    Calls Try.prog f args x.w fun e w'' => e = .returned v ∧ ∃ y : After W, w'' = y.w :=
  (H x.w).mono fun _ w' ⟨he, hb⟩ => ⟨he, ⟨⟨w', x.h.trans (hb.mono x.h.size)⟩, rfl⟩⟩
@[go_sem] theorem run_store_float {P : Program} {w : World} {a : Addr} {m : Mode} (k : FloatKind) (x : Nat) : (store a (.float k x) m).run P w = stored P w a (.float k x) m := run_store P w a _ m rfl
end Go.Proofs.Ytcibbnphkpaifaa

namespace Go.Proofs.Ytcibbnphkpaifaa
set_option linter.unusedVariables false
/-- 2^32. -/
def BB : Nat := 4294967296
theorem BB_pos : 0 < BB := by decide
theorem BB_eq : BB = 4294967296 := rfl
def val : List Nat → Nat
  | [] => 0
  | x :: r => x + BB * val r
theorem val_nil : val [] = 0 := rfl
theorem val_cons (x : Nat) (r : List Nat) : val (x :: r) = x + BB * val r := rfl
def Dig (L : List Nat) : Prop := ∀ x ∈ L, x < BB
theorem Dig.nil : Dig [] := fun x h => by cases h
theorem Dig.cons {x : Nat} {r : List Nat} (hx : x < BB) (hr : Dig r) : Dig (x :: r) := fun y h => by
  rcases List.mem_cons.1 h with rfl | h
  · exact hx
  · exact hr y h
theorem Dig.head {x : Nat} {r : List Nat} (h : Dig (x :: r)) : x < BB := h x (by simp)
theorem Dig.tail {x : Nat} {r : List Nat} (h : Dig (x :: r)) : Dig r := fun y hy => h y (by simp [hy])
theorem Dig.append {L M : List Nat} (h1 : Dig L) (h2 : Dig M) : Dig (L ++ M) := fun x hx => by
  rcases List.mem_append.1 hx with h | h
  · exact h1 x h
  · exact h2 x h
theorem Dig.left {L M : List Nat} (h : Dig (L ++ M)) : Dig L := fun x hx => h x (by simp [hx])
theorem Dig.right {L M : List Nat} (h : Dig (L ++ M)) : Dig M := fun x hx => h x (by simp [hx])
theorem Dig.take {L : List Nat} (h : Dig L) (n : Nat) : Dig (L.take n) := fun x hx => h x (List.mem_of_mem_take hx)
theorem Dig.drop {L : List Nat} (h : Dig L) (n : Nat) : Dig (L.drop n) := fun x hx => h x (List.mem_of_mem_drop hx)
theorem Dig.getD {L : List Nat} (h : Dig L) (k : Nat) : L.getD k 0 < BB := by
  rw [List.getD_eq_getElem?_getD]
  rcases Nat.lt_or_ge k L.length with hk | hk
  · rw [List.getElem?_eq_getElem hk]; exact h _ (List.getElem_mem hk)
  · rw [List.getElem?_eq_none hk]; exact BB_pos
theorem Dig.set {L : List Nat} (h : Dig L) (k x : Nat) (hx : x < BB) : Dig (L.set k x) := fun y hy => by
  rcases List.mem_or_eq_of_mem_set hy with h' | rfl
  · exact h y h'
  · exact hx
theorem Dig.zeros (n : Nat) : Dig (List.replicate n 0) := fun x hx => by rw [(List.mem_replicate.1 hx).2]; exact BB_pos
theorem val_append : ∀ (L M : List Nat), val (L ++ M) = val L + BB ^ L.length * val M
  | [], M => by simp [val_nil]
  | x :: r, M => by
    rw [List.cons_append, val_cons, val_cons, val_append r M, List.length_cons, Nat.pow_succ, Nat.mul_add, Nat.mul_comm (BB ^ r.length) BB, Nat.mul_assoc]
    omega
theorem val_lt : ∀ {L : List Nat}, Dig L → val L < BB ^ L.length
  | [], _ => by simp [val_nil]
  | x :: r, h => by
    have h1 := val_lt h.tail
    have h2 := h.head
    rw [val_cons, List.length_cons, Nat.pow_succ, Nat.mul_comm (BB ^ r.length) BB]
    have h3 : BB * (val r + 1) ≤ BB * BB ^ r.length := Nat.mul_le_mul_left _ h1
    rw [Nat.mul_add] at h3
    omega
theorem val_zeros : ∀ n, val (List.replicate n 0) = 0
  | 0 => rfl
  | n + 1 => by rw [List.replicate_succ, val_cons, val_zeros n, Nat.mul_zero]
theorem val_snoc (L : List Nat) (x : Nat) : val (L ++ [x]) = val L + BB ^ L.length * x := by rw [val_append]; simp [val_cons, val_nil]
theorem take_succ_getD {L : List Nat} {k : Nat} (h : k < L.length) : L.take (k + 1) = L.take k ++ [L.getD k 0] := by
  rw [List.take_succ_eq_append_getElem h, List.getD_eq_getElem?_getD, List.getElem?_eq_getElem h, Option.getD_some]
theorem val_take_succ {L : List Nat} {k : Nat} (h : k < L.length) : val (L.take (k + 1)) = val (L.take k) + BB ^ k * L.getD k 0 := by
  rw [take_succ_getD h, val_snoc, List.length_take, Nat.min_eq_left (by omega)]
theorem val_split (L : List Nat) (k : Nat) (h : k ≤ L.length) : val L = val (L.take k) + BB ^ k * val (L.drop k) := by
  conv => lhs; rw [← List.take_append_drop k L]
  rw [val_append, List.length_take, Nat.min_eq_left h]
theorem drop_getD {L : List Nat} {k : Nat} (h : k < L.length) : L.drop k = L.getD k 0 :: L.drop (k + 1) := by
  rw [List.drop_eq_getElem_cons h, List.getD_eq_getElem?_getD, List.getElem?_eq_getElem h, Option.getD_some]
theorem val_drop {L : List Nat} {k : Nat} (h : k < L.length) : val (L.drop k) = L.getD k 0 + BB * val (L.drop (k + 1)) := by rw [drop_getD h, val_cons]
/-! ### no nought at the end -/
def Trm (L : List Nat) : Prop := L = [] ∨ L.getD (L.length - 1) 0 ≠ 0
/-- The list without the noughts at its end. -/
def cutL : List Nat → List Nat
  | [] => []
  | x :: r => if cutL r = [] ∧ x = 0 then [] else x :: cutL r
theorem cutL_val : ∀ L, val (cutL L) = val L
  | [] => rfl
  | x :: r => by
    have ih := cutL_val r
    unfold cutL
    split
    · rename_i h
      rw [h.1] at ih
      rw [val_cons, ← ih, h.2]; rfl
    · rw [val_cons, val_cons, ih]
theorem cutL_dig : ∀ {L}, Dig L → Dig (cutL L)
  | [], h => h
  | x :: r, h => by
    unfold cutL
    split
    · exact Dig.nil
    · exact Dig.cons h.head (cutL_dig h.tail)
theorem trm_cons {x : Nat} {r : List Nat} (h : Trm (x :: r)) : Trm r := by
  rcases h with h | h
  · cases h
  · cases r with
    | nil => exact .inl rfl
    | cons y s =>
      right
      simp only [List.length_cons, Nat.add_sub_cancel] at h ⊢
      simpa [List.getD_eq_getElem?_getD] using h
theorem cutL_trm : ∀ L, Trm (cutL L)
  | [] => .inl rfl
  | x :: r => by
    have ih := cutL_trm r
    unfold cutL
    split
    · exact .inl rfl
    · rename_i h
      right
      cases hr : cutL r with
      | nil =>
        have : x ≠ 0 := fun e => h ⟨hr, e⟩
        simpa using this
      | cons y s =>
        rw [hr] at ih
        rcases ih with ih | ih
        · cases ih
        · simp only [List.length_cons, Nat.add_sub_cancel] at ih ⊢
          simpa [List.getD_eq_getElem?_getD] using ih
theorem trm_zero : ∀ {L : List Nat}, Trm L → val L = 0 → L = []
  | [], _, _ => rfl
  | x :: r, h, h0 => by
    rw [val_cons] at h0
    have hx : x = 0 := by omega
    have hr : val r = 0 := by
      have : BB * val r = 0 := by omega
      rcases Nat.mul_eq_zero.1 this with h | h
      · exact absurd h (by decide)
      · exact h
    have := trm_zero (trm_cons h) hr
    subst this hx
    rcases h with h | h
    · cases h
    · simp at h
theorem val_inj : ∀ {L M : List Nat}, Dig L → Dig M → Trm L → Trm M → val L = val M → L = M
  | [], M, _, _, _, tM, h => (trm_zero tM h.symm).symm
  | x :: r, [], _, _, tL, _, h => trm_zero tL h
  | x :: r, y :: s, dL, dM, tL, tM, h => by
    rw [val_cons, val_cons] at h
    have hx := dL.head
    have hy := dM.head
    have e1 : x = y := by
      have h1 : (x + BB * val r) % BB = (y + BB * val s) % BB := by rw [h]
      rw [Nat.add_mul_mod_self_left, Nat.add_mul_mod_self_left, Nat.mod_eq_of_lt hx, Nat.mod_eq_of_lt hy] at h1
      exact h1
    have e2 : val r = val s := by
      subst e1
      exact Nat.eq_of_mul_eq_mul_left BB_pos (by omega)
    rw [e1, val_inj dL.tail dM.tail (trm_cons tL) (trm_cons tM) e2]
theorem cutL_self {L : List Nat} (h : Dig L) (ht : Trm L) : cutL L = L := val_inj (cutL_dig h) h (cutL_trm L) ht (cutL_val L)
/-- The words of a number. -/
def wd (n : Nat) : List Nat := if h : n = 0 then [] else (n % BB) :: wd (n / BB)
termination_by n
decreasing_by exact Nat.div_lt_self (by omega) (by decide)
theorem wd_zero : wd 0 = [] := by rw [wd]; simp
theorem wd_pos {n : Nat} (h : n ≠ 0) : wd n = (n % BB) :: wd (n / BB) := by conv => lhs; rw [wd]; rw [dif_neg h]
theorem wd_all (n : Nat) : val (wd n) = n ∧ Dig (wd n) ∧ Trm (wd n) := by
  induction n using Nat.strongRecOn with
  | _ n ih =>
    by_cases h : n = 0
    · subst h; rw [wd_zero]; exact ⟨rfl, Dig.nil, .inl rfl⟩
    · obtain ⟨h1, h2, h3⟩ := ih (n / BB) (Nat.div_lt_self (by omega) (by decide))
      rw [wd_pos h]
      refine ⟨by rw [val_cons, h1]; exact Nat.mod_add_div n BB, Dig.cons (Nat.mod_lt _ BB_pos) h2, ?_⟩
      right
      cases hw : wd (n / BB) with
      | nil =>
        have h0 : n / BB = 0 := by rw [← h1, hw]; rfl
        have h4 := Nat.mod_add_div n BB
        rw [h0] at h4
        simp only [List.length_cons, List.length_nil, Nat.zero_add, Nat.sub_self, List.getD_cons_zero]
        omega
      | cons y s =>
        rw [hw] at h3
        rcases h3 with h3 | h3
        · cases h3
        · simp only [List.length_cons, Nat.add_sub_cancel] at h3 ⊢
          simpa [List.getD_eq_getElem?_getD] using h3
theorem val_wd (n : Nat) : val (wd n) = n := (wd_all n).1
theorem wd_dig (n : Nat) : Dig (wd n) := (wd_all n).2.1
theorem wd_trm (n : Nat) : Trm (wd n) := (wd_all n).2.2
theorem wd_val {L : List Nat} (h : Dig L) (ht : Trm L) : wd (val L) = L := val_inj (wd_dig _) h (wd_trm _) ht (val_wd _)
theorem cutL_wd {L : List Nat} (h : Dig L) : cutL L = wd (val L) := val_inj (cutL_dig h) (wd_dig _) (cutL_trm L) (wd_trm _) (by rw [cutL_val, val_wd])
theorem wd_inj {a b : Nat} (h : wd a = wd b) : a = b := by rw [← val_wd a, h, val_wd]
/-! ### length and size -/
theorem trm_ge : ∀ {L : List Nat}, Trm L → L ≠ [] → BB ^ (L.length - 1) ≤ val L
  | [], _, h => absurd rfl h
  | [x], h, _ => by
    rcases h with h | h
    · cases h
    · simp at h
      simp [val_cons, val_nil]
      omega
  | x :: y :: s, h, _ => by
    have ih := trm_ge (trm_cons h) (by simp)
    simp only [List.length_cons, Nat.add_sub_cancel] at ih ⊢
    rw [Nat.pow_succ, Nat.mul_comm, val_cons]
    have := Nat.mul_le_mul_left BB ih
    omega
theorem wd_len_le {n k : Nat} : (wd n).length ≤ k ↔ n < BB ^ k := by
  constructor
  · intro h
    have h1 := val_lt (wd_dig n)
    rw [val_wd] at h1
    exact Nat.lt_of_lt_of_le h1 (Nat.pow_le_pow_right BB_pos h)
  · intro h
    by_cases he : wd n = []
    · rw [he]; exact Nat.zero_le _
    · have h1 := trm_ge (wd_trm n) he
      rw [val_wd] at h1
      have h2 : BB ^ ((wd n).length - 1) < BB ^ k := Nat.lt_of_le_of_lt h1 h
      have h3 := (Nat.pow_lt_pow_iff_right (show 1 < BB by decide)).1 h2
      omega
theorem wd_len_lt {a b : Nat} (h : (wd a).length < (wd b).length) : a < b := by
  have h1 : a < BB ^ (wd a).length := wd_len_le.1 (Nat.le_refl _)
  rcases Nat.lt_or_ge b (BB ^ (wd a).length) with h2 | h2
  · have := wd_len_le.2 h2
    omega
  · omega
theorem wd_len_mono {a b : Nat} (h : a ≤ b) : (wd a).length ≤ (wd b).length := by
  rw [wd_len_le]
  exact Nat.lt_of_le_of_lt h (wd_len_le.1 (Nat.le_refl _))
theorem wd_nil_iff {n : Nat} : wd n = [] ↔ n = 0 := ⟨fun h => by rw [← val_wd n, h]; rfl, fun h => by rw [h]; exact wd_zero⟩
theorem wd_len_zero {n : Nat} : (wd n).length = 0 ↔ n = 0 := by rw [List.length_eq_zero_iff]; exact wd_nil_iff
theorem wd_len_add (a b : Nat) : (wd (a + b)).length ≤ max (wd a).length (wd b).length + 1 := by
  rw [wd_len_le]
  have h1 : a < BB ^ (wd a).length := wd_len_le.1 (Nat.le_refl _)
  have h2 : b < BB ^ (wd b).length := wd_len_le.1 (Nat.le_refl _)
  have h3 : BB ^ (wd a).length ≤ BB ^ max (wd a).length (wd b).length := Nat.pow_le_pow_right BB_pos (Nat.le_max_left _ _)
  have h4 : BB ^ (wd b).length ≤ BB ^ max (wd a).length (wd b).length := Nat.pow_le_pow_right BB_pos (Nat.le_max_right _ _)
  rw [Nat.pow_succ]
  have h5 : 2 ≤ BB := by decide
  have := Nat.mul_le_mul_left (BB ^ max (wd a).length (wd b).length) h5
  omega
theorem wd_len_mul (a b : Nat) : (wd (a * b)).length ≤ (wd a).length + (wd b).length := by
  rw [wd_len_le, Nat.pow_add]
  have h1 : a < BB ^ (wd a).length := wd_len_le.1 (Nat.le_refl _)
  have h2 : b < BB ^ (wd b).length := wd_len_le.1 (Nat.le_refl _)
  exact Nat.mul_lt_mul'' h1 h2
/-! ### comparing from the top -/
theorem val_cmp_top {L M : List Nat} {k : Nat} (hL : Dig L) (hM : Dig M) (h1 : k < L.length) (h2 : L.length = M.length) (he : val (L.drop (k + 1)) = val (M.drop (k + 1))) (hlt : L.getD k 0 < M.getD k 0) : val L < val M := by
  rw [val_split L k (by omega), val_split M k (by omega), val_drop (L := L) h1, val_drop (L := M) (k := k) (by omega), he]
  have h3 := val_lt (hL.take k)
  rw [List.length_take, Nat.min_eq_left (by omega)] at h3
  have h4 : BB ^ k * (L.getD k 0 + 1 + BB * val (M.drop (k + 1))) ≤ BB ^ k * (M.getD k 0 + BB * val (M.drop (k + 1))) := Nat.mul_le_mul_left _ (by omega)
  rw [show L.getD k 0 + 1 + BB * val (M.drop (k + 1)) = (L.getD k 0 + BB * val (M.drop (k + 1))) + 1 by omega, Nat.mul_add (BB ^ k), Nat.mul_one] at h4
  omega
/-! ### a quotient's word, guessed (Knuth) -/
/-- u of n + 1 words, v of n, both split behind their n - 2 lowest (b = 2^(32 (n-2))): u = (top * BB + u2) * b + ul, v = (v1 * BB + v2) * b + vl. -/
theorem knuth_ge {b q u v top v1 v2 u2 ul vl : Nat} (hu : u = (top * BB + u2) * b + ul) (hv : v = (v1 * BB + v2) * b + vl) (hul : ul < b) (hu2 : u2 < BB) (hq : q * v ≤ u) : q * v1 ≤ top := by
  rcases Nat.lt_or_ge top (q * v1) with h | h
  · exfalso
    have h1 : (top + 1) * (BB * b) ≤ (q * v1) * (BB * b) := Nat.mul_le_mul_right _ h
    have h2 : (q * v1) * (BB * b) ≤ q * v := by
      rw [hv]
      have : q * v1 * (BB * b) = q * (v1 * BB * b) := by rw [Nat.mul_assoc, Nat.mul_assoc]
      rw [this]
      refine Nat.mul_le_mul_left _ ?_
      rw [Nat.add_mul]
      omega
    have h3 : u < (top + 1) * (BB * b) := by
      rw [hu, Nat.add_mul, Nat.add_mul, Nat.one_mul, Nat.mul_assoc]
      have : (u2 + 1) * b ≤ BB * b := Nat.mul_le_mul_right _ hu2
      rw [Nat.add_mul, Nat.one_mul] at this
      omega
    omega
  · exact h
/-- Too large: what the second words tell. -/
theorem knuth_big {b g u v top v1 v2 u2 ul vl r : Nat} (hu : u = (top * BB + u2) * b + ul) (hv : v = (v1 * BB + v2) * b + vl) (hul : ul < b) (hr : top = g * v1 + r) (hg : r * BB + u2 < g * v2) : u < g * v := by
  have h1 : top * BB + u2 + 1 ≤ g * (v1 * BB + v2) := by
    rw [Nat.mul_add, ← Nat.mul_assoc, hr, Nat.add_mul]
    omega
  have h2 : (top * BB + u2 + 1) * b ≤ g * (v1 * BB + v2) * b := Nat.mul_le_mul_right _ h1
  have h3 : g * (v1 * BB + v2) * b ≤ g * v := by
    rw [hv, Nat.mul_assoc]
    exact Nat.mul_le_mul_left _ (by omega)
  rw [Nat.add_mul _ 1, Nat.one_mul] at h2
  omega
/-- Not too large by more than one. -/
theorem knuth_near {b g u v top v1 v2 u2 ul vl r : Nat} (hu : u = (top * BB + u2) * b + ul) (hv : v = (v1 * BB + v2) * b + vl) (hvl : vl < b) (hv1 : 0 < v1) (hr : top = g * v1 + r) (hg : g * v2 ≤ r * BB + u2) (hgB : g < BB) : g * v < u + v := by
  have h1 : g * (v1 * BB + v2) ≤ top * BB + u2 := by
    rw [Nat.mul_add, ← Nat.mul_assoc, hr, Nat.add_mul]
    omega
  have h2 : g * (v1 * BB + v2) * b ≤ (top * BB + u2) * b := Nat.mul_le_mul_right _ h1
  have h3 : g * v = g * (v1 * BB + v2) * b + g * vl := by rw [hv, Nat.mul_add, Nat.mul_assoc]
  have h4 : g * vl ≤ g * b := Nat.mul_le_mul_left _ (by omega)
  have h5 : g * b < BB * b := Nat.mul_lt_mul_of_pos_right hgB (by omega)
  have h6 : BB * b ≤ v := by
    rw [hv]
    have : 1 * BB * b ≤ v1 * BB * b := Nat.mul_le_mul_right _ (Nat.mul_le_mul_right _ hv1)
    rw [Nat.one_mul] at this
    rw [Nat.add_mul]
    omega
  omega
end Go.Proofs.Ytcibbnphkpaifaa

namespace Go.Proofs.Ytcibbnphkpaifaa
open Go.RowKit
set_option linter.unusedVariables false
theorem ownsRow_base_a {w : World} {base base' : Nat} {e : TypeId} {size n : Nat} {v : Value} {xs : List Value} (h : w.ownsRow base e size v n xs) (hb : base' ≤ base) : w.ownsRow base' e size v n xs :=
  ⟨h.1, h.2.imp id fun ⟨g, cap, cur, h1, h2, h3⟩ => ⟨g, cap, cur, h1, Nat.le_trans hb h2, h3⟩⟩
theorem row_slice {w : World} {base : Nat} {e : TypeId} {size n : Nat} {v : Value} {xs : List Value} (h : w.ownsRow base e size v n xs) : ∃ p c, v = .slice p n c := by
  rcases h.2 with ⟨rfl, hz⟩ | ⟨g, cap, cur, rfl, _⟩
  · subst hz; exact ⟨_, _, rfl⟩
  · exact ⟨_, _, rfl⟩
theorem row_cells {w : World} {base : Nat} {e : TypeId} {size n c : Nat} {p : Option Addr} {xs : List Value} (h : w.ownsRow base e size (.slice p n c) n xs) (hn : 0 < n) : ∃ g, p = some ⟨g, 0, none⟩ ∧ base ≤ g ∧ g < w.heap.size ∧ ∀ j u, xs[j]? = some u → w.cell? ⟨g, j, none⟩ = some u := by
  rcases h.2 with ⟨e1, hz⟩ | ⟨g, cap, cur, e1, hb, hg, _⟩
  · omega
  · cases e1
    have hc := h.cells rfl
    refine ⟨g, rfl, hb, lt_of_heap hg, fun j u hj => ?_⟩
    have := hc j u hj
    rwa [show (⟨g, 0, none⟩ : Addr).add j = ⟨g, j, none⟩ by unfold Addr.add; split <;> simp_all] at this
theorem row_block {w : World} {base : Nat} {e : TypeId} {size n : Nat} {v : Value} {xs : List Value} (h : w.ownsRow base e size v n xs) : (v = .slice none 0 0 ∧ n = 0) ∨ ∃ g c cur, v = .slice (some ⟨g, 0, none⟩) n c ∧ base ≤ g ∧ w.heap[g]? = some (.cells cur e (0, 0)) ∧ n * size ≤ cur.size := by
  rcases h.2 with h1 | ⟨g, cap, cur, e1, hb, hg, h1, h2, h3, _⟩
  · exact .inl h1
  · exact .inr ⟨g, cap, cur, e1, hb, hg, by rw [h3]; exact Nat.mul_le_mul_right _ h1⟩
theorem blk_cell {w : World} {g : Nat} {cur : Array Value} {T : TypeId} (hg : w.heap[g]? = some (.cells cur T (0, 0))) {j : Nat} (hj : j < cur.size) : ∃ x, w.cell? ⟨g, j, none⟩ = some x :=
  ⟨cur[j], by rw [cell_of_row _ _ _ _ _ _ hg]; simp [hj]⟩
theorem blk_free {w : World} {g : Nat} {cur : Array Value} {T : TypeId} (hg : w.heap[g]? = some (.cells cur T (0, 0))) (j : Nat) : w.frozen? ⟨g, j, none⟩ = false := by
  simp [World.frozen?, hg]
theorem set_blk {w : World} {g j : Nat} {cur : Array Value} {T : TypeId} (hg : w.heap[g]? = some (.cells cur T (0, 0))) (x : Value) : ∃ cur', (w.setCell ⟨g, j, none⟩ x).heap[g]? = some (.cells cur' T (0, 0)) ∧ cur'.size = cur.size := by
  refine ⟨_, by simp [World.setCell, Array.getElem?_modify, hg]; rfl, by simp⟩
theorem below_alloc (w : World) (o : Obj) : Below w.heap.size w (w.alloc o) := (Below.refl _ _).alloc (Nat.le_refl _) _
theorem below_grown0 {B : Nat} {w w' : World} (h : w.grownBy w' none) (hB : B ≤ w.heap.size) : Below B w w' :=
  ⟨h.os, h.tape, h.output, h.size, fun i hi => h.block i (by omega) (by simp)⟩
theorem row_type {w : World} {base : Nat} {e : TypeId} {size n : Nat} {v : Value} {xs : List Value} (h : w.ownsRow base e size v n xs) {g : Nat} {cs : Array Value} {T : TypeId} (hg : w.heap[g]? = some (.cells cs T)) (hT : T ≠ e) : v.ownBlock ≠ some g := by
  rcases h.2 with ⟨rfl, _⟩ | ⟨g', cap, cur, rfl, _, hg', _⟩
  · simp [Value.ownBlock]
  · intro he
    simp [Value.ownBlock] at he
    subst he
    rw [hg] at hg'
    cases hg'
    exact hT rfl
theorem own_grew {B : Nat} {w w1 w2 w3 : World} {e : TypeId} {size n : Nat} {v : Value} {xs : List Value} (h : Grew B w w1) (hown : w2.ownsRow B e size v n xs) (hg : w1.grownBy w3 v.ownBlock) : Grew B w w3 :=
  ⟨h.1.grown hg h.2 (fun k hk => (hown.lt k hk).1), Nat.le_trans h.2 hg.size⟩
/-- The row that v' owns is v's, or a new block from B on. -/
def Fresh (v v' : Value) (B : Nat) : Prop := v'.ownBlock = v.ownBlock ∨ ∃ k, v'.ownBlock = some k ∧ B ≤ k
theorem fresh_append {P : Program} {w w' : World} {base : Nat} {t ty e : TypeId} {i : TypeInfo} {z : Value} {size bytes n m c : Nat} {v v' : Value} {xs news : List Value} {a : Addr}
    (ht : P.underlying t = some (.slice e)) (hi : P.info? e = some i) (hz : i.zero = some z) (hsize : i.size = size) (hby : i.bytes = bytes) (hzs : z.cells.size = size) (hsz : 0 < size)
    (hown : w.ownsRow base e size v n xs) (hl : news.length = m * size) (hnews : ∀ j u, news[j]? = some u → w.cell? (a.add j) = some u) (h1 : ∀ u ∈ news, u.oneCell' = true)
    (h63 : n + m ≤ maxLen) (hbytes : (n + m) * bytes ≤ 140737488355328)
    (hrun : (Builtin.append_ #[t, t] ty #[v, .slice (some a) m c]).run P w = .ok v' w') : Fresh v v' w.heap.size := by
  subst hsize
  subst hby
  have hsmall : n + m ≤ 9223372036854775807 := by simp only [maxLen] at h63; omega
  rcases hown.2 with ⟨rfl, rfl⟩ | ⟨g, cap, cur, rfl, hbg, hg, hnc, hcm, hcs, htake⟩
  · by_cases hm : m = 0
    · subst hm
      obtain ⟨v2, w2, hr, ho, hgr, hnil⟩ := run_append_own (P := P) w 0 t ty e i z i.size i.bytes ht hi hz rfl rfl hzs hsz _ 0 xs (ownsRow_base_a hown (Nat.zero_le _)) a 0 c news hl hnews h1 (by unfold maxLen; omega) (by omega) (Nat.zero_le _)
      rw [hr] at hrun
      cases hrun
      left
      rw [hnil.2 ⟨rfl, rfl⟩]
    · have hr := run_append_nil (P := P) w t ty e i z ht hi hz a m c news hl hnews (by omega) (by omega) (by have hb := hbytes; simp only [Nat.zero_add] at hb; omega)
      rw [hr] at hrun
      cases hrun
      exact .inr ⟨_, rfl, Nat.le_refl _⟩
  · by_cases hroom : n + m ≤ cap
    · have hfit : n * i.size + news.length ≤ cur.size := by rw [hl, hcs, ← Nat.add_mul]; exact Nat.mul_le_mul_right _ hroom
      have hr := run_append_room (P := P) w t ty e i ht hi g n cap cur hg a m c news hl hnews h1 hroom hfit
      rw [hr] at hrun
      cases hrun
      exact .inl rfl
    · have hr := run_append_grow (P := P) w t ty e i z ht hi hz ⟨g, 0, none⟩ n cap xs hown.1 (hown.cells (g := g) rfl) a m c news hl hnews (by omega) (by omega) (growslice_fits (by omega) hbytes)
      rw [hr] at hrun
      cases hrun
      exact .inr ⟨_, rfl, Nat.le_refl _⟩
/-- A step of a region that draws its order: append of what stands in a block #[..], onto a row of the call's own. -/
theorem step_push {P : Program} {ops : Array Oper} {o : Oper} {a : Act} {w : World} {K : Act → World → Prop} {Q : Exit → Act → World → Prop} {E : Prop} (hgd : o.guard = none) (s x : Operand) (t : TypeId)
    (ho : o.op = .call { callee := .builtin .append, args := #[s, x], argTypes := #[t, t] })
    (base : Nat) (e : TypeId) (i : TypeInfo) (z : Value) (size bytes : Nat) (ht : P.underlying t = some (.slice e)) (hi : P.info? e = some i) (hz : i.zero = some z)
    (hsize : i.size = size) (hby : i.bytes = bytes) (hzs : z.cells.size = size) (hsz : 0 < size) (hbp : 0 < bytes)
    (v : Value) (n : Nat) (xs : List Value) (hs : a.eval s = v) (hown : w.ownsRow base e size v n xs)
    (g : Nat) (cs : Array Value) (T : TypeId) (m c : Nat) (hx : a.eval x = .slice (some ⟨g, 0, none⟩) m c) (hgb : w.heap[g]? = some (.cells cs T)) (hl : cs.size = m * size) (h1 : cs.all (·.oneCell') = true)
    (hbytes : (n + m) * bytes ≤ 140737488355328) (hbase : base ≤ w.heap.size)
    (h : ∀ v' w', w'.ownsRow base e size v' (n + m) (xs ++ cs.toList) → w.grownBy w' v.ownBlock → Fresh v v' w.heap.size → (v' = .slice none 0 0 ↔ v = .slice none 0 0 ∧ m = 0) → K (a.put o.dst v') w') :
    if Region.wanted o (yielded ops a.tmps) = true then Oper.wp P o a w K Q else E := by
  have hw : Region.wanted o (yielded ops a.tmps) = true := by simp [Region.wanted, hgd]
  rw [if_pos hw]
  have hnm : n + m ≤ (n + m) * bytes := Nat.le_mul_of_pos_right _ hbp
  have hc : ∀ j u, cs.toList[j]? = some u → w.cell? ((⟨g, 0, none⟩ : Addr).add j) = some u := by
    intro j u hu
    rw [show (⟨g, 0, none⟩ : Addr).add j = ⟨g, j, none⟩ by unfold Addr.add; split <;> simp_all, cell_of_row _ _ _ _ _ _ hgb]
    simpa using hu
  have h1' : ∀ u ∈ cs.toList, u.oneCell' = true := fun u hu => (Array.all_eq_true_iff_forall_mem.1 h1) u (by simpa using hu)
  obtain ⟨v', w', hrun, r1, r2, r3⟩ := run_append_own (P := P) w base t o.type e i z size bytes ht hi hz hsize hby hzs hsz v n xs hown ⟨g, 0, none⟩ m c cs.toList (by simpa using hl) hc h1' (by unfold maxLen; omega) hbytes hbase
  have hf := fresh_append ht hi hz hsize hby hzs hsz hown (by simpa using hl) hc h1' (by unfold maxLen; omega) hbytes hrun
  unfold Oper.wp
  simp [execOp, ho, resolve, invoke, builtin, hs, hx, hrun, Result.andThen]
  exact h v' w' r1 r2 hf r3
theorem step_in {P : Program} {ops : Array Oper} {o : Oper} {a : Act} {w : World} {K : Act → World → Prop} {Q : Exit → Act → World → Prop} {E : Prop} (hgd : o.guard = none) (h : Oper.wp P o a w K Q) :
    if Region.wanted o (yielded ops a.tmps) = true then Oper.wp P o a w K Q else E := by
  have hw : Region.wanted o (yielded ops a.tmps) = true := by simp [Region.wanted, hgd]
  rw [if_pos hw]
  exact h
/-- The same where the walk goes operation by operation. -/
theorem wpList_push2 {P : Program} {ops : Array Oper} {rest : List Oper} {o : Oper} {a : Act} {w : World} {Q : Exit → Act → World → Prop} (hgd : o.guard = none) (s x : Operand) (t : TypeId)
    (ho : o.op = .call { callee := .builtin .append, args := #[s, x], argTypes := #[t, t] })
    (base : Nat) (e : TypeId) (i : TypeInfo) (z : Value) (size bytes : Nat) (ht : P.underlying t = some (.slice e)) (hi : P.info? e = some i) (hz : i.zero = some z)
    (hsize : i.size = size) (hby : i.bytes = bytes) (hzs : z.cells.size = size) (hsz : 0 < size) (hbp : 0 < bytes)
    (v : Value) (n : Nat) (xs : List Value) (hs : a.eval s = v) (hown : w.ownsRow base e size v n xs)
    (g : Nat) (cs : Array Value) (T : TypeId) (m c : Nat) (hx : a.eval x = .slice (some ⟨g, 0, none⟩) m c) (hgb : w.heap[g]? = some (.cells cs T)) (hl : cs.size = m * size) (h1 : cs.all (·.oneCell') = true)
    (hbytes : (n + m) * bytes ≤ 140737488355328) (hbase : base ≤ w.heap.size)
    (h : ∀ v' w', w'.ownsRow base e size v' (n + m) (xs ++ cs.toList) → w.grownBy w' v.ownBlock → Fresh v v' w.heap.size → (v' = .slice none 0 0 ↔ v = .slice none 0 0 ∧ m = 0) → wpList P ops Q rest (a.put o.dst v') w') :
    wpList P ops Q (o :: rest) a w := by
  refine wpList_plain hgd fun K hK => ?_
  have hw := step_push (ops := #[]) (E := False) (Q := Q) (K := K) hgd s x t ho base e i z size bytes ht hi hz hsize hby hzs hsz hbp v n xs hs hown g cs T m c hx hgb hl h1 hbytes hbase (fun v' w' q1 q2 q3 q4 => hK _ _ (h v' w' q1 q2 q3 q4))
  rwa [if_pos (by simp [Region.wanted, hgd])] at hw
theorem rows_apart {w : World} {b1 b2 n m s1 s2 : Nat} {e1 e2 : TypeId} {u v : Value} {xs ys : List Value} (h1 : w.ownsRow b1 e1 s1 v n xs) (h2 : w.ownsRow b2 e2 s2 u m ys) (hT : e2 ≠ e1) : v.ownBlock = none ∨ v.ownBlock ≠ u.ownBlock := by
  rcases row_block h2 with ⟨rfl, _⟩ | ⟨g, c, cur, rfl, _, hg, _⟩
  · cases v.ownBlock
    · exact .inl rfl
    · exact .inr (by simp [Value.ownBlock])
  · exact .inr (row_type h1 hg hT)
theorem row_capm {w : World} {base : Nat} {e : TypeId} {size n m c : Nat} {p : Option Addr} {xs : List Value} (h : w.ownsRow base e size (.slice p n c) m xs) : n ≤ c := by
  rcases h.2 with ⟨e1, _⟩ | ⟨g, cap, cur, e1, _, _, h1, _⟩
  · simp only [Value.slice.injEq] at e1; omega
  · simp only [Value.slice.injEq] at e1; omega
theorem quiet_ex {P : Program} {f : FuncId} {args : Array Value} {w : World} {n : Nat} {v : Value}
    (h : Calls P f args (w.drewN n) fun e w' => e = .returned v ∧ ∃ k, w' = (w.drewN n).drewN k) : Calls P f args (w.drewN n) fun e w'' => e = .returned v ∧ ∃ m, w'' = w.drewN m :=
  h.mono fun _ _ ⟨he, k, hm⟩ => ⟨he, n + k, by rw [hm, World.drewN_drewN]⟩
theorem row_lit (w : World) (base : Nat) (e : TypeId) (size n : Nat) (cs : Array Value) (hb : base ≤ w.heap.size) (hn : cs.size = n * size) (hm : n ≤ maxLen) :
    (w.alloc (.cells cs e)).ownsRow base e size (.slice (some ⟨w.heap.size, 0, none⟩) n n) n cs.toList :=
  ⟨by simpa using hn, .inr ⟨w.heap.size, n, cs, rfl, hb, heap_alloc_last _ _, Nat.le_refl _, hm, hn, List.take_of_length_le (by simp [hn])⟩⟩
theorem grown_trans {a b c : World} {row : Option Nat} (h : a.grownBy b row) (k : b.grownBy c row) : a.grownBy c row := h.trans k
theorem grown_but {a c : World} (h : a.grownBy c none) (row : Option Nat) : a.grownBy c row := h.but row
theorem grown_drewN {a c : World} {row : Option Nat} (h : a.grownBy c row) (n : Nat) : a.grownBy (c.drewN n) row := ⟨h.os, h.tape, h.output, h.size, h.block⟩
end Go.Proofs.Ytcibbnphkpaifaa

namespace Go.Proofs.Ytcibbnphkpaifaa
open Go.RowKit
set_option linter.unusedVariables false
set_option maxRecDepth 100000
/-- Words as cells. -/
def vw (S : List Nat) : List Value := S.map fun (x : Nat) => .int .u32 (x : Int)
theorem vw_len (S : List Nat) : (vw S).length = S.length := by unfold vw; rw [List.length_map]
theorem vw_get {S : List Nat} {k : Nat} (h : k < S.length) : (vw S)[k]? = some (.int .u32 (S.getD k 0 : Nat)) := by
  unfold vw
  rw [List.getElem?_map, List.getElem?_eq_getElem h, List.getD_eq_getElem?_getD, List.getElem?_eq_getElem h]; rfl
theorem vw_append (S T : List Nat) : vw (S ++ T) = vw S ++ vw T := by unfold vw; rw [List.map_append]
theorem vw_set (S : List Nat) (k x : Nat) : vw (S.set k x) = (vw S).set k (.int .u32 (x : Int)) := by unfold vw; rw [List.map_set]
theorem vw_take (S : List Nat) (k : Nat) : vw (S.take k) = (vw S).take k := by unfold vw; rw [List.map_take]
theorem vw_zeros (n : Nat) : vw (List.replicate n 0) = List.replicate n (.int .u32 0) := by unfold vw; rw [List.map_replicate]; rfl
/-- A slice of words that can be read. -/
def WL (w : World) (p : Option Addr) (S : List Nat) : Prop := S = [] ∨ ∃ g o, p = some ⟨g, o, none⟩ ∧ g < w.heap.size ∧ ∀ k, k < S.length → w.cell? ⟨g, o + k, none⟩ = some (.int .u32 (S.getD k 0 : Nat))
theorem WL.below {w w' : World} {p : Option Addr} {S : List Nat} (h : WL w p S) (hb : Below w.heap.size w w') : WL w' p S := by
  rcases h with h | ⟨g, o, rfl, hg, hc⟩
  · exact .inl h
  · exact .inr ⟨g, o, rfl, Nat.lt_of_lt_of_le hg hb.size, fun k hk => (hb.cell (p := ⟨g, o + k, none⟩) hg).trans (hc k hk)⟩
theorem WL.some_ {w : World} {p : Option Addr} {S : List Nat} (h : WL w p S) (hk : 0 < S.length) : ∃ g o, p = some ⟨g, o, none⟩ ∧ g < w.heap.size ∧ ∀ k, k < S.length → w.cell? ⟨g, o + k, none⟩ = some (.int .u32 (S.getD k 0 : Nat)) := by
  rcases h with rfl | h
  · cases hk
  · exact h
theorem WL.take {w : World} {p : Option Addr} {S : List Nat} (h : WL w p S) (m : Nat) : WL w p (S.take m) := by
  rcases h with rfl | ⟨g, o, rfl, hg, hc⟩
  · exact .inl (by simp)
  · refine .inr ⟨g, o, rfl, hg, fun k hk => ?_⟩
    rw [List.length_take] at hk
    rw [hc k (by omega), List.getD_eq_getElem?_getD, List.getD_eq_getElem?_getD, List.getElem?_take_of_lt (by omega)]
theorem WL.nil (w : World) (p : Option Addr) : WL w p [] := .inl rfl
/-- It stands while only the block b may change, if it does not lie there. -/
def Off (p : Option Addr) (b : Option Nat) : Prop := ∀ a, p = some a → some a.block ≠ b
theorem WL.kept {w w' : World} {p : Option Addr} {S : List Nat} {row : Option Nat} (h : WL w p S) (hg : w.grownBy w' row) (ho : Off p row) : WL w' p S := by
  rcases h with h | ⟨g, o, rfl, hlt, hc⟩
  · exact .inl h
  · exact .inr ⟨g, o, rfl, Nat.lt_of_lt_of_le hlt hg.size, fun k hk => hg.cell (hc k hk) (ho ⟨g, o, none⟩ rfl)⟩
/-- A row of words of one's own. -/
def WO (w : World) (base : Nat) (v : Value) (S : List Nat) : Prop := w.ownsRow base 88 1 v S.length (vw S)
theorem WO.slice {w : World} {base : Nat} {v : Value} {S : List Nat} (h : WO w base v S) : ∃ p c, v = .slice p S.length c := row_slice h
theorem WO.below {w w' : World} {base : Nat} {v : Value} {S : List Nat} (h : WO w base v S) (hb : Below w.heap.size w w') : WO w' base v S := own_below h hb
theorem WO.alloc {w : World} {base : Nat} {v : Value} {S : List Nat} (h : WO w base v S) (o : Obj) : WO (w.alloc o) base v S := World.ownsRow.alloc h o
theorem WO.mono {w : World} {base base' : Nat} {v : Value} {S : List Nat} (h : WO w base v S) (hb : base' ≤ base) : WO w base' v S := ownsRow_base_a h hb
theorem WO.kept {w w' : World} {base : Nat} {v : Value} {S : List Nat} {row : Option Nat} (h : WO w base v S) (hg : w.grownBy w' row) (hne : v.ownBlock = none ∨ v.ownBlock ≠ row) : WO w' base v S := World.ownsRow.kept h hg hne
theorem WO.nil (w : World) (base : Nat) : WO w base (.slice none 0 0) [] := ⟨rfl, .inl ⟨rfl, rfl⟩⟩
theorem WO.cap {w : World} {base c : Nat} {p : Option Addr} {S : List Nat} (h : WO w base (.slice p S.length c) S) : S.length ≤ c := row_capm h
theorem WO.wl {w : World} {base c : Nat} {p : Option Addr} {S : List Nat} (h : WO w base (.slice p S.length c) S) : WL w p S := by
  rcases Nat.eq_zero_or_pos S.length with h0 | h0
  · exact .inl (List.eq_nil_of_length_eq_zero h0)
  · obtain ⟨g, rfl, _, hg, hc⟩ := row_cells h h0
    exact .inr ⟨g, 0, rfl, hg, fun k hk => by rw [Nat.zero_add]; exact hc _ _ (vw_get hk)⟩
theorem WO.cut {w : World} {base c : Nat} {p : Option Addr} {S : List Nat} (h : WO w base (.slice p S.length c) S) {m : Nat} (hm : m ≤ S.length) : WO w base (.slice p m c) (S.take m) := by
  have hl : (S.take m).length = m := by rw [List.length_take]; omega
  unfold WO
  rw [hl]
  refine ⟨by rw [vw_len, hl]; omega, ?_⟩
  rcases h.2 with ⟨e, hz⟩ | ⟨g, cap, cur, e, hb, hg, h1, h2, h3, h4⟩
  · simp only [Value.slice.injEq] at e
    obtain ⟨rfl, _, rfl⟩ := e
    have : m = 0 := by omega
    subst this
    exact .inl ⟨rfl, rfl⟩
  · simp only [Value.slice.injEq] at e
    obtain ⟨rfl, _, rfl⟩ := e
    refine .inr ⟨g, c, cur, rfl, hb, hg, by omega, h2, h3, ?_⟩
    rw [vw_take, ← h4, List.take_take, Nat.mul_one, Nat.mul_one, Nat.min_eq_left hm]
/-- The block of a row that is not empty; its cells may be stored into. -/
theorem WO.blk {w : World} {base c : Nat} {p : Option Addr} {S : List Nat} (h : WO w base (.slice p S.length c) S) (h0 : 0 < S.length) : ∃ g, p = some ⟨g, 0, none⟩ ∧ base ≤ g ∧ g < w.heap.size ∧ (∀ k, k < S.length → w.cell? ⟨g, k, none⟩ = some (.int .u32 (S.getD k 0 : Nat))) ∧ ∀ k, w.frozen? ⟨g, k, none⟩ = false := by
  obtain ⟨g, rfl, h1, h2, h3⟩ := row_cells h h0
  exact ⟨g, rfl, h1, h2, fun k hk => h3 _ _ (vw_get hk), fun k => World.ownsRow.frozenAt h k⟩
theorem WO.set {w : World} {base c g : Nat} {S : List Nat} (h : WO w base (.slice (some ⟨g, 0, none⟩) S.length c) S) (k x : Nat) : WO (w.setCell ⟨g, k, none⟩ (.int .u32 (x : Int))) base (.slice (some ⟨g, 0, none⟩) S.length c) (S.set k x) ∧ w.grownBy (w.setCell ⟨g, k, none⟩ (.int .u32 (x : Int))) (some g) := by
  obtain ⟨h1, h2⟩ := World.ownsRow.stored h k (.int .u32 (x : Int))
  refine ⟨?_, h2⟩
  unfold WO
  rw [List.length_set, vw_set]
  exact h1
theorem WO.drewN {w : World} {base : Nat} {v : Value} {S : List Nat} (h : WO w base v S) (n : Nat) : WO (w.drewN n) base v S := h.below (below_drewN (Below.refl _ _) n)
theorem WL.drewN {w : World} {p : Option Addr} {S : List Nat} (h : WL w p S) (n : Nat) : WL (w.drewN n) p S := h.below (below_drewN (Below.refl _ _) n)
theorem WO.off {w : World} {base : Nat} {p : Option Addr} {n c : Nat} {S : List Nat} (h : WO w base (.slice p n c) S) {q : Option Addr} (hq : ∀ a, q = some a → a.block < base) : Off q (Value.slice p n c).ownBlock := fun a e1 e2 => by
  have := (World.ownsRow.lt h a.block e2.symm).1
  have := hq a e1
  omega
/-- Nothing to be read, or not in the block b. -/
def OffW (q : Option Addr) (S : List Nat) (b : Option Nat) : Prop := S = [] ∨ Off q b
theorem WL.keptW {w w' : World} {p : Option Addr} {S : List Nat} {row : Option Nat} (h : WL w p S) (hg : w.grownBy w' row) (ho : OffW p S row) : WL w' p S := by
  rcases ho with rfl | ho
  · exact .inl rfl
  · exact h.kept hg ho
theorem WL.offnew {w w1 : World} {base n c : Nat} {p q : Option Addr} {S T : List Nat} (h : WL w q S) (ho : WO w1 base (.slice p n c) T) (hbase : w.heap.size ≤ base) : OffW q S (Value.slice p n c).ownBlock := by
  rcases h with h | ⟨g, o, rfl, hlt, hc⟩
  · exact .inl h
  · refine .inr (ho.off ?_)
    intro a e
    cases e
    exact Nat.lt_of_lt_of_le hlt hbase
theorem WO.offold {w : World} {base n c n2 c2 b2 : Nat} {p q : Option Addr} {S T : List Nat} (h : WO w b2 (.slice q S.length c2) S) (ho : WO w base (.slice p n c) T) (hne : (Value.slice q S.length c2).ownBlock = none ∨ (Value.slice q S.length c2).ownBlock ≠ (Value.slice p n c).ownBlock) : OffW q S (Value.slice p n c).ownBlock := by
  rcases row_block h with ⟨e, hz⟩ | ⟨g, cc, cur, e, _, _, _⟩
  · exact .inl (List.eq_nil_of_length_eq_zero hz)
  · simp only [Value.slice.injEq] at e
    obtain ⟨rfl, _, _⟩ := e
    refine .inr fun a e2 => ?_
    cases e2
    rcases hne with h1 | h1
    · cases h1
    · exact h1
theorem info_u32 : (Try.prog.info? 88).map (fun i => (i.zero, i.size, i.bytes)) = some (some (.int .u32 0), 1, 4) := by kernel_rfl
/-! ### cut -/
theorem cutL_snoc_zero : ∀ L, cutL (L ++ [0]) = cutL L
  | [] => by simp [cutL]
  | x :: r => by
    have ih := cutL_snoc_zero r
    rw [List.cons_append]
    unfold cutL
    rw [ih]
theorem cutL_snoc_ne {x : Nat} (hx : x ≠ 0) : ∀ L, cutL (L ++ [x]) = L ++ [x]
  | [] => by simp [cutL, hx]
  | y :: r => by
    have ih := cutL_snoc_ne hx r
    rw [List.cons_append]
    unfold cutL
    rw [ih, if_neg (by simp)]
theorem cutL_step {L : List Nat} {k : Nat} (hk : k < L.length) (h : L.getD k 0 = 0) : cutL (L.take (k + 1)) = cutL (L.take k) := by rw [take_succ_getD hk, h, cutL_snoc_zero]
theorem cutL_stop {L : List Nat} {k : Nat} (hk : k < L.length) (h : L.getD k 0 ≠ 0) : cutL (L.take (k + 1)) = L.take (k + 1) := by rw [take_succ_getD hk, cutL_snoc_ne h]
theorem cutL_take : ∀ L, ∃ m, m ≤ L.length ∧ cutL L = L.take m ∧ m = (cutL L).length
  | [] => ⟨0, by simp, by simp [cutL], by simp [cutL]⟩
  | x :: r => by
    obtain ⟨m, h1, h2, h3⟩ := cutL_take r
    unfold cutL
    split
    · exact ⟨0, by simp, by simp, by simp⟩
    · exact ⟨m + 1, by simp; omega, by rw [h2]; simp, by simp [h3]⟩
theorem cutL_le (L : List Nat) : (cutL L).length ≤ L.length := by obtain ⟨m, h1, _, h3⟩ := cutL_take L; omega
theorem cutL_is (L : List Nat) : cutL L = L.take (cutL L).length := by
  obtain ⟨m, h1, h2, h3⟩ := cutL_take L
  rw [← h3]
  exact h2
theorem WO.cutL {w : World} {base c : Nat} {p : Option Addr} {S : List Nat} (h : WO w base (.slice p S.length c) S) : WO w base (.slice p (Ytcibbnphkpaifaa.cutL S).length c) (Ytcibbnphkpaifaa.cutL S) := by
  have := h.cut (cutL_le S)
  rwa [← cutL_is] at this
theorem WL.cutL {w : World} {p : Option Addr} {S : List Nat} (h : WL w p S) : WL w p (Ytcibbnphkpaifaa.cutL S) := by
  have := h.take (Ytcibbnphkpaifaa.cutL S).length
  rwa [← cutL_is] at this
end Go.Proofs.Ytcibbnphkpaifaa

namespace Go.Proofs.Ytcibbnphkpaifaa
open Go.RowKit
set_option linter.unusedVariables false
set_option maxRecDepth 100000
set_option maxHeartbeats 1600000 in
theorem cut_any (p : Option Addr) (n c : Nat) (S : List Nat) (w : World) (hn : n = S.length) (hp : WL w p S) (hc : n ≤ c) (hs : n ≤ 140737488355328) :
    Calls Try.prog 92 #[.slice p n c] w fun e w' => e = .returned (.slice p (cutL S).length c) ∧ w' = w := by
  subst hn
  have HP := hide_ (fun h => hp.some_ h)
  clear hp
  go_enter Try.func92, Try.ntmps92
  go_wp2
  go_loopw [3] (fun i wr => ∃ k : Nat, k ≤ S.length ∧ i = .int .i64 k ∧ Hid (cutL (S.take k) = cutL S) ∧ wr = w) (fun i _ => (intOf i).toNat)
  case atStart => exact ⟨S.length, by omega, rfl, hide_ (by rw [List.take_length]), rfl⟩
  case round =>
    obtain ⟨k, hk, rfl, HX, hww⟩ := hrel
    subst hww
    by_cases h0 : k = 0
    · subst h0
      have HL : Hid ((cutL S).length = 0) := hide_ (by rw [← HX.out]; rfl)
      go_wp2
      go_ret
      exact ⟨by rw [HL.out]; simp, rfl⟩
    · obtain ⟨j, hj⟩ : ∃ j, k = j + 1 := ⟨k - 1, by omega⟩
      have hw : IntKind.i64.wrap ((k : Int) - 1) = (j : Int) := by rw [hj, IntWalk.i64_in _ (by omega)]; omega
      have d1 : decide ((0 : Int) < (k : Int)) = true := decide_eq_true (by omega)
      obtain ⟨g, o, rfl, hg, hce⟩ := HP.out (by omega)
      have e0 := hce j (by omega)
      have i4 : (0 : Int) ≤ (j : Int) := by omega
      have i5 : (j : Int) < (S.length : Int) := by omega
      have HJ := hide_ hj
      by_cases hz : S.getD j 0 = 0
      · have HX2 : Hid (cutL (S.take j) = cutL S) := hide_ (by rw [← HX.out, hj]; exact (cutL_step (by omega) hz).symm)
        rw [hz] at e0
        clear hj hce hz
        go_wp2
        exact ⟨⟨j, by have := HJ.out; omega, by simp, HX2, by simp⟩, by have := HJ.out; simp [intOf]; omega⟩
      · have hb : (((S.getD j 0 : Nat) : Int) == 0) = false := beq_eq_false_iff_ne.2 (by omega)
        have HL : Hid ((cutL S).length = k) := hide_ (by rw [← HX.out, hj, cutL_stop (by omega) hz, List.length_take]; omega)
        generalize S.getD j 0 = x at *
        clear hj hce hz
        go_wp2
        go_ret
        exact ⟨by rw [HL.out]; simp, rfl⟩
/-- What Check says of words. -/
def chk (S : List Nat) : Int := if 8192 < S.length then 3 else if 0 < S.length ∧ S.getD (S.length - 1) 0 = 0 then 11 else 0
theorem chk_ok {S : List Nat} : chk S = 0 ↔ S.length ≤ 8192 ∧ Trm S := by
  unfold chk Trm
  by_cases h1 : 8192 < S.length
  · rw [if_pos h1]; omega
  · rw [if_neg h1]
    by_cases h2 : 0 < S.length ∧ S.getD (S.length - 1) 0 = 0
    · rw [if_pos h2]
      refine ⟨fun h => by omega, fun h => ?_⟩
      rcases h.2 with h3 | h3
      · rw [h3] at h2; simp at h2
      · exact absurd h2.2 h3
    · rw [if_neg h2]
      refine ⟨fun _ => ⟨by omega, ?_⟩, fun _ => rfl⟩
      rcases Nat.eq_zero_or_pos S.length with h3 | h3
      · exact .inl (List.eq_nil_of_length_eq_zero h3)
      · exact .inr fun h4 => h2 ⟨h3, h4⟩
theorem check_any (p : Option Addr) (n c : Nat) (S : List Nat) (w : World) (hn : n = S.length) (hp : WL w p S) (hs : n ≤ 140737488355328) :
    Calls Try.prog 76 #[.slice p n c] w fun e w' => e = .returned (.int .i64 (chk S)) ∧ w' = w := by
  subst hn
  by_cases h1 : 8192 < S.length
  · have hk : chk S = 3 := by unfold chk; rw [if_pos h1]
    rw [hk]
    have d1 : decide ((8192 : Int) < (S.length : Int)) = true := decide_eq_true (by omega)
    clear hk
    go_enter Try.func76, Try.ntmps76
    go_wp2
    go_ret
    exact ⟨by simp, rfl⟩
  · have d1 : decide ((8192 : Int) < (S.length : Int)) = false := decide_eq_false (by omega)
    by_cases h0 : S.length = 0
    · have hk : chk S = 0 := by unfold chk; rw [if_neg h1, if_neg (by omega)]
      have d2 : decide ((0 : Int) < (S.length : Int)) = false := decide_eq_false (by omega)
      rw [hk]
      clear hk
      generalize S.length = n at *
      go_enter Try.func76, Try.ntmps76
      go_wp2
      go_ret
      exact ⟨by simp, rfl⟩
    · obtain ⟨g, o, rfl, hg, hce⟩ := hp.some_ (by omega)
      have d2 : decide ((0 : Int) < (S.length : Int)) = true := decide_eq_true (by omega)
      obtain ⟨j, hj⟩ : ∃ j, S.length = j + 1 := ⟨S.length - 1, by omega⟩
      have hw : IntKind.i64.wrap ((S.length : Int) - 1) = (j : Int) := by rw [hj, IntWalk.i64_in _ (by omega)]; omega
      have e0 := hce j (by omega)
      have i4 : (0 : Int) ≤ (j : Int) := by omega
      have i5 : (j : Int) < (S.length : Int) := by omega
      have hjj : S.length - 1 = j := by omega
      clear hce
      by_cases hz : S.getD j 0 = 0
      · have hk : chk S = 11 := by unfold chk; rw [if_neg h1, if_pos ⟨by omega, by rw [hjj]; exact hz⟩]
        rw [hk]
        rw [hz] at e0
        clear hk hz hj hjj h0
        generalize S.length = n at *
        go_enter Try.func76, Try.ntmps76
        go_wp2
        go_ret
        exact ⟨by simp, rfl⟩
      · have hk : chk S = 0 := by unfold chk; rw [if_neg h1, if_neg (fun h => hz (by rw [← hjj]; exact h.2))]
        have hb : (((S.getD j 0 : Nat) : Int) == 0) = false := beq_eq_false_iff_ne.2 (by omega)
        rw [hk]
        clear hk hz hj hjj h0
        generalize S.getD j 0 = x at *
        generalize S.length = n at *
        go_enter Try.func76, Try.ntmps76
        go_wp2
        go_ret
        exact ⟨by simp, rfl⟩
end Go.Proofs.Ytcibbnphkpaifaa

namespace Go.Proofs.Ytcibbnphkpaifaa
open Go.RowKit
set_option linter.unusedVariables false
set_option maxRecDepth 100000
def chk2 (A B : List Nat) : Int := if chk A = 0 then chk B else chk A
theorem chk2_ok {A B : List Nat} : chk2 A B = 0 ↔ chk A = 0 ∧ chk B = 0 := by
  unfold chk2
  by_cases h : chk A = 0
  · rw [if_pos h]; exact ⟨fun g => ⟨h, g⟩, fun g => g.2⟩
  · rw [if_neg h]; exact ⟨fun g => absurd g h, fun g => absurd g.1 h⟩
theorem checked_any (p q : Option Addr) (n m c d : Nat) (A B : List Nat) (w : World) (hn : n = A.length) (hm : m = B.length) (hp : WL w p A) (hq : WL w q B) (hs : n ≤ 140737488355328) (ht : m ≤ 140737488355328) :
    Calls Try.prog 98 #[.slice p n c, .slice q m d] w fun e w' => e = .returned (.int .i64 (chk2 A B)) ∧ w' = w := by
  have HA := hide_ (check_any p n c A w hn hp hs)
  have HB := hide_ (check_any q m d B w hm hq ht)
  clear hp hq hn hm hs ht
  unfold chk2
  by_cases h : chk A = 0
  · rw [if_pos h]
    rw [h] at HA
    generalize chk B = b at *
    have tok : True := trivial
    go_enter Try.func98, Try.ntmps98
    go_wp2_with (first
      | (go_at_call 76; have _t := tok; (with_reducible refine (HA.out).mono ?_); rintro e w1 ⟨rfl, rfl⟩; clear tok)
      | (go_at_call 76; (with_reducible refine (HB.out).mono ?_); rintro e w1 ⟨rfl, rfl⟩))
    go_ret
    exact ⟨by simp, rfl⟩
  · rw [if_neg h]
    have hb : (chk A != 0) = true := by simpa using h
    generalize chk A = a at *
    clear HB
    go_enter Try.func98, Try.ntmps98
    go_wp2_with (go_at_call 76; (with_reducible refine (HA.out).mono ?_); rintro e w1 ⟨rfl, rfl⟩)
    go_ret
    exact ⟨by simp, rfl⟩
theorem told_ok (p : Option Addr) (n c : Nat) (S : List Nat) (w : World) (hn : n = S.length) (hp : WL w p S) (hc : n ≤ c) (hs : n ≤ 140737488355328) (h : (cutL S).length ≤ 8192) :
    Calls Try.prog 104 #[.slice p n c] w fun e w' => e = .returned (.tuple #[.slice p (cutL S).length c, .int .i64 0]) ∧ w' = w := by
  have HA := hide_ (cut_any p n c S w hn hp hc hs)
  have d1 : decide ((8192 : Int) < ((cutL S).length : Int)) = false := decide_eq_false (by omega)
  clear hp hn hs hc
  generalize (cutL S).length = l at *
  go_enter Try.func104, Try.ntmps104
  go_wp2_with (go_at_call 92; (with_reducible refine (HA.out).mono ?_); rintro e w1 ⟨rfl, rfl⟩)
  go_ret2
  exact ⟨by simp, rfl⟩
theorem told_no (p : Option Addr) (n c : Nat) (S : List Nat) (w : World) (hn : n = S.length) (hp : WL w p S) (hc : n ≤ c) (hs : n ≤ 140737488355328) (h : 8192 < (cutL S).length) :
    Calls Try.prog 104 #[.slice p n c] w fun e w' => e = .returned (.tuple #[.slice none 0 0, .int .i64 3]) ∧ w' = w := by
  have HA := hide_ (cut_any p n c S w hn hp hc hs)
  have d1 : decide ((8192 : Int) < ((cutL S).length : Int)) = true := decide_eq_true (by omega)
  clear hp hn hs hc
  generalize (cutL S).length = l at *
  go_enter Try.func104, Try.ntmps104
  go_wp2_with (go_at_call 92; (with_reducible refine (HA.out).mono ?_); rintro e w1 ⟨rfl, rfl⟩)
  go_ret2
  exact ⟨by simp, rfl⟩
/-- -1, 0 or 1. -/
def cmpN (a b : Nat) : Int := if a < b then -1 else if b < a then 1 else 0
theorem cmpN_eq (a : Nat) : cmpN a a = 0 := by unfold cmpN; simp
theorem cmpN_lt {a b : Nat} (h : a < b) : cmpN a b = -1 := by unfold cmpN; rw [if_pos h]
theorem cmpN_gt {a b : Nat} (h : b < a) : cmpN a b = 1 := by unfold cmpN; rw [if_neg (by omega), if_pos h]
theorem val_lt_len {X Y : List Nat} (dX : Dig X) (tY : Trm Y) (h : X.length < Y.length) : val X < val Y := by
  have h1 := val_lt dX
  have h2 := trm_ge tY (fun e => by rw [e] at h; cases h)
  have h3 : BB ^ X.length ≤ BB ^ (Y.length - 1) := Nat.pow_le_pow_right BB_pos (by omega)
  omega
set_option maxHeartbeats 3200000 in
theorem compare_any (p q : Option Addr) (n m c d : Nat) (A B : List Nat) (w : World) (hn : n = A.length) (hm : m = B.length) (hp : WL w p A) (hq : WL w q B) (hc : n ≤ c) (hd : m ≤ d) (hs : n ≤ 140737488355328) (ht : m ≤ 140737488355328) (dA : Dig A) (dB : Dig B) :
    Calls Try.prog 68 #[.slice p n c, .slice q m d] w fun e w' => e = .returned (.int .i64 (cmpN (val A) (val B))) ∧ ∃ k, w' = w.drewN k := by
  have HA := hide_ (cut_any p n c A w hn hp hc hs)
  have HB := hide_ (cut_any q m d B w hm hq hd ht)
  have hpA := hp.cutL
  have hqB := hq.cutL
  have tA := cutL_trm A
  have tB := cutL_trm B
  have eA := cutL_val A
  have eB := cutL_val B
  have dcA := cutL_dig dA
  have dcB := cutL_dig dB
  have lA := cutL_le A
  have lB := cutL_le B
  rw [← eA, ← eB]
  generalize cutL A = X at *
  generalize cutL B = Y at *
  have hX : X.length ≤ 140737488355328 := by omega
  have hY : Y.length ≤ 140737488355328 := by omega
  clear hp hq hn hm hs ht hc hd lA lB dA dB eA eB
  by_cases hl : X.length = Y.length
  · have hne : ((X.length : Int) != (Y.length : Int)) = false := by rw [hl]; simp
    have HP := hide_ (fun h => hpA.some_ h)
    have HQ := hide_ (fun h => hqB.some_ h)
    have HL := hide_ hl
    clear hpA hqB hl
    go_enter Try.func68, Try.ntmps68
    have tok : True := trivial
    go_wp2_with (first
      | (go_at_call 92; have _t := tok; (with_reducible refine (HA.out).mono ?_); rintro e w1 ⟨rfl, rfl⟩; clear tok)
      | (go_at_call 92; (with_reducible refine (HB.out).mono ?_); rintro e w1 ⟨rfl, rfl⟩))
    have hw0 : IntKind.i64.wrap ((X.length : Int) - 1) = (X.length : Int) - 1 := IntWalk.i64_in _ (by omega)
    clear HA HB
    go_loopw [5] (fun i wr => ∃ k : Nat, ∃ z : Int, k ≤ X.length ∧ i = .int .i64 z ∧ Hid (z = (k : Int) - 1) ∧ Hid (val (X.drop k) = val (Y.drop k)) ∧ ∃ q, wr = w1.drewN q) (fun i _ => (intOf i + 1).toNat)
    case atStart => exact ⟨X.length, _, by omega, rfl, hide_ (by first | rfl | exact hw0), hide_ (by rw [List.drop_length, HL.out, List.drop_length]), 0, rfl⟩
    case round =>
      obtain ⟨k, z, hk, rfl, HZ, HV, q', rfl⟩ := hrel
      by_cases h0 : k = 0
      · subst h0
        have hz := HZ.out
        have HE : Hid (cmpN (val X) (val Y) = 0) := hide_ (by
          have h := HV.out
          rw [List.drop_zero, List.drop_zero] at h
          rw [h]
          exact cmpN_eq _)
        have d1 : decide ((0 : Int) ≤ z) = false := decide_eq_false (by omega)
        have hlt : ¬ (0 : Int) ≤ z := by omega
        clear hz
        go_wp2
        go_ret
        exact ⟨by rw [HE.out]; simp, by first | exact ⟨0, rfl⟩ | exact ⟨_, rfl⟩ | exact ⟨_, World.drewN_drewN _ _ _⟩ | (simp only [World.drewN_drewN]; exact ⟨_, rfl⟩)⟩
      · obtain ⟨j, hj⟩ : ∃ j, k = j + 1 := ⟨k - 1, by omega⟩
        have hz : z = (j : Int) := by have := HZ.out; omega
        subst hz
        obtain ⟨g, o, rfl, hg, hce⟩ := HP.out (by omega)
        obtain ⟨g2, o2, rfl, hg2, hce2⟩ := HQ.out (by have := HL.out; omega)
        have e0 := hce j (by omega)
        have e1 := hce2 j (by have := HL.out; omega)
        have i4 : (0 : Int) ≤ (j : Int) := by omega
        have i5 : (j : Int) < (X.length : Int) := by omega
        have i6 : (j : Int) < (Y.length : Int) := by have := HL.out; omega
        have HXV := hide_ (fun (h : X.getD j 0 < Y.getD j 0) => val_cmp_top dcA dcB (k := j) (by omega) HL.out (by rw [← hj]; exact HV.out) h)
        have HYV := hide_ (fun (h : Y.getD j 0 < X.getD j 0) => val_cmp_top dcB dcA (k := j) (by have := HL.out; omega) HL.out.symm (by rw [← hj]; exact HV.out.symm) h)
        have HEQ := hide_ (fun (h : X.getD j 0 = Y.getD j 0) => show val (X.drop j) = val (Y.drop j) from by rw [val_drop (L := X) (k := j) (by omega), val_drop (L := Y) (k := j) (by have := HL.out; omega), h, ← hj, HV.out])
        have HJ := hide_ hj
        clear hce hce2 hj
        generalize X.getD j 0 = x at *
        generalize Y.getD j 0 = y at *
        have hw : IntKind.i64.wrap ((j : Int) - 1) = (j : Int) - 1 := IntWalk.i64_in _ (by omega)
        rcases Nat.lt_trichotomy x y with h | h | h
        · have d1 : decide ((x : Int) < (y : Int)) = true := decide_eq_true (by omega)
          have d1n : decide (x < y) = true := decide_eq_true (by omega)
          have HE := hide_ (cmpN_lt (HXV.out h))
          clear h HXV HYV HEQ
          go_wp2
          go_quiet (fail)
          go_wp2
          go_ret
          exact ⟨by rw [HE.out]; simp, by first | exact ⟨0, rfl⟩ | exact ⟨_, rfl⟩ | exact ⟨_, World.drewN_drewN _ _ _⟩ | (simp only [World.drewN_drewN]; exact ⟨_, rfl⟩)⟩
        · subst h
          have d1 : decide ((x : Int) < (x : Int)) = false := decide_eq_false (by omega)
          have d1n : decide (x < x) = false := decide_eq_false (by omega)
          have HV2 := hide_ (HEQ.out rfl)
          clear HXV HYV HEQ
          go_wp2
          go_quiet (fail)
          go_wp2
          go_quiet (fail)
          go_wp2
          exact ⟨⟨j, (j : Int) - 1, by have := HJ.out; omega, by simp, hide_ rfl, HV2, by first | exact ⟨0, rfl⟩ | exact ⟨_, rfl⟩ | exact ⟨_, World.drewN_drewN _ _ _⟩ | (simp only [World.drewN_drewN]; exact ⟨_, rfl⟩)⟩, by have := HJ.out; simp [intOf] <;> omega⟩
        · have d1 : decide ((x : Int) < (y : Int)) = false := decide_eq_false (by omega)
          have d1n : decide (x < y) = false := decide_eq_false (by omega)
          have d2n : decide (y < x) = true := decide_eq_true (by omega)
          have d2 : decide ((y : Int) < (x : Int)) = true := decide_eq_true (by omega)
          have HE := hide_ (cmpN_gt (HYV.out h))
          clear h HXV HYV HEQ
          go_wp2
          go_quiet (fail)
          go_wp2
          go_quiet (fail)
          go_wp2
          go_ret
          exact ⟨by rw [HE.out]; simp, by first | exact ⟨0, rfl⟩ | exact ⟨_, rfl⟩ | exact ⟨_, World.drewN_drewN _ _ _⟩ | (simp only [World.drewN_drewN]; exact ⟨_, rfl⟩)⟩
  · have hne : ((X.length : Int) != (Y.length : Int)) = true := by simp; omega
    rcases Nat.lt_or_gt_of_ne hl with h | h
    · have d1 : decide ((X.length : Int) < (Y.length : Int)) = true := decide_eq_true (by omega)
      have d1n : decide (X.length < Y.length) = true := decide_eq_true (by omega)
      rw [cmpN_lt (val_lt_len dcA tB h)]
      clear hpA hqB h hl tA tB dcA dcB
      generalize X.length = x at *
      generalize Y.length = y at *
      go_enter Try.func68, Try.ntmps68
      have tok : True := trivial
      go_wp2_with (first
        | (go_at_call 92; have _t := tok; (with_reducible refine (HA.out).mono ?_); rintro e w1 ⟨rfl, rfl⟩; clear tok)
        | (go_at_call 92; (with_reducible refine (HB.out).mono ?_); rintro e w1 ⟨rfl, rfl⟩))
      go_ret
      exact ⟨by simp, 0, rfl⟩
    · have d1 : decide ((X.length : Int) < (Y.length : Int)) = false := decide_eq_false (by omega)
      have d1n : decide (X.length < Y.length) = false := decide_eq_false (by omega)
      rw [cmpN_gt (val_lt_len dcB tA h)]
      clear hpA hqB h hl tA tB dcA dcB
      generalize X.length = x at *
      generalize Y.length = y at *
      go_enter Try.func68, Try.ntmps68
      have tok : True := trivial
      go_wp2_with (first
        | (go_at_call 92; have _t := tok; (with_reducible refine (HA.out).mono ?_); rintro e w1 ⟨rfl, rfl⟩; clear tok)
        | (go_at_call 92; (with_reducible refine (HB.out).mono ?_); rintro e w1 ⟨rfl, rfl⟩))
      go_ret
      exact ⟨by simp, 0, rfl⟩
end Go.Proofs.Ytcibbnphkpaifaa

namespace Go.Proofs.Ytcibbnphkpaifaa
open Go.RowKit
set_option linter.unusedVariables false
set_option maxRecDepth 100000
theorem wpList_app {P : Program} {ops : Array Oper} {rest : List Oper} {o : Oper} {a : Act} {w w' : World} {v' : Value} {Q : Exit → Act → World → Prop} (hgd : o.guard = none) (s x : Operand) (t : TypeId)
    (ho : o.op = .call { callee := .builtin .append, args := #[s, x], argTypes := #[t, t] })
    (hr : (Builtin.append_ #[t, t] o.type #[a.eval s, a.eval x]).run P w = .ok v' w') (h : wpList P ops Q rest (a.put o.dst v') w') : wpList P ops Q (o :: rest) a w := by
  refine wpList_plain hgd fun K hK => ?_
  unfold Oper.wp
  simp [execOp, ho, resolve, invoke, builtin, hr, Result.andThen]
  exact hK _ _ h
theorem vw_one {S : List Nat} : ∀ u ∈ vw S, u.oneCell' = true := fun u hu => by
  unfold vw at hu
  obtain ⟨x, _, rfl⟩ := List.mem_map.1 hu
  rfl
theorem vw_getD {S : List Nat} {j : Nat} {u : Value} (h : (vw S)[j]? = some u) : j < S.length ∧ u = .int .u32 (S.getD j 0 : Nat) := by
  have hj : j < S.length := by
    rcases Nat.lt_or_ge j S.length with h1 | h1
    · exact h1
    · rw [List.getElem?_eq_none (by rw [vw_len]; exact h1)] at h; cases h
  rw [vw_get hj] at h
  exact ⟨hj, (Option.some.inj h).symm⟩
theorem cell_past {w : World} {a : Addr} {o : Obj} {v : Value} (h : w.cell? a = some v) : (w.alloc o).cell? a = some v := by
  have hlt := World.block_lt_of_cell? w _ h
  rw [(below_alloc w o).cell hlt]
  exact h
/-- Words read at the end of a row of one's own that is empty. -/
theorem clone_run {w : World} {a : Addr} {n c : Nat} {S : List Nat} {ty : TypeId} (hn : n = S.length) (hp : WL w (some a) S) (hs : n * 4 ≤ 140737488355328) :
    ∃ v' w', (Builtin.append_ #[30, 30] ty #[.slice (some ⟨w.heap.size, 0, none⟩) 0 0, .slice (some a) n c]).run Try.prog (w.alloc (.cells #[] 88)) = .ok v' w' ∧ WO w' w.heap.size v' S ∧ (w.alloc (.cells #[] 88)).grownBy w' (some w.heap.size) := by
  subst hn
  obtain ⟨i0, hi, hz0, hz1, hz2⟩ := info_parts info_u32
  have hown : (w.alloc (.cells #[] 88)).ownsRow w.heap.size 88 1 (.slice (some ⟨w.heap.size, 0, none⟩) 0 0) 0 [] := row_lit w w.heap.size 88 1 0 #[] (Nat.le_refl _) rfl (Nat.zero_le _)
  have hnews : ∀ j u, (vw S)[j]? = some u → (w.alloc (.cells #[] 88)).cell? (a.add j) = some u := fun j u hu => by
    obtain ⟨hj, rfl⟩ := vw_getD hu
    obtain ⟨g, o, e, hg, hc⟩ := hp.some_ (by omega)
    cases e
    rw [Addr.add_lit]
    exact cell_past (hc j hj)
  obtain ⟨v', w', hr, r1, r2, _⟩ := run_append_own (P := Try.prog) (w.alloc (.cells #[] 88)) w.heap.size 30 ty 88 i0 (.int .u32 0) 1 4 Try.underlying30 hi hz0 hz1 hz2 rfl (by decide) _ 0 [] hown a S.length c (vw S) (by rw [vw_len, Nat.mul_one]) hnews
    vw_one (by unfold maxLen; omega) (by omega) (by simp)
  exact ⟨v', w', hr, by unfold WO; simpa using r1, r2⟩
theorem run_eql_nil32 (w : World) (a : Option Addr) (l c : Nat) : (binOp .eql 30 (.slice a l c) (.slice none 0 0)).run Try.prog w = .ok (.bool a.isNone) w := run_eql_slice_nil w _ _ a l c Try.underlying30
attribute [local go_sem] run_eql_nil32
theorem clone_any (p : Option Addr) (n c : Nat) (S : List Nat) (w : World) (hn : n = S.length) (hp : WL w p S) (hs : n * 4 ≤ 140737488355328) :
    Calls Try.prog 99 #[.slice p n c] w fun e w' => (∃ v, e = .returned v ∧ WO w' w.heap.size v S) ∧ Below w.heap.size w w' := by
  rcases p with _ | a
  · have hL : S = [] := by
      rcases hp with h | ⟨g, o, h, _⟩
      · exact h
      · cases h
    subst hL hn
    clear hp
    go_enter Try.func99, Try.ntmps99
    go_wp2
    go_ret
    exact ⟨⟨_, rfl, WO.nil _ _⟩, Below.refl _ _⟩
  · obtain ⟨v', w', hr, r1, r2⟩ := clone_run (c := c) (ty := 30) hn hp hs
    have HR := hide_ hr
    have H1 := hide_ r1
    have H2 := hide_ r2
    clear hr r1 r2 hp hn
    go_enter Try.func99, Try.ntmps99
    go_wp2_with (at_builtin; go_must (refine wpList_app rfl _ _ 30 rfl HR.out ?_))
    go_ret
    exact ⟨⟨_, rfl, H1.out⟩, ((Below.refl _ _).alloc (Nat.le_refl _) _).grown H2.out (by simp) (fun k hk => by cases hk; exact Nat.le_refl _)⟩
/-! ### Of, Uint64 -/
theorem two_wl (w : World) (x y : Nat) : WL (w.alloc (.cells #[.int .u32 (x : Int), .int .u32 (y : Int)] 88)) (some ⟨w.heap.size, 0, none⟩) [x, y] := by
  refine .inr ⟨w.heap.size, 0, rfl, by simp, fun k hk => ?_⟩
  obtain ⟨h0, h1⟩ := cells_two (heap_alloc_last w (.cells #[.int .u32 (x : Int), .int .u32 (y : Int)] 88))
  have : k = 0 ∨ k = 1 := by simp at hk; omega
  rcases this with rfl | rfl
  · exact h0
  · exact h1
theorem lo_mod (x : Nat) : IntKind.u32.wrap (x : Int) = ((x % BB : Nat) : Int) := by
  rw [BB_eq, Int.natCast_emod]; rfl
theorem of_any (x : Nat) (w : World) (hx : x < 18446744073709551616) :
    Calls Try.prog 102 #[.int .u64 x] w fun e w' => (∃ v, e = .returned v ∧ WO w' w.heap.size v (wd x)) ∧ Below w.heap.size w w' := by
  have h1 := lo_mod x
  have h2 : IntKind.u32.wrap (((x / 4294967296 : Nat) : Int)) = (((x / 4294967296) : Nat) : Int) := by
    rw [lo_mod, Nat.mod_eq_of_lt (by rw [BB_eq]; omega)]
  have hval : val [x % BB, x / 4294967296] = x := by
    simp only [val_cons, val_nil, BB_eq]
    omega
  have hd : Dig [x % BB, x / 4294967296] := Dig.cons (Nat.mod_lt _ BB_pos) (Dig.cons (by rw [BB_eq]; omega) Dig.nil)
  have hcut : cutL [x % BB, x / 4294967296] = wd x := by rw [cutL_wd hd, hval]
  have HC := hide_ (fun c h => cut_any (some ⟨w.heap.size, 0, none⟩) 2 c [x % BB, x / 4294967296] (w.alloc (.cells #[.int .u32 (x % BB : Nat), .int .u32 (x / 4294967296 : Nat)] 88)) rfl (two_wl w _ _) h (by decide))
  have HO : Hid (WO (w.alloc (.cells #[.int .u32 (x % BB : Nat), .int .u32 (x / 4294967296 : Nat)] 88)) w.heap.size (.slice (some ⟨w.heap.size, 0, none⟩) 2 2) [x % BB, x / 4294967296]) := hide_ (row_lit w w.heap.size 88 1 2 _ (Nat.le_refl _) rfl (by unfold maxLen; omega))
  have h3 : IntKind.u32.wrap ((x : Int) / 4294967296) = ((x / 4294967296 : Nat) : Int) := by rw [← h2]; simp
  have hl := cutL_le [x % BB, x / 4294967296]
  generalize x % BB = lo at *
  generalize x / 4294967296 = hi at *
  rw [hcut] at HC
  have HX := hide_ hcut
  clear h2 hval hd hcut hl
  go_enter Try.func102, Try.ntmps102
  go_wp2_with (go_at_call 92; go_must ((with_reducible refine (HC.out _ (Nat.le_refl _)).mono ?_); rintro e w1 ⟨rfl, rfl⟩))
  go_ret
  exact ⟨⟨_, rfl, by rw [← HX.out]; exact HO.out.cutL⟩, below_alloc _ _⟩
theorem or_mulN (a b i m : Nat) (hm : m = 2 ^ i) (h : a < m) : a ||| (b * m) = a + b * m := by
  subst hm
  rw [Nat.or_comm, ← Nat.shiftLeft_eq, ← Nat.shiftLeft_add_eq_or_of_lt h]
  omega
theorem or_hi (t x : Nat) (ht : t < 4294967296) (hx : x < 4294967296) : bits BinOp.or IntKind.u64 (t : Int) ((x : Int) * 4294967296) = ((t + x * 4294967296 : Nat) : Int) := by
  have e : ((x : Int) * 4294967296) = ((x * 4294967296 : Nat) : Int) := by omega
  rw [e, u64_or_nat t (x * 4294967296) (by omega) (by omega), or_mulN t x 32 4294967296 (by decide) ht]
theorem or_lo (t x : Nat) (ht : t < 4294967296) (hx : x < 4294967296) : bits BinOp.or IntKind.u64 ((x : Int) * 4294967296) (t : Int) = ((t + x * 4294967296 : Nat) : Int) := by
  have e : ((x : Int) * 4294967296) = ((x * 4294967296 : Nat) : Int) := by omega
  rw [e, u64_or_nat (x * 4294967296) t (by omega) (by omega), Nat.or_comm, or_mulN t x 32 4294967296 (by decide) ht]
/-- The words of two at most, as the code reads them. -/
theorem uint64_any (p : Option Addr) (n c : Nat) (S : List Nat) (w : World) (hn : n = S.length) (hp : WL w p S) (hc : n ≤ c) (hs : n ≤ 2) (dS : Dig S) (tS : Trm S) :
    Calls Try.prog 101 #[.slice p n c] w fun e w' => e = .returned (.tuple #[.int .u64 (val S), .bool true]) ∧ w' = w := by
  subst hn
  have hcut := cutL_self dS tS
  have HA := hide_ (cut_any p S.length c S w rfl hp hc (by omega))
  rw [hcut] at HA
  clear hcut
  have HP := hide_ (fun h => hp.some_ h)
  have HD := hide_ dS
  clear hp dS tS
  go_enter Try.func101, Try.ntmps101
  have d1 : decide ((2 : Int) < (S.length : Int)) = false := decide_eq_false (by omega)
  have d1n : decide (2 < S.length) = false := decide_eq_false (by omega)
  go_wp2_with (go_at_call 92; go_must ((with_reducible refine (HA.out).mono ?_); rintro e w1 ⟨rfl, rfl⟩))
  go_loopw [4, 14] (fun x i wr => ∃ k : Nat, ∃ t : Nat, k ≤ S.length ∧ i = .int .i64 k ∧ x = .int .u64 t ∧ Hid (t = val (S.take k)) ∧ wr = w1) (fun _ i _ => S.length - (intOf i).toNat)
  case atStart => exact ⟨0, 0, by omega, rfl, rfl, hide_ rfl, rfl⟩
  case round =>
    obtain ⟨k, t, hk, rfl, rfl, HT, hww⟩ := hrel
    subst hww
    by_cases hlt : k < S.length
    · obtain ⟨g, o, rfl, hg, hce⟩ := HP.out (by omega)
      have e0 := hce k hlt
      have hx := HD.out.getD k
      have HX := hide_ (val_take_succ hlt)
      have HT2 := hide_ (val_lt (HD.out.take k))
      have hkl : (S.take k).length = k := by rw [List.length_take]; omega
      rw [hkl] at HT2
      rw [BB_eq] at hx
      generalize S.getD k 0 = x at *
      have i4 : (0 : Int) ≤ (k : Int) := by omega
      have i5 : (k : Int) < (S.length : Int) := by omega
      have hk01 : k = 0 ∨ k = 1 := by omega
      clear hce hkl
      rcases hk01 with rfl | rfl
      · have ht0 : t = 0 := by have := HT.out; have := HT2.out; rw [Nat.pow_zero] at this; omega
        subst ht0
        rw [Nat.add_zero] at e0
        have hor : bits BinOp.or IntKind.u64 0 (x : Int) = (x : Int) := by
          have := u64_or_nat 0 x (by omega) (by omega)
          simpa using this
        have hwx : IntKind.u64.wrap (x : Int) = (x : Int) := IntWalk.u64_in _ (by omega)
        go_wp2
        exact ⟨⟨1, x, hlt, rfl, rfl, hide_ (by rw [HX.out, ← HT.out, Nat.pow_zero]; omega), trivial⟩, by simp [intOf]; omega⟩
      · have ht0 : t < 4294967296 := by have := HT.out; have := HT2.out; rw [Nat.pow_one, BB_eq] at this; omega
        have hor : bits BinOp.or IntKind.u64 (t : Int) ((x : Int) * 4294967296) = ((t + x * 4294967296 : Nat) : Int) := or_hi t x ht0 hx
        have hwx : IntKind.u64.wrap (x : Int) = (x : Int) := IntWalk.u64_in _ (by omega)
        have hwy : IntKind.u64.wrap ((x : Int) * 4294967296) = (x : Int) * 4294967296 := IntWalk.u64_in _ (by omega)
        go_wp2
        exact ⟨⟨2, t + x * 4294967296, hlt, rfl, by simp, hide_ (by rw [HX.out, ← HT.out, Nat.pow_one, BB_eq]; omega), trivial⟩, by simp [intOf]; omega⟩
    · have hkk : k = S.length := by omega
      subst hkk
      have HT3 : Hid (t = val S) := hide_ (by have := HT.out; rwa [List.take_length] at this)
      go_wp2
      go_ret2
      exact ⟨by rw [← HT3.out]; simp, rfl⟩
end Go.Proofs.Ytcibbnphkpaifaa

namespace Go.Proofs.Ytcibbnphkpaifaa
open Go.RowKit
set_option linter.unusedVariables false
set_option maxRecDepth 100000
theorem w64 (x : Int) : IntKind.u64.wrap x = x % 18446744073709551616 := IntKind.wrap_u64 x
theorem w32 (x : Int) : IntKind.u32.wrap x = x % 4294967296 := rfl
theorem less_step (x b y : Nat) (hx : x < 4294967296) (hy : y < 4294967296) (hb : b ≤ 1) :
    ∃ (z b' : Nat) (e1 e2 : Int), z < 4294967296 ∧ b' ≤ 1 ∧ z + b + y = x + b' * 4294967296 ∧ IntKind.u64.wrap ((x : Int) - (b : Int)) = e1 ∧ IntKind.u64.wrap (e1 - (y : Int)) = e2 ∧ IntKind.u32.wrap e2 = (z : Int) ∧ e2 / 9223372036854775808 = (b' : Int) := by
  refine ⟨(IntKind.u32.wrap (IntKind.u64.wrap (IntKind.u64.wrap ((x : Int) - (b : Int)) - (y : Int)))).toNat, (IntKind.u64.wrap (IntKind.u64.wrap ((x : Int) - (b : Int)) - (y : Int)) / 9223372036854775808).toNat, _, _, ?_, ?_, ?_, rfl, rfl, ?_, ?_⟩
  all_goals simp only [w64, w32]; omega
theorem less_step0 (x b : Nat) (hx : x < 4294967296) (hb : b ≤ 1) :
    ∃ (z b' : Nat) (e1 : Int), z < 4294967296 ∧ b' ≤ 1 ∧ z + b = x + b' * 4294967296 ∧ IntKind.u64.wrap ((x : Int) - (b : Int)) = e1 ∧ IntKind.u32.wrap e1 = (z : Int) ∧ e1 / 9223372036854775808 = (b' : Int) := by
  obtain ⟨z, b', e1, e2, h1, h2, h3, h4, h5, h6, h7⟩ := less_step x b 0 hx (by omega) hb
  have : e2 = e1 := by
    rw [← h5, ← h4]
    simp only [w64]
    omega
  subst this
  exact ⟨z, b', e2, h1, h2, h3, h4, h6, h7⟩
/-- What stands in place of A's words behind k rounds. -/
structure LessAt (A B X : List Nat) (k b : Nat) : Prop where
  len : X.length = A.length
  dig : Dig X
  rest : ∀ j, k ≤ j → X.getD j 0 = A.getD j 0
  bor : b ≤ 1
  eq : val (X.take k) + val (B.take k) = val (A.take k) + b * BB ^ k
theorem getD_set {L : List Nat} {k j x : Nat} : (L.set k x).getD j 0 = if k = j ∧ k < L.length then x else L.getD j 0 := by
  rw [List.getD_eq_getElem?_getD, List.getElem?_set]
  by_cases h : k = j
  · subst h
    rw [if_pos rfl]
    by_cases h2 : k < L.length
    · rw [if_pos h2, if_pos ⟨rfl, h2⟩]; rfl
    · rw [if_neg h2, if_neg (fun h => h2 h.2), List.getD_eq_getElem?_getD, List.getElem?_eq_none (by omega)]
  · rw [if_neg h, if_neg (fun g => h g.1), ← List.getD_eq_getElem?_getD]
theorem take_set {L : List Nat} {k x : Nat} (h : k < L.length) : (L.set k x).take (k + 1) = L.take k ++ [x] := by
  rw [take_succ_getD (by rw [List.length_set]; exact h), getD_set, if_pos ⟨rfl, h⟩, List.take_set_of_le (Nat.le_refl k)]
theorem val_take_set {L : List Nat} {k x : Nat} (h : k < L.length) : val ((L.set k x).take (k + 1)) = val (L.take k) + BB ^ k * x := by
  rw [take_set h, val_snoc, List.length_take, Nat.min_eq_left (by omega)]
theorem val_take_past {B : List Nat} {k : Nat} (h : B.length ≤ k) : val (B.take (k + 1)) = val (B.take k) := by rw [List.take_of_length_le h, List.take_of_length_le (by omega)]
theorem LessAt.step {A B X : List Nat} {k b x y z b' : Nat} (h : LessAt A B X k b) (hk : k < A.length) (hx : A.getD k 0 = x) (hB : val (B.take (k + 1)) = val (B.take k) + BB ^ k * y) (hz : z < 4294967296) (hb' : b' ≤ 1) (he : z + b + y = x + b' * 4294967296) : LessAt A B (X.set k z) (k + 1) b' := by
  refine ⟨by rw [List.length_set]; exact h.len, h.dig.set _ _ hz, fun j hj => by rw [getD_set, if_neg (by omega)]; exact h.rest j (by omega), hb', ?_⟩
  rw [val_take_set (by rw [h.len]; exact hk), hB, val_take_succ hk, hx]
  have e1 := h.eq
  have e2 : BB ^ k * (z + b + y) = BB ^ k * (x + b' * 4294967296) := by rw [he]
  rw [Nat.mul_add, Nat.mul_add, Nat.mul_add, show BB ^ k * (b' * 4294967296) = b' * BB ^ (k + 1) by rw [Nat.pow_succ, ← BB_eq, Nat.mul_comm b', ← Nat.mul_assoc]; exact Nat.mul_comm _ _, Nat.mul_comm (BB ^ k) b] at e2
  omega
theorem LessAt.done {A B X : List Nat} {b : Nat} (h : LessAt A B X A.length b) (hB : B.length ≤ A.length) (hv : val B ≤ val A) : val X = val A - val B := by
  have e := h.eq
  rw [List.take_of_length_le (by rw [h.len]; exact Nat.le_refl _), List.take_of_length_le hB, List.take_length] at e
  have h1 := val_lt h.dig
  rw [h.len] at h1
  have hb : b = 0 := by
    rcases Nat.eq_zero_or_pos b with h0 | h0
    · exact h0
    · have : b = 1 := by have := h.bor; omega
      subst this
      omega
  subst hb
  omega
set_option maxHeartbeats 3200000 in
theorem less_any (p q : Option Addr) (n m c d base : Nat) (A B : List Nat) (w : World) (hn : n = A.length) (hm : m = B.length) (hp : WO w base (.slice p n c) A) (hq : WL w q B) (ho : OffW q B (Value.slice p n c).ownBlock) (hs : n ≤ 100000) (hml : m ≤ n) (dA : Dig A) (dB : Dig B) (hv : val B ≤ val A) :
    Calls Try.prog 109 #[.slice p n c, .slice q m d] w fun e w' => e = .returned (.slice p (wd (val A - val B)).length c) ∧ WO w' base (.slice p (wd (val A - val B)).length c) (wd (val A - val B)) ∧ w.grownBy w' (Value.slice p n c).ownBlock := by
  subst hn hm
  have HQ := hide_ (fun W (h : w.grownBy W (Value.slice p A.length c).ownBlock) => hq.keptW h ho)
  have HDA := hide_ dA
  have HDB := hide_ dB
  have H0 := hide_ hp
  have HCP := hide_ hp.cap
  clear hp hq ho
  go_enter Try.func109, Try.ntmps109
  go_wp2
  go_loopw [5, 10] (fun x i wr => ∃ k b : Nat, k ≤ A.length ∧ i = .int .i64 k ∧ x = .int .u64 b ∧ Hid (∃ X, LessAt A B X k b ∧ WO wr base (.slice p A.length c) X) ∧ Hid (w.grownBy wr (Value.slice p A.length c).ownBlock)) (fun _ i _ => A.length - (intOf i).toNat)
  case atStart => exact ⟨0, 0, by omega, rfl, rfl, hide_ ⟨A, ⟨rfl, HDA.out, fun _ _ => rfl, by omega, by simp [val_nil]⟩, H0.out⟩, hide_ (World.grownBy.refl _ _)⟩
  case round =>
    obtain ⟨k, b, hk, rfl, rfl, HX, HG⟩ := hrel
    obtain ⟨X, hX, hO⟩ := HX.out
    have hXl := hX.len
    by_cases hlt : k < A.length
    · rw [← hXl] at hO
      obtain ⟨g, rfl, hg1, hg2, hce, hfr⟩ := hO.blk (by omega)
      have e0 := hce k (by omega)
      have f0 := hfr k
      have hx := HDA.out.getD k
      rw [BB_eq] at hx
      rw [hX.rest k (Nat.le_refl _)] at e0
      have i4 : (0 : Int) ≤ (k : Int) := by omega
      have i5 : (k : Int) < (A.length : Int) := by omega
      have HS := hide_ (fun z => hO.set k z)
      have HLX := hide_ hX
      have hb := hX.bor
      have HLT := hide_ hlt
      have HGX := hide_ (hx)
      clear hce hfr hO hX
      by_cases hkB : k < B.length
      · obtain ⟨g2, o2, rfl, _, hce2⟩ := (HQ.out _ HG.out).some_ (by omega)
        have e1 := hce2 k hkB
        have hy := HDB.out.getD k
        rw [BB_eq] at hy
        have HSTEP := hide_ (fun z b' h1 h2 h3 => HLX.out.step (x := A.getD k 0) (y := B.getD k 0) (z := z) (b' := b') hlt rfl (val_take_succ hkB) h1 h2 h3)
        have j5 : (k : Int) < (B.length : Int) := by omega
        generalize A.getD k 0 = x at *
        generalize B.getD k 0 = y at *
        obtain ⟨z, b', u1, u2, q1, q2, q3, q4, q5, q6, q7⟩ := less_step x b y hx hy hb
        have HST := hide_ (HSTEP.out z b' q1 q2 q3)
        clear hce2 HSTEP q1 q2 q3 hXl
        go_wp2
        exact ⟨⟨k + 1, b', HLT.out, by simp, rfl, hide_ ⟨_, HST.out, by have h := (HS.out z).1; rwa [HLX.out.len] at h⟩, hide_ (grown_trans HG.out (HS.out z).2)⟩, by have := HLT.out; simp [intOf]; omega⟩
      · have hB0 : val (B.take (k + 1)) = val (B.take k) + BB ^ k * 0 := by rw [Nat.mul_zero, Nat.add_zero]; exact val_take_past (by omega)
        have HSTEP := hide_ (fun z b' h1 h2 h3 => HLX.out.step (x := A.getD k 0) (y := 0) (z := z) (b' := b') hlt rfl hB0 h1 h2 h3)
        have j5 : ¬ (k : Int) < (B.length : Int) := by omega
        clear hB0
        generalize A.getD k 0 = x at *
        obtain ⟨z, b', u1, q1, q2, q3, q4, q6, q7⟩ := less_step0 x b hx hb
        have HST := hide_ (HSTEP.out z b' q1 q2 (by omega))
        clear HSTEP q1 q2 q3 hXl
        go_wp2
        exact ⟨⟨k + 1, b', HLT.out, by simp, rfl, hide_ ⟨_, HST.out, by have h := (HS.out z).1; rwa [HLX.out.len] at h⟩, hide_ (grown_trans HG.out (HS.out z).2)⟩, by have := HLT.out; simp [intOf]; omega⟩
    · have hkk : k = A.length := by omega
      subst hkk
      have hge : ¬ A.length < A.length := hlt
      have hO2 := hO
      rw [← hXl] at hO2
      have hXv := hX.done hml hv
      have hXc : cutL X = wd (val A - val B) := by rw [cutL_wd hX.dig, hXv]
      have hO3 := hO2.cutL
      have HC := hide_ (cut_any p A.length c X wr hXl.symm hO2.wl HCP.out (by omega))
      rw [hXc] at HC hO3
      have H3 := hide_ hO3
      clear hO2 hO3 hXv hXc hO hX hXl
      go_wp2_with (go_at_call 92; go_must ((with_reducible refine (HC.out).mono ?_); rintro e w1 ⟨rfl, rfl⟩))
      go_ret
      exact ⟨by simp, H3.out, HG.out⟩
end Go.Proofs.Ytcibbnphkpaifaa

namespace Go.Proofs.Ytcibbnphkpaifaa
open Go.RowKit
set_option linter.unusedVariables false
set_option maxRecDepth 100000
theorem chk_wd {a : Nat} (h : (wd a).length ≤ 8192) : chk (wd a) = 0 := chk_ok.2 ⟨h, wd_trm a⟩
theorem chk2_wd {a b : Nat} (ha : (wd a).length ≤ 8192) (hb : (wd b).length ≤ 8192) : chk2 (wd a) (wd b) = 0 := chk2_ok.2 ⟨chk_wd ha, chk_wd hb⟩
theorem WL.at_ {w : World} {q : Option Addr} {S : List Nat} (h : WL w q S) : (∀ a, q = some a → a.block < w.heap.size) ∨ S = [] := by
  rcases h with h | ⟨g, o, rfl, hg, _⟩
  · exact .inr h
  · exact .inl fun a e => by cases e; exact hg
theorem below_own {w w1 w2 : World} {base : Nat} {v : Value} {S : List Nat} (hb : Below w.heap.size w w1) (ho : WO w1 base v S) (hbase : w.heap.size ≤ base) (hg : w1.grownBy w2 v.ownBlock) : Below w.heap.size w w2 :=
  hb.grown hg hb.size (fun k hk => Nat.le_trans hbase (World.ownsRow.lt ho k hk).1)
set_option maxHeartbeats 1600000 in
theorem sub_any (p q : Option Addr) (n m c d : Nat) (a b : Nat) (w : World) (hn : n = (wd a).length) (hm : m = (wd b).length) (hp : WL w p (wd a)) (hq : WL w q (wd b)) (hc : n ≤ c) (hd : m ≤ d) (hs : n ≤ 8192) (ht : m ≤ 8192) (hab : b ≤ a) :
    Calls Try.prog 97 #[.slice p n c, .slice q m d] w fun e w' => (∃ v, e = .returned (.tuple #[v, .int .i64 0]) ∧ WO w' w.heap.size v (wd (a - b))) ∧ Below w.heap.size w w' := by
  subst hn hm
  have HK := hide_ (checked_any p q _ _ c d _ _ w rfl rfl hp hq (by omega) (by omega))
  rw [chk2_wd (by omega) (by omega)] at HK
  have HM := hide_ (compare_any p q _ _ c d _ _ w rfl rfl hp hq hc hd (by omega) (by omega) (wd_dig a) (wd_dig b))
  rw [val_wd, val_wd] at HM
  have hlt : cmpN a b = 0 ∨ cmpN a b = 1 := by
    unfold cmpN
    rw [if_neg (by omega)]
    split
    · exact .inr rfl
    · exact .inl rfl
  have HC := hide_ (fun k => clone_any p _ c (wd a) (w.drewN k) rfl (hp.drewN k) (by omega))
  have HQ := hide_ hq
  have hml : (wd b).length ≤ (wd a).length := wd_len_mono hab
  have HL := hide_ (fun k w1 p1 c1 (ho : WO w1 (w.drewN k).heap.size (.slice p1 (wd a).length c1) (wd a)) (hb : Below (w.drewN k).heap.size (w.drewN k) w1) =>
    less_any p1 q _ _ c1 d (w.drewN k).heap.size (wd a) (wd b) w1 rfl rfl ho ((hq.drewN k).below hb) ((hq.drewN k).offnew ho (Nat.le_refl _)) (by omega) hml (wd_dig a) (wd_dig b) (by rw [val_wd, val_wd]; exact hab))
  rw [val_wd, val_wd] at HL
  clear hp hq
  rcases hlt with h | h
  all_goals
    rw [h] at HM
    clear h
    go_enter Try.func97, Try.ntmps97
    go_wp2_with (first
      | (go_at_call 98; go_must ((with_reducible refine (HK.out).mono ?_); rintro e w1 ⟨rfl, rfl⟩))
      | (go_at_call 68; go_must ((with_reducible refine (HM.out).mono ?_); rintro e w1 ⟨rfl, k, rfl⟩))
      | (go_at_call 99; go_must ((with_reducible refine (HC.out k).mono ?_); rintro e w2 ⟨⟨v, rfl, ho⟩, hb⟩; obtain ⟨p1, c1, rfl⟩ := WO.slice ho))
      | (go_at_call 109; go_must ((with_reducible refine (HL.out k w2 p1 c1 ho hb).mono ?_); rintro e w3 ⟨rfl, ho3, hg3⟩)))
    go_ret2
    exact ⟨⟨_, rfl, ho3⟩, below_own (w := w1) ((below_drewN (Below.refl _ _) k).trans hb) ho (Nat.le_refl _) hg3⟩
/-! ### make -/
def zs (n : Nat) : Array Value := madeCells #[.int .u32 0] n
theorem run_mk32 {n : Nat} (h : n ≤ 100000) (w : World) : (Instr.makeSlice 30 (.int .i64 (n : Int)) (.int .i64 (n : Int))).run Try.prog w = .ok (.slice (some ⟨w.heap.size, 0, none⟩) n n) (w.alloc (.cells (zs n) 88)) := by
  obtain ⟨i, hi, hz0, hz1, hz2⟩ := info_parts info_u32
  have h := run_makeSlice (P := Try.prog) w 30 88 i (.int .u32 0) Try.underlying30 hi hz0 .i64 .i64 n n (by omega) (by omega) (by rw [hz1]; simp; omega) (by rw [hz2]; omega) (by omega)
  rw [hz1, Int.toNat_natCast, Nat.mul_one] at h
  exact h
theorem zs_row (w : World) {n : Nat} (h : n ≤ 100000) : WO (w.alloc (.cells (zs n) 88)) w.heap.size (.slice (some ⟨w.heap.size, 0, none⟩) n n) (List.replicate n 0) := by
  have h1 := row_lit w w.heap.size 88 1 n (zs n) (Nat.le_refl _) (by unfold zs; rw [size_madeCells, Nat.mul_one]) (by unfold maxLen; omega)
  unfold WO
  rw [vw_zeros, List.length_replicate]
  unfold zs at *
  rw [toList_madeCells_one] at h1
  exact h1
/-! ### Add -/
theorem add_step (c x y : Nat) (hx : x < 4294967296) (hy : y < 4294967296) (hc : c ≤ 1) :
    ∃ s1 s2 z c' : Nat, z < 4294967296 ∧ c' ≤ 1 ∧ z + c' * 4294967296 = c + x + y ∧ IntKind.u64.wrap (x : Int) = (x : Int) ∧ IntKind.u64.wrap (y : Int) = (y : Int) ∧ IntKind.u64.wrap ((c : Int) + (x : Int)) = (s1 : Int) ∧ IntKind.u64.wrap ((s1 : Int) + (y : Int)) = (s2 : Int) ∧ IntKind.u32.wrap (s2 : Int) = (z : Int) ∧ (s2 : Int) / 4294967296 = (c' : Int) := by
  refine ⟨c + x, c + x + y, (c + x + y) % 4294967296, (c + x + y) / 4294967296, ?_, ?_, ?_, ?_, ?_, ?_, ?_, ?_, ?_⟩
  all_goals (try simp only [w64, w32]); omega
theorem add_step0 (c x : Nat) (hx : x < 4294967296) (hc : c ≤ 1) :
    ∃ s1 z c' : Nat, z < 4294967296 ∧ c' ≤ 1 ∧ z + c' * 4294967296 = c + x ∧ IntKind.u64.wrap (x : Int) = (x : Int) ∧ IntKind.u64.wrap ((c : Int) + (x : Int)) = (s1 : Int) ∧ IntKind.u32.wrap (s1 : Int) = (z : Int) ∧ (s1 : Int) / 4294967296 = (c' : Int) := by
  refine ⟨c + x, (c + x) % 4294967296, (c + x) / 4294967296, ?_, ?_, ?_, ?_, ?_, ?_, ?_⟩
  all_goals (try simp only [w64, w32]); omega
structure AddAt (A B X : List Nat) (n k c : Nat) : Prop where
  len : X.length = n
  dig : Dig X
  rest : ∀ j, k ≤ j → X.getD j 0 = 0
  car : c ≤ 1
  eq : val (X.take k) + c * BB ^ k = val (A.take k) + val (B.take k)
theorem AddAt.step {A B X : List Nat} {n k c x y z c' : Nat} (h : AddAt A B X n k c) (hk : k < A.length) (hkn : k < n) (hx : A.getD k 0 = x) (hB : val (B.take (k + 1)) = val (B.take k) + BB ^ k * y) (hz : z < 4294967296) (hc' : c' ≤ 1) (he : z + c' * 4294967296 = c + x + y) : AddAt A B (X.set k z) n (k + 1) c' := by
  refine ⟨by rw [List.length_set]; exact h.len, h.dig.set _ _ hz, fun j hj => by rw [getD_set, if_neg (by omega)]; exact h.rest j (by omega), hc', ?_⟩
  rw [val_take_set (by rw [h.len]; exact hkn), hB, val_take_succ hk, hx]
  have e1 := h.eq
  have e2 : BB ^ k * (z + c' * 4294967296) = BB ^ k * (c + x + y) := by rw [he]
  rw [Nat.mul_add, Nat.mul_add, Nat.mul_add, show BB ^ k * (c' * 4294967296) = c' * BB ^ (k + 1) by rw [Nat.pow_succ, ← BB_eq, Nat.mul_comm c', ← Nat.mul_assoc]; exact Nat.mul_comm _ _, Nat.mul_comm (BB ^ k) c] at e2
  omega
theorem AddAt.done {A B X : List Nat} {c : Nat} (h : AddAt A B X (A.length + 1) A.length c) (hB : B.length ≤ A.length) : Dig (X.set A.length c) ∧ val (X.set A.length c) = val A + val B := by
  have hc : c < BB := by have := h.car; rw [BB_eq]; omega
  refine ⟨h.dig.set _ _ hc, ?_⟩
  have h1 := val_take_set (L := X) (k := A.length) (x := c) (by rw [h.len]; omega)
  rw [List.take_of_length_le (by rw [List.length_set, h.len]; exact Nat.le_refl _)] at h1
  have e := h.eq
  rw [List.take_length, List.take_of_length_le hB] at e
  rw [h1, Nat.mul_comm]
  exact e
end Go.Proofs.Ytcibbnphkpaifaa

namespace Go.Proofs.Ytcibbnphkpaifaa
open Go.RowKit
set_option linter.unusedVariables false
set_option maxRecDepth 100000
set_option maxHeartbeats 3200000 in
theorem add_ge (p q : Option Addr) (n m c d : Nat) (a b : Nat) (w : World) (hn : n = (wd a).length) (hm : m = (wd b).length) (hp : WL w p (wd a)) (hq : WL w q (wd b)) (hc : n ≤ c) (hd : m ≤ d) (hs : n ≤ 8192) (ht : m ≤ 8192) (hlen : m ≤ n) (hr : (wd (a + b)).length ≤ 8192) :
    Calls Try.prog 96 #[.slice p n c, .slice q m d] w fun e w' => (∃ v, e = .returned (.tuple #[v, .int .i64 0]) ∧ WO w' w.heap.size v (wd (a + b))) ∧ Below w.heap.size w w' := by
  subst hn hm
  have HK := hide_ (checked_any p q _ _ c d _ _ w rfl rfl hp hq (by omega) (by omega))
  rw [chk2_wd (by omega) (by omega)] at HK
  have HP := hide_ (fun W (h : Below w.heap.size w W) => hp.below h)
  have HQ := hide_ (fun W (h : Below w.heap.size w W) => hq.below h)
  have HDA := hide_ (wd_dig a)
  have HDB := hide_ (wd_dig b)
  have HV : Hid (val (wd a) + val (wd b) = a + b) := hide_ (by rw [val_wd, val_wd] <;> omega)
  have HRR := hide_ hr
  have hle : decide ((wd a).length < (wd b).length) = false := decide_eq_false (by omega)
  clear hp hq hc hd hr
  generalize wd a = A at *
  generalize wd b = B at *
  obtain ⟨n, hn⟩ : ∃ n, n = A.length + 1 := ⟨_, rfl⟩
  have hwn : IntKind.i64.wrap ((A.length : Int) + 1) = (n : Int) := by rw [hn, IntWalk.i64_in _ (by omega)]; omega
  have hmk := fun wx => run_mk32 (n := n) (by omega) wx
  have HZR := hide_ (zs_row w (n := n) (by omega))
  have HN := hide_ hn
  have hnl : A.length < n := by omega
  clear hn
  go_enter Try.func96, Try.ntmps96
  go_wp2_with (go_at_call 98; go_must ((with_reducible refine (HK.out).mono ?_); rintro e w1 ⟨rfl, rfl⟩))
  clear hwn hmk hle
  go_loopw [8, 9, 10, 30] (fun x _ _ i wr => ∃ k cr : Nat, k ≤ A.length ∧ i = .int .i64 k ∧ x = .int .u64 cr ∧ Hid (∃ X, AddAt A B X n k cr ∧ WO wr w1.heap.size (.slice (some ⟨w1.heap.size, 0, none⟩) n n) X) ∧ Hid (Grew w1.heap.size w1 wr)) (fun _ _ _ i _ => A.length - (intOf i).toNat)
  case atStart => exact ⟨0, 0, by omega, rfl, rfl, hide_ ⟨_, ⟨by simp, Dig.zeros _, fun j _ => by rw [List.getD_eq_getElem?_getD, List.getElem?_replicate]; split <;> rfl, by omega, by simp [val_nil]⟩, HZR.out⟩, hide_ ((Grew.refl w1).alloc _)⟩
  case round =>
    obtain ⟨k, cr, hk, rfl, rfl, HX, HG⟩ := hrel
    obtain ⟨X, hX, hO⟩ := HX.out
    have hXl := hX.len
    by_cases hlt : k < A.length
    · have hO2 := hO
      rw [← hXl] at hO2
      obtain ⟨_, eg, hg1, hg2, hce, hfr⟩ := hO2.blk (by omega)
      cases eg
      have e0 := hce k (by omega)
      rw [hX.rest k (Nat.le_refl _)] at e0
      have f0 := hfr k
      obtain ⟨g1, o1, rfl, _, hce1⟩ := (HP.out _ HG.out.below).some_ (by omega)
      have e1 := hce1 k hlt
      have hx := HDA.out.getD k
      rw [BB_eq] at hx
      have i4 : (0 : Int) ≤ (k : Int) := by omega
      have i5 : (k : Int) < (A.length : Int) := by omega
      have i6 : (k : Int) < (n : Int) := by omega
      have HS := hide_ (fun z => hO2.set k z)
      have HLX := hide_ hX
      have hb := hX.car
      have HLT := hide_ hlt
      have hkn : k < n := by omega
      clear hce hfr hO hO2 hX hce1
      by_cases hkB : k < B.length
      · obtain ⟨g2, o2, rfl, _, hce2⟩ := (HQ.out _ HG.out.below).some_ (by omega)
        have e2 := hce2 k hkB
        have hy := HDB.out.getD k
        rw [BB_eq] at hy
        have HSTEP := hide_ (fun z b' h1 h2 h3 => HLX.out.step (x := A.getD k 0) (y := B.getD k 0) (z := z) (c' := b') hlt hkn rfl (val_take_succ hkB) h1 h2 h3)
        have j5 : (k : Int) < (B.length : Int) := by omega
        generalize A.getD k 0 = x at *
        generalize B.getD k 0 = y at *
        obtain ⟨s1, s2, z, b', q1, q2, q3, q4, q5, q6, q7, q8, q9⟩ := add_step cr x y hx hy hb
        have HST := hide_ (HSTEP.out z b' q1 q2 q3)
        clear hce2 HSTEP q1 q2 q3 hXl
        go_wp2
        exact ⟨⟨k + 1, b', HLT.out, by simp, rfl, hide_ ⟨_, HST.out, by have h := (HS.out z).1; rwa [HLX.out.len] at h⟩, hide_ (HG.out.setCell (p := ⟨w1.heap.size, k, none⟩) (Nat.le_refl _) _)⟩, by have := HLT.out; simp [intOf]; omega⟩
      · have hB0 : val (B.take (k + 1)) = val (B.take k) + BB ^ k * 0 := by rw [Nat.mul_zero, Nat.add_zero]; exact val_take_past (by omega)
        have HSTEP := hide_ (fun z b' h1 h2 h3 => HLX.out.step (x := A.getD k 0) (y := 0) (z := z) (c' := b') hlt hkn rfl hB0 h1 h2 h3)
        have j5 : ¬ (k : Int) < (B.length : Int) := by omega
        clear hB0
        generalize A.getD k 0 = x at *
        obtain ⟨s1, z, b', q1, q2, q3, q4, q5, q6, q7⟩ := add_step0 cr x hx hb
        have HST := hide_ (HSTEP.out z b' q1 q2 (by omega))
        clear HSTEP q1 q2 q3 hXl
        go_wp2
        exact ⟨⟨k + 1, b', HLT.out, by simp, rfl, hide_ ⟨_, HST.out, by have h := (HS.out z).1; rwa [HLX.out.len] at h⟩, hide_ (HG.out.setCell (p := ⟨w1.heap.size, k, none⟩) (Nat.le_refl _) _)⟩, by have := HLT.out; simp [intOf]; omega⟩
    · have hkk : k = A.length := by omega
      subst hkk
      have hge : ¬ A.length < A.length := hlt
      have hO2 := hO
      rw [← hXl] at hO2
      obtain ⟨_, eg, hg1, hg2, hce, hfr⟩ := hO2.blk (by omega)
      cases eg
      have e0 := hce A.length (by omega)
      have f0 := hfr A.length
      generalize X.getD A.length 0 = x0 at e0
      have hb := hX.car
      have hnX := HN.out
      rw [hnX] at hX
      obtain ⟨hD, hXv⟩ := hX.done (by omega)
      rw [HV.out] at hXv
      have hXc : cutL (X.set A.length cr) = wd (a + b) := by rw [cutL_wd hD, hXv]
      obtain ⟨hO3, _⟩ := hO2.set A.length cr
      rw [hXl] at hO3
      have hl3 : n = (X.set A.length cr).length := by rw [List.length_set, hXl]
      have hO4 := hO3
      rw [hl3] at hO4
      have HC := hide_ (told_ok (some ⟨w1.heap.size, 0, none⟩) n n (X.set A.length cr) _ hl3 (WO.wl (c := (X.set A.length cr).length) hO4) (Nat.le_refl _) (by omega) (by rw [hXc]; exact HRR.out))
      have hO5 := WO.cutL (c := (X.set A.length cr).length) hO4
      rw [hXc, ← hl3] at hO5
      rw [hXc] at HC
      have H3 := hide_ hO5
      have hwx : IntKind.u32.wrap (cr : Int) = (cr : Int) := by rw [w32]; omega
      have i4 : (0 : Int) ≤ (A.length : Int) := by omega
      have i6 : (A.length : Int) < (n : Int) := by omega
      clear hO2 hO3 hO4 hO5 hXv hXc hO hX hXl hce hfr hD hnX hl3
      go_wp2_with (go_at_call 104; go_must ((with_reducible refine (HC.out).mono ?_); rintro e w2 ⟨rfl, rfl⟩))
      go_ret2
      exact ⟨⟨_, rfl, H3.out⟩, (HG.out.setCell (p := ⟨w1.heap.size, A.length, none⟩) (Nat.le_refl _) _).below⟩
set_option maxHeartbeats 3200000 in
theorem add_lt (p q : Option Addr) (n m c d : Nat) (a b : Nat) (w : World) (hn : n = (wd a).length) (hm : m = (wd b).length) (hp : WL w p (wd a)) (hq : WL w q (wd b)) (hc : n ≤ c) (hd : m ≤ d) (hs : n ≤ 8192) (ht : m ≤ 8192) (hlen : n < m) (hr : (wd (a + b)).length ≤ 8192) :
    Calls Try.prog 96 #[.slice p n c, .slice q m d] w fun e w' => (∃ v, e = .returned (.tuple #[v, .int .i64 0]) ∧ WO w' w.heap.size v (wd (a + b))) ∧ Below w.heap.size w w' := by
  subst hn hm
  have HK := hide_ (checked_any p q _ _ c d _ _ w rfl rfl hp hq (by omega) (by omega))
  rw [chk2_wd (by omega) (by omega)] at HK
  have HP := hide_ (fun W (h : Below w.heap.size w W) => hq.below h)
  have HQ := hide_ (fun W (h : Below w.heap.size w W) => hp.below h)
  have HDA := hide_ (wd_dig b)
  have HDB := hide_ (wd_dig a)
  have HV : Hid (val (wd b) + val (wd a) = a + b) := hide_ (by rw [val_wd, val_wd] <;> omega)
  have HRR := hide_ hr
  have hle : decide ((wd a).length < (wd b).length) = true := decide_eq_true (by omega)
  clear hp hq hc hd hr
  generalize wd b = A at *
  generalize wd a = B at *
  obtain ⟨n, hn⟩ : ∃ n, n = A.length + 1 := ⟨_, rfl⟩
  have hwn : IntKind.i64.wrap ((A.length : Int) + 1) = (n : Int) := by rw [hn, IntWalk.i64_in _ (by omega)]; omega
  have hmk := fun wx => run_mk32 (n := n) (by omega) wx
  have HZR := hide_ (zs_row w (n := n) (by omega))
  have HN := hide_ hn
  have hnl : A.length < n := by omega
  clear hn
  go_enter Try.func96, Try.ntmps96
  go_wp2_with (go_at_call 98; go_must ((with_reducible refine (HK.out).mono ?_); rintro e w1 ⟨rfl, rfl⟩))
  clear hwn hmk hle
  go_loopw [8, 9, 10, 30] (fun x _ _ i wr => ∃ k cr : Nat, k ≤ A.length ∧ i = .int .i64 k ∧ x = .int .u64 cr ∧ Hid (∃ X, AddAt A B X n k cr ∧ WO wr w1.heap.size (.slice (some ⟨w1.heap.size, 0, none⟩) n n) X) ∧ Hid (Grew w1.heap.size w1 wr)) (fun _ _ _ i _ => A.length - (intOf i).toNat)
  case atStart => exact ⟨0, 0, by omega, rfl, rfl, hide_ ⟨_, ⟨by simp, Dig.zeros _, fun j _ => by rw [List.getD_eq_getElem?_getD, List.getElem?_replicate]; split <;> rfl, by omega, by simp [val_nil]⟩, HZR.out⟩, hide_ ((Grew.refl w1).alloc _)⟩
  case round =>
    obtain ⟨k, cr, hk, rfl, rfl, HX, HG⟩ := hrel
    obtain ⟨X, hX, hO⟩ := HX.out
    have hXl := hX.len
    by_cases hlt : k < A.length
    · have hO2 := hO
      rw [← hXl] at hO2
      obtain ⟨_, eg, hg1, hg2, hce, hfr⟩ := hO2.blk (by omega)
      cases eg
      have e0 := hce k (by omega)
      rw [hX.rest k (Nat.le_refl _)] at e0
      have f0 := hfr k
      obtain ⟨g1, o1, rfl, _, hce1⟩ := (HP.out _ HG.out.below).some_ (by omega)
      have e1 := hce1 k hlt
      have hx := HDA.out.getD k
      rw [BB_eq] at hx
      have i4 : (0 : Int) ≤ (k : Int) := by omega
      have i5 : (k : Int) < (A.length : Int) := by omega
      have i6 : (k : Int) < (n : Int) := by omega
      have HS := hide_ (fun z => hO2.set k z)
      have HLX := hide_ hX
      have hb := hX.car
      have HLT := hide_ hlt
      have hkn : k < n := by omega
      clear hce hfr hO hO2 hX hce1
      by_cases hkB : k < B.length
      · obtain ⟨g2, o2, rfl, _, hce2⟩ := (HQ.out _ HG.out.below).some_ (by omega)
        have e2 := hce2 k hkB
        have hy := HDB.out.getD k
        rw [BB_eq] at hy
        have HSTEP := hide_ (fun z b' h1 h2 h3 => HLX.out.step (x := A.getD k 0) (y := B.getD k 0) (z := z) (c' := b') hlt hkn rfl (val_take_succ hkB) h1 h2 h3)
        have j5 : (k : Int) < (B.length : Int) := by omega
        generalize A.getD k 0 = x at *
        generalize B.getD k 0 = y at *
        obtain ⟨s1, s2, z, b', q1, q2, q3, q4, q5, q6, q7, q8, q9⟩ := add_step cr x y hx hy hb
        have HST := hide_ (HSTEP.out z b' q1 q2 q3)
        clear hce2 HSTEP q1 q2 q3 hXl
        go_wp2
        exact ⟨⟨k + 1, b', HLT.out, by simp, rfl, hide_ ⟨_, HST.out, by have h := (HS.out z).1; rwa [HLX.out.len] at h⟩, hide_ (HG.out.setCell (p := ⟨w1.heap.size, k, none⟩) (Nat.le_refl _) _)⟩, by have := HLT.out; simp [intOf]; omega⟩
      · have hB0 : val (B.take (k + 1)) = val (B.take k) + BB ^ k * 0 := by rw [Nat.mul_zero, Nat.add_zero]; exact val_take_past (by omega)
        have HSTEP := hide_ (fun z b' h1 h2 h3 => HLX.out.step (x := A.getD k 0) (y := 0) (z := z) (c' := b') hlt hkn rfl hB0 h1 h2 h3)
        have j5 : ¬ (k : Int) < (B.length : Int) := by omega
        clear hB0
        generalize A.getD k 0 = x at *
        obtain ⟨s1, z, b', q1, q2, q3, q4, q5, q6, q7⟩ := add_step0 cr x hx hb
        have HST := hide_ (HSTEP.out z b' q1 q2 (by omega))
        clear HSTEP q1 q2 q3 hXl
        go_wp2
        exact ⟨⟨k + 1, b', HLT.out, by simp, rfl, hide_ ⟨_, HST.out, by have h := (HS.out z).1; rwa [HLX.out.len] at h⟩, hide_ (HG.out.setCell (p := ⟨w1.heap.size, k, none⟩) (Nat.le_refl _) _)⟩, by have := HLT.out; simp [intOf]; omega⟩
    · have hkk : k = A.length := by omega
      subst hkk
      have hge : ¬ A.length < A.length := hlt
      have hO2 := hO
      rw [← hXl] at hO2
      obtain ⟨_, eg, hg1, hg2, hce, hfr⟩ := hO2.blk (by omega)
      cases eg
      have e0 := hce A.length (by omega)
      have f0 := hfr A.length
      generalize X.getD A.length 0 = x0 at e0
      have hb := hX.car
      have hnX := HN.out
      rw [hnX] at hX
      obtain ⟨hD, hXv⟩ := hX.done (by omega)
      rw [HV.out] at hXv
      have hXc : cutL (X.set A.length cr) = wd (a + b) := by rw [cutL_wd hD, hXv]
      obtain ⟨hO3, _⟩ := hO2.set A.length cr
      rw [hXl] at hO3
      have hl3 : n = (X.set A.length cr).length := by rw [List.length_set, hXl]
      have hO4 := hO3
      rw [hl3] at hO4
      have HC := hide_ (told_ok (some ⟨w1.heap.size, 0, none⟩) n n (X.set A.length cr) _ hl3 (WO.wl (c := (X.set A.length cr).length) hO4) (Nat.le_refl _) (by omega) (by rw [hXc]; exact HRR.out))
      have hO5 := WO.cutL (c := (X.set A.length cr).length) hO4
      rw [hXc, ← hl3] at hO5
      rw [hXc] at HC
      have H3 := hide_ hO5
      have hwx : IntKind.u32.wrap (cr : Int) = (cr : Int) := by rw [w32]; omega
      have i4 : (0 : Int) ≤ (A.length : Int) := by omega
      have i6 : (A.length : Int) < (n : Int) := by omega
      clear hO2 hO3 hO4 hO5 hXv hXc hO hX hXl hce hfr hD hnX hl3
      go_wp2_with (go_at_call 104; go_must ((with_reducible refine (HC.out).mono ?_); rintro e w2 ⟨rfl, rfl⟩))
      go_ret2
      exact ⟨⟨_, rfl, H3.out⟩, (HG.out.setCell (p := ⟨w1.heap.size, A.length, none⟩) (Nat.le_refl _) _).below⟩
theorem add_any (p q : Option Addr) (n m c d : Nat) (a b : Nat) (w : World) (hn : n = (wd a).length) (hm : m = (wd b).length) (hp : WL w p (wd a)) (hq : WL w q (wd b)) (hc : n ≤ c) (hd : m ≤ d) (hs : n ≤ 8192) (ht : m ≤ 8192) (hr : (wd (a + b)).length ≤ 8192) :
    Calls Try.prog 96 #[.slice p n c, .slice q m d] w fun e w' => (∃ v, e = .returned (.tuple #[v, .int .i64 0]) ∧ WO w' w.heap.size v (wd (a + b))) ∧ Below w.heap.size w w' := by
  by_cases h : m ≤ n
  · exact add_ge p q n m c d a b w hn hm hp hq hc hd hs ht h hr
  · exact add_lt p q n m c d a b w hn hm hp hq hc hd hs ht (by omega) hr
end Go.Proofs.Ytcibbnphkpaifaa

namespace Go.Proofs.Ytcibbnphkpaifaa
open Go.RowKit
set_option linter.unusedVariables false
set_option maxRecDepth 100000
theorem mul_step (x y o c : Nat) (hx : x < 4294967296) (hy : y < 4294967296) (ho : o < 4294967296) (hc : c < 4294967296) :
    ∃ m s t z c' : Nat, z < 4294967296 ∧ c' < 4294967296 ∧ z + c' * 4294967296 = c + x * y + o ∧ IntKind.u64.wrap (x : Int) = (x : Int) ∧ IntKind.u64.wrap (y : Int) = (y : Int) ∧ IntKind.u64.wrap (o : Int) = (o : Int) ∧ IntKind.u64.wrap ((x : Int) * (y : Int)) = (m : Int) ∧ IntKind.u64.wrap ((m : Int) + (o : Int)) = (s : Int) ∧ IntKind.u64.wrap ((c : Int) + (s : Int)) = (t : Int) ∧ IntKind.u32.wrap (t : Int) = (z : Int) ∧ (t : Int) / 4294967296 = (c' : Int) := by
  have h1 : x * y ≤ 4294967295 * 4294967295 := Nat.mul_le_mul (by omega) (by omega)
  have h2 : ((x : Int) * (y : Int)) = ((x * y : Nat) : Int) := by simp
  rw [h2]
  generalize x * y = m at *
  refine ⟨m, m + o, c + (m + o), (c + (m + o)) % 4294967296, (c + (m + o)) / 4294967296, ?_, ?_, ?_, ?_, ?_, ?_, ?_, ?_, ?_, ?_, ?_⟩
  all_goals (try simp only [w64, w32]); omega
structure MulAt (A B X : List Nat) (n i : Nat) : Prop where
  len : X.length = n
  dig : Dig X
  rest : ∀ j, i + B.length ≤ j → X.getD j 0 = 0
  eq : val (X.take (i + B.length)) = val (A.take i) * val B
structure MulIn (B X0 X : List Nat) (n i x k c : Nat) : Prop where
  len : X.length = n
  dig : Dig X
  rest : ∀ j, i + k ≤ j → X.getD j 0 = X0.getD j 0
  car : c < 4294967296
  eq : val (X.take (i + k)) + c * BB ^ (i + k) = val (X0.take (i + k)) + x * BB ^ i * val (B.take k)
theorem MulIn.start {B X0 : List Nat} {n i x : Nat} (hl : X0.length = n) (hd : Dig X0) : MulIn B X0 X0 n i x 0 0 := ⟨hl, hd, fun _ _ => rfl, by omega, by simp [val_nil]⟩
theorem pow_carry (k c : Nat) : BB ^ k * (c * 4294967296) = c * BB ^ (k + 1) := by rw [Nat.pow_succ, ← BB_eq, Nat.mul_comm c, ← Nat.mul_assoc]; exact Nat.mul_comm _ _
theorem MulIn.step {B X0 X : List Nat} {n i x k c y o z c' : Nat} (h : MulIn B X0 X n i x k c) (hl0 : X0.length = n) (hk : k < B.length) (hn : i + k < n) (hy : B.getD k 0 = y) (ho : X0.getD (i + k) 0 = o) (hz : z < 4294967296) (hc' : c' < 4294967296) (he : z + c' * 4294967296 = c + x * y + o) : MulIn B X0 (X.set (i + k) z) n i x (k + 1) c' := by
  refine ⟨by rw [List.length_set]; exact h.len, h.dig.set _ _ hz, fun j hj => by rw [getD_set, if_neg (by omega)]; exact h.rest j (by omega), hc', ?_⟩
  rw [← Nat.add_assoc, val_take_set (by rw [h.len]; exact hn), val_take_succ (L := X0) (by rw [hl0]; exact hn), val_take_succ hk, hy, ho]
  have e1 := h.eq
  have e2 : BB ^ (i + k) * (z + c' * 4294967296) = BB ^ (i + k) * (c + x * y + o) := by rw [he]
  rw [Nat.mul_add, Nat.mul_add, Nat.mul_add, pow_carry, Nat.mul_comm (BB ^ (i + k)) c] at e2
  have e3 : x * BB ^ i * (val (B.take k) + BB ^ k * y) = x * BB ^ i * val (B.take k) + BB ^ (i + k) * (x * y) := by
    rw [Nat.mul_add, Nat.pow_add]
    congr 1
    ac_rfl
  rw [e3]
  omega
theorem MulAt.step {A B X0 X : List Nat} {n i x c : Nat} (h0 : MulAt A B X0 n i) (h : MulIn B X0 X n i x B.length c) (hi : i < A.length) (hn : i + B.length < n) (hx : A.getD i 0 = x) : MulAt A B (X.set (i + B.length) c) n (i + 1) := by
  refine ⟨by rw [List.length_set]; exact h.len, h.dig.set _ _ h.car, fun j hj => by rw [getD_set, if_neg (by omega), h.rest j (by omega), h0.rest j (by omega)], ?_⟩
  rw [show i + 1 + B.length = i + B.length + 1 by omega, val_take_set (by rw [h.len]; exact hn), val_take_succ hi, hx, Nat.add_mul]
  have e1 := h.eq
  rw [List.take_length, h0.eq] at e1
  rw [Nat.mul_comm (BB ^ (i + B.length)) c, e1, Nat.mul_comm (BB ^ i) x]
theorem MulAt.done {A B X : List Nat} (h : MulAt A B X (A.length + B.length) A.length) : val X = val A * val B := by
  have e := h.eq
  rw [List.take_of_length_le (by rw [h.len]; exact Nat.le_refl _), List.take_length] at e
  exact e
set_option maxHeartbeats 6400000 in
theorem mul_any (p q : Option Addr) (n m c d : Nat) (a b : Nat) (w : World) (hn : n = (wd a).length) (hm : m = (wd b).length) (hp : WL w p (wd a)) (hq : WL w q (wd b)) (hs : n ≤ 8192) (ht : m ≤ 8192) (hnm : n + m ≤ 8193) (hr : (wd (a * b)).length ≤ 8192) :
    Calls Try.prog 91 #[.slice p n c, .slice q m d] w fun e w' => (∃ v, e = .returned (.tuple #[v, .int .i64 0]) ∧ WO w' w.heap.size v (wd (a * b))) ∧ Below w.heap.size w w' := by
  subst hn hm
  have HK := hide_ (checked_any p q _ _ c d _ _ w rfl rfl hp hq (by omega) (by omega))
  rw [chk2_wd (by omega) (by omega)] at HK
  by_cases hz : (wd a).length = 0 ∨ (wd b).length = 0
  · have h0 : wd (a * b) = [] := by
      rcases hz with h | h
      · rw [wd_len_zero.1 h, Nat.zero_mul, wd_zero]
      · rw [wd_len_zero.1 h, Nat.mul_zero, wd_zero]
    rw [h0]
    have hz1 : (wd a).length = 0 ∨ ((wd a).length ≠ 0 ∧ (wd b).length = 0) := by omega
    clear hp hq h0 hr hz
    generalize (wd a).length = la at *
    generalize (wd b).length = lb at *
    rcases hz1 with h | ⟨h, h2⟩
    · subst h
      go_enter Try.func91, Try.ntmps91
      go_wp2_with (go_at_call 98; go_must ((with_reducible refine (HK.out).mono ?_); rintro e w1 ⟨rfl, rfl⟩))
      go_ret2
      exact ⟨⟨_, rfl, WO.nil _ _⟩, Below.refl _ _⟩
    · subst h2
      have hb : ((la : Int) == 0) = false := beq_eq_false_iff_ne.2 (by omega)
      go_enter Try.func91, Try.ntmps91
      go_wp2_with (go_at_call 98; go_must ((with_reducible refine (HK.out).mono ?_); rintro e w1 ⟨rfl, rfl⟩))
      go_ret2
      exact ⟨⟨_, rfl, WO.nil _ _⟩, Below.refl _ _⟩
  · have HP := hide_ (fun W (h : Below w.heap.size w W) => hp.below h)
    have HQ := hide_ (fun W (h : Below w.heap.size w W) => hq.below h)
    have HDA := hide_ (wd_dig a)
    have HDB := hide_ (wd_dig b)
    have HV : Hid (val (wd a) * val (wd b) = a * b) := hide_ (by rw [val_wd, val_wd])
    have HRR := hide_ hr
    clear hp hq hr
    generalize wd a = A at *
    generalize wd b = B at *
    have hb1 : ((A.length : Int) == 0) = false := beq_eq_false_iff_ne.2 (by omega)
    have hb2 : ((B.length : Int) == 0) = false := beq_eq_false_iff_ne.2 (by omega)
    obtain ⟨n, hn⟩ : ∃ n, n = A.length + B.length := ⟨_, rfl⟩
    have hwn : IntKind.i64.wrap ((A.length : Int) + (B.length : Int)) = (n : Int) := by rw [hn, IntWalk.i64_in _ (by omega)]; omega
    have d1 : decide ((8193 : Int) < (n : Int)) = false := decide_eq_false (by omega)
    have d1n : decide (8193 < n) = false := decide_eq_false (by omega)
    have hmk := fun wx => run_mk32 (n := n) (by omega) wx
    have HZR := hide_ (zs_row w (n := n) (by omega))
    have HN := hide_ hn
    have hnl : A.length < n := by omega
    clear hn hz
    go_enter Try.func91, Try.ntmps91
    go_wp2_with (go_at_call 98; go_must ((with_reducible refine (HK.out).mono ?_); rintro e w1 ⟨rfl, rfl⟩))
    clear hwn hmk d1 d1n hb1 hb2
    go_loopw [41] (fun i wr => ∃ k : Nat, k ≤ A.length ∧ i = .int .i64 k ∧ Hid (∃ X, MulAt A B X n k ∧ WO wr w1.heap.size (.slice (some ⟨w1.heap.size, 0, none⟩) n n) X) ∧ Hid (Grew w1.heap.size w1 wr)) (fun i _ => A.length - (intOf i).toNat)
    case atStart => exact ⟨0, by omega, rfl, hide_ ⟨_, ⟨by simp, Dig.zeros _, fun j _ => by rw [List.getD_eq_getElem?_getD, List.getElem?_replicate]; split <;> rfl, by simp [val_nil, val_zeros]⟩, HZR.out⟩, hide_ ((Grew.refl w1).alloc _)⟩
    case round =>
      obtain ⟨i, hi, rfl, HX, HG⟩ := hrel
      obtain ⟨X0, hX0, hO⟩ := HX.out
      have hXl := hX0.len
      by_cases hlt : i < A.length
      · obtain ⟨g1, o1, rfl, _, hce1⟩ := (HP.out _ HG.out.below).some_ (by omega)
        have e1 := hce1 i hlt
        have hx := HDA.out.getD i
        rw [BB_eq] at hx
        have i4 : (0 : Int) ≤ (i : Int) := by omega
        have i5 : (i : Int) < (A.length : Int) := by omega
        have HX0 := hide_ hX0
        have HO := hide_ hO
        have HLT := hide_ hlt
        have HXL := hide_ hXl
        have HXA := hide_ (Eq.refl (A.getD i 0))
        clear hce1 hX0 hO hXl
        generalize hgx : A.getD i 0 = x at *
        have HGX := hide_ hgx
        clear hgx HXA
        go_wp2
        have HIN : Hid (i + B.length < n) := hide_ (by have := HN.out; omega)
        go_loopw [10, 48] (fun cv kv wr2 => ∃ k cr : Nat, k ≤ B.length ∧ kv = .int .i64 k ∧ cv = .int .u64 cr ∧ Hid (∃ X, MulIn B X0 X n i x k cr ∧ WO wr2 w1.heap.size (.slice (some ⟨w1.heap.size, 0, none⟩) n n) X) ∧ Hid (Grew w1.heap.size w1 wr2)) (fun _ kv _ => B.length - (intOf kv).toNat)
        case atStart => exact ⟨0, 0, by omega, rfl, rfl, hide_ ⟨X0, MulIn.start HX0.out.len HX0.out.dig, HO.out⟩, HG⟩
        case round =>
          obtain ⟨k, cr, hk, rfl, rfl, HY, HG2⟩ := hrel
          obtain ⟨X, hX, hO⟩ := HY.out
          have hXl := hX.len
          have hO2 := hO
          rw [← hXl] at hO2
          by_cases hltk : k < B.length
          · obtain ⟨ik, hik⟩ : ∃ ik, ik = i + k := ⟨_, rfl⟩
            have hwik : IntKind.i64.wrap ((i : Int) + (k : Int)) = (ik : Int) := by rw [hik, IntWalk.i64_in _ (by omega)]; omega
            obtain ⟨_, eg, hg1, hg2, hce, hfr⟩ := hO2.blk (by have := HN.out; omega)
            cases eg
            have e0 := hce ik (by have := HN.out; omega)
            rw [hX.rest ik (by omega)] at e0
            have f0 := hfr ik
            obtain ⟨g2, o2, rfl, _, hce2⟩ := (HQ.out _ HG2.out.below).some_ (by omega)
            have e2 := hce2 k hltk
            have hy := HDB.out.getD k
            have ho := HX0.out.dig.getD ik
            rw [BB_eq] at hy ho
            have HSTEP := hide_ (fun z c' h1 h2 h3 => hX.step (k := k) (y := B.getD k 0) (o := X0.getD (i + k) 0) (z := z) (c' := c') HXL.out hltk (by have := HIN.out; omega) rfl rfl h1 h2 h3)
            rw [← hik] at HSTEP
            have j4 : (0 : Int) ≤ (k : Int) := by omega
            have j5 : (k : Int) < (B.length : Int) := by omega
            have j6 : (0 : Int) ≤ (ik : Int) := by omega
            have j7 : (ik : Int) < (n : Int) := by have := HN.out; omega
            have HS := hide_ (fun z => hO2.set ik z)
            have HLTK := hide_ hltk
            have HXL2 := hide_ hXl
            have hcr := hX.car
            clear hce hfr hO hO2 hX hce2 hik hXl
            generalize B.getD k 0 = y at *
            generalize X0.getD ik 0 = o at *
            obtain ⟨mm, s, t, z, c', q1, q2, q3, q4, q5, q6, q7, q8, q9, q10, q11⟩ := mul_step x y o cr hx hy ho hcr
            have HST := hide_ (HSTEP.out z c' q1 q2 q3)
            clear HSTEP q1 q2 q3
            go_wp2
            exact ⟨⟨k + 1, c', HLTK.out, by simp, rfl, hide_ ⟨_, HST.out, by have h := (HS.out z).1; rwa [HXL2.out] at h⟩, hide_ (HG2.out.setCell (p := ⟨w1.heap.size, ik, none⟩) (Nat.le_refl _) _)⟩, by have := HLTK.out; simp [intOf]; omega⟩
          · have hkk : k = B.length := by omega
            subst hkk
            have hge : ¬ B.length < B.length := hltk
            obtain ⟨il, hil⟩ : ∃ il, il = i + B.length := ⟨_, rfl⟩
            have hwil : IntKind.i64.wrap ((i : Int) + (B.length : Int)) = (il : Int) := by rw [hil, IntWalk.i64_in _ (by omega)]; omega
            obtain ⟨_, eg, hg1, hg2, hce, hfr⟩ := hO2.blk (by have := HN.out; omega)
            cases eg
            have e0 := hce il (by have := HN.out; omega)
            have f0 := hfr il
            generalize X.getD il 0 = x0 at e0
            have hcr := hX.car
            have hwc : IntKind.u32.wrap (cr : Int) = (cr : Int) := by rw [w32]; omega
            have HST := hide_ (HX0.out.step hX HLT.out HIN.out HGX.out)
            rw [← hil] at HST
            have HS := hide_ (hO2.set il cr)
            have j6 : (0 : Int) ≤ (il : Int) := by omega
            have j7 : (il : Int) < (n : Int) := by have := HN.out; omega
            have HXL2 := hide_ hXl
            clear hce hfr hO hO2 hX hil hXl
            go_wp2
            exact ⟨⟨i + 1, HLT.out, by simp, hide_ ⟨_, HST.out, by have h := HS.out.1; rwa [HXL2.out] at h⟩, hide_ (HG2.out.setCell (p := ⟨w1.heap.size, il, none⟩) (Nat.le_refl _) _)⟩, by have := HLT.out; simp [intOf]; omega⟩
      · have hkk : i = A.length := by omega
        subst hkk
        have hge : ¬ A.length < A.length := hlt
        have hO2 := hO
        rw [← hXl] at hO2
        have hnX := HN.out
        rw [hnX] at hX0
        have hXv := hX0.done
        rw [HV.out] at hXv
        have hXc : cutL X0 = wd (a * b) := by rw [cutL_wd hX0.dig, hXv]
        have hl3 : n = X0.length := hXl.symm
        have HC := hide_ (told_ok (some ⟨w1.heap.size, 0, none⟩) n n X0 _ hl3 (WO.wl (c := X0.length) hO2) (Nat.le_refl _) (by omega) (by rw [hXc]; exact HRR.out))
        have hO5 := WO.cutL (c := X0.length) hO2
        rw [hXc, hXl] at hO5
        rw [hXc] at HC
        have H3 := hide_ hO5
        clear hO2 hO5 hXv hXc hO hX0 hXl hnX hl3
        go_wp2_with (go_at_call 104; go_must ((with_reducible refine (HC.out).mono ?_); rintro e w2 ⟨rfl, rfl⟩))
        go_ret2
        exact ⟨⟨_, rfl, H3.out⟩, HG.out.below⟩
end Go.Proofs.Ytcibbnphkpaifaa

namespace Go.Proofs.Ytcibbnphkpaifaa
open Go.RowKit
set_option linter.unusedVariables false
set_option maxRecDepth 100000
theorem w64_id {n : Nat} (h : n < 18446744073709551616) : IntKind.u64.wrap (n : Int) = (n : Int) := by simp only [w64]; omega
theorem w32_id {n : Nat} (h : n < 4294967296) : IntKind.u32.wrap (n : Int) = (n : Int) := by simp only [w32]; omega
theorem small_step (r x d : Nat) (hr : r < d) (hx : x < 4294967296) (hd : d < 4294967296) :
    ∃ t q r' : Nat, q < 4294967296 ∧ r' < d ∧ x + r * 4294967296 = d * q + r' ∧ IntKind.u64.wrap (x : Int) = (x : Int) ∧ IntKind.u64.wrap ((r : Int) * 4294967296) = (r : Int) * 4294967296 ∧ bits BinOp.or IntKind.u64 ((r : Int) * 4294967296) (x : Int) = (t : Int) ∧ IntKind.u64.wrap (d : Int) = (d : Int) ∧ ((d : Int) == 0) = false ∧
      (t : Int).tdiv (d : Int) = (q : Int) ∧ (t : Int).tmod (d : Int) = (r' : Int) ∧ IntKind.u64.wrap (q : Int) = (q : Int) ∧ IntKind.u32.wrap (q : Int) = (q : Int) ∧ IntKind.u64.wrap (r' : Int) = (r' : Int) := by
  have hq : (x + r * 4294967296) / d < 4294967296 := by
    rw [Nat.div_lt_iff_lt_mul (by omega)]
    have : (r + 1) * 4294967296 ≤ d * 4294967296 := Nat.mul_le_mul_right _ hr
    omega
  have hm : (x + r * 4294967296) % d < d := Nat.mod_lt _ (by omega)
  have hdm := Nat.div_add_mod (x + r * 4294967296) d
  refine ⟨x + r * 4294967296, (x + r * 4294967296) / d, (x + r * 4294967296) % d, hq, hm, hdm.symm, by simp only [w64]; omega, by simp only [w64]; omega, or_lo x r hx (by omega), by simp only [w64]; omega, beq_eq_false_iff_ne.2 (by omega), (Int.ofNat_tdiv _ _).symm, (Int.ofNat_tmod _ _).symm, w64_id (by omega), w32_id hq, w64_id (by omega)⟩
structure SmallAt (A X : List Nat) (d k r : Nat) : Prop where
  len : X.length = A.length
  dig : Dig X
  rest : ∀ j, j < k → X.getD j 0 = A.getD j 0
  rem : r < d
  eq : val (A.drop k) = d * val (X.drop k) + r
theorem val_drop_set {L : List Nat} {k x : Nat} (h : k < L.length) : val ((L.set k x).drop k) = x + BB * val (L.drop (k + 1)) := by
  rw [val_drop (by rw [List.length_set]; exact h), getD_set, if_pos ⟨rfl, h⟩, List.drop_set_of_lt (by omega)]
theorem SmallAt.step {A X : List Nat} {d j r x q r' : Nat} (h : SmallAt A X d (j + 1) r) (hj : j < A.length) (hx : A.getD j 0 = x) (hq : q < 4294967296) (hr' : r' < d) (he : x + r * 4294967296 = d * q + r') : SmallAt A (X.set j q) d j r' := by
  refine ⟨by rw [List.length_set]; exact h.len, h.dig.set _ _ hq, fun i hi => by rw [getD_set, if_neg (by omega)]; exact h.rest i (by omega), hr', ?_⟩
  rw [val_drop hj, val_drop_set (by rw [h.len]; exact hj), h.eq, hx, Nat.mul_add, Nat.mul_add]
  have : BB * (d * val (X.drop (j + 1))) = d * (BB * val (X.drop (j + 1))) := by rw [← Nat.mul_assoc, Nat.mul_comm BB d, Nat.mul_assoc]
  rw [this, Nat.mul_comm BB r, BB_eq]
  omega
theorem SmallAt.done {A X : List Nat} {d r : Nat} (h : SmallAt A X d 0 r) : val X = val A / d ∧ r = val A % d := by
  have e := h.eq
  rw [List.drop_zero, List.drop_zero] at e
  rw [e]
  have hd : 0 < d := by have := h.rem; omega
  rw [Nat.mul_add_div hd, Nat.div_eq_of_lt h.rem, Nat.add_zero, Nat.mul_add_mod, Nat.mod_eq_of_lt h.rem]
  exact ⟨rfl, rfl⟩
set_option maxHeartbeats 3200000 in
theorem small_any (p : Option Addr) (n c base d : Nat) (A : List Nat) (w : World) (hn : n = A.length) (hp : WO w base (.slice p n c) A) (hs : n ≤ 100000) (dA : Dig A) (hd : d < 4294967296) (hd0 : 0 < d) :
    Calls Try.prog 110 #[.slice p n c, .int .u32 d] w fun e w' => e = .returned (.tuple #[.slice p (wd (val A / d)).length c, .int .u32 (val A % d : Nat)]) ∧ WO w' base (.slice p (wd (val A / d)).length c) (wd (val A / d)) ∧ w.grownBy w' (Value.slice p n c).ownBlock := by
  subst hn
  have HDA := hide_ dA
  have H0 := hide_ hp
  have HCP := hide_ hp.cap
  have hw0 : IntKind.i64.wrap ((A.length : Int) - 1) = (A.length : Int) - 1 := IntWalk.i64_in _ (by omega)
  clear hp dA
  go_enter Try.func110, Try.ntmps110
  go_wp2
  go_loopw [6, 7] (fun x i wr => ∃ k r : Nat, ∃ z : Int, k ≤ A.length ∧ i = .int .i64 z ∧ x = .int .u64 r ∧ Hid (z = (k : Int) - 1) ∧ Hid (∃ X, SmallAt A X d k r ∧ WO wr base (.slice p A.length c) X) ∧ Hid (w.grownBy wr (Value.slice p A.length c).ownBlock)) (fun _ i _ => (intOf i + 1).toNat)
  case atStart => exact ⟨A.length, 0, _, by omega, rfl, rfl, hide_ (by first | rfl | exact hw0), hide_ ⟨A, ⟨rfl, HDA.out, fun _ _ => rfl, hd0, by simp [val_nil]⟩, H0.out⟩, hide_ (World.grownBy.refl _ _)⟩
  case round =>
    obtain ⟨k, r, z, hk, rfl, rfl, HZ, HX, HG⟩ := hrel
    obtain ⟨X, hX, hO⟩ := HX.out
    have hXl := hX.len
    by_cases h0 : k = 0
    · subst h0
      have hz := HZ.out
      have d1 : decide ((0 : Int) ≤ z) = false := decide_eq_false (by omega)
      have hlt : ¬ (0 : Int) ≤ z := by omega
      have hO2 := hO
      rw [← hXl] at hO2
      obtain ⟨hXv, hrv⟩ := hX.done
      have hr := hX.rem
      have hXc : cutL X = wd (val A / d) := by rw [cutL_wd hX.dig, hXv]
      have hO3 := hO2.cutL
      have HC := hide_ (cut_any p A.length c X wr hXl.symm hO2.wl HCP.out (by omega))
      rw [hXc] at HC hO3
      have H3 := hide_ hO3
      have HR := hide_ hrv
      have hwr : IntKind.u32.wrap (r : Int) = (r : Int) := by rw [w32]; omega
      clear hO2 hO3 hXv hXc hO hX hXl hz hrv hr
      go_wp2_with (go_at_call 92; go_must ((with_reducible refine (HC.out).mono ?_); rintro e w1 ⟨rfl, rfl⟩))
      go_ret2
      exact ⟨by rw [← HR.out]; simp, H3.out, HG.out⟩
    · obtain ⟨j, hj⟩ : ∃ j, k = j + 1 := ⟨k - 1, by omega⟩
      have hz : z = (j : Int) := by have := HZ.out; omega
      subst hz
      rw [← hXl] at hO
      obtain ⟨g, rfl, hg1, hg2, hce, hfr⟩ := hO.blk (by omega)
      have e0 := hce j (by omega)
      have f0 := hfr j
      have hx := HDA.out.getD j
      rw [BB_eq] at hx
      rw [hX.rest j (by omega)] at e0
      have i4 : (0 : Int) ≤ (j : Int) := by omega
      have i5 : (j : Int) < (A.length : Int) := by omega
      have HS := hide_ (fun z => hO.set j z)
      have hr := hX.rem
      have HXL := hide_ hXl
      have HSTEP := hide_ (fun q r' h1 h2 h3 => SmallAt.step (x := A.getD j 0) (q := q) (r' := r') (hj ▸ hX) (by omega) rfl h1 h2 h3)
      have hw : IntKind.i64.wrap ((j : Int) - 1) = (j : Int) - 1 := IntWalk.i64_in _ (by omega)
      have HJ := hide_ hj
      clear hce hfr hO hX hj hXl
      generalize A.getD j 0 = x at *
      obtain ⟨t, q, r', q1, q2, q3, q4, q5, q6, q7, q8, q9, q10, q11, q12, q13⟩ := small_step r x d hr hx hd
      have HST := hide_ (HSTEP.out q r' q1 q2 q3)
      clear HSTEP q1 q2 q3
      go_wp2
      exact ⟨⟨j, r', (j : Int) - 1, by have := HJ.out; omega, by simp, rfl, hide_ rfl, hide_ ⟨_, HST.out, by have h := (HS.out q).1; rwa [HXL.out] at h⟩, hide_ (grown_trans HG.out (HS.out q).2)⟩, by have := HJ.out; simp [intOf] <;> omega⟩
end Go.Proofs.Ytcibbnphkpaifaa

namespace Go.Proofs.Ytcibbnphkpaifaa
open Go.RowKit
set_option linter.unusedVariables false
set_option maxRecDepth 100000
structure UpAt (A X : List Nat) (s i : Nat) : Prop where
  len : X.length = A.length + 1
  dig : Dig X
  rest : ∀ j, i < j → X.getD j 0 = 0
  top : X.getD i 0 < 2 ^ s
  eq : val (X.take (i + 1)) = val (A.take i) * 2 ^ s
theorem or_low (o lo s : Nat) (h1 : o < 2 ^ s) (h2 : lo % 2 ^ s = 0) : o ||| lo = o + lo := by
  obtain ⟨m, rfl⟩ : ∃ m, lo = m * 2 ^ s := ⟨lo / 2 ^ s, by rw [Nat.div_mul_cancel (Nat.dvd_of_mod_eq_zero h2)]⟩
  exact or_mulN o m s (2 ^ s) rfl h1
theorem pow_split {s : Nat} (h : s < 32) : 2 ^ s * 2 ^ (32 - s) = 4294967296 := by
  rw [← Nat.pow_add, show s + (32 - s) = 32 by omega]
theorem up_word {x o s : Nat} (hs : s < 32) (hx : x < 4294967296) (ho : o < 2 ^ s) :
    x * 2 ^ s < 18446744073709551616 ∧ (x * 2 ^ s) / 4294967296 < 2 ^ s ∧ (o ||| (x * 2 ^ s) % 4294967296) = o + (x * 2 ^ s) % 4294967296 ∧ o + (x * 2 ^ s) % 4294967296 < 4294967296 := by
  have hp := pow_split hs
  have hp32 : 2 ^ s ≤ 2147483648 := by
    have : 2 ^ s ≤ 2 ^ 31 := Nat.pow_le_pow_right (by decide) (by omega)
    simpa using this
  have hpos : 0 < 2 ^ s := Nat.pow_pos (by decide)
  have h0 : 2 ^ s * x < 2 ^ s * 4294967296 := Nat.mul_lt_mul_of_pos_left hx hpos
  have h1 : (x * 2 ^ s) % 4294967296 % 2 ^ s = 0 := by
    rw [← hp, Nat.mod_mul_right_mod, Nat.mul_mod_left]
  have h2 : (x * 2 ^ s) / 4294967296 < 2 ^ s := by
    rw [Nat.div_lt_iff_lt_mul (by decide), Nat.mul_comm x]
    exact h0
  refine ⟨by rw [Nat.mul_comm]; omega, h2, or_low _ _ s ho h1, ?_⟩
  rw [← or_low _ _ s ho h1]
  have : (x * 2 ^ s) % 4294967296 < 2 ^ 32 := Nat.mod_lt _ (by decide)
  have := Nat.or_lt_two_pow (x := o) (y := (x * 2 ^ s) % 4294967296) (n := 32) (by omega) this
  omega
theorem up_facts {x o s : Nat} (hs : s < 32) (hx : x < 4294967296) (ho : o < 2 ^ s) : ∃ t lo hi z : Nat, z = o + (x * 2 ^ s) % 4294967296 ∧ hi = (x * 2 ^ s) / 4294967296 ∧ z < 4294967296 ∧ IntKind.u64.wrap (x : Int) = (x : Int) ∧ IntKind.u64.wrap ((x : Int) * 2 ^ s) = (t : Int) ∧ IntKind.u32.wrap (t : Int) = (lo : Int) ∧ (t : Int) / 4294967296 = (hi : Int) ∧ IntKind.u32.wrap (hi : Int) = (hi : Int) ∧ bits BinOp.or IntKind.u32 (o : Int) (lo : Int) = (z : Int) := by
  obtain ⟨u1, u2, u3, u4⟩ := up_word hs hx ho
  have hp32 : 2 ^ s ≤ 2147483648 := by
    have : 2 ^ s ≤ 2 ^ 31 := Nat.pow_le_pow_right (by decide) (by omega)
    simpa using this
  have e : ((x : Int) * 2 ^ s) = ((x * 2 ^ s : Nat) : Int) := by simp
  rw [e]
  generalize x * 2 ^ s = t at *
  have hlo : t % 4294967296 < 4294967296 := Nat.mod_lt _ (by decide)
  refine ⟨t, t % 4294967296, t / 4294967296, _, rfl, rfl, u4, w64_id (by omega), w64_id u1, by simp only [w32]; omega, by omega, w32_id (by omega), ?_⟩
  rw [u32_or_nat o (t % 4294967296) (by omega) hlo, u3]
theorem UpAt.step {A X : List Nat} {s i x : Nat} (h : UpAt A X s i) (hi : i < A.length) (hs : s < 32) (hx : A.getD i 0 = x) (hxB : x < 4294967296) :
    UpAt A ((X.set i (X.getD i 0 + (x * 2 ^ s) % 4294967296)).set (i + 1) ((x * 2 ^ s) / 4294967296)) s (i + 1) := by
  obtain ⟨_, h1, _, h2⟩ := up_word hs hxB h.top
  have hp32 : 2 ^ s ≤ 2147483648 := by
    have : 2 ^ s ≤ 2 ^ 31 := Nat.pow_le_pow_right (by decide) (by omega)
    simpa using this
  have hl := h.len
  refine ⟨by rw [List.length_set, List.length_set]; exact hl, (h.dig.set _ _ h2).set _ _ (by rw [BB_eq]; omega), fun j hj => by rw [getD_set, if_neg (by omega), getD_set, if_neg (by omega)]; exact h.rest j (by omega), by rw [getD_set, if_pos ⟨rfl, by rw [List.length_set]; omega⟩]; exact h1, ?_⟩
  rw [val_take_set (by rw [List.length_set]; omega), val_take_set (by omega), val_take_succ hi, hx]
  have e := h.eq
  rw [val_take_succ (by omega)] at e
  have e2 := Nat.div_add_mod (x * 2 ^ s) 4294967296
  have e3 : BB ^ i * (x * 2 ^ s) = BB ^ i * ((x * 2 ^ s) % 4294967296) + BB ^ (i + 1) * ((x * 2 ^ s) / 4294967296) := by
    rw [Nat.pow_succ, Nat.mul_assoc, BB_eq, ← Nat.mul_add]
    congr 1
    omega
  rw [Nat.add_mul, ← e, Nat.mul_assoc, e3, Nat.mul_add]
  omega
theorem UpAt.done {A X : List Nat} {s : Nat} (h : UpAt A X s A.length) : val X = val A * 2 ^ s := by
  have e := h.eq
  rw [List.take_of_length_le (by rw [h.len]; exact Nat.le_refl _), List.take_length] at e
  exact e
set_option maxHeartbeats 3200000 in
theorem up_any (p : Option Addr) (n c s : Nat) (A : List Nat) (w : World) (hn : n = A.length) (hp : WL w p A) (hl : n ≤ 8192) (dA : Dig A) (hs : s < 32) :
    Calls Try.prog 112 #[.slice p n c, .int .u64 s] w fun e w' => (∃ X, e = .returned (.slice (some ⟨w.heap.size, 0, none⟩) (n + 1) (n + 1)) ∧ X.length = n + 1 ∧ Dig X ∧ val X = val A * 2 ^ s ∧ WO w' w.heap.size (.slice (some ⟨w.heap.size, 0, none⟩) (n + 1) (n + 1)) X) ∧ Below w.heap.size w w' := by
  subst hn
  have HP := hide_ (fun W (h : Below w.heap.size w W) => hp.below h)
  have HDA := hide_ dA
  obtain ⟨n, hn⟩ : ∃ n, n = A.length + 1 := ⟨_, rfl⟩
  have hwn : IntKind.i64.wrap ((A.length : Int) + 1) = (n : Int) := by rw [hn, IntWalk.i64_in _ (by omega)]; omega
  have hmk := fun wx => run_mk32 (n := n) (by omega) wx
  have HZR := hide_ (zs_row w (n := n) (by omega))
  rw [← hn]
  have HN := hide_ hn
  clear hn hp dA
  go_enter Try.func112, Try.ntmps112
  go_wp2
  clear hwn hmk
  go_loopw [15] (fun i wr => ∃ k : Nat, k ≤ A.length ∧ i = .int .i64 k ∧ Hid (∃ X, UpAt A X s k ∧ WO wr w.heap.size (.slice (some ⟨w.heap.size, 0, none⟩) n n) X) ∧ Hid (Grew w.heap.size w wr)) (fun i _ => A.length - (intOf i).toNat)
  case atStart => exact ⟨0, by omega, rfl, hide_ ⟨_, ⟨by simp [HN.out], Dig.zeros _, fun j _ => by rw [List.getD_eq_getElem?_getD, List.getElem?_replicate]; split <;> rfl, by rw [List.getD_eq_getElem?_getD, List.getElem?_replicate]; split <;> exact Nat.pow_pos (by decide), by simp [val_nil, val_zeros]⟩, HZR.out⟩, hide_ ((Grew.refl w).alloc _)⟩
  case round =>
    obtain ⟨k, hk, rfl, HX, HG⟩ := hrel
    obtain ⟨X, hX, hO⟩ := HX.out
    have hXl : X.length = n := by rw [hX.len, HN.out]
    by_cases hlt : k < A.length
    · have hO2 := hO
      rw [← hXl] at hO2
      obtain ⟨_, eg, hg1, hg2, hce, hfr⟩ := hO2.blk (by have := HN.out; omega)
      cases eg
      obtain ⟨k1, hk1⟩ : ∃ k1, k1 = k + 1 := ⟨_, rfl⟩
      have hwk : IntKind.i64.wrap ((k : Int) + 1) = (k1 : Int) := by rw [hk1, IntWalk.i64_in _ (by omega)]; omega
      have e0 := hce k (by have := HN.out; omega)
      have e1 := hce k1 (by have := HN.out; omega)
      have f0 := hfr k
      have f1 := hfr k1
      obtain ⟨g1, o1, rfl, _, hce1⟩ := (HP.out _ HG.out.below).some_ (by omega)
      have e2 := hce1 k hlt
      have hx := HDA.out.getD k
      rw [BB_eq] at hx
      have HST := hide_ (hX.step hlt hs rfl hx)
      rw [← hk1] at HST
      have i4 : (0 : Int) ≤ (k : Int) := by omega
      have i5 : (k : Int) < (A.length : Int) := by omega
      have i6 : (k : Int) < (n : Int) := by have := HN.out; omega
      have i7 : (0 : Int) ≤ (k1 : Int) := by omega
      have i8 : (k1 : Int) < (n : Int) := by have := HN.out; omega
      have hkX : k1 < X.length := by rw [hXl]; have := HN.out; omega
      obtain ⟨t, lo, hi, z, hz, hhi, hzB, q1, q2, q3, q4, q5, q6⟩ := up_facts hs hx hX.top
      rw [← hz, ← hhi] at HST
      obtain ⟨r1, r2⟩ := hO2.set k z
      have r1' := r1
      rw [show X.length = (X.set k z).length by rw [List.length_set]] at r1'
      obtain ⟨_, eg, _, _, hce3, hfr3⟩ := WO.blk (c := (X.set k z).length) r1' (by rw [List.length_set]; omega)
      cases eg
      have e3 := hce3 k1 (by rw [List.length_set]; exact hkX)
      have f3 := hfr3 k1
      rw [getD_set, if_neg (by omega)] at e3
      have HS := hide_ (WO.set (c := (X.set k z).length) r1' k1 hi)
      have HLN : Hid ((X.set k z).length = n) := hide_ (by rw [List.length_set]; exact hXl)
      have HLT := hide_ hlt
      have HK1 := hide_ hk1
      have HLX := hide_ hXl
      clear hce hfr hO hO2 hX hce1 hk1 hXl hce3 hfr3 r1 r1' r2 hz hhi hkX e1 f1
      generalize A.getD k 0 = x at *
      generalize X.getD k 0 = o at *
      generalize X.getD k1 0 = o2 at *
      go_wp2
      exact ⟨⟨k1, by have := HK1.out; have := HLT.out; omega, by simp, hide_ ⟨_, HST.out, by have h := HS.out.1; rwa [HLN.out] at h⟩, hide_ ((HG.out.setCell (p := ⟨w.heap.size, k, none⟩) (Nat.le_refl _) _).setCell (p := ⟨w.heap.size, k1, none⟩) (Nat.le_refl _) _)⟩, by have := HK1.out; have := HLT.out; simp [intOf]; omega⟩
    · have hkk : k = A.length := by omega
      subst hkk
      have hge : ¬ A.length < A.length := hlt
      have HXX := hide_ hX
      have HOO := hide_ hO
      have HXL := hide_ hXl
      clear hO hX hXl
      go_wp2
      go_ret
      exact ⟨⟨X, by simp, HXL.out, HXX.out.dig, HXX.out.done, HOO.out⟩, HG.out.below⟩
end Go.Proofs.Ytcibbnphkpaifaa

namespace Go.Proofs.Ytcibbnphkpaifaa
open Go.RowKit
set_option linter.unusedVariables false
set_option maxRecDepth 100000
theorem down_word {x y s : Nat} (hs : s < 32) (hx : x < 4294967296) : ∃ z, z = ((x + y * 4294967296) / 2 ^ s) % 4294967296 ∧ z < 4294967296 ∧ 2 ^ s * z + x % 2 ^ s = x + 4294967296 * (y % 2 ^ s) := by
  refine ⟨_, rfl, Nat.mod_lt _ (by decide), ?_⟩
  have hp := pow_split hs
  have hP : 0 < 2 ^ s := Nat.pow_pos (by decide)
  generalize 2 ^ s = P at *
  generalize 2 ^ (32 - s) = m at *
  have h1 : (x + y * 4294967296) / P = x / P + m * y := by
    rw [← hp, show y * (P * m) = P * (m * y) by ac_rfl, Nat.add_mul_div_left _ _ hP]
  have h2 : x / P < m := by rw [Nat.div_lt_iff_lt_mul hP, Nat.mul_comm, hp]; exact hx
  have h3 : m * y = 4294967296 * (y / P) + m * (y % P) := by
    have h4 := Nat.div_add_mod y P
    calc m * y = m * (P * (y / P) + y % P) := by rw [h4]
      _ = 4294967296 * (y / P) + m * (y % P) := by rw [Nat.mul_add, ← Nat.mul_assoc, Nat.mul_comm m P, hp]
  have h5 : m * (y % P) + m ≤ 4294967296 := by
    have := Nat.mod_lt y hP
    have h6 : m * (y % P + 1) ≤ m * P := Nat.mul_le_mul_left _ this
    rw [Nat.mul_add, Nat.mul_one, Nat.mul_comm m P, hp] at h6
    exact h6
  have h7 : ((x + y * 4294967296) / P) % 4294967296 = x / P + m * (y % P) := by
    rw [h1, h3, show x / P + (4294967296 * (y / P) + m * (y % P)) = x / P + m * (y % P) + 4294967296 * (y / P) by omega, Nat.add_mul_mod_self_left, Nat.mod_eq_of_lt (by omega)]
  rw [h7, Nat.mul_add, ← Nat.mul_assoc, hp]
  have := Nat.div_add_mod x P
  omega
structure DownAt (A X : List Nat) (s k : Nat) : Prop where
  len : X.length = A.length
  dig : Dig X
  rest : ∀ j, k ≤ j → X.getD j 0 = A.getD j 0
  eq : 2 ^ s * val (X.take k) + A.getD 0 0 % 2 ^ s = val (A.take k) + BB ^ k * (A.getD k 0 % 2 ^ s)
theorem DownAt.step {A X : List Nat} {s k x y z : Nat} (h : DownAt A X s k) (hk : k < A.length) (hx : A.getD k 0 = x) (hy : A.getD (k + 1) 0 = y) (hz : z < 4294967296) (he : 2 ^ s * z + x % 2 ^ s = x + 4294967296 * (y % 2 ^ s)) : DownAt A (X.set k z) s (k + 1) := by
  refine ⟨by rw [List.length_set]; exact h.len, h.dig.set _ _ hz, fun j hj => by rw [getD_set, if_neg (by omega)]; exact h.rest j (by omega), ?_⟩
  rw [val_take_set (by rw [h.len]; exact hk), val_take_succ hk, hx, hy, Nat.mul_add]
  have e := h.eq
  rw [hx] at e
  have e2 : BB ^ k * (2 ^ s * z + x % 2 ^ s) = BB ^ k * (x + 4294967296 * (y % 2 ^ s)) := by rw [he]
  rw [Nat.mul_add, Nat.mul_add, ← BB_eq, ← Nat.mul_assoc (BB ^ k) BB, show BB ^ k * BB = BB ^ (k + 1) by rw [Nat.pow_succ], show BB ^ k * (2 ^ s * z) = 2 ^ s * (BB ^ k * z) by ac_rfl] at e2
  omega
theorem DownAt.done {A X : List Nat} {s : Nat} (h : DownAt A X s A.length) : val X = val A / 2 ^ s := by
  have e := h.eq
  rw [List.take_of_length_le (by rw [h.len]; exact Nat.le_refl _), List.take_length, show A.getD A.length 0 = 0 by rw [List.getD_eq_getElem?_getD, List.getElem?_eq_none (Nat.le_refl _)]; rfl, Nat.zero_mod, Nat.mul_zero, Nat.add_zero] at e
  rw [← e, Nat.mul_add_div (Nat.pow_pos (by decide)), Nat.div_eq_of_lt (Nat.mod_lt _ (Nat.pow_pos (by decide))), Nat.add_zero]
theorem ediv_pow (t s : Nat) : (t : Int) / 2 ^ s = ((t / 2 ^ s : Nat) : Int) := by simp
theorem down_facts {x y s : Nat} (hs : s < 32) (hx : x < 4294967296) (hy : y < 4294967296) : ∃ t v z : Nat, z < 4294967296 ∧ 2 ^ s * z + x % 2 ^ s = x + 4294967296 * (y % 2 ^ s) ∧ IntKind.u64.wrap (x : Int) = (x : Int) ∧ IntKind.u64.wrap (y : Int) = (y : Int) ∧ IntKind.u64.wrap ((y : Int) * 4294967296) = (y : Int) * 4294967296 ∧
    bits BinOp.or IntKind.u64 (x : Int) ((y : Int) * 4294967296) = (t : Int) ∧ (t : Int) / 2 ^ s = (v : Int) ∧ IntKind.u32.wrap (v : Int) = (z : Int) := by
  obtain ⟨z, hz, h1, h2⟩ := down_word (y := y) hs hx
  refine ⟨x + y * 4294967296, (x + y * 4294967296) / 2 ^ s, z, h1, h2, w64_id (by omega), w64_id (by omega), by simp only [w64]; omega, or_hi x y hx hy, ediv_pow _ _, ?_⟩
  rw [hz]
  generalize (x + y * 4294967296) / 2 ^ s = v
  simp only [w32]
  omega
theorem down_facts0 {x s : Nat} (hs : s < 32) (hx : x < 4294967296) : ∃ v z : Nat, z < 4294967296 ∧ 2 ^ s * z + x % 2 ^ s = x + 4294967296 * (0 % 2 ^ s) ∧ IntKind.u64.wrap (x : Int) = (x : Int) ∧ (x : Int) / 2 ^ s = (v : Int) ∧ IntKind.u32.wrap (v : Int) = (z : Int) := by
  obtain ⟨z, hz, h1, h2⟩ := down_word (x := x) (y := 0) hs hx
  rw [Nat.zero_mul, Nat.add_zero] at hz
  refine ⟨x / 2 ^ s, z, h1, h2, w64_id (by omega), ediv_pow _ _, ?_⟩
  rw [hz]
  generalize x / 2 ^ s = v
  simp only [w32]
  omega
set_option maxHeartbeats 3200000 in
theorem down_any (p : Option Addr) (n c base s : Nat) (A : List Nat) (w : World) (hn : n = A.length) (hp : WO w base (.slice p n c) A) (hl : n ≤ 100000) (dA : Dig A) (hs : s < 32) :
    Calls Try.prog 116 #[.slice p n c, .int .u64 s] w fun e w' => e = .returned (.slice p (wd (val A / 2 ^ s)).length c) ∧ WO w' base (.slice p (wd (val A / 2 ^ s)).length c) (wd (val A / 2 ^ s)) ∧ w.grownBy w' (Value.slice p n c).ownBlock := by
  subst hn
  have HDA := hide_ dA
  have H0 := hide_ hp
  have HCP := hide_ hp.cap
  clear hp dA
  go_enter Try.func116, Try.ntmps116
  go_wp2
  go_loopw [9] (fun i wr => ∃ k : Nat, k ≤ A.length ∧ i = .int .i64 k ∧ Hid (∃ X, DownAt A X s k ∧ WO wr base (.slice p A.length c) X) ∧ Hid (w.grownBy wr (Value.slice p A.length c).ownBlock)) (fun i _ => A.length - (intOf i).toNat)
  case atStart => exact ⟨0, by omega, rfl, hide_ ⟨A, ⟨rfl, HDA.out, fun _ _ => rfl, by simp [val_nil]⟩, H0.out⟩, hide_ (World.grownBy.refl _ _)⟩
  case round =>
    obtain ⟨k, hk, rfl, HX, HG⟩ := hrel
    obtain ⟨X, hX, hO⟩ := HX.out
    have hXl := hX.len
    by_cases hlt : k < A.length
    · rw [← hXl] at hO
      obtain ⟨g, rfl, hg1, hg2, hce, hfr⟩ := hO.blk (by omega)
      have e0 := hce k (by omega)
      have f0 := hfr k
      obtain ⟨k1, hk1⟩ : ∃ k1, k1 = k + 1 := ⟨_, rfl⟩
      have hwk : IntKind.i64.wrap ((k : Int) + 1) = (k1 : Int) := by rw [hk1, IntWalk.i64_in _ (by omega)]; omega
      have hx := HDA.out.getD k
      rw [BB_eq] at hx
      rw [hX.rest k (Nat.le_refl _)] at e0
      have i4 : (0 : Int) ≤ (k : Int) := by omega
      have i5 : (k : Int) < (A.length : Int) := by omega
      have i7 : (0 : Int) ≤ (k1 : Int) := by omega
      have HS := hide_ (fun z => hO.set k z)
      have HLT := hide_ hlt
      have HXL := hide_ hXl
      have HK1 := hide_ hk1
      by_cases hk2 : k1 < A.length
      · have e1 := hce k1 (by omega)
        rw [hX.rest k1 (by omega)] at e1
        have hy := HDA.out.getD k1
        rw [BB_eq] at hy
        have HSTEP := hide_ (fun z h1 h2 => hX.step (z := z) hlt rfl rfl h1 h2)
        rw [← hk1] at HSTEP
        have i8 : (k1 : Int) < (A.length : Int) := by omega
        clear hce hfr hO hX hk1 hXl
        generalize A.getD k 0 = x at *
        generalize A.getD k1 0 = y at *
        obtain ⟨t, v, z, q1, q2, q3, q4, q5, q6, q7, q8⟩ := down_facts hs hx hy
        have HST := hide_ (HSTEP.out z q1 q2)
        clear HSTEP q1 q2
        go_wp2
        exact ⟨⟨k1, by have := HK1.out; have := HLT.out; omega, by simp, hide_ ⟨_, HST.out, by have h := (HS.out z).1; rwa [HXL.out] at h⟩, hide_ (grown_trans HG.out (HS.out z).2)⟩, by have := HK1.out; have := HLT.out; simp [intOf]; omega⟩
      · have i8 : ¬ (k1 : Int) < (A.length : Int) := by omega
        have hy0 : A.getD (k + 1) 0 = 0 := by rw [List.getD_eq_getElem?_getD, List.getElem?_eq_none (by omega)]; rfl
        have HSTEP := hide_ (fun z h1 h2 => hX.step (z := z) hlt rfl hy0 h1 h2)
        rw [← hk1] at HSTEP
        clear hce hfr hO hX hk1 hXl hy0
        generalize A.getD k 0 = x at *
        obtain ⟨v, z, q1, q2, q3, q7, q8⟩ := down_facts0 hs hx
        have HST := hide_ (HSTEP.out z q1 q2)
        clear HSTEP q1 q2
        go_wp2
        exact ⟨⟨k1, by have := HK1.out; have := HLT.out; omega, by simp, hide_ ⟨_, HST.out, by have h := (HS.out z).1; rwa [HXL.out] at h⟩, hide_ (grown_trans HG.out (HS.out z).2)⟩, by have := HK1.out; have := HLT.out; simp [intOf]; omega⟩
    · have hkk : k = A.length := by omega
      subst hkk
      have hge : ¬ A.length < A.length := hlt
      have hO2 := hO
      rw [← hXl] at hO2
      have hXc : cutL X = wd (val A / 2 ^ s) := by rw [cutL_wd hX.dig, hX.done]
      have hO3 := hO2.cutL
      have HC := hide_ (cut_any p A.length c X wr hXl.symm hO2.wl HCP.out (by omega))
      rw [hXc] at HC hO3
      have H3 := hide_ hO3
      clear hO2 hO3 hXc hO hX hXl
      go_wp2_with (go_at_call 92; go_must ((with_reducible refine (HC.out).mono ?_); rintro e w1 ⟨rfl, rfl⟩))
      go_ret
      exact ⟨by simp, H3.out, HG.out⟩
end Go.Proofs.Ytcibbnphkpaifaa

namespace Go.Proofs.Ytcibbnphkpaifaa
open Go.RowKit
set_option linter.unusedVariables false
set_option maxRecDepth 100000
/-- A stretch of a list. -/
def seg (X : List Nat) (i k : Nat) : List Nat := (X.drop i).take k
theorem seg_zero (X : List Nat) (i : Nat) : seg X i 0 = [] := rfl
theorem seg_len {X : List Nat} {i k : Nat} (h : i + k ≤ X.length) : (seg X i k).length = k := by unfold seg; rw [List.length_take, List.length_drop]; omega
theorem seg_getD {X : List Nat} {i k j : Nat} (h : j < k) : (seg X i k).getD j 0 = X.getD (i + j) 0 := by
  unfold seg
  rw [List.getD_eq_getElem?_getD, List.getElem?_take_of_lt h, List.getElem?_drop, ← List.getD_eq_getElem?_getD]
theorem seg_succ {X : List Nat} {i k : Nat} (h : i + k < X.length) : seg X i (k + 1) = seg X i k ++ [X.getD (i + k) 0] := by
  unfold seg
  rw [take_succ_getD (by rw [List.length_drop]; omega)]
  congr 1
  rw [List.getD_eq_getElem?_getD, List.getElem?_drop, ← List.getD_eq_getElem?_getD]
theorem val_seg_succ {X : List Nat} {i k : Nat} (h : i + k < X.length) : val (seg X i (k + 1)) = val (seg X i k) + BB ^ k * X.getD (i + k) 0 := by
  rw [seg_succ h, val_snoc, seg_len (by omega)]
theorem seg_set_far {X : List Nat} {i k x : Nat} : seg (X.set (i + k) x) i k = seg X i k := by
  unfold seg
  rw [List.drop_set, if_neg (by omega), show i + k - i = k by omega, List.take_set_of_le (Nat.le_refl k)]
theorem val_seg_set {X : List Nat} {i k x : Nat} (h : i + k < X.length) : val (seg (X.set (i + k) x) i (k + 1)) = val (seg X i k) + BB ^ k * x := by
  rw [val_seg_succ (by rw [List.length_set]; exact h), seg_set_far, getD_set, if_pos ⟨rfl, h⟩]
theorem Dig.seg {X : List Nat} (h : Dig X) (i k : Nat) : Dig (seg X i k) := (h.drop i).take k
theorem off_sub (u low b : Nat) (hu : u < 4294967296) (hl : low < 4294967296) (hb : b ≤ 1) :
    ∃ (z b' : Nat) (e1 e2 : Int), z < 4294967296 ∧ b' ≤ 1 ∧ z + low + b = u + b' * 4294967296 ∧ IntKind.u64.wrap ((u : Int) - (low : Int)) = e1 ∧ IntKind.u64.wrap (e1 - (b : Int)) = e2 ∧ IntKind.u32.wrap e2 = (z : Int) ∧ e2 / 9223372036854775808 = (b' : Int) := by
  refine ⟨(IntKind.u32.wrap (IntKind.u64.wrap (IntKind.u64.wrap ((u : Int) - (low : Int)) - (b : Int)))).toNat, (IntKind.u64.wrap (IntKind.u64.wrap ((u : Int) - (low : Int)) - (b : Int)) / 9223372036854775808).toNat, _, _, ?_, ?_, ?_, rfl, rfl, ?_, ?_⟩
  all_goals simp only [w64, w32]; omega
theorem off_mul (c q v : Nat) (hc : c < 4294967296) (hq : q < 4294967296) (hv : v < 4294967296) :
    ∃ m c1 low c' : Nat, low < 4294967296 ∧ c' < 4294967296 ∧ low + 4294967296 * c' = c + q * v ∧ IntKind.u64.wrap (v : Int) = (v : Int) ∧ IntKind.u64.wrap ((q : Int) * (v : Int)) = (m : Int) ∧ IntKind.u64.wrap ((c : Int) + (m : Int)) = (c1 : Int) ∧ IntKind.u32.wrap (c1 : Int) = (low : Int) ∧ IntKind.u64.wrap (low : Int) = (low : Int) ∧ (c1 : Int) / 4294967296 = (c' : Int) := by
  have h1 : q * v ≤ 4294967295 * 4294967295 := Nat.mul_le_mul (by omega) (by omega)
  have h2 : ((q : Int) * (v : Int)) = ((q * v : Nat) : Int) := by simp
  rw [h2]
  generalize q * v = m at *
  refine ⟨m, c + m, (c + m) % 4294967296, (c + m) / 4294967296, ?_, ?_, ?_, ?_, ?_, ?_, ?_, ?_, ?_⟩
  all_goals (try simp only [w64, w32]); omega
structure OffAt (U V X : List Nat) (q i k c b : Nat) : Prop where
  len : X.length = U.length
  dig : Dig X
  rest : ∀ j, j < i ∨ i + k ≤ j → X.getD j 0 = U.getD j 0
  car : c < 4294967296
  bor : b ≤ 1
  last : V.length < k → c = 0
  eq : val (seg X i k) + q * val (V.take k) = val (seg U i k) + (c + b) * BB ^ k
theorem OffAt.step {U V X : List Nat} {q i k c b u v low c' z b' : Nat} (h : OffAt U V X q i k c b) (hk : i + k < U.length) (hu : U.getD (i + k) 0 = u) (hV : val (V.take (k + 1)) = val (V.take k) + BB ^ k * v) (hc : low + 4294967296 * c' = c + q * v) (hc' : c' < 4294967296) (hlast : V.length < k + 1 → c' = 0) (hz : z < 4294967296) (hb' : b' ≤ 1) (he : z + low + b = u + b' * 4294967296) : OffAt U V (X.set (i + k) z) q i (k + 1) c' b' := by
  refine ⟨by rw [List.length_set]; exact h.len, h.dig.set _ _ hz, fun j hj => by rw [getD_set, if_neg (by omega)]; exact h.rest j (by omega), hc', hb', hlast, ?_⟩
  rw [val_seg_set (by rw [h.len]; exact hk), val_seg_succ hk, hV, hu]
  have e1 := h.eq
  have e2 : BB ^ k * (z + q * v + (c + b)) = BB ^ k * (u + (c' + b') * 4294967296) := by congr 1; omega
  rw [Nat.mul_add, Nat.mul_add, Nat.mul_add (BB ^ k) u, pow_carry, Nat.mul_comm (BB ^ k) (c + b), show BB ^ k * (q * v) = q * (BB ^ k * v) by ac_rfl] at e2
  rw [Nat.mul_add]
  omega
set_option maxHeartbeats 3200000 in
theorem off_any (g i L cc c m d base N : Nat) (q0 : Option Addr) (U V : List Nat) (q : Nat) (w : World) (hN : N = U.length) (hm : m = V.length) (hL : L = m + 1) (hp : WO w base (.slice (some ⟨g, 0, none⟩) N cc) U) (hV : WL w q0 V) (ho : OffW q0 V (some g)) (hi : i + L ≤ N) (hs : N ≤ 100000) (dU : Dig U) (dV : Dig V) (hq : q < 4294967296) :
    Calls Try.prog 114 #[.slice (some ⟨g, i, none⟩) L c, .slice q0 m d, .int .u64 q] w fun e w' => ∃ X b, e = .returned (.bool (decide (b = 1))) ∧ OffAt U V X q i L 0 b ∧ WO w' base (.slice (some ⟨g, 0, none⟩) N cc) X ∧ w.grownBy w' (some g) := by
  subst hN hm hL
  have HV := hide_ (fun W (h : w.grownBy W (some g)) => hV.keptW h ho)
  have HDU := hide_ dU
  have HDV := hide_ dV
  have H0 := hide_ hp
  clear hp hV ho dU dV
  obtain ⟨L, hL⟩ : ∃ L, L = V.length + 1 := ⟨_, rfl⟩
  rw [← hL]
  rw [← hL] at hi
  have HL := hide_ hL
  have hvl : V.length < L := by omega
  clear hL
  go_enter Try.func114, Try.ntmps114
  go_wp2
  go_loopw [7, 8, 13] (fun x y j wr => ∃ k cr b : Nat, k ≤ L ∧ j = .int .i64 k ∧ x = .int .u64 cr ∧ y = .int .u64 b ∧ Hid (∃ X, OffAt U V X q i k cr b ∧ WO wr base (.slice (some ⟨g, 0, none⟩) U.length cc) X) ∧ Hid (w.grownBy wr (some g))) (fun _ _ j _ => L - (intOf j).toNat)
  case atStart => exact ⟨0, 0, 0, by omega, rfl, rfl, rfl, hide_ ⟨U, ⟨rfl, HDU.out, fun _ _ => rfl, by omega, by omega, fun h => by omega, by simp [seg_zero, val_nil]⟩, H0.out⟩, hide_ (World.grownBy.refl _ _)⟩
  case round =>
    obtain ⟨k, cr, b, hk, rfl, rfl, rfl, HX, HG⟩ := hrel
    obtain ⟨X, hX, hO⟩ := HX.out
    have hXl := hX.len
    by_cases hlt : k < L
    · rw [← hXl] at hO
      obtain ⟨_, eg, hg1, hg2, hce, hfr⟩ := hO.blk (by omega)
      cases eg
      have e0 := hce (i + k) (by omega)
      have f0 := hfr (i + k)
      have hu := HDU.out.getD (i + k)
      rw [BB_eq] at hu
      rw [hX.rest (i + k) (by omega)] at e0
      have i4 : (0 : Int) ≤ (k : Int) := by omega
      have i5 : (k : Int) < (L : Int) := by omega
      have HS := hide_ (fun z => hO.set (i + k) z)
      have HLT := hide_ hlt
      have HXL := hide_ hXl
      have HB := hX.bor
      have hcr := hX.car
      have HLX := hide_ hX
      have HIK : Hid (i + k < U.length) := hide_ (by omega)
      clear hce hfr hO hX
      by_cases hkV : k < V.length
      · obtain ⟨g2, o2, rfl, _, hce2⟩ := (HV.out _ HG.out).some_ (by omega)
        have e1 := hce2 k hkV
        have hv := HDV.out.getD k
        rw [BB_eq] at hv
        have j5 : (k : Int) < (V.length : Int) := by omega
        have HSTEP := hide_ (fun low c' z b' h1 h2 h3 h4 h5 => HLX.out.step (u := U.getD (i + k) 0) (v := V.getD k 0) (low := low) (c' := c') (z := z) (b' := b') HIK.out rfl (val_take_succ hkV) h1 h2 (fun h => by omega) h3 h4 h5)
        clear hce2 hXl
        generalize U.getD (i + k) 0 = u at *
        generalize V.getD k 0 = v at *
        obtain ⟨mm, c1, low, c', q1, q2, q3, q4, q5, q6, q7, q8, q9⟩ := off_mul cr q v hcr hq hv
        obtain ⟨z, b', u1, u2, r1, r2, r3, r4, r5, r6, r7⟩ := off_sub u low b hu q1 HB
        have HST := hide_ (HSTEP.out low c' z b' q3 q2 r1 r2 r3)
        have hwu := w64_id (n := u) (by omega)
        clear HSTEP q1 q2 q3 r1 r2 r3
        go_wp2
        exact ⟨⟨k + 1, c', b', HLT.out, by simp, rfl, rfl, hide_ ⟨_, HST.out, by have h := (HS.out z).1; rwa [HXL.out] at h⟩, hide_ (grown_trans HG.out (HS.out z).2)⟩, by have := HLT.out; simp [intOf]; omega⟩
      · have j5 : ¬ (k : Int) < (V.length : Int) := by omega
        have hV0 : val (V.take (k + 1)) = val (V.take k) + BB ^ k * 0 := by rw [Nat.mul_zero, Nat.add_zero]; exact val_take_past (by omega)
        have HSTEP := hide_ (fun z b' h3 h4 h5 => HLX.out.step (u := U.getD (i + k) 0) (v := 0) (low := cr) (c' := 0) (z := z) (b' := b') HIK.out rfl hV0 (by omega) (by omega) (fun _ => rfl) h3 h4 h5)
        clear hV0 hXl
        generalize U.getD (i + k) 0 = u at *
        obtain ⟨z, b', u1, u2, r1, r2, r3, r4, r5, r6, r7⟩ := off_sub u cr b hu hcr HB
        have HST := hide_ (HSTEP.out z b' r1 r2 r3)
        have hwu := w64_id (n := u) (by omega)
        have hwc := w32_id (n := cr) hcr
        have hwc2 := w64_id (n := cr) (by omega)
        have hdc : (cr : Int) / 4294967296 = ((0 : Nat) : Int) := by omega
        clear HSTEP r1 r2 r3
        go_wp2
        exact ⟨⟨k + 1, 0, b', HLT.out, by simp, rfl, rfl, hide_ ⟨_, HST.out, by have h := (HS.out z).1; rwa [HXL.out] at h⟩, hide_ (grown_trans HG.out (HS.out z).2)⟩, by have := HLT.out; simp [intOf]; omega⟩
    · have hkk : k = L := by omega
      subst hkk
      have hge : ¬ k < k := hlt
      have hc0 := hX.last (by omega)
      subst hc0
      have HXX := hide_ hX
      have HOO := hide_ hO
      have hb := hX.bor
      clear hX hO hXl
      rcases (show b = 0 ∨ b = 1 by omega) with rfl | rfl
      · go_wp2
        go_ret
        exact ⟨X, 0, by simp, HXX.out, HOO.out, HG.out⟩
      · go_wp2
        go_ret
        exact ⟨X, 1, by simp, HXX.out, HOO.out, HG.out⟩
end Go.Proofs.Ytcibbnphkpaifaa

