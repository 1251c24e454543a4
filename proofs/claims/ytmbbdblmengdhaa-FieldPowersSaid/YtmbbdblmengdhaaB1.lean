/- The walk's rules, an operation each, in a region in the text's order and in one that draws its order. -/
import Derived.Test.YtmbbdblmengdhaaB0
import Derived.Shelf.Abstract
import Derived.Lib.Hide
set_option linter.unusedSimpArgs false
set_option linter.unusedVariables false
namespace Go.Proofs.Ytmbbdblmengdhaa
open Go.RowKit

class CanEnter (f : FuncId) : Prop where
  enter : Enters Try.prog f
instance : CanEnter 18 := ⟨enters_of Try.func18 (by kernel_rfl) rfl⟩
instance : CanEnter 19 := ⟨enters_of Try.func19 (by kernel_rfl) rfl⟩
instance : CanEnter 20 := ⟨enters_of Try.func20 (by kernel_rfl) rfl⟩
instance : CanEnter 21 := ⟨enters_of Try.func21 (by kernel_rfl) rfl⟩
instance : CanEnter 22 := ⟨enters_of Try.func22 (by kernel_rfl) rfl⟩
instance : CanEnter 23 := ⟨enters_of Try.func23 (by kernel_rfl) rfl⟩
instance : CanEnter 24 := ⟨enters_of Try.func24 (by kernel_rfl) rfl⟩
instance : CanEnter 25 := ⟨enters_of Try.func25 (by kernel_rfl) rfl⟩
instance : CanEnter 26 := ⟨enters_of Try.func26 (by kernel_rfl) rfl⟩
instance : CanEnter 27 := ⟨enters_of Try.func27 (by kernel_rfl) rfl⟩
instance : CanEnter 28 := ⟨enters_of Try.func28 (by kernel_rfl) rfl⟩
instance : CanEnter 29 := ⟨enters_of Try.func29 (by kernel_rfl) rfl⟩
instance : CanEnter 30 := ⟨enters_of Try.func30 (by kernel_rfl) rfl⟩
instance : CanEnter 31 := ⟨enters_of Try.func31 (by kernel_rfl) rfl⟩
instance : CanEnter 32 := ⟨enters_of Try.func32 (by kernel_rfl) rfl⟩
instance : CanEnter 33 := ⟨enters_of Try.func33 (by kernel_rfl) rfl⟩
instance : CanEnter 34 := ⟨enters_of Try.func34 (by kernel_rfl) rfl⟩
instance : CanEnter 35 := ⟨enters_of Try.func35 (by kernel_rfl) rfl⟩
instance : CanEnter 36 := ⟨enters_of Try.func36 (by kernel_rfl) rfl⟩
instance : CanEnter 37 := ⟨enters_of Try.func37 (by kernel_rfl) rfl⟩
instance : CanEnter 38 := ⟨enters_of Try.func38 (by kernel_rfl) rfl⟩
instance : CanEnter 39 := ⟨enters_of Try.func39 (by kernel_rfl) rfl⟩
instance : CanEnter 40 := ⟨enters_of Try.func40 (by kernel_rfl) rfl⟩
instance : CanEnter 41 := ⟨enters_of Try.func41 (by kernel_rfl) rfl⟩
instance : CanEnter 42 := ⟨enters_of Try.func42 (by kernel_rfl) rfl⟩
instance : CanEnter 43 := ⟨enters_of Try.func43 (by kernel_rfl) rfl⟩
instance : CanEnter 44 := ⟨enters_of Try.func44 (by kernel_rfl) rfl⟩
instance : CanEnter 45 := ⟨enters_of Try.func45 (by kernel_rfl) rfl⟩
instance : CanEnter 46 := ⟨enters_of Try.func46 (by kernel_rfl) rfl⟩
instance : CanEnter 47 := ⟨enters_of Try.func47 (by kernel_rfl) rfl⟩
instance : CanEnter 48 := ⟨enters_of Try.func48 (by kernel_rfl) rfl⟩
instance : CanEnter 49 := ⟨enters_of Try.func49 (by kernel_rfl) rfl⟩
instance : CanEnter 50 := ⟨enters_of Try.func50 (by kernel_rfl) rfl⟩
instance : CanEnter 51 := ⟨enters_of Try.func51 (by kernel_rfl) rfl⟩
instance : CanEnter 53 := ⟨enters_of Try.func53 (by kernel_rfl) rfl⟩
instance : CanEnter 54 := ⟨enters_of Try.func54 (by kernel_rfl) rfl⟩
instance : CanEnter 55 := ⟨enters_of Try.func55 (by kernel_rfl) rfl⟩
instance : CanEnter 56 := ⟨enters_of Try.func56 (by kernel_rfl) rfl⟩
instance : CanEnter 57 := ⟨enters_of Try.func57 (by kernel_rfl) rfl⟩
instance : CanEnter 58 := ⟨enters_of Try.func58 (by kernel_rfl) rfl⟩
instance : CanEnter 59 := ⟨enters_of Try.func59 (by kernel_rfl) rfl⟩
instance : CanEnter 60 := ⟨enters_of Try.func60 (by kernel_rfl) rfl⟩
instance : CanEnter 61 := ⟨enters_of Try.func61 (by kernel_rfl) rfl⟩
instance : CanEnter 62 := ⟨enters_of Try.func62 (by kernel_rfl) rfl⟩
instance : CanEnter 63 := ⟨enters_of Try.func63 (by kernel_rfl) rfl⟩
instance : CanEnter 64 := ⟨enters_of Try.func64 (by kernel_rfl) rfl⟩
instance : CanEnter 65 := ⟨enters_of Try.func65 (by kernel_rfl) rfl⟩

/-- What a composite literal gives. -/
structure Built (t : TypeId) (ps : List (Nat × Value)) (cells : Array Value) : Prop where
  eq : Try.prog.built t ps = some cells
/-- A function's contract: it returns v, and nothing that was there has turned. -/
structure Ret (f : FuncId) (args : Array Value) (v : Value) : Prop where
  calls : ∀ w, Calls Try.prog f args w fun e w' => e = .returned v ∧ Below w.heap.size w w'
/-- The same, of worlds in which the call's maker has these blocks. -/
structure RetH (W : Base) (bs : List Blk) (f : FuncId) (args : Array Value) (v : Value) : Prop where
  calls : ∀ w, Has W w bs → Calls Try.prog f args w fun e w' => e = .returned v ∧ Below w.heap.size w w'

/-- Arrays of one-cell elements, of n elements. -/
class ArrT (t : TypeId) (n : outParam Nat) : Prop where
  arr : ∃ e, Try.prog.underlying t = some (.array n e) ∧ OneT e
instance : ArrT 29 5 := ⟨_, Try.underlying29, inferInstance⟩
instance : ArrT 22 32 := ⟨_, Try.underlying22, inferInstance⟩
instance : ArrT 23 32 := ⟨_, Try.underlying23, inferInstance⟩
instance : ArrT 34 16 := ⟨_, Try.underlying34, inferInstance⟩
instance : ArrT 35 16 := ⟨_, Try.underlying35, inferInstance⟩
instance : ArrT 87 4 := ⟨_, Try.underlying87, inferInstance⟩

/-- Arrays of n elements of sz cells. -/
class ArrA (t : TypeId) (n : outParam Nat) (sz : outParam Nat) : Prop where
  arr : ∃ e, Try.prog.underlying t = some (.array n e) ∧ (Try.prog.info? e).map (·.size) = some sz ∧ 2 ≤ n
instance : ArrA 29 5 1 := ⟨_, Try.underlying29, by kernel_rfl, by omega⟩
instance : ArrA 22 32 1 := ⟨_, Try.underlying22, by kernel_rfl, by omega⟩
instance : ArrA 23 32 1 := ⟨_, Try.underlying23, by kernel_rfl, by omega⟩
instance : ArrA 35 16 1 := ⟨_, Try.underlying35, by kernel_rfl, by omega⟩
instance : ArrA 78 32 1 := ⟨_, Try.underlying78, by kernel_rfl, by omega⟩
instance : ArrA 73 5 2 := ⟨_, Try.underlying73, by kernel_rfl, by omega⟩
instance : ArrA 93 2 10 := ⟨_, Try.underlying93, by kernel_rfl, by omega⟩

section ex
variable {a : Act} {o : Oper} {w : World} {W : Base} {bs : List Blk}

theorem ex_move {x : Operand} {v : Value} (ho : o.op = .move x) (hx : a.eval x = v) (w : World) : (execOp a.eval o).run Try.prog w = .ok (.value v) w := by
  unfold execOp; simp only [ho, hx, Sem.run_pure]
theorem ex_assign {x : Operand} {v : Value} (ho : o.op = .assign x) (hx : a.eval x = v) (w : World) : (execOp a.eval o).run Try.prog w = .ok (.value v) w := by
  unfold execOp; simp only [ho, hx, Sem.run_pure]
theorem ex_pick {c x y : Operand} {b : Bool} {v : Value} (ho : o.op = .pick c x y) (hc : a.eval c = .bool b) (hv : (if b then a.eval x else a.eval y) = v) (w : World) :
    (execOp a.eval o).run Try.prog w = .ok (.value v) w := by
  unfold execOp; simp only [ho, hc, asBool, Sem.run_bind, Sem.run_pure, Result.andThen_ok, hv]
theorem ex_load (i : Nat) {t : TypeId} {p : Operand} (ho : o.op = .load t p) [hs : OneT t] {b off : Nat} (hp : a.eval p = .pointer (some ⟨b, off, none⟩))
    (hH : Has W w bs) {cs : Array Value} {T : TypeId} (hb : bs[i]? = some (b, cs, T)) {v : Value} (hv : cs[off]? = some v) : (execOp a.eval o).run Try.prog w = .ok (.value v) w := by
  have hc : w.cell? ⟨b, off, none⟩ = some v := by rw [cell_of_row w b off cs T (0, 0) (hH.get hb)]; exact hv
  unfold execOp
  simp only [ho, hp, Instr.loadAt, Instr.sureAddr, loadVar, Sem.run_bind, Sem.run_pure, Result.andThen_ok, hs.agg w, Bool.false_eq_true, if_false, run_load, hc]
theorem ex_loadrow (i : Nat) {t : TypeId} {p : Operand} (ho : o.op = .load t p) {b off : Nat} (hp : a.eval p = .pointer (some ⟨b, off, none⟩))
    (hH : Has W w bs) {cs : Array Value} {T : TypeId} (hb : bs[i]? = some (b, cs, T)) {n : Nat} [hr : RowT t n] {cs' : Array Value} (hc : cs.extract off (off + n) = cs') (hn : cs'.size = n) :
    (execOp a.eval o).run Try.prog w = .ok (.value (.agg cs')) w := by
  obtain ⟨d, hu, hd⟩ := hr.row
  have hra : w.rangeAt b off cs'.toList := by
    intro j v hv
    rw [cell_of_row w b (off + j) cs T (0, 0) (hH.get hb)]
    subst hc
    simp only [Array.getElem?_toList, Array.getElem?_extract] at hv
    split at hv
    · exact hv
    · cases hv
  unfold execOp
  have := run_loadVar_mid (P := Try.prog) w b off t cs'.toList d hra hu hd (by simp [hr.size, hn])
  simp only [ho, hp, Instr.loadAt, Instr.sureAddr, Sem.run_bind, Sem.run_pure, Result.andThen_ok, this, Array.toArray_toList]
theorem ex_loadC (i : Nat) {t : TypeId} {p : Operand} (ho : o.op = .load t p) {b : Nat} (hp : a.eval p = .pointer (some ⟨b, 0, none⟩))
    (hH : Has W w bs) {k : IntKind} {l : List Nat} {T : TypeId} (hb : bs[i]? = some (b, C k l, T)) {n : Nat} [hr : RowT t n] (hn : l.length = n) :
    (execOp a.eval o).run Try.prog w = .ok (.value (.agg (C k l))) w :=
  ex_loadrow i ho hp hH hb (cs' := C k l) (by have := C_size k l; simp; omega) (by rw [C_size, hn])

theorem ex_call {c : Call} {f : FuncId} (ho : o.op = .call c) (hc : c.callee = .value (.func f)) [he : CanEnter f] (w : World) :
    (execOp a.eval o).run Try.prog w = .ok (.enter f (c.args.map a.eval)) w := by
  unfold execOp
  simp only [ho, resolve, hc, Act.eval, Deferred.ofValue, invoke, Sem.run_bind, Sem.run_pure, Result.andThen_ok, Array.append_empty]
  rw [he.enter]; simp
theorem ex_build {t : TypeId} {pl : List (Nat × Operand)} (ho : o.op = .build t pl.toArray) {cells : Array Value} (h : Built t (pl.map fun p => (p.1, a.eval p.2)) cells) (w : World) :
    (execOp a.eval o).run Try.prog w = .ok (.value (.agg cells)) w := by
  unfold execOp
  have e : (pl.toArray.map fun p => (p.1, a.eval p.2)).toList = pl.map fun p => (p.1, a.eval p.2) := by simp
  simp only [ho, Sem.run_bind, run_build w t (pl.toArray.map fun p => (p.1, a.eval p.2)) cells (by rw [e]; exact h.eq), Result.andThen_ok, Sem.run_pure]
theorem ex_index {t : TypeId} {x i : Operand} (ho : o.op = .index t x i) {n : Nat} [ht : ArrT t n] {k : IntKind} {l : List Nat} (hx : a.eval x = .agg (C k l)) {ik : IntKind} {j : Nat} (hi : a.eval i = .int ik (j : Int)) (hj : j < n) (hl : l.length = n) (w : World) :
    (execOp a.eval o).run Try.prog w = .ok (.value (.int k (l.getD j 0 : Nat))) w := by
  obtain ⟨e, hu, he⟩ := ht.arr
  have hs : (sizeOf e).run Try.prog w = .ok 1 w := by
    have hi := he.size
    cases hq : Try.prog.info? e with
    | none => simp [hq] at hi
    | some it => simp [hq] at hi; simp [sizeOf, typeInfo, hq, hi]
  have hg : (C k l)[j]? = some (.int k (l.getD j 0 : Nat)) := C_get (by omega)
  unfold execOp
  simp only [ho, hx, hi, Instr.index, asIntOf, Sem.run_bind, Sem.run_pure, Result.andThen_ok, run_underlying hu]
  have h0 : (0 : Int) ≤ (j : Int) ∧ (j : Int) < (n : Int) := by omega
  simp only [h0, and_self, if_true, part, Sem.run_bind, hs, Result.andThen_ok, he.agg w, Bool.false_eq_true, if_false, Int.toNat_natCast, Nat.mul_one, hg, Sem.run_pure]

theorem ex_conv {src dst : TypeId} {x : Operand} (ho : o.op = .convert src dst x) {k k' : IntKind} {z : Int} (hx : a.eval x = .int k' z) (hs : ∃ d, Try.prog.underlying src = some d) (hd : Try.prog.underlying dst = some (.int k)) {v : Int} (hv : k.wrap z = v) (w : World) :
    (execOp a.eval o).run Try.prog w = .ok (.value (.int k v)) w := by
  obtain ⟨d, hs⟩ := hs
  unfold execOp
  simp only [ho, hx, convert, Sem.run_bind, run_underlying hs, run_underlying hd, Result.andThen_ok, Conv.intToInt, Sem.run_pure, hv]
theorem ex_conv_u64_i64 {x : Operand} (ho : o.op = .convert 3 28 x) {m : Nat} (hx : a.eval x = .int .i64 (m : Int)) (hm : m < 18446744073709551616) (w : World) :
    (execOp a.eval o).run Try.prog w = .ok (.value (.int .u64 (m : Int))) w := ex_conv ho hx ⟨_, Try.underlying3⟩ Try.underlying28 (by rw [wrap_u64, Nat.mod_eq_of_lt hm]) w
theorem ex_conv_u8_u64 {x : Operand} (ho : o.op = .convert 28 5 x) {m : Nat} (hx : a.eval x = .int .u64 (m : Int)) (w : World) :
    (execOp a.eval o).run Try.prog w = .ok (.value (.int .u8 ((m % 256 : Nat) : Int))) w := ex_conv ho hx ⟨_, Try.underlying28⟩ Try.underlying5 (wrap_u8 m) w
theorem ex_conv_u8_i64 {x : Operand} (ho : o.op = .convert 3 5 x) {m : Nat} (hx : a.eval x = .int .i64 (m : Int)) (w : World) :
    (execOp a.eval o).run Try.prog w = .ok (.value (.int .u8 ((m % 256 : Nat) : Int))) w := ex_conv ho hx ⟨_, Try.underlying3⟩ Try.underlying5 (wrap_u8 m) w
theorem ex_conv_i64_u8 {x : Operand} (ho : o.op = .convert 5 3 x) {m : Nat} (hx : a.eval x = .int .u8 (m : Int)) (hm : m < 9223372036854775808) (w : World) :
    (execOp a.eval o).run Try.prog w = .ok (.value (.int .i64 (m : Int))) w := ex_conv ho hx ⟨_, Try.underlying5⟩ Try.underlying3 (wrap_i64 m hm) w
theorem ex_ixaddr {t : TypeId} {p i : Operand} (ho : o.op = .indexAddr t p i) {n sz : Nat} [ht : ArrA t n sz] {b off : Nat} (hp : a.eval p = .pointer (some ⟨b, off, none⟩)) {ik : IntKind} {j : Nat} (hi : a.eval i = .int ik (j : Int)) (hj : j < n) (w : World) :
    (execOp a.eval o).run Try.prog w = .ok (.value (.pointer (some ⟨b, off + j * sz, none⟩))) w := by
  obtain ⟨e, hu, hs, hn⟩ := ht.arr
  have hs' : (sizeOf e).run Try.prog w = .ok sz w := by
    cases hq : Try.prog.info? e with
    | none => simp [hq] at hs
    | some it => simp [hq] at hs; simp [sizeOf, typeInfo, hq, hs]
  have h0 : (0 : Int) ≤ (j : Int) ∧ (j : Int) < (n : Int) := by omega
  unfold execOp
  simp only [ho, hp, hi, Instr.indexAt, asIntOf, Sem.run_bind, Sem.run_pure, Result.andThen_ok, run_underlying hu, Instr.sureAddr, h0, and_self, if_true, hs', Int.toNat_natCast, Addr.add_mid]
theorem ex_ixaddr1 {t : TypeId} {p i : Operand} (ho : o.op = .indexAddr t p i) {n : Nat} [ht : ArrA t n 1] {b : Nat} (hp : a.eval p = .pointer (some ⟨b, 0, none⟩)) {ik : IntKind} {j : Nat} (hi : a.eval i = .int ik (j : Int)) (hj : j < n) (w : World) :
    (execOp a.eval o).run Try.prog w = .ok (.value (.pointer (some ⟨b, j, none⟩))) w := by
  have := ex_ixaddr ho hp hi hj w
  rwa [Nat.mul_one, Nat.zero_add] at this
theorem ex_extract {t : Operand} {i : Nat} (ho : o.op = .extract t i) {vs : Array Value} {v : Value} (hx : a.eval t = .tuple vs) (hv : vs[i]? = some v) (w : World) : (execOp a.eval o).run Try.prog w = .ok (.value v) w := by
  unfold execOp; simp [ho, hx, Instr.extract, hv]
end ex

/-! ### In a region that draws its order -/
section wd
variable {ops : Array Oper} {W : Base} {bs : List Blk} {A : Act} {o : Oper} {os : List Oper} {n : Nat} {k : List Oper → Act → Prop}

theorem wd_val (hw : Region.wanted o (yielded ops A.tmps) = true) {v : Value} (hv : ∀ w, (execOp A.eval o).run Try.prog w = .ok (.value v) w)
    (h : wpD ops W bs n k os (A.put o.dst v)) : wpD ops W bs (n + 1) k (o :: os) A :=
  ⟨v, fun w _ => .inl ⟨hw, by rw [hv w]; exact ⟨rfl, Below.refl _ _⟩⟩, h⟩
theorem wd_valH (hw : Region.wanted o (yielded ops A.tmps) = true) {v : Value} (hv : ∀ w, Has W w bs → (execOp A.eval o).run Try.prog w = .ok (.value v) w)
    (h : wpD ops W bs n k os (A.put o.dst v)) : wpD ops W bs (n + 1) k (o :: os) A :=
  ⟨v, fun w hH => .inl ⟨hw, by rw [hv w hH]; exact ⟨rfl, Below.refl _ _⟩⟩, h⟩
theorem wd_skip (hw : Region.wanted o (yielded ops A.tmps) = false) (h : wpD ops W bs n k os (A.put o.dst undef)) : wpD ops W bs (n + 1) k (o :: os) A :=
  ⟨undef, fun _ _ => .inr ⟨hw, rfl⟩, h⟩
theorem wd_call {c : Call} {f : FuncId} (hw : Region.wanted o (yielded ops A.tmps) = true) (ho : o.op = .call c) (hc : c.callee = .value (.func f)) [CanEnter f] {v : Value} {args : Array Value} (ha : c.args.map A.eval = args)
    (hcall : Ret f args v)
    (h : wpD ops W bs n k os (A.put o.dst v)) : wpD ops W bs (n + 1) k (o :: os) A :=
  ⟨v, fun w _ => .inl ⟨hw, by rw [ex_call ho hc]; subst ha; exact hcall.calls w⟩, h⟩
theorem wd_callH {c : Call} {f : FuncId} (hw : Region.wanted o (yielded ops A.tmps) = true) (ho : o.op = .call c) (hc : c.callee = .value (.func f)) [CanEnter f] {v : Value} {args : Array Value} (ha : c.args.map A.eval = args)
    (hcall : RetH W bs f args v)
    (h : wpD ops W bs n k os (A.put o.dst v)) : wpD ops W bs (n + 1) k (o :: os) A :=
  ⟨v, fun w hH => .inl ⟨hw, by rw [ex_call ho hc]; subst ha; exact hcall.calls w hH⟩, h⟩
theorem wd_done (h : k os A) : wpD ops W bs 0 k os A := h
end wd

section wn
variable {A F : Act} {o : Oper} {os : List Oper} {L : List (Array Value × TypeId)} {cs : Array Value} {T : TypeId} {k : List Oper → Act → List Blk → Prop} {nb : List Blk}
theorem wn_alloc (hg : o.guard = none) (ho : o.op = .alloc T) (hz : ∀ w, (zeroValue T).run Try.prog w = .ok (.agg cs) w)
    (h : ∀ b, wpN A L k os (F.put o.dst (.pointer (some ⟨b, 0, none⟩))) (nb ++ [(b, cs, T)])) : wpN A ((cs, T) :: L) k (o :: os) F nb := ⟨⟨hg, .inl ⟨ho, hz⟩⟩, h⟩
theorem wn_alloc1 {z : Value} (hg : o.guard = none) (ho : o.op = .alloc T) (hz : ∀ w, (zeroValue T).run Try.prog w = .ok z w)
    (h : ∀ b, wpN A L k os (F.put o.dst (.pointer (some ⟨b, 0, none⟩))) (nb ++ [(b, z.cells, T)])) : wpN A ((z.cells, T) :: L) k (o :: os) F nb := ⟨⟨hg, .inr (.inl ⟨ho, z, rfl, hz⟩)⟩, h⟩
theorem wn_box {x : Operand} (hg : o.guard = none) (ho : o.op = .box T x) (hx : A.eval x = .agg cs)
    (h : ∀ b, wpN A L k os (F.put o.dst (.pointer (some ⟨b, 0, none⟩))) (nb ++ [(b, cs, T)])) : wpN A ((cs, T) :: L) k (o :: os) F nb := ⟨⟨hg, .inr (.inr ⟨x, ho, hx⟩)⟩, h⟩
theorem wn_done (h : k os F nb) : wpN A [] k os F nb := h
end wn

section wl
variable {ops : Array Oper} {Q : Exit → Act → World → Prop} {a : Act} {w : World} {W : Base} {rest : List Oper} {o : Oper} {bs : List Blk}
theorem wl_callc {c : Call} {f : FuncId} (hg : o.guard = none) (ho : o.op = .call c) (hc : c.callee = .value (.func f)) [CanEnter f] {v : Value} {args : Array Value} (ha : c.args.map a.eval = args)
    (hcall : Ret f args v) (hH : Has W w bs)
    (h : ∀ w', Has W w' bs → wpList Try.prog ops Q rest (a.put o.dst v) w') : wpList Try.prog ops Q (o :: rest) a w :=
  wl_call hg (fun w => by rw [ex_call ho hc, ha]) hcall.calls hH h
theorem wl_callH {c : Call} {f : FuncId} (hg : o.guard = none) (ho : o.op = .call c) (hc : c.callee = .value (.func f)) [CanEnter f] {v : Value} {args : Array Value} (ha : c.args.map a.eval = args)
    (hcall : RetH W bs f args v) (hH : Has W w bs)
    (h : ∀ w', Has W w' bs → wpList Try.prog ops Q rest (a.put o.dst v) w') : wpList Try.prog ops Q (o :: rest) a w :=
  wpList_plain hg fun _ hK => by
    unfold Oper.wp
    rw [ex_call ho hc, ha]
    refine (hcall.calls w hH).mono ?_
    rintro e w' ⟨rfl, hb⟩
    exact hK _ _ (h _ (hH.call hb))
/-- A call that writes into the call's own blocks. -/
theorem wl_callS {c : Call} {f : FuncId} (hg : o.guard = none) (ho : o.op = .call c) (hc : c.callee = .value (.func f)) [CanEnter f] {v : Value} {args : Array Value} (ha : c.args.map a.eval = args)
    {bs' : List Blk} (hcall : Calls Try.prog f args w fun e w' => e = .returned v ∧ Has W w' bs')
    (h : ∀ w', Has W w' bs' → wpList Try.prog ops Q rest (a.put o.dst v) w') : wpList Try.prog ops Q (o :: rest) a w :=
  wpList_plain hg fun _ hK => by
    unfold Oper.wp
    rw [ex_call ho hc, ha]
    refine hcall.mono ?_
    rintro e w' ⟨rfl, hb⟩
    exact hK _ _ (h _ hb)
end wl

theorem args0 (A : Act) : (#[] : Array Operand).map A.eval = #[] := by simp
theorem args1 (A : Act) (x : Operand) : #[x].map A.eval = #[A.eval x] := by simp
theorem args2 (A : Act) (x y : Operand) : #[x, y].map A.eval = #[A.eval x, A.eval y] := by simp
theorem args3 (A : Act) (x y z : Operand) : #[x, y, z].map A.eval = #[A.eval x, A.eval y, A.eval z] := by simp

/-! ### What is built -/
theorem b29_5 (x0 x1 x2 x3 x4 : Nat) : Built 29 [(0, .int .u64 (x0 : Nat)), (1, .int .u64 (x1 : Nat)), (2, .int .u64 (x2 : Nat)), (3, .int .u64 (x3 : Nat)), (4, .int .u64 (x4 : Nat))] (C .u64 [x0, x1, x2, x3, x4]) := ⟨by kernel_rfl⟩
theorem b29_2 (x0 x1 : Nat) : Built 29 [(0, .int .u64 (x0 : Nat)), (1, .int .u64 (x1 : Nat))] (C .u64 [x0, x1, 0, 0, 0]) := ⟨by kernel_rfl⟩
theorem b29_1 (x0 : Nat) : Built 29 [(0, .int .u64 (x0 : Nat))] (C .u64 [x0, 0, 0, 0, 0]) := ⟨by kernel_rfl⟩
theorem b87_4 (x0 x1 x2 x3 : Nat) : Built 87 [(0, .int .u64 (x0 : Nat)), (1, .int .u64 (x1 : Nat)), (2, .int .u64 (x2 : Nat)), (3, .int .u64 (x3 : Nat))] (C .u64 [x0, x1, x2, x3]) := ⟨by kernel_rfl⟩
theorem b31_0 : Built 31 [] (C .u64 [0, 0, 0, 0, 0]) := ⟨by kernel_rfl⟩
theorem b35_0 : Built 35 [] (C .i64 [0, 0, 0, 0, 0, 0, 0, 0, 0, 0, 0, 0, 0, 0, 0, 0]) := ⟨by kernel_rfl⟩
theorem b35_1 (x0 : Nat) : Built 35 [(0, .int .i64 (x0 : Nat))] (C .i64 [x0, 0, 0, 0, 0, 0, 0, 0, 0, 0, 0, 0, 0, 0, 0, 0]) := ⟨by kernel_rfl⟩
theorem b35_16 (x0 x1 x2 x3 x4 x5 x6 x7 x8 x9 x10 x11 x12 x13 x14 x15 : Nat) : Built 35 [(0, .int .i64 (x0 : Nat)), (1, .int .i64 (x1 : Nat)), (2, .int .i64 (x2 : Nat)), (3, .int .i64 (x3 : Nat)), (4, .int .i64 (x4 : Nat)), (5, .int .i64 (x5 : Nat)), (6, .int .i64 (x6 : Nat)), (7, .int .i64 (x7 : Nat)), (8, .int .i64 (x8 : Nat)), (9, .int .i64 (x9 : Nat)), (10, .int .i64 (x10 : Nat)), (11, .int .i64 (x11 : Nat)), (12, .int .i64 (x12 : Nat)), (13, .int .i64 (x13 : Nat)), (14, .int .i64 (x14 : Nat)), (15, .int .i64 (x15 : Nat))] (C .i64 [x0, x1, x2, x3, x4, x5, x6, x7, x8, x9, x10, x11, x12, x13, x14, x15]) := ⟨by kernel_rfl⟩
theorem b23_0 : Built 23 [] (C .u8 (List.replicate 32 0)) := ⟨by kernel_rfl⟩
theorem b23_1 (x : Nat) : Built 23 [(0, .int .u8 (x : Nat))] (C .u8 (x :: List.replicate 31 0)) := ⟨by kernel_rfl⟩
theorem b23_31 (x : Nat) : Built 23 [(31, .int .u8 (x : Nat))] (C .u8 (List.replicate 31 0 ++ [x])) := ⟨by kernel_rfl⟩
theorem len5 {l : List Nat} (h : l.length = 5) : ∃ a b c d e, l = [a, b, c, d, e] := by
  match l, h with
  | [a, b, c, d, e], _ => exact ⟨a, b, c, d, e, rfl⟩
theorem b31_1 {l : List Nat} (h : l.length = 5) : Built 31 [(0, .agg (C .u64 l))] (C .u64 l) := by
  obtain ⟨a, b, c, d, e, rfl⟩ := len5 h; exact ⟨by kernel_rfl⟩
theorem b92_2 {l m : List Nat} (h : l.length = 5) (h' : m.length = 5) : Built 92 [(0, .agg (C .u64 l)), (1, .agg (C .u64 m))] (C .u64 (l ++ m)) := by
  obtain ⟨a, b, c, d, e, rfl⟩ := len5 h; obtain ⟨a', b', c', d', e', rfl⟩ := len5 h'; exact ⟨by kernel_rfl⟩
theorem b93_2 {l m l' m' : List Nat} (h : l.length = 5) (h' : m.length = 5) (h2 : l'.length = 5) (h3 : m'.length = 5) : Built 93 [(0, .agg (C .u64 (l ++ m))), (1, .agg (C .u64 (l' ++ m')))] (C .u64 (l ++ m ++ (l' ++ m'))) := by
  obtain ⟨a, b, c, d, e, rfl⟩ := len5 h; obtain ⟨a', b', c', d', e', rfl⟩ := len5 h'; obtain ⟨f, g, i, j, k, rfl⟩ := len5 h2; obtain ⟨f', g', i', j', k', rfl⟩ := len5 h3; exact ⟨by kernel_rfl⟩
theorem b95_2 {u l m l' m' : List Nat} (h0 : u.length = 5) (h : l.length = 5) (h' : m.length = 5) (h2 : l'.length = 5) (h3 : m'.length = 5) : Built 95 [(0, .agg (C .u64 u)), (1, .agg (C .u64 (l ++ m ++ (l' ++ m'))))] (C .u64 (u ++ (l ++ m ++ (l' ++ m')))) := by
  obtain ⟨a, b, c, d, e, rfl⟩ := len5 h; obtain ⟨a', b', c', d', e', rfl⟩ := len5 h'; obtain ⟨f, g, i, j, k, rfl⟩ := len5 h2; obtain ⟨f', g', i', j', k', rfl⟩ := len5 h3; obtain ⟨u1, u2, u3, u4, u5, rfl⟩ := len5 h0; exact ⟨by kernel_rfl⟩

/-! ### Zero values -/
theorem z23 (w : World) : (zeroValue 23).run Try.prog w = .ok (.agg (C .u8 (List.replicate 32 0))) w := by kernel_rfl
theorem z29 (w : World) : (zeroValue 29).run Try.prog w = .ok (.agg (C .u64 [0, 0, 0, 0, 0])) w := by kernel_rfl
theorem z31 (w : World) : (zeroValue 31).run Try.prog w = .ok (.agg (C .u64 [0, 0, 0, 0, 0])) w := by kernel_rfl
theorem z35 (w : World) : (zeroValue 35).run Try.prog w = .ok (.agg (C .i64 (List.replicate 16 0))) w := by kernel_rfl
theorem z78 (w : World) : (zeroValue 78).run Try.prog w = .ok (.agg (C .i64 (List.replicate 32 0))) w := by kernel_rfl
theorem z73 (w : World) : (zeroValue 73).run Try.prog w = .ok (.agg (C .u64 (List.replicate 10 0))) w := by kernel_rfl
theorem z92 (w : World) : (zeroValue 92).run Try.prog w = .ok (.agg (C .u64 (List.replicate 10 0))) w := by kernel_rfl
theorem z63 (w : World) : (zeroValue 63).run Try.prog w = .ok (.agg (C .u8 (List.replicate 64 0))) w := by kernel_rfl

end Go.Proofs.Ytmbbdblmengdhaa
