/- More of the walk's rules: bytes, comparisons of numbers, plain Ints. -/
import Derived.Test.YtmbbdblmengdhaaB2
set_option linter.unusedSimpArgs false
set_option linter.unusedVariables false
namespace Go.Proofs.Ytmbbdblmengdhaa
open Go.RowKit

theorem C_get' {k : IntKind} {l : List Nat} {i x : Nat} (h : i < l.length) (hx : l.getD i 0 = x) : (C k l)[i]? = some (.int k (x : Int)) := by rw [← hx]; exact C_get h

section ex
variable {a : Act} {o : Oper} {w : World} {W : Base} {bs : List Blk} {xt yt : TypeId} {x y : Operand} {m n : Nat}

theorem ex_and_u8 (ho : o.op = .binOp .and xt x y yt) (hx : a.eval x = .int .u8 (m : Int)) (hy : a.eval y = .int .u8 (n : Int)) (w : World) :
    (execOp a.eval o).run Try.prog w = .ok (.value (.int .u8 (((m &&& n) % 256 : Nat) : Int))) w :=
  ex_bin ho (by simp) hx hy (fun w => by
    show Result.ok (Value.int .u8 (IntKind.u8.wrap (((BitVec.ofInt 8 (m : Int) &&& BitVec.ofInt 8 (n : Int)).toNat : Nat) : Int))) w = _
    rw [wrap_u8, BitVec.toNat_and, BitVec.ofInt_natCast, BitVec.ofInt_natCast, BitVec.toNat_ofNat, BitVec.toNat_ofNat, ← Nat.and_mod_two_pow, show (2 ^ 8 : Nat) = 256 from rfl, Nat.mod_mod]) w
theorem ex_or_u8 (ho : o.op = .binOp .or xt x y yt) (hx : a.eval x = .int .u8 (m : Int)) (hy : a.eval y = .int .u8 (n : Int)) (w : World) :
    (execOp a.eval o).run Try.prog w = .ok (.value (.int .u8 (((m ||| n) % 256 : Nat) : Int))) w :=
  ex_bin ho (by simp) hx hy (fun w => by
    show Result.ok (Value.int .u8 (IntKind.u8.wrap (((BitVec.ofInt 8 (m : Int) ||| BitVec.ofInt 8 (n : Int)).toNat : Nat) : Int))) w = _
    rw [wrap_u8, BitVec.toNat_or, BitVec.ofInt_natCast, BitVec.ofInt_natCast, BitVec.toNat_ofNat, BitVec.toNat_ofNat, ← Nat.or_mod_two_pow, show (2 ^ 8 : Nat) = 256 from rfl, Nat.mod_mod]) w
theorem ex_xor_u8 (ho : o.op = .binOp .xor xt x y yt) (hx : a.eval x = .int .u8 (m : Int)) (hy : a.eval y = .int .u8 (n : Int)) (w : World) :
    (execOp a.eval o).run Try.prog w = .ok (.value (.int .u8 (((m ^^^ n) % 256 : Nat) : Int))) w :=
  ex_bin ho (by simp) hx hy (fun w => by
    show Result.ok (Value.int .u8 (IntKind.u8.wrap (((BitVec.ofInt 8 (m : Int) ^^^ BitVec.ofInt 8 (n : Int)).toNat : Nat) : Int))) w = _
    rw [wrap_u8, BitVec.toNat_xor, BitVec.ofInt_natCast, BitVec.ofInt_natCast, BitVec.toNat_ofNat, BitVec.toNat_ofNat, ← Nat.xor_mod_two_pow, show (2 ^ 8 : Nat) = 256 from rfl, Nat.mod_mod]) w
theorem ex_add_u8 (ho : o.op = .binOp .add xt x y yt) (hx : a.eval x = .int .u8 (m : Int)) (hy : a.eval y = .int .u8 (n : Int)) (w : World) :
    (execOp a.eval o).run Try.prog w = .ok (.value (.int .u8 (((m + n) % 256 : Nat) : Int))) w :=
  ex_bin ho (by simp) hx hy (fun w => by simp [binOp, Op.intArith]; rw [← Int.natCast_add, wrap_u8]; simp) w
theorem ex_mul_u8 (ho : o.op = .binOp .mul xt x y yt) (hx : a.eval x = .int .u8 (m : Int)) (hy : a.eval y = .int .u8 (n : Int)) (w : World) :
    (execOp a.eval o).run Try.prog w = .ok (.value (.int .u8 (((m * n) % 256 : Nat) : Int))) w :=
  ex_bin ho (by simp) hx hy (fun w => by simp [binOp, Op.intArith]; rw [← Int.natCast_mul, wrap_u8]; simp) w
theorem ex_rem_u8 (ho : o.op = .binOp .rem xt x y yt) (hx : a.eval x = .int .u8 (m : Int)) (hy : a.eval y = .int .u8 (n : Int)) (hn : n ≠ 0) (w : World) :
    (execOp a.eval o).run Try.prog w = .ok (.value (.int .u8 ((m % n : Nat) : Int))) w :=
  ex_bin ho (by simp) hx hy (fun w => by simp [binOp, Op.intDiv, hn]; rfl) w
theorem ex_quo_u8 (ho : o.op = .binOp .quo xt x y yt) (hx : a.eval x = .int .u8 (m : Int)) (hy : a.eval y = .int .u8 (n : Int)) (hn : n ≠ 0) (w : World) :
    (execOp a.eval o).run Try.prog w = .ok (.value (.int .u8 (((m / n) % 256 : Nat) : Int))) w :=
  ex_bin ho (by simp) hx hy (fun w => by
    simp [binOp, Op.intDiv, hn]
    rw [← Int.natCast_ediv, wrap_u8]; simp) w
theorem ex_shr_u8 (ho : o.op = .binOp .shr xt x y yt) {k : IntKind} (hx : a.eval x = .int .u8 (m : Int)) (hy : a.eval y = .int k (n : Int)) (hn : n ≤ 8) (w : World) :
    (execOp a.eval o).run Try.prog w = .ok (.value (.int .u8 ((m / 2 ^ n : Nat) : Int))) w :=
  ex_bin ho (by simp) hx hy (fun w => by simp [binOp, Op.shift, IntKind.bits, Nat.min_eq_left hn]) w
theorem ex_shl_u8 (ho : o.op = .binOp .shl xt x y yt) {k : IntKind} (hx : a.eval x = .int .u8 (m : Int)) (hy : a.eval y = .int k (n : Int)) (hn : n ≤ 8) (w : World) :
    (execOp a.eval o).run Try.prog w = .ok (.value (.int .u8 (((m * 2 ^ n) % 256 : Nat) : Int))) w :=
  ex_bin ho (by simp) hx hy (fun w => by
    simp [binOp, Op.shift, IntKind.bits, Nat.min_eq_left hn]
    rw [show ((m : Int) * 2 ^ n) = ((m * 2 ^ n : Nat) : Int) by simp, wrap_u8]; simp) w
theorem ex_shr_i64 (ho : o.op = .binOp .shr xt x y yt) {k : IntKind} (hx : a.eval x = .int .i64 (m : Int)) (hy : a.eval y = .int k (n : Int)) (hn : n ≤ 64) (w : World) :
    (execOp a.eval o).run Try.prog w = .ok (.value (.int .i64 ((m / 2 ^ n : Nat) : Int))) w :=
  ex_bin ho (by simp) hx hy (fun w => by simp [binOp, Op.shift, IntKind.bits, Nat.min_eq_left hn]) w

/-- Comparisons of numbers of one kind. -/
theorem ex_cmp {op : BinOp} (ho : o.op = .binOp op xt x y yt) {k : IntKind} {p q : Int} (hx : a.eval x = .int k p) (hy : a.eval y = .int k q) {b : Bool} (hb : (Op.intCmp op p q).run Try.prog = fun w => .ok (.bool b) w)
    (hop : op = .eql ∨ op = .neq ∨ op = .lss ∨ op = .leq ∨ op = .gtr ∨ op = .geq) (w : World) :
    (execOp a.eval o).run Try.prog w = .ok (.value (.bool b)) w := by
  have e : (eqGuard op xt x y (.int k p) (.int k q)).run Try.prog w = .ok () w := by
    unfold eqGuard
    rcases hop with rfl | rfl | rfl | rfl | rfl | rfl <;> rfl
  have e2 : (binOp op xt (.int k p) (.int k q)).run Try.prog w = (Op.intCmp op p q).run Try.prog w := by
    rcases hop with rfl | rfl | rfl | rfl | rfl | rfl <;> simp [binOp]
  unfold execOp
  simp only [ho, hx, hy, Sem.run_bind, e, Result.andThen_ok, e2, hb, Sem.run_pure]
theorem ex_eqN (ho : o.op = .binOp .eql xt x y yt) {k : IntKind} (hx : a.eval x = .int k (m : Int)) (hy : a.eval y = .int k (n : Int)) (w : World) :
    (execOp a.eval o).run Try.prog w = .ok (.value (.bool (decide (m = n)))) w :=
  ex_cmp ho hx hy (by
    funext w
    have : ((m : Int) == (n : Int)) = decide (m = n) := by rw [Bool.eq_iff_iff]; simp; omega
    simp [Op.intCmp, this]) (by simp) w
theorem ex_neN (ho : o.op = .binOp .neq xt x y yt) {k : IntKind} (hx : a.eval x = .int k (m : Int)) (hy : a.eval y = .int k (n : Int)) (w : World) :
    (execOp a.eval o).run Try.prog w = .ok (.value (.bool (decide (m ≠ n)))) w :=
  ex_cmp ho hx hy (by
    funext w
    have : ((m : Int) != (n : Int)) = decide (m ≠ n) := by rw [Bool.eq_iff_iff]; simp; omega
    simp [Op.intCmp, this]) (by simp) w
theorem ex_gtN (ho : o.op = .binOp .gtr xt x y yt) {k : IntKind} (hx : a.eval x = .int k (m : Int)) (hy : a.eval y = .int k (n : Int)) (w : World) :
    (execOp a.eval o).run Try.prog w = .ok (.value (.bool (decide (n < m)))) w :=
  ex_cmp ho hx hy (by
    funext w
    have : decide ((m : Int) > (n : Int)) = decide (n < m) := by rw [Bool.eq_iff_iff]; simp
    simp [Op.intCmp, this]) (by simp) w
theorem ex_eqB (ho : o.op = .binOp .eql 4 x y yt) {p q : Bool} (hx : a.eval x = .bool p) (hy : a.eval y = .bool q) (w : World) :
    (execOp a.eval o).run Try.prog w = .ok (.value (.bool (p == q))) w := by
  have h1 := run_equal_bool (P := Try.prog) w 4 p q Try.underlying4
  unfold execOp
  have e : (eqGuard .eql 4 x y (.bool p) (.bool q)).run Try.prog w = .ok () w := rfl
  have e2 : (binOp .eql 4 (.bool p) (.bool q)).run Try.prog w = .ok (.bool (p == q)) w := by simp [binOp, h1]
  simp only [ho, hx, hy, Sem.run_bind, e, Result.andThen_ok, e2, Sem.run_pure]
theorem ex_not (ho : o.op = .unOp .not xt x) {p : Bool} (hx : a.eval x = .bool p) (w : World) :
    (execOp a.eval o).run Try.prog w = .ok (.value (.bool (!p))) w := by
  unfold execOp
  simp only [ho, hx, Op.unary, Sem.run_bind, Sem.run_pure, Result.andThen_ok]

theorem ex_neF {b : Bool} (ho : o.op = .binOp .neq xt x y yt) {k : IntKind} (hx : a.eval x = .int k (m : Int)) (hy : a.eval y = .int k (n : Int)) (hb : decide (m ≠ n) = b) (w : World) :
    (execOp a.eval o).run Try.prog w = .ok (.value (.bool b)) w := by rw [← hb]; exact ex_neN ho hx hy w
theorem ex_subZ {p q : Int} (ho : o.op = .binOp .sub xt x y yt) (hx : a.eval x = .int .i64 p) (hy : a.eval y = .int .i64 q) (h1 : -9223372036854775808 ≤ p - q) (h2 : p - q < 9223372036854775808) (w : World) :
    (execOp a.eval o).run Try.prog w = .ok (.value (.int .i64 (p - q))) w :=
  ex_bin ho (by simp) hx hy (fun w => by simp [binOp, Op.intArith]; exact IntWalk.i64_in _ ⟨h1, by omega⟩) w
theorem ex_addZ {p q : Int} (ho : o.op = .binOp .add xt x y yt) (hx : a.eval x = .int .i64 p) (hy : a.eval y = .int .i64 q) (h1 : -9223372036854775808 ≤ p + q) (h2 : p + q < 9223372036854775808) (w : World) :
    (execOp a.eval o).run Try.prog w = .ok (.value (.int .i64 (p + q))) w :=
  ex_bin ho (by simp) hx hy (fun w => by simp [binOp, Op.intArith]; exact IntWalk.i64_in _ ⟨h1, by omega⟩) w
end ex
section wl
variable {ops : Array Oper} {Q : Exit → Act → World → Prop} {a : Act} {w : World} {W : Base} {rest : List Oper} {o : Oper} {bs : List Blk}
/-- A store of a number that is not negative. -/
theorem wl_storeZ (i : Nat) (hg : o.guard = none) {t : TypeId} {p x : Operand} (ho : o.op = .store t p x) [OneT t] {b off : Nat} (hp : a.eval p = .pointer (some ⟨b, off, none⟩))
    {k : IntKind} {z : Int} (hx : a.eval x = .int k z) (hH : Has W w bs) {l : List Nat} {T : TypeId} (hb : bs[i]? = some (b, C k l, T)) (hoff : off < l.length) (hz : 0 ≤ z)
    (h : ∀ w', Has W w' (bs.set i (b, C k (l.set off z.toNat), T)) → wpList Try.prog ops Q rest (a.put o.dst undef) w') : wpList Try.prog ops Q (o :: rest) a w :=
  wl_storeC i hg ho hp (n := z.toNat) (by rw [hx, Int.toNat_of_nonneg hz]) hH hb hoff h
end wl
end Go.Proofs.Ytmbbdblmengdhaa

/- The walk's rules: guarded operations, indices whose value is known, values of any kind read from memory. -/
namespace Go.Proofs.Ytmbbdblmengdhaa
open Go.RowKit

/-- A fact that the walk's own search does not open. -/
structure Veil (p : Prop) : Prop where
  out : p

section wl
variable {ops : Array Oper} {Q : Exit → Act → World → Prop} {a : Act} {w : World} {rest : List Oper}
/-- A guarded operation that is wanted. -/
theorem wl_want {d : Option Tmp} {op : Op} {t : TypeId} {p : String} {af : Array Edge} {g : Nat × Bool} (hw : Region.wanted ⟨d, op, t, p, af, some g⟩ (yielded ops a.tmps) = true)
    (h : wpList Try.prog ops Q (⟨d, op, t, p, af, none⟩ :: rest) a w) : wpList Try.prog ops Q (⟨d, op, t, p, af, some g⟩ :: rest) a w := by
  unfold wpList at h ⊢
  rw [if_pos (by simp [Region.wanted])] at h
  rw [if_pos hw]
  exact h
end wl
section ex
variable {a : Act} {o : Oper} {w : World} {W : Base} {bs : List Blk}
theorem ex_indexV {t : TypeId} {x i : Operand} (ho : o.op = .index t x i) {n : Nat} [ht : ArrT t n] {k : IntKind} {l : List Nat} (hx : a.eval x = .agg (C k l)) {ik : IntKind} {j : Nat} (hi : a.eval i = .int ik (j : Int)) (hj : j < n) (hl : l.length = n) {v : Nat} (hv : l.getD j 0 = v) (w : World) :
    (execOp a.eval o).run Try.prog w = .ok (.value (.int k (v : Nat))) w := by
  rw [← hv]; exact ex_index ho hx hi hj hl w
end ex
end Go.Proofs.Ytmbbdblmengdhaa
