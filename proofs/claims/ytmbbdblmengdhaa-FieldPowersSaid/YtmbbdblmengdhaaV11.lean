/- What each operation on numbers gives, by value; rules for comparisons whose outcome is known. -/
import Derived.Test.YtmbbdblmengdhaaV10
import Derived.Test.YtmbbdblmengdhaaB3
import Derived.Test.YtmbbdblmengdhaaN5
set_option linter.unusedSimpArgs false
set_option linter.unusedVariables false
namespace Go.Proofs.Ytmbbdblmengdhaa
open Go.RowKit

/-- A number as the program's functions take it. -/
abbrev vF (l : List Nat) : Value := .agg (C .u64 l)
/-- A number as the reference's functions take it. -/
abbrev vR (x : Nat) : Value := .agg (C .i64 (D16 x))
abbrev vK (l : List Nat) : Value := .agg (C .u8 l)

theorem add_ex {a b : List Nat} {x y : Nat} (ha : Lim a x) (hb : Lim b y) : ∃ s, Lim s (addN x y) ∧ Ret 33 #[vF a, vF b] (vF s) := ⟨_, add_lim ha hb, add_ret ha hb⟩
theorem sub_ex {a b : List Nat} {x y : Nat} (ha : Lim a x) (hb : Lim b y) : ∃ s, Lim s (subN x y) ∧ Ret 35 #[vF a, vF b] (vF s) := ⟨_, sub_lim ha hb, sub_ret ha hb⟩
theorem mul_ex {a b : List Nat} {x y : Nat} (ha : Lim a x) (hb : Lim b y) : ∃ s, Lim s (mulN x y) ∧ Ret 23 #[vF a, vF b] (vF s) := ⟨_, mul_lim ha hb, mul_ret ha hb⟩
theorem small_ex {m : Nat} (hm : m < 9223372036854775808) : ∃ s, Lim s (m % pP) ∧ Ret 26 #[.int .i64 (m : Int)] (vF s) := ⟨_, num_lim hm, small_pos (by unfold Lt63; exact hm)⟩
/-- A key's number. -/
def keyN (l : List Nat) : Nat := valN 256 l % 2 ^ 255 % pP
theorem keyN_lt (l : List Nat) : keyN l < pP := Nat.mod_lt _ pP_pos
theorem from_ex {l : List Nat} (hl : l.length = 32) (hb : ∀ i, l.getD i 0 < 256) : ∃ s, Lim s (keyN l) ∧ Ret 22 #[vK l] (vF s) := ⟨_, from_lim hl hb, from_any hl hb⟩
theorem rfrom_ex {l : List Nat} (hl : l.length = 32) (hb : ∀ i, l.getD i 0 < 256) : Ret 25 #[vK l] (vR (keyN l)) := rfrom_any hl hb
theorem radd_ex {x y : Nat} (hx : x < pP) (hy : y < pP) : Ret 34 #[vR x, vR y] (vR (addN x y)) := radd_any (by omega) (by omega)
theorem rsub_ex {x y : Nat} (hx : x < pP) (hy : y < pP) : Ret 36 #[vR x, vR y] (vR (subN x y)) := rsub_any (by omega) (by omega)
theorem rmul_ex {x y : Nat} (hx : x < pP) (hy : y < pP) : Ret 24 #[vR x, vR y] (vR (mulN x y)) := rmul_any (by omega) (by omega)
theorem equal_true {a b : List Nat} {x y : Nat} (ha : Lim a x) (hb : Lim b y) (h : x = y) : Ret 37 #[vF a, vF b] (.bool true) := by
  have := equal_lim ha hb
  simpa [h] using this
theorem equal_false {a b : List Nat} {x y : Nat} (ha : Lim a x) (hb : Lim b y) (h : x ≠ y) : Ret 37 #[vF a, vF b] (.bool false) := by
  have := equal_lim ha hb
  simpa [h] using this

section ex
variable {a : Act} {o : Oper} {xt yt : TypeId} {x y : Operand}
theorem ex_eqBV (ho : o.op = .binOp .eql 4 x y yt) {p q b : Bool} (hx : a.eval x = .bool p) (hy : a.eval y = .bool q) (hb : (p == q) = b) (w : World) :
    (execOp a.eval o).run Try.prog w = .ok (.value (.bool b)) w := by rw [← hb]; exact ex_eqB ho hx hy w
theorem ex_eqlCV {t : TypeId} (ho : o.op = .binOp .eql t x y yt) {k : IntKind} {n : Nat} [ht : ArrI t k n] {l m : List Nat} (hx : a.eval x = .agg (C k l)) (hy : a.eval y = .agg (C k m)) (hl : l.length = n) (hm : m.length = n) {b : Bool} (hb : decide (l = m) = b) (w : World) :
    (execOp a.eval o).run Try.prog w = .ok (.value (.bool b)) w := by rw [← hb]; exact ex_eqlC ho hx hy hl hm w
end ex
end Go.Proofs.Ytmbbdblmengdhaa
