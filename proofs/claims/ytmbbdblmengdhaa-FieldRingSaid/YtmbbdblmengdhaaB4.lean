/- The walk's rules: guarded operations, indices whose value is known, values of any kind read from memory. -/
import Derived.Test.YtmbbdblmengdhaaB3
set_option linter.unusedSimpArgs false
set_option linter.unusedVariables false
namespace Go.Proofs.Ytmbbdblmengdhaa
open Go.RowKit

/-- A fact that the walk's own search does not open. -/
structure Veil (p : Prop) : Prop where
  out : p

section wl
variable {ops : Array Oper} {Q : Exit → Act → World → Prop} {a : Act} {w : World} {rest : List Oper}
/-- A guarded operation that is wanted. -/
theorem wl_want {d : Option Tmp} {op : Op} {t : TypeId} {p : String} {af : Array Edge} {g : Nat × Bool} (hw : Region.wanted ⟨d, op, t, p, af, some g⟩ (yielded ops a.tmps) = true)
    (h : wpList Try.prog ops Q (⟨d, op, t, p, af, none⟩ :: rest) a w) : wpList Try.prog ops Q (⟨d, op, t, p, af, some g⟩ :: rest) a w := by
  unfold wpList at h ⊢
  rw [if_pos (by simp [Region.wanted])] at h
  rw [if_pos hw]
  exact h
end wl
section ex
variable {a : Act} {o : Oper} {w : World} {W : Base} {bs : List Blk}
theorem ex_indexV {t : TypeId} {x i : Operand} (ho : o.op = .index t x i) {n : Nat} [ht : ArrT t n] {k : IntKind} {l : List Nat} (hx : a.eval x = .agg (C k l)) {ik : IntKind} {j : Nat} (hi : a.eval i = .int ik (j : Int)) (hj : j < n) (hl : l.length = n) {v : Nat} (hv : l.getD j 0 = v) (w : World) :
    (execOp a.eval o).run Try.prog w = .ok (.value (.int k (v : Nat))) w := by
  rw [← hv]; exact ex_index ho hx hi hj hl w
end ex
end Go.Proofs.Ytmbbdblmengdhaa
