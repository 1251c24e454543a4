/- Arrays of numbers compared. -/
import Derived.Test.YtmbbdblmengdhaaB1
import Derived.ChangeKeysEq
import Derived.Laws.StructEq
set_option linter.unusedSimpArgs false
set_option linter.unusedVariables false
namespace Go.Proofs.Ytmbbdblmengdhaa
open Go.RowKit

theorem run_part_C {e : TypeId} [he : OneT e] {k : IntKind} {l : List Nat} {i : Nat} (h : i < l.length) (w : World) : (part e (C k l) i).run Try.prog w = .ok (.int k (l.getD i 0 : Nat)) w := by
  have hg : (C k l)[i]? = some (.int k (l.getD i 0 : Nat)) := C_get h
  simp only [part, Sem.run_bind, he.agg w, Result.andThen_ok, Bool.false_eq_true, if_false, hg, Sem.run_pure]

theorem run_eqItems_C (d : Nat) {e : TypeId} [he : OneT e] {k : IntKind} (hu : Try.prog.underlying e = some (.int k)) {l m : List Nat} (w : World) : ∀ is : List Nat, (∀ i ∈ is, i < l.length ∧ i < m.length) →
    (Op.eqItems (d + 1) e 1 (C k l) (C k m) is).run Try.prog w = .ok (is.all fun i => l.getD i 0 == m.getD i 0) w
  | [], _ => by simp [Op.eqItems]
  | i :: is, h => by
    have hi := h i (by simp)
    have ih := run_eqItems_C d hu w is (fun j hj => h j (by simp [hj]))
    simp only [Op.eqItems, Sem.run_bind, Nat.mul_one, run_part_C hi.1, run_part_C hi.2, Result.andThen_ok, run_equalIn_int w d e k k _ _ hu]
    by_cases heq : l.getD i 0 = m.getD i 0
    · simp only [heq, beq_self_eq_true, Bool.not_true, Bool.false_eq_true, if_false, ih, List.all_cons, Bool.true_and]
    · have h1 : (((l.getD i 0 : Nat) : Int) == ((m.getD i 0 : Nat) : Int)) = false := by
        rw [beq_eq_false_iff_ne]; omega
      have h2 : (l.getD i 0 == m.getD i 0) = false := by rw [beq_eq_false_iff_ne]; exact heq
      simp only [h1, Bool.not_false, if_true, Sem.run_pure, List.all_cons, h2, Bool.false_and]

theorem all_eq_decide {l m : List Nat} {n : Nat} (hl : l.length = n) (hm : m.length = n) : ((List.range n).all fun i => l.getD i 0 == m.getD i 0) = decide (l = m) := by
  rw [Bool.eq_iff_iff]
  simp only [List.all_eq_true, List.mem_range, beq_iff_eq, decide_eq_true_eq]
  constructor
  · intro h
    apply List.ext_getElem (by omega)
    intro i h1 h2
    have := h i (by omega)
    simpa [h1, h2] using this
  · rintro rfl i _; rfl

/-- Arrays of integers, of n elements. -/
class ArrI (t : TypeId) (k : outParam IntKind) (n : outParam Nat) : Prop where
  arr : ∃ e i, Try.prog.underlying t = some (.array n e) ∧ Try.prog.info? e = some i ∧ Try.prog.cellsOf e = 1 ∧ Try.prog.underlying e = some (.int k) ∧ OneT e
  guard : Try.prog.eqGuardType Try.prog.depth t = false
instance : ArrI 23 .u8 32 := ⟨⟨5, _, Try.underlying23, rfl, by kernel_rfl, Try.underlying5, inferInstance⟩, by kernel_rfl⟩
instance : ArrI 35 .i64 16 := ⟨⟨3, _, Try.underlying35, rfl, by kernel_rfl, Try.underlying3, inferInstance⟩, by kernel_rfl⟩

theorem ex_eqlC {a : Act} {o : Oper} {t yt : TypeId} {x y : Operand} (ho : o.op = .binOp .eql t x y yt) {k : IntKind} {n : Nat} [ht : ArrI t k n] {l m : List Nat} (hx : a.eval x = .agg (C k l)) (hy : a.eval y = .agg (C k m)) (hl : l.length = n) (hm : m.length = n) (w : World) :
    (execOp a.eval o).run Try.prog w = .ok (.value (.bool (decide (l = m)))) w := by
  obtain ⟨e, i, hu, hi, hc, hue, he⟩ := ht.arr
  have hg := run_eqGuard_agg (P := Try.prog) (w := w) .eql t x y (C k l) (C k m) ht.guard
  have h1 := run_eql_struct (P := Try.prog) (w := w) t (C k l) (C k m)
  have h2 := run_equalIn_array (P := Try.prog) (w := w) 9999 (C k l) (C k m) hu hi
  rw [hc] at h2
  have h3 := run_eqItems_C 9998 hue w (l := l) (m := m) (List.range n) (fun j hj => by have := List.mem_range.1 hj; omega)
  unfold execOp
  simp only [ho, hx, hy, Sem.run_bind, hg, Result.andThen_ok, h1, h2, h3, Sem.run_pure, all_eq_decide hl hm]

end Go.Proofs.Ytmbbdblmengdhaa
