/- More rules of the walk: two results (a cell and a slot), whole numbers turned unsigned, comparisons whose outcome is known. -/
import Derived.Test.YtmbbdblmengdhaaB3
import Derived.Laws.ResultCell
set_option linter.unusedSimpArgs false
set_option linter.unusedVariables false
namespace Go.Proofs.Ytmbbdblmengdhaa
open Go.RowKit

section rules
variable {a : Act} {w : World} {W : Base} {bs : List Blk}
theorem ret_cell2 (i : Nat) {fn : Func} {R : Ending → World → Prop} {p u : Tmp} {t : TypeId} (hf : fn.results = #[.cell p t, .tmp u]) {n : Nat} [hr : RowT t n] {b : Nat} (hp : a.tmps.getD p undef = .pointer (some ⟨b, 0, none⟩))
    (hH : Has W w bs) {cs : Array Value} {T : TypeId} (hb : bs[i]? = some (b, cs, T)) (hn : cs.size = n) {v : Value} (hv : a.tmps.getD u undef = v) (hd : a.defers = []) (hR : R (.returned (.tuple #[.agg cs, v])) w) : bodyPost Try.prog fn R .ret a w := by
  obtain ⟨d, hu, hdr⟩ := hr.row
  refine bodyPost_ret ?_ hd hR
  rw [results_cell_tmp hf, hp, hv]
  simp only [asAddr, Sem.run_pure, Result.andThen_ok]
  rw [run_loadVar_row w b T t cs (0, 0) d (hH.get hb) hu (by cases d <;> first | rfl | cases hdr) (by rw [hr.size, hn])]
  simp only [Result.andThen_ok]
end rules
section ex
variable {a : Act} {o : Oper} {xt yt : TypeId} {x y : Operand} {m n : Nat}
theorem ex_conv_uint {x : Operand} (ho : o.op = .convert 3 50 x) {m : Nat} (hx : a.eval x = .int .i64 (m : Int)) (hm : m < 18446744073709551616) (w : World) :
    (execOp a.eval o).run Try.prog w = .ok (.value (.int .u64 (m : Nat))) w := ex_conv ho hx ⟨_, Try.underlying3⟩ Try.underlying50 (by rw [wrap_u64, Nat.mod_eq_of_lt hm]) w
theorem ex_eqV {b : Bool} (ho : o.op = .binOp .eql xt x y yt) {k : IntKind} (hx : a.eval x = .int k (m : Int)) (hy : a.eval y = .int k (n : Int)) (hb : decide (m = n) = b) (w : World) :
    (execOp a.eval o).run Try.prog w = .ok (.value (.bool b)) w := by rw [← hb]; exact ex_eqN ho hx hy w
theorem ex_eqlV {b : Bool} {t : TypeId} (ho : o.op = .binOp .eql t x y yt) {k : IntKind} {n : Nat} [ht : ArrI t k n] {l m : List Nat} (hx : a.eval x = .agg (C k l)) (hy : a.eval y = .agg (C k m)) (hl : l.length = n) (hm : m.length = n) (hb : decide (l = m) = b) (w : World) :
    (execOp a.eval o).run Try.prog w = .ok (.value (.bool b)) w := by rw [← hb]; exact ex_eqlC ho hx hy hl hm w
end ex
end Go.Proofs.Ytmbbdblmengdhaa

/- Rules for structs in a block: fields, parts read and written by value. -/
namespace Go.Proofs.Ytmbbdblmengdhaa
open Go.RowKit

/-- A field at off cells. -/
class FldO (t : TypeId) (i : Nat) (off : outParam Nat) : Prop where
  run : ∀ (b o : Nat) (w : World), (Instr.fieldAt t (.pointer (some ⟨b, o, none⟩)) i).run Try.prog w = .ok (.pointer (some ⟨b, o + off, none⟩)) w
instance : FldO 92 0 0 := ⟨fun b o w => by go_simp⟩
instance : FldO 92 1 5 := ⟨fun b o w => by go_simp⟩
instance : FldO 95 0 0 := ⟨fun b o w => by go_simp⟩
instance : FldO 95 1 5 := ⟨fun b o w => by go_simp⟩
section ex
variable {a : Act} {o : Oper} {w : World} {W : Base} {bs : List Blk}
theorem ex_nil {x : Operand} (ho : o.op = .nilCheck x) {p : Addr} (hx : a.eval x = .pointer (some p)) (w : World) : (execOp a.eval o).run Try.prog w = .ok (.value (.pointer (some p))) w := by
  unfold execOp; simp only [ho, hx, Sem.run_pure]
theorem ex_fld {t : TypeId} {i : Nat} {p : Operand} (ho : o.op = .fieldAddr t p i) {off : Nat} [hf : FldO t i off] {b k : Nat} (hp : a.eval p = .pointer (some ⟨b, k, none⟩)) (w : World) :
    (execOp a.eval o).run Try.prog w = .ok (.value (.pointer (some ⟨b, k + off, none⟩))) w := by
  unfold execOp; simp only [ho, hp, Sem.run_bind, hf.run, Result.andThen_ok, Sem.run_pure]
/-- A part of a block, by value. -/
theorem ex_loadV (i : Nat) {t : TypeId} {p : Operand} (ho : o.op = .load t p) {b off : Nat} (hp : a.eval p = .pointer (some ⟨b, off, none⟩))
    (hH : Has W w bs) {k : IntKind} {l : List Nat} {T : TypeId} (hb : bs[i]? = some (b, C k l, T)) {n : Nat} [hr : RowT t n] {v : List Nat} (hv : (l.drop off).take n = v) (hn : v.length = n) :
    (execOp a.eval o).run Try.prog w = .ok (.value (.agg (C k v))) w :=
  ex_loadrow i ho hp hH hb (cs' := C k v) (by rw [C_extract, hv]) (by rw [C_size, hn])
end ex

/-! ### A part written -/
def setL (l : List Nat) : Nat → List Nat → List Nat
  | _, [] => l
  | o, x :: v => setL (l.set o x) (o + 1) v
def setA (cs : Array Value) : Nat → List Value → Array Value
  | _, [] => cs
  | o, x :: v => setA (cs.setIfInBounds o x) (o + 1) v
theorem setA_C (k : IntKind) : ∀ (v l : List Nat) (o : Nat), setA (C k l) o (C k v).toList = C k (setL l o v)
  | [], _, _ => rfl
  | x :: v, l, o => by
    have e : (C k (x :: v)).toList = .int k (x : Int) :: (C k v).toList := by simp [C]
    rw [e, setA, C_set, setL]
    exact setA_C k v _ _
theorem setL_eq : ∀ (v l : List Nat) (o : Nat), o + v.length ≤ l.length → setL l o v = l.take o ++ (v ++ l.drop (o + v.length))
  | [], l, o, _ => by simp [setL]
  | x :: v, l, o, h => by
    simp only [List.length_cons] at h
    rw [setL, setL_eq v _ _ (by simp; omega)]
    rw [List.drop_set_of_lt (by omega), List.take_set]
    have h1 : (l.take (o + 1)).set o x = l.take o ++ [x] := by
      rw [List.take_add_one, List.getElem?_eq_getElem (by omega)]
      simp only [Option.toList_some]
      rw [List.set_append_right _ _ (by simp; omega)]
      simp [Nat.min_eq_left (show o ≤ l.length by omega)]
    rw [h1, show o + 1 + v.length = o + (v.length + 1) by omega]
    simp
theorem Has.setCells {W : Base} {b i : Nat} {t : TypeId} : ∀ (vs : List Value) (o : Nat) {w : World} {bs : List Blk} {cs : Array Value}, Has W w bs → bs[i]? = some (b, cs, t) → Has W (w.setCells b o vs) (bs.set i (b, setA cs o vs, t))
  | [], o, w, bs, cs, h, hi => by
    have e : bs.set i (b, setA cs o [], t) = bs := by
      obtain ⟨hl, he⟩ := List.getElem?_eq_some_iff.1 hi
      rw [setA, ← he, List.set_getElem_self]
    rw [e]; exact h
  | v :: r, o, w, bs, cs, h, hi => by
    have h1 := h.setRow hi (cs.setIfInBounds o v)
    rw [World.setCells, setCell_eq_setRow w b o cs t (0, 0) v (h.get hi)]
    have hl := (List.getElem?_eq_some_iff.1 hi).1
    have := Has.setCells (i := i) (b := b) (t := t) r (o + 1) h1 (cs := cs.setIfInBounds o v) (by simp [hl])
    rw [List.set_set] at this
    rw [setA]
    exact this
section wl
variable {ops : Array Oper} {Q : Exit → Act → World → Prop} {a : Act} {w : World} {W : Base} {rest : List Oper} {o : Oper} {bs : List Blk}
theorem wl_loadV (i : Nat) (hg : o.guard = none) {t : TypeId} {p : Operand} (ho : o.op = .load t p) {b off : Nat} (hp : a.eval p = .pointer (some ⟨b, off, none⟩))
    (hH : Has W w bs) {k : IntKind} {l : List Nat} {T : TypeId} (hb : bs[i]? = some (b, C k l, T)) {n : Nat} [hr : RowT t n] {v : List Nat} (hv : (l.drop off).take n = v) (hn : v.length = n)
    (h : wpList Try.prog ops Q rest (a.put o.dst (.agg (C k v))) w) : wpList Try.prog ops Q (o :: rest) a w :=
  wpList_plain hg fun _ hK => by
    unfold Oper.wp
    rw [ex_loadV i ho hp hH hb hv hn]
    exact hK _ _ h
theorem wl_storeV (i : Nat) (hg : o.guard = none) {t : TypeId} {p x : Operand} (ho : o.op = .store t p x) {b off : Nat} (hp : a.eval p = .pointer (some ⟨b, off, none⟩)) {k : IntKind} {v : List Nat} (hx : a.eval x = .agg (C k v))
    (hH : Has W w bs) {l : List Nat} {T : TypeId} (hb : bs[i]? = some (b, C k l, T)) {n : Nat} [hr : RowT t n] {l' : List Nat} (hl : setL l off v = l') (hn : v.length = n) (hle : off + n ≤ l.length)
    (h : ∀ w', Has W w' (bs.set i (b, C k l', T)) → wpList Try.prog ops Q rest (a.put o.dst undef) w') : wpList Try.prog ops Q (o :: rest) a w := by
  have hgb := hH.get hb
  refine wpList_store_mid hg t p x ho b off (C k v) hp hx (fun j hj => ?_) (by rw [hr.size, C_size, hn]) (C_one _ _) (h _ ?_)
  · rw [C_size] at hj
    refine ⟨?_, frozen_of_row w b (off + j) (C k l) T hgb⟩
    rw [cell_of_row w b (off + j) (C k l) T (0, 0) hgb]
    simp [C_size]
    omega
  · have := hH.setCells (C k v).toList off hb
    rw [setA_C, hl] at this
    exact this
end wl
end Go.Proofs.Ytmbbdblmengdhaa
