/- The walk's own rules: a world that is told by what a call's own blocks hold ('Has'), and one rule an operation over it. Plain rules of the model; no condition. -/
import Derived.Test.YtmbbdblmengdhaaRows
import Derived.WalkKit
import Derived.WalkSpells
import Derived.WalkLawsBesides
import Derived.Laws.Rows
import Derived.Laws.Tables
import Derived.Deep.MidRow
set_option linter.unusedSimpArgs false
set_option linter.unusedVariables false
namespace Go.Proofs.Ytmbbdblmengdhaa
open Go.RowKit

/-- Natural numbers as a row of cells of one integer kind. -/
def C (k : IntKind) (l : List Nat) : Array Value := (l.map fun n : Nat => Value.int k (n : Int)).toArray

theorem C_size (k : IntKind) (l : List Nat) : (C k l).size = l.length := by simp [C]
theorem C_get {k : IntKind} {l : List Nat} {i : Nat} (h : i < l.length) : (C k l)[i]? = some (.int k ((l.getD i 0 : Nat) : Int)) := by
  simp [C, h]
theorem C_set (k : IntKind) (l : List Nat) (i n : Nat) : (C k l).setIfInBounds i (.int k (n : Int)) = C k (l.set i n) := by
  simp [C, List.setIfInBounds_toArray, List.map_set]
theorem getD_set_self {l : List Nat} {i v : Nat} (h : i < l.length) : (l.set i v).getD i 0 = v := by simp [h]
theorem C_one (k : IntKind) (l : List Nat) : (C k l).all (·.oneCell') = true := by
  simp [C, Value.oneCell']
theorem C_extract (k : IntKind) (l : List Nat) (i n : Nat) : (C k l).extract i (i + n) = C k ((l.drop i).take n) := by
  simp [C, List.map_drop, List.map_take, List.extract_eq_take_drop]
theorem C_inj {k : IntKind} {l m : List Nat} (h : C k l = C k m) : l = m := by
  have h1 : l.map (fun n : Nat => Value.int k (n : Int)) = m.map (fun n : Nat => Value.int k (n : Int)) := by simpa [C] using h
  exact (List.map_inj_right (fun a b e => by have := (Value.int.inj e).2; omega)).1 h1

abbrev Blk := Nat × Array Value × TypeId

/-- What a walk keeps of the world around it: G holds of the world all along; own: blocks that may be written. -/
structure Base where
  G : World → Prop
  own : Nat → Prop
  alloc : ∀ (w : World) (o : Obj), G w → G (w.alloc o)
  call : ∀ (w w' : World), G w → Below w.heap.size w w' → G w'
  row : ∀ (w : World) (b : Nat) (cs : Array Value), own b → G w → G (w.setRow b cs)
  new : ∀ (w : World) (b : Nat), G w → w.heap.size ≤ b → own b
/-- The world of a call's beginning: below its blocks nothing turns. -/
def baseW (W : World) : Base where
  G w := Below W.heap.size W w
  own b := W.heap.size ≤ b
  alloc _ _ h := h.alloc h.size _
  call _ _ h hb := h.trans (hb.mono h.size)
  row w b cs hb h := h.trans ⟨rfl, rfl, rfl, by simp, fun k hk => setRow_other _ _ _ _ (by omega)⟩
  new w b h hb := Nat.le_trans h.size hb
instance : Coe World Base := ⟨baseW⟩

/-- W: what is kept; w: the world now; bs: blocks of its own and what they hold. -/
structure Has (W : Base) (w : World) (bs : List Blk) : Prop where
  good : W.G w
  blk : ∀ x ∈ bs, W.own x.1 ∧ w.heap[x.1]? = some (.cells x.2.1 x.2.2 (0, 0))
  nd : bs.Pairwise (fun x y => x.1 ≠ y.1)
theorem Has.below {W w : World} {bs : List Blk} (h : Has (baseW W) w bs) : Below W.heap.size W w := h.good

theorem Has.nil (W : World) : Has W W [] := ⟨Below.refl _ _, by simp, .nil⟩

theorem Has.lt {W : Base} {w : World} {bs : List Blk} (h : Has W w bs) {x : Blk} (hx : x ∈ bs) : x.1 < w.heap.size :=
  (Array.getElem?_eq_some_iff.1 (h.blk x hx).2).1

theorem Has.alloc {W : Base} {w : World} {bs : List Blk} (h : Has W w bs) (cs : Array Value) (t : TypeId) : Has W (w.alloc (.cells cs t)) ((w.heap.size, cs, t) :: bs) := by
  refine ⟨W.alloc _ _ h.good, ?_, ?_⟩
  · intro x hx
    rcases List.mem_cons.1 hx with rfl | hx
    · exact ⟨W.new _ _ h.good (Nat.le_refl _), heap_alloc_new _ _⟩
    · exact ⟨(h.blk x hx).1, by rw [Below.heap_alloc _ _ _ (h.lt hx)]; exact (h.blk x hx).2⟩
  · exact List.pairwise_cons.2 ⟨fun y hy => by have := h.lt hy; simp; omega, h.nd⟩

/-- A call that leaves all that was there. -/
theorem Has.call {W : Base} {w w' : World} {bs : List Blk} (h : Has W w bs) (hb : Below w.heap.size w w') : Has W w' bs :=
  ⟨W.call _ _ h.good hb, fun x hx => ⟨(h.blk x hx).1, by rw [hb.block _ (h.lt hx)]; exact (h.blk x hx).2⟩, h.nd⟩

theorem Has.drew {W : Base} {w : World} {bs : List Blk} (h : Has W w bs) : Has W w.drew bs := h.call ((Below.refl _ _).drew)

theorem Has.setRow {W : Base} {w : World} {bs : List Blk} (h : Has W w bs) {i b : Nat} {cs : Array Value} {t : TypeId} (hi : bs[i]? = some (b, cs, t)) (cs' : Array Value) :
    Has W (w.setRow b cs') (bs.set i (b, cs', t)) := by
  have hm : (b, cs, t) ∈ bs := List.mem_of_getElem? hi
  have hb := h.blk _ hm
  obtain ⟨hil, hie⟩ := List.getElem?_eq_some_iff.1 hi
  refine ⟨W.row _ _ _ hb.1 h.good, ?_, ?_⟩
  · intro x hx
    rcases List.mem_or_eq_of_mem_set hx with hx' | rfl
    · -- an old block, or the very one
      obtain ⟨j, hj, hje⟩ := List.mem_iff_getElem.1 hx
      rw [List.getElem_set] at hje
      split at hje
      · subst hje; exact ⟨hb.1, setRow_heap w b cs _ t _ hb.2⟩
      · rename_i hne
        have hjl : j < bs.length := by simpa using hj
        have hxm : x ∈ bs := by subst hje; exact List.getElem_mem _
        have hdist : x.1 ≠ b := by
          have hp := List.pairwise_iff_getElem.1 h.nd
          rcases Nat.lt_or_gt_of_ne hne with hlt | hgt
          · have := hp i j hil hjl hlt; rw [hie, hje] at this; exact fun e => this e.symm
          · have := hp j i hjl hil hgt; rw [hie, hje] at this; exact this
        exact ⟨(h.blk x hxm).1, by rw [setRow_other _ _ _ _ hdist]; exact (h.blk x hxm).2⟩
    · exact ⟨hb.1, setRow_heap w b cs _ t _ hb.2⟩
  · have e : (bs.set i (b, cs', t)).map (·.1) = bs.map (·.1) := by
      rw [List.map_set]
      apply List.ext_getElem?
      intro j
      rw [List.getElem?_set]
      split
      · rename_i hij; subst hij
        simp [hie, hil]
      · rfl
    have h1 : (bs.map (·.1)).Pairwise (· ≠ ·) := List.pairwise_map.2 h.nd
    rw [← e] at h1
    exact List.pairwise_map.1 h1

theorem Has.get {W : Base} {w : World} {bs : List Blk} (h : Has W w bs) {i b : Nat} {cs : Array Value} {t : TypeId} (hi : bs[i]? = some (b, cs, t)) : w.heap[b]? = some (.cells cs t (0, 0)) :=
  (h.blk _ (List.mem_of_getElem? hi)).2

/-- The blocks that are no longer named. -/
theorem Has.sub {W : Base} {w : World} {bs bs' : List Blk} (h : Has W w bs) (hs : bs'.Sublist bs) : Has W w bs' :=
  ⟨h.good, fun x hx => h.blk x (hs.subset hx), h.nd.sublist hs⟩


section rules
variable {ops : Array Oper} {Q : Exit → Act → World → Prop} {a : Act} {w : World} {W : Base} {rest : List Oper} {o : Oper} {bs : List Blk}

/-- Types of one cell. -/
class OneT (t : TypeId) : Prop where
  agg : ∀ w, (isAgg t).run Try.prog w = .ok false w
  size : (Try.prog.info? t).map (·.size) = some 1
/-- Arrays and structs, of n cells. -/
class RowT (t : TypeId) (n : outParam Nat) : Prop where
  row : ∃ d, Try.prog.underlying t = some d ∧ d.isRow = true
  size : (Try.prog.info? t).map (·.size) = some n
theorem scalar_of {t : TypeId} {d : TypeDesc} (h : Try.prog.underlying t = some d) (hd : (match d with | .struct _ | .array _ _ => true | _ => false) = false) : ∀ w, (isAgg t).run Try.prog w = .ok false w := fun w => by
  unfold isAgg
  rw [Sem.run_bind, run_underlying h w]
  cases d <;> simp_all
instance : OneT 3 := ⟨scalar_of Try.underlying3 rfl, by kernel_rfl⟩
instance : OneT 4 := ⟨scalar_of Try.underlying4 rfl, by kernel_rfl⟩
instance : OneT 5 := ⟨scalar_of Try.underlying5 rfl, by kernel_rfl⟩
instance : OneT 28 := ⟨scalar_of Try.underlying28 rfl, by kernel_rfl⟩
instance : RowT 22 32 := ⟨⟨_, Try.underlying22, rfl⟩, by kernel_rfl⟩
instance : RowT 23 32 := ⟨⟨_, Try.underlying23, rfl⟩, by kernel_rfl⟩
instance : RowT 29 5 := ⟨⟨_, Try.underlying29, rfl⟩, by kernel_rfl⟩
instance : RowT 31 5 := ⟨⟨_, Try.underlying31, rfl⟩, by kernel_rfl⟩
instance : RowT 35 16 := ⟨⟨_, Try.underlying35, rfl⟩, by kernel_rfl⟩
instance : RowT 78 32 := ⟨⟨_, Try.underlying78, rfl⟩, by kernel_rfl⟩
instance : RowT 73 10 := ⟨⟨_, Try.underlying73, rfl⟩, by kernel_rfl⟩
instance : RowT 72 2 := ⟨⟨_, Try.underlying72, rfl⟩, by kernel_rfl⟩
instance : RowT 92 10 := ⟨⟨_, Try.underlying92, rfl⟩, by kernel_rfl⟩
instance : RowT 93 20 := ⟨⟨_, Try.underlying93, rfl⟩, by kernel_rfl⟩
instance : RowT 95 25 := ⟨⟨_, Try.underlying95, rfl⟩, by kernel_rfl⟩
instance : RowT 63 64 := ⟨⟨_, Try.underlying63, rfl⟩, by kernel_rfl⟩

theorem wl_plain (hg : o.guard = none) {v : Value} (hv : (execOp a.eval o).run Try.prog w = .ok (.value v) w) (h : wpList Try.prog ops Q rest (a.put o.dst v) w) : wpList Try.prog ops Q (o :: rest) a w :=
  wpList_plain hg fun _ hK => by unfold Oper.wp; rw [hv]; exact hK _ _ h

theorem wl_box (hg : o.guard = none) {t : TypeId} {x : Operand} (ho : o.op = .box t x) {v : Value} (hx : a.eval x = v) (hH : Has W w bs)
    (h : ∀ b w', Has W w' ((b, v.cells, t) :: bs) → wpList Try.prog ops Q rest (a.put o.dst (.pointer (some ⟨b, 0, none⟩))) w') : wpList Try.prog ops Q (o :: rest) a w :=
  wpList_plain hg fun _ hK => by
    unfold Oper.wp execOp
    simp only [ho, hx, Instr.box, newVar, newRow, Sem.run_bind, run_newObj_alloc, Result.andThen_ok, Sem.run_pure]
    exact hK _ _ (h _ _ (hH.alloc _ _))

theorem wl_alloc (hg : o.guard = none) {t : TypeId} (ho : o.op = .alloc t) {z : Value} (hz : ∀ w, (zeroValue t).run Try.prog w = .ok z w) (hH : Has W w bs)
    (h : ∀ b w', Has W w' ((b, z.cells, t) :: bs) → wpList Try.prog ops Q rest (a.put o.dst (.pointer (some ⟨b, 0, none⟩))) w') : wpList Try.prog ops Q (o :: rest) a w :=
  wpList_plain hg fun _ hK => by
    unfold Oper.wp execOp
    simp only [ho, Instr.alloc, hz, newVar, newRow, Sem.run_bind, run_newObj_alloc, Result.andThen_ok, Sem.run_pure]
    exact hK _ _ (h _ _ (hH.alloc _ _))

theorem wl_load (i : Nat) (hg : o.guard = none) {t : TypeId} {p : Operand} (ho : o.op = .load t p) [hs : OneT t] {b off : Nat} (hp : a.eval p = .pointer (some ⟨b, off, none⟩))
    (hH : Has W w bs) {cs : Array Value} {T : TypeId} (hb : bs[i]? = some (b, cs, T)) {v : Value} (hv : cs[off]? = some v)
    (h : wpList Try.prog ops Q rest (a.put o.dst v) w) : wpList Try.prog ops Q (o :: rest) a w :=
  wpList_plain hg fun _ hK => by
    have hc : w.cell? ⟨b, off, none⟩ = some v := by rw [cell_of_row w b off cs T (0, 0) (hH.get hb)]; exact hv
    unfold Oper.wp execOp
    simp only [ho, hp, Instr.loadAt, Instr.sureAddr, loadVar, Sem.run_bind, Sem.run_pure, Result.andThen_ok, hs.agg w, Bool.false_eq_true, if_false, run_load, hc]
    exact hK _ _ h

theorem wl_loadrow (i : Nat) (hg : o.guard = none) {t : TypeId} {p : Operand} (ho : o.op = .load t p) {b off : Nat} (hp : a.eval p = .pointer (some ⟨b, off, none⟩))
    (hH : Has W w bs) {cs : Array Value} {T : TypeId} (hb : bs[i]? = some (b, cs, T)) {n : Nat} [hr : RowT t n] {cs' : Array Value} (hc : cs.extract off (off + n) = cs') (hn : cs'.size = n)
    (h : wpList Try.prog ops Q rest (a.put o.dst (.agg cs')) w) : wpList Try.prog ops Q (o :: rest) a w := by
  obtain ⟨d, hu, hd⟩ := hr.row
  refine wpList_load_mid hg t p ho b off hp cs'.toList d ?_ hu hd (by simp [hr.size, hn]) (by simpa using h)
  intro j v hv
  rw [cell_of_row w b (off + j) cs T (0, 0) (hH.get hb)]
  subst hc
  simp only [Array.getElem?_toList, Array.getElem?_extract] at hv
  split at hv
  · exact hv
  · cases hv

theorem wl_store (i : Nat) (hg : o.guard = none) {t : TypeId} {p x : Operand} (ho : o.op = .store t p x) [h1t : OneT t] {b off : Nat} (hp : a.eval p = .pointer (some ⟨b, off, none⟩))
    {v : Value} (hx : a.eval x = v) (hv : v.oneCell' = true)
    (hH : Has W w bs) {cs : Array Value} {T : TypeId} (hb : bs[i]? = some (b, cs, T)) (hoff : off < cs.size)
    (h : ∀ w', Has W w' (bs.set i (b, cs.setIfInBounds off v, T)) → wpList Try.prog ops Q rest (a.put o.dst undef) w') : wpList Try.prog ops Q (o :: rest) a w :=
  wpList_plain hg fun _ hK => by
    have hgb := hH.get hb
    have hc : w.cell? ⟨b, off, none⟩ = some cs[off] := by rw [cell_of_row w b off cs T (0, 0) hgb]; simp [hoff]
    have hf : w.frozen? ⟨b, off, none⟩ = false := frozen_of_row w b off cs T hgb
    have hcells : v.cells = #[v] := by cases v <;> first | rfl | cases hv
    have hsz : ∀ w, (sizeOf t).run Try.prog w = .ok 1 w := fun w => by
      have hi := h1t.size
      cases hq : Try.prog.info? t with
      | none => simp [hq] at hi
      | some it => simp [hq] at hi; simp [sizeOf, typeInfo, hq, hi]
    unfold Oper.wp execOp
    have hst := run_store Try.prog w ⟨b, off, none⟩ v .plain hv
    rw [hc] at hst
    simp only [ho, hp, hx, Instr.storeAt, Instr.sureAddr, storeVar, Sem.run_bind, Sem.run_pure, Result.andThen_ok, hcells, hsz, storeCells]
    simp only [show ((⟨b, off, none⟩ : Addr).add 0) = ⟨b, off, none⟩ from rfl]
    simp [hst, hf, setCell_eq_setRow w b off cs T (0, 0) v hgb]
    exact hK _ _ (h _ (hH.setRow hb _))

theorem wl_storeC (i : Nat) (hg : o.guard = none) {t : TypeId} {p x : Operand} (ho : o.op = .store t p x) [OneT t] {b off : Nat} (hp : a.eval p = .pointer (some ⟨b, off, none⟩))
    {k : IntKind} {n : Nat} (hx : a.eval x = .int k (n : Int)) (hH : Has W w bs) {l : List Nat} {T : TypeId} (hb : bs[i]? = some (b, C k l, T)) (hoff : off < l.length)
    (h : ∀ w', Has W w' (bs.set i (b, C k (l.set off n), T)) → wpList Try.prog ops Q rest (a.put o.dst undef) w') : wpList Try.prog ops Q (o :: rest) a w :=
  wl_store i hg ho hp hx rfl hH hb (by rw [C_size]; exact hoff) (by rw [C_set]; exact h)

theorem wl_boxA (hg : o.guard = none) {t : TypeId} {x : Operand} (ho : o.op = .box t x) {cs : Array Value} (hx : a.eval x = .agg cs) (hH : Has W w bs)
    (h : ∀ b w', Has W w' ((b, cs, t) :: bs) → wpList Try.prog ops Q rest (a.put o.dst (.pointer (some ⟨b, 0, none⟩))) w') : wpList Try.prog ops Q (o :: rest) a w :=
  wl_box hg ho hx hH h

theorem wl_allocA (hg : o.guard = none) {t : TypeId} (ho : o.op = .alloc t) {cs : Array Value} (hz : ∀ w, (zeroValue t).run Try.prog w = .ok (.agg cs) w) (hH : Has W w bs)
    (h : ∀ b w', Has W w' ((b, cs, t) :: bs) → wpList Try.prog ops Q rest (a.put o.dst (.pointer (some ⟨b, 0, none⟩))) w') : wpList Try.prog ops Q (o :: rest) a w :=
  wl_alloc hg ho hz hH h

theorem wl_storerow (i : Nat) (hg : o.guard = none) {t : TypeId} {p x : Operand} (ho : o.op = .store t p x) {b : Nat} (hp : a.eval p = .pointer (some ⟨b, 0, none⟩)) {cs' : Array Value} (hx : a.eval x = .agg cs')
    (hH : Has W w bs) {cs : Array Value} {T : TypeId} (hb : bs[i]? = some (b, cs, T)) {n : Nat} [hr : RowT t n] (hn : cs.size = n) (hn' : cs'.size = n) (h1 : cs'.all (·.oneCell') = true)
    (h : ∀ w', Has W w' (bs.set i (b, cs', T)) → wpList Try.prog ops Q rest (a.put o.dst undef) w') : wpList Try.prog ops Q (o :: rest) a w :=
  wpList_store_row hg t p x ho b cs' hp hx T cs (hH.get hb) (by rw [hr.size, hn']) (by omega) h1 (h _ (hH.setRow hb _))

theorem wl_loadC (i : Nat) (hg : o.guard = none) {t : TypeId} {p : Operand} (ho : o.op = .load t p) {b : Nat} (hp : a.eval p = .pointer (some ⟨b, 0, none⟩))
    (hH : Has W w bs) {k : IntKind} {l : List Nat} {T : TypeId} (hb : bs[i]? = some (b, C k l, T)) {n : Nat} [hr : RowT t n] (hn : l.length = n)
    (h : wpList Try.prog ops Q rest (a.put o.dst (.agg (C k l))) w) : wpList Try.prog ops Q (o :: rest) a w :=
  wl_loadrow i hg ho hp hH hb (cs' := C k l) (by have := C_size k l; simp; omega) (by rw [C_size, hn]) h

theorem wl_storerowC (i : Nat) (hg : o.guard = none) {t : TypeId} {p x : Operand} (ho : o.op = .store t p x) {b : Nat} (hp : a.eval p = .pointer (some ⟨b, 0, none⟩)) {k k' : IntKind} {l l' : List Nat} (hx : a.eval x = .agg (C k' l'))
    (hH : Has W w bs) {T : TypeId} (hb : bs[i]? = some (b, C k l, T)) {n : Nat} [hr : RowT t n] (hn : l.length = n) (hn' : l'.length = n)
    (h : ∀ w', Has W w' (bs.set i (b, C k' l', T)) → wpList Try.prog ops Q rest (a.put o.dst undef) w') : wpList Try.prog ops Q (o :: rest) a w :=
  wl_storerow i hg ho hp hx hH hb (by rw [C_size, hn]) (by rw [C_size, hn']) (C_one _ _) h

/-- A call whose contract leaves what was there. -/
theorem wl_call (hg : o.guard = none) {f : FuncId} {args : Array Value} (he : ∀ w, (execOp a.eval o).run Try.prog w = .ok (.enter f args) w) {v : Value}
    (hc : ∀ w, Calls Try.prog f args w fun e w' => e = .returned v ∧ Below w.heap.size w w') (hH : Has W w bs)
    (h : ∀ w', Has W w' bs → wpList Try.prog ops Q rest (a.put o.dst v) w') : wpList Try.prog ops Q (o :: rest) a w :=
  wpList_plain hg fun _ hK => by
    unfold Oper.wp
    rw [he w]
    refine (hc w).mono ?_
    rintro e w' ⟨rfl, hb⟩
    exact hK _ _ (h _ (hH.call hb))

theorem ret_cell (i : Nat) {fn : Func} {R : Ending → World → Prop} {p : Tmp} {t : TypeId} (hf : fn.results = #[.cell p t]) {n : Nat} [hr : RowT t n] {b : Nat} (hp : a.tmps.getD p undef = .pointer (some ⟨b, 0, none⟩))
    (hH : Has W w bs) {cs : Array Value} {T : TypeId} (hb : bs[i]? = some (b, cs, T)) (hn : cs.size = n) (hd : a.defers = []) (hR : R (.returned (.agg cs)) w) : bodyPost Try.prog fn R .ret a w := by
  obtain ⟨d, hu, hdr⟩ := hr.row
  exact bodyPost_ret (results_cell_row hf a.tmps w b T cs (0, 0) d hp (hH.get hb) hu (by cases d <;> first | rfl | cases hdr) (by rw [hr.size, hn])) hd hR

end rules

/-! ### Numbers -/
section numbers
variable {ops : Array Oper} {Q : Exit → Act → World → Prop} {a : Act} {w W : World} {rest : List Oper} {o : Oper}

theorem wl_val (hg : o.guard = none) {v : Value} (hv : ∀ w, (execOp a.eval o).run Try.prog w = .ok (.value v) w) (h : wpList Try.prog ops Q rest (a.put o.dst v) w) : wpList Try.prog ops Q (o :: rest) a w :=
  wl_plain hg (hv w) h

theorem ex_bin {op : BinOp} {xt yt : TypeId} {x y : Operand} (ho : o.op = .binOp op xt x y yt) (hne : op ≠ .eql ∧ op ≠ .neq) {k k' : IntKind} {m n : Int} (hx : a.eval x = .int k m) (hy : a.eval y = .int k' n)
    {v : Value} (hv : ∀ w, (binOp op xt (.int k m) (.int k' n)).run Try.prog w = .ok v w) (w : World) : (execOp a.eval o).run Try.prog w = .ok (.value v) w := by
  unfold execOp
  have e : (eqGuard op xt x y (.int k m) (.int k' n)).run Try.prog w = .ok () w := by
    unfold eqGuard
    cases op <;> first | rfl | exact absurd rfl hne.1 | exact absurd rfl hne.2
  simp only [ho, hx, hy, Sem.run_bind, e, Result.andThen_ok, hv, Sem.run_pure]

theorem wrap_u64 (x : Nat) : IntKind.u64.wrap (x : Int) = ((x % 18446744073709551616 : Nat) : Int) := by
  simp only [IntKind.wrap, IntKind.bits, IntKind.signed]; simp; try omega
theorem wrap_u8 (x : Nat) : IntKind.u8.wrap (x : Int) = ((x % 256 : Nat) : Int) := by
  simp only [IntKind.wrap, IntKind.bits, IntKind.signed]; simp; try omega
theorem wrap_i64 (x : Nat) (h : x < 9223372036854775808) : IntKind.i64.wrap (x : Int) = (x : Int) := by
  simp only [IntKind.wrap, IntKind.bits, IntKind.signed]; simp; try omega

variable {xt yt : TypeId} {x y : Operand} {m n : Nat}
theorem ex_add_u64 (ho : o.op = .binOp .add xt x y yt) (hx : a.eval x = .int .u64 (m : Int)) (hy : a.eval y = .int .u64 (n : Int)) (w : World) :
    (execOp a.eval o).run Try.prog w = .ok (.value (.int .u64 (((m + n) % 18446744073709551616 : Nat) : Int))) w :=
  ex_bin ho (by simp) hx hy (fun w => by simp [binOp, Op.intArith]; rw [← Int.natCast_add, wrap_u64]; simp) w
theorem ex_mul_u64 (ho : o.op = .binOp .mul xt x y yt) (hx : a.eval x = .int .u64 (m : Int)) (hy : a.eval y = .int .u64 (n : Int)) (w : World) :
    (execOp a.eval o).run Try.prog w = .ok (.value (.int .u64 (((m * n) % 18446744073709551616 : Nat) : Int))) w :=
  ex_bin ho (by simp) hx hy (fun w => by simp [binOp, Op.intArith]; rw [← Int.natCast_mul, wrap_u64]; simp) w
theorem ex_sub_u64 (ho : o.op = .binOp .sub xt x y yt) (hx : a.eval x = .int .u64 (m : Int)) (hy : a.eval y = .int .u64 (n : Int)) (hle : n ≤ m) (hm : m < 18446744073709551616) (w : World) :
    (execOp a.eval o).run Try.prog w = .ok (.value (.int .u64 ((m - n : Nat) : Int))) w :=
  ex_bin ho (by simp) hx hy (fun w => by simp [binOp, Op.intArith]; rw [← Int.ofNat_sub hle, wrap_u64, Nat.mod_eq_of_lt (by omega)]) w
theorem ex_shr_u64 (ho : o.op = .binOp .shr xt x y yt) {k : IntKind} (hx : a.eval x = .int .u64 (m : Int)) (hy : a.eval y = .int k (n : Int)) (hn : n ≤ 64) (w : World) :
    (execOp a.eval o).run Try.prog w = .ok (.value (.int .u64 ((m / 2 ^ n : Nat) : Int))) w :=
  ex_bin ho (by simp) hx hy (fun w => by
    simp [binOp]) w
theorem ex_shl_u64 (ho : o.op = .binOp .shl xt x y yt) {k : IntKind} (hx : a.eval x = .int .u64 (m : Int)) (hy : a.eval y = .int k (n : Int)) (hn : n ≤ 64) (w : World) :
    (execOp a.eval o).run Try.prog w = .ok (.value (.int .u64 (((m * 2 ^ n) % 18446744073709551616 : Nat) : Int))) w :=
  ex_bin ho (by simp) hx hy (fun w => by
    simp [binOp]
    rw [show ((m : Int) * 2 ^ n) = ((m * 2 ^ n : Nat) : Int) by simp, wrap_u64]; simp) w
theorem ex_or_u64 (ho : o.op = .binOp .or xt x y yt) (hx : a.eval x = .int .u64 (m : Int)) (hy : a.eval y = .int .u64 (n : Int)) (w : World) :
    (execOp a.eval o).run Try.prog w = .ok (.value (.int .u64 (((m ||| n) % 18446744073709551616 : Nat) : Int))) w :=
  ex_bin ho (by simp) hx hy (fun w => by
    show Result.ok (Value.int .u64 (IntKind.u64.wrap (((BitVec.ofInt 64 (m : Int) ||| BitVec.ofInt 64 (n : Int)).toNat : Nat) : Int))) w = _
    rw [wrap_u64, BitVec.toNat_or, BitVec.ofInt_natCast, BitVec.ofInt_natCast, BitVec.toNat_ofNat, BitVec.toNat_ofNat, ← Nat.or_mod_two_pow, show (2 ^ 64 : Nat) = 18446744073709551616 from rfl, Nat.mod_mod]) w
theorem ex_and_u64 (ho : o.op = .binOp .and xt x y yt) (hx : a.eval x = .int .u64 (m : Int)) (hy : a.eval y = .int .u64 (n : Int)) (w : World) :
    (execOp a.eval o).run Try.prog w = .ok (.value (.int .u64 (((m &&& n) % 18446744073709551616 : Nat) : Int))) w :=
  ex_bin ho (by simp) hx hy (fun w => by
    show Result.ok (Value.int .u64 (IntKind.u64.wrap (((BitVec.ofInt 64 (m : Int) &&& BitVec.ofInt 64 (n : Int)).toNat : Nat) : Int))) w = _
    rw [wrap_u64, BitVec.toNat_and, BitVec.ofInt_natCast, BitVec.ofInt_natCast, BitVec.toNat_ofNat, BitVec.toNat_ofNat, ← Nat.and_mod_two_pow, show (2 ^ 64 : Nat) = 18446744073709551616 from rfl, Nat.mod_mod]) w
/-- '& mask': the lowest 51 bits. -/
theorem ex_mask_u64 (ho : o.op = .binOp .and xt x y yt) (hx : a.eval x = .int .u64 (m : Int)) (hy : a.eval y = .int .u64 2251799813685247) (w : World) :
    (execOp a.eval o).run Try.prog w = .ok (.value (.int .u64 ((m % 2251799813685248 : Nat) : Int))) w := by
  have h := ex_and_u64 (n := 2251799813685247) ho hx hy w
  rw [show (m &&& 2251799813685247) = m % 2251799813685248 from Nat.and_two_pow_sub_one_eq_mod m 51] at h
  rw [Nat.mod_eq_of_lt (show m % 2251799813685248 < 18446744073709551616 by omega)] at h
  exact h

theorem ex_add_i64 (ho : o.op = .binOp .add xt x y yt) (hx : a.eval x = .int .i64 (m : Int)) (hy : a.eval y = .int .i64 (n : Int)) (hb : m + n < 9223372036854775808) (w : World) :
    (execOp a.eval o).run Try.prog w = .ok (.value (.int .i64 ((m + n : Nat) : Int))) w :=
  ex_bin ho (by simp) hx hy (fun w => by simp [binOp, Op.intArith]; rw [← Int.natCast_add, wrap_i64 _ hb]) w
theorem ex_mul_i64 (ho : o.op = .binOp .mul xt x y yt) (hx : a.eval x = .int .i64 (m : Int)) (hy : a.eval y = .int .i64 (n : Int)) (hb : m * n < 9223372036854775808) (w : World) :
    (execOp a.eval o).run Try.prog w = .ok (.value (.int .i64 ((m * n : Nat) : Int))) w :=
  ex_bin ho (by simp) hx hy (fun w => by simp [binOp, Op.intArith]; rw [← Int.natCast_mul, wrap_i64 _ hb]) w
theorem ex_rem_i64 (ho : o.op = .binOp .rem xt x y yt) (hx : a.eval x = .int .i64 (m : Int)) (hy : a.eval y = .int .i64 (n : Int)) (hn : n ≠ 0) (w : World) :
    (execOp a.eval o).run Try.prog w = .ok (.value (.int .i64 ((m % n : Nat) : Int))) w :=
  ex_bin ho (by simp) hx hy (fun w => by simp [binOp, Op.intDiv, hn]; rfl) w
theorem ex_quo_i64 (ho : o.op = .binOp .quo xt x y yt) (hx : a.eval x = .int .i64 (m : Int)) (hy : a.eval y = .int .i64 (n : Int)) (hn : n ≠ 0) (hb : m < 9223372036854775808) (w : World) :
    (execOp a.eval o).run Try.prog w = .ok (.value (.int .i64 ((m / n : Nat) : Int))) w :=
  ex_bin ho (by simp) hx hy (fun w => by
    simp [binOp, Op.intDiv, hn]
    rw [← Int.natCast_ediv, wrap_i64 _ (Nat.lt_of_le_of_lt (Nat.div_le_self _ _) hb)]) w
end numbers

end Go.Proofs.Ytmbbdblmengdhaa
